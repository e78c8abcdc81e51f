/- From a walk of a statement's Go function (it returns true; nothing that was there has turned) to the row: the arguments read as they read before, whatever their types. No condition beside the walk's. -/
import Derived.Test.YtgaecjhghpkcoaaMGround
import Derived.ProofKit
import Derived.OpenShut
namespace Go.Proofs.Ytgaecjhghpkcoaa
open Go.ChangeShapes Go.WideShapes Go.ChangeAt Go.RowKit

section
variable {H : Type} {enc : TypeId × Value → H} {P : Program}

theorem trodAll_stays (hl : laidOutB P = true) {W W' : World} (hb : Below W.heap.size W W') : ∀ (ts : List TypeId) (vs : List Value) (ds : List (DataW H)) (ps : List MemPlace),
    (∀ t ∈ ts, P.readableRec t = true ∧ t < P.types.size) → (∀ p ∈ ps, p.block < W.heap.size) → DataW.TrodAll enc P W 0 (fun _ => true) true ts vs ds ps →
    DataW.TrodAll enc P W' 0 (fun b => decide (b < W.heap.size)) true ts vs ds ps
  | [], [], [], _, _, _, h => h
  | t :: ts, v :: vs, d :: ds, ps, ht, hp, h => by
    obtain ⟨p, q, h1, h2, rfl⟩ := h
    have h3 := ht t (by simp)
    exact ⟨p, q, Below.trod hl h3.1 h3.2 h1 hb (fun x hx => hp x (by simp [hx])), trodAll_stays hl hb ts vs ds q (fun t h => ht t (by simp [h])) (fun x hx => hp x (by simp [hx])) h2, rfl⟩
  | [], _ :: _, _, _, _, _, h => by simp [DataW.TrodAll] at h
  | [], [], _ :: _, _, _, _, h => by simp [DataW.TrodAll] at h
  | _ :: _, [], _, _, _, _, h => by simp [DataW.TrodAll] at h
  | _ :: _, _ :: _, [], _, _, _, h => by simp [DataW.TrodAll] at h

theorem law_post {f : Func} {s : ChangeSpec} {W W' : World} {args : Array Value} {ds gs : List (DataW H)} {before : List MemPlace} {tb : TypeId} (hl : laidOutB P = true)
    (ht : ∀ t ∈ f.params.toList, P.readableRec t = true ∧ t < P.types.size) (hs : s.vars = []) (hW : DataW.Whole enc P f.params.toList s.vars false W args.toList ds gs before)
    (hfn : s.fn H (ds ++ gs) = { results := [.lit (.bool true)], args := ds }) (hb : Below W.heap.size W W') (hr : f.resultTypes = #[tb]) (htb : P.underlying tb = some .bool) :
    s.post enc P f false true false false W args (.bool true) W' := by
  have hlt := hW.lt
  have hW' := hW
  obtain ⟨p, q, hA, hV, rfl, hfz, hnd⟩ := hW
  rw [hs] at hV
  obtain ⟨rfl, rfl⟩ := trodVars_none hV
  refine ⟨ds, [], p ++ [], [], p, [], hW', ?_, ?_, ?_, hb.frame _, fun h => by cases h⟩
  · rw [hfn, hr]
    exact trodAll_mk1 (shut_bool htb true)
  · rw [hfn]
    exact trodAll_stays hl hb _ _ _ _ ht (fun x hx => hlt x (by simp [hx])) hA
  · rw [hfn, hs]; rfl

/-! ### opening -/
theorem open_u8 {W : World} {r : Reach} {b0 b : Nat} {sp : Nat → Bool} {hd : Bool} {t : TypeId} {v : Value} {d : DataW H} {ps : List MemPlace} (ht : P.underlying t = some (.int .u8)) (hval : Value.okWide P W r b0 t v)
    (h : DataW.Trod enc P W b sp hd t v d ps) : ∃ x : UInt8, v = .int .u8 (B x) := by
  obtain ⟨n, rfl, _, _, hw⟩ := open_int ht hval h
  have hn : 0 ≤ n ∧ n ≤ 255 := by
    simp [Lit.wf, IntKind.min, IntKind.max, IntKind.signed, IntKind.bits] at hw
    omega
  refine ⟨UInt8.ofNat n.toNat, ?_⟩
  congr 1
  unfold B
  rw [UInt8.toNat_ofNat_of_lt' (by have : UInt8.size = 256 := rfl; omega)]
  omega

/-- every cell is a byte -/
def Bytes (cs : List Value) : Prop := ∀ c ∈ cs, ∃ x : UInt8, c = .int .u8 (B x)
theorem bytes_one {W : World} {b fuel : Nat} {sp : Nat → Bool} {hd : Bool} {e : TypeId} {cs : List Value} {x : DataW H × List MemPlace} (he : P.underlying e = some (.int .u8)) (h : DataW.trod enc P W b sp hd fuel e cs = some x) : Bytes cs := by
  obtain ⟨n, rfl, _, hw⟩ := DataW.trod_int he h
  intro c hc
  have hn : 0 ≤ n ∧ n ≤ 255 := by
    simp [Lit.wf, IntKind.min, IntKind.max, IntKind.signed, IntKind.bits] at hw
    omega
  refine ⟨UInt8.ofNat n.toNat, ?_⟩
  rw [List.mem_singleton.1 hc]
  congr 1
  unfold B
  rw [UInt8.toNat_ofNat_of_lt' (by have : UInt8.size = 256 := rfl; omega)]
  omega
theorem bytes_array {W : World} {b fuel n : Nat} {sp : Nat → Bool} {hd : Bool} {t e : TypeId} {cs : List Value} {x : DataW H × List MemPlace} (ht : P.underlying t = some (.array n e)) (hc : P.cellsOf t = n * P.cellsOf e)
    (ih : ∀ (m : Nat) (cs : List Value) (x : DataW H × List MemPlace), DataW.trod enc P W b sp hd m e cs = some x → Bytes cs) (h : DataW.trod enc P W b sp hd fuel t cs = some x) : Bytes cs := by
  obtain ⟨xs, m, _, _, hlen, hxs, hel⟩ := DataW.trod_array ht h
  intro c hcm
  obtain ⟨j, hj, rfl⟩ := List.getElem_of_mem hcm
  by_cases h0 : P.cellsOf e = 0
  · rw [hlen, hc, h0] at hj; simp at hj
  · have hi : j / P.cellsOf e < n := by rw [Nat.div_lt_iff_lt_mul (by omega)]; omega
    have h1 := hel _ hi
    rw [List.getElem?_eq_getElem (by omega)] at h1
    refine ih m _ _ h1 _ ?_
    have hm := Nat.mod_add_div j (P.cellsOf e)
    have hlt := Nat.mod_lt j (show 0 < P.cellsOf e by omega)
    rw [Nat.mul_comm] at hm
    have : ((cs.drop (j / P.cellsOf e * P.cellsOf e)).take (P.cellsOf e))[j % P.cellsOf e]? = some cs[j] := by
      rw [List.getElem?_take, if_pos hlt, List.getElem?_drop, List.getElem?_eq_getElem (by omega)]
      congr 2; omega
    exact List.mem_of_getElem? this
theorem blk_of_bytes (cs : Array Value) (h : Bytes cs.toList) : ∃ f, cs = blk cs.size f := by
  have : ∀ i, ∃ x : UInt8, i < cs.size → cs[i]? = some (.int .u8 (B x)) := fun i => by
    by_cases hi : i < cs.size
    · obtain ⟨x, hx⟩ := h cs[i] (by simp)
      exact ⟨x, fun _ => by rw [Array.getElem?_eq_getElem hi, hx]⟩
    · exact ⟨0, fun h => (hi h).elim⟩
  refine ⟨fun i => Classical.choose (this i), ?_⟩
  apply Array.ext_getElem?
  intro i
  by_cases hi : i < cs.size
  · rw [blk_get _ _ i hi]; exact Classical.choose_spec (this i) hi
  · simp [blk_size, Nat.le_of_not_lt hi]
theorem open_blk {W : World} {r : Reach} {b0 b n m : Nat} {sp : Nat → Bool} {hd : Bool} {t e : TypeId} {v : Value} {d : DataW H} {ps : List MemPlace} (ht : P.underlying t = some (.array n e)) (hc : P.cellsOf t = m)
    (hall : ∀ (fuel : Nat) (cs : List Value) (x : DataW H × List MemPlace), DataW.trod enc P W b sp hd fuel t cs = some x → Bytes cs) (hval : Value.okWide P W r b0 t v)
    (h : DataW.Trod enc P W b sp hd t v d ps) : ∃ f, v = .agg (blk m f) := by
  unfold Value.okWide at hval
  rw [ht] at hval
  obtain ⟨cs, rfl, hsz, _⟩ := hval
  obtain ⟨fuel, hf⟩ := h
  obtain ⟨f, hf⟩ := blk_of_bytes cs (hall fuel _ _ hf)
  exact ⟨f, by rw [hf, hsz, hc]⟩
/-- two numbers of 32 bits in an array -/
theorem open_u32s {W : World} {r : Reach} {b0 b : Nat} {sp : Nat → Bool} {hd : Bool} {t e : TypeId} {v : Value} {d : DataW H} {ps : List MemPlace} (ht : P.underlying t = some (.array 2 e)) (hc : P.cellsOf t = 2) (he : P.underlying e = some (.int .u32)) (hce : P.cellsOf e = 1)
    (hval : Value.okWide P W r b0 t v) (h : DataW.Trod enc P W b sp hd t v d ps) : ∃ x y : Int, v = .agg #[.int .u32 x, .int .u32 y] ∧ (0 ≤ x ∧ x ≤ 4294967295) ∧ (0 ≤ y ∧ y ≤ 4294967295) := by
  unfold Value.okWide at hval
  rw [ht] at hval
  obtain ⟨cs, rfl, hsz, _⟩ := hval
  obtain ⟨fuel, hf⟩ := h
  obtain ⟨xs, m, _, _, hlen, hxs, hel⟩ := DataW.trod_array ht hf
  rw [hc] at hsz
  have e0 := hel 0 (by omega)
  have e1 := hel 1 (by omega)
  rw [hce] at e0 e1
  rw [List.getElem?_eq_getElem (by omega)] at e0 e1
  obtain ⟨x, hx, _, hwx⟩ := DataW.trod_int he e0
  obtain ⟨y, hy, _, hwy⟩ := DataW.trod_int he e1
  have bx : 0 ≤ x ∧ x ≤ 4294967295 := by
    simp [Lit.wf, IntKind.min, IntKind.max, IntKind.signed, IntKind.bits] at hwx; omega
  have bY : 0 ≤ y ∧ y ≤ 4294967295 := by
    simp [Lit.wf, IntKind.min, IntKind.max, IntKind.signed, IntKind.bits] at hwy; omega
  refine ⟨x, y, ?_, bx, bY⟩
  congr 1
  match cs, hsz with
  | ⟨[c0, c1]⟩, _ =>
    simp [Value.cells] at hx hy
    rw [hx, hy]
theorem open_u32 {W : World} {r : Reach} {b0 b : Nat} {sp : Nat → Bool} {hd : Bool} {t : TypeId} {v : Value} {d : DataW H} {ps : List MemPlace} (ht : P.underlying t = some (.int .u32)) (hval : Value.okWide P W r b0 t v)
    (h : DataW.Trod enc P W b sp hd t v d ps) : ∃ x : Int, v = .int .u32 x ∧ (0 ≤ x ∧ x ≤ 4294967295) := by
  obtain ⟨n, rfl, _, _, hw⟩ := open_int ht hval h
  refine ⟨n, rfl, ?_⟩
  simp [Lit.wf, IntKind.min, IntKind.max, IntKind.signed, IntKind.bits] at hw
  omega
theorem open_i64 {W : World} {r : Reach} {b0 b : Nat} {sp : Nat → Bool} {hd : Bool} {t : TypeId} {v : Value} {d : DataW H} {ps : List MemPlace} (ht : P.underlying t = some (.int .i64)) (hval : Value.okWide P W r b0 t v)
    (h : DataW.Trod enc P W b sp hd t v d ps) : ∃ x : Int, v = .int .i64 x ∧ (-9223372036854775808 ≤ x ∧ x ≤ 9223372036854775807) := by
  obtain ⟨n, rfl, _, _, hw⟩ := open_int ht hval h
  refine ⟨n, rfl, ?_⟩
  simp [Lit.wf, IntKind.min, IntKind.max, IntKind.signed, IntKind.bits] at hw
  omega
/-- two texts in an array -/
theorem open_texts2 {W : World} {r : Reach} {b0 b : Nat} {sp : Nat → Bool} {hd : Bool} {t e : TypeId} {v : Value} {d : DataW H} {ps : List MemPlace} (ht : P.underlying t = some (.array 2 e)) (hc : P.cellsOf t = 2) (he : P.underlying e = some .string) (hce : P.cellsOf e = 1)
    (hval : Value.okWide P W r b0 t v) (h : DataW.Trod enc P W b sp hd t v d ps) : ∃ x y : ByteArray, v = .agg #[.string x, .string y] := by
  unfold Value.okWide at hval
  rw [ht] at hval
  obtain ⟨cs, rfl, hsz, _⟩ := hval
  obtain ⟨fuel, hf⟩ := h
  obtain ⟨xs, m, _, _, hlen, hxs, hel⟩ := DataW.trod_array ht hf
  rw [hc] at hsz
  have e0 := hel 0 (by omega)
  have e1 := hel 1 (by omega)
  rw [hce] at e0 e1
  rw [List.getElem?_eq_getElem (by omega)] at e0 e1
  obtain ⟨x, hx, _, _⟩ := DataW.trod_string he e0
  obtain ⟨y, hy, _, _⟩ := DataW.trod_string he e1
  refine ⟨x, y, ?_⟩
  congr 1
  match cs, hsz with
  | ⟨[c0, c1]⟩, _ =>
    simp [Value.cells] at hx hy
    rw [hx, hy]
end

end Go.Proofs.Ytgaecjhghpkcoaa
