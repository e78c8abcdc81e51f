/- The program's numbers that are used once: Check, lay, Text, Take. * The program's numbers that are used once: Take. * A barrier as a row of cells; its state, Sealed, Ring, Count. * Maps from texts: what one holds, as a list; a look-up, a store, in the model's own operations. No condition. * The program's barrier: state of none, Sealed, Ring, Count. * The program's barrier: Seal, Open, take. * The program's barrier: parts, head. Texts no longer than 2 to 40. * The program's barrier: Open. * The program's barrier: Unlock. -/
import Derived.Test.YtinlcpenllfcpaaMKeys
import Derived.Test.YtinlcpenllfcpaaMGround
import Derived.MapKept
section
namespace Go.Proofs.Ytinlcpenllfcpaa
open Go.RowKit
attribute [local go_sem] B_xor B_or B_and
attribute [local go_sem] blk_set blk_size blk_get blk_getE upd_same oneCells_blk paste_blk cut_blk szOf
attribute [local go_sem high] paste_all cut_head
attribute [local go_sem] rowAt_alloc rowAt_drew rowAt_drewN isRow_alloc isRow_drew isRow_drewN freeRow_alloc freeRow_end freeRow_drew freeRow_drewN
attribute [local go_sem] setRow_alloc setRow_drew setRow_drewN setCell_drewN alloc_drewN rowAt_put isRow_setRow freeRow_put
attribute [local go_sem ↓] loadS_in storeS_in indexS_in copyS_in
attribute [local go_sem] loadS_row loadS_one storeS_row storeS_one indexS_blk copyS_rows run_equalIn_blk same_refl arrayAt_row
attribute [local go_sem] cell_row frozen_row st_setCell st_blk_ne stepAt stepUpon
attribute [local go_sem high] run_eql_blk run_neq_blk
attribute [local go_sem ↓] convBS_in
attribute [local go_sem] convBS_row convBS_nil allBytes_blk bytesOf_blk

/-- where the numbers are -/
def cn (e n : Nat) : Array Value := #[.int .u64 (e : Int), .int .u64 (n : Int)]
theorem cn_size (e n : Nat) : (cn e n).size = 2 := by simp [cn]
theorem cn_get0 (e n : Nat) : (cn e n)[0]? = some (.int .u64 (e : Int)) := by simp [cn]
theorem cn_get1 (e n : Nat) : (cn e n)[1]? = some (.int .u64 (n : Int)) := by simp [cn]
theorem cn_getE0 (e n : Nat) (h : 0 < (cn e n).size) : (cn e n)[0]'h = .int .u64 (e : Int) := by simp [cn]
theorem cn_getE1 (e n : Nat) (h : 1 < (cn e n).size) : (cn e n)[1]'h = .int .u64 (n : Int) := by simp [cn]
theorem cn_set0 (e n d : Nat) : (cn e n).setIfInBounds 0 (.int .u64 (d : Int)) = cn d n := by simp [cn]
theorem cn_set1 (e n d : Nat) : (cn e n).setIfInBounds 1 (.int .u64 (d : Int)) = cn e d := by simp [cn]
theorem cn_ne (e n : Nat) : (cn e n = #[]) = False := by simp [cn]
theorem cn_one (e n : Nat) : oneCells (cn e n) = true := by simp [oneCells, cn, Value.oneCell']
theorem cn_cut (e n : Nat) : cut (cn e n) 0 2 = cn e n := by simp [cut, cn]
theorem cn_paste (e n d m : Nat) : paste (cn e n) 0 (cn d m) = cn d m := paste_whole _ _ (by rw [cn_size, cn_size])
theorem cn_zero : #[Value.int .u64 0, .int .u64 0] = cn 0 0 := rfl
attribute [local go_sem] cn_size cn_get0 cn_get1 cn_getE0 cn_getE1 cn_set0 cn_set1 cn_ne cn_one cn_cut cn_paste

/-- may a count be? -/
def mayC (e n : Nat) : Prop := 1 ≤ e ∧ e ≤ 1099511627776 ∧ n ≤ 281474976710656
attribute [local go_sem] run_make_bytes
set_option maxRecDepth 100000 in
theorem grown_any (g m c k : Nat) (F : Nat → UInt8) (h8 : k ≤ 8) (hm : m ≤ c) (hb : m ≤ 2 ^ 30) (w0 w : World) (L : List (Nat × Array Value)) (hC : St w0 ((g, blk c F) :: L) w) : Calls Try.prog 54 #[.slice (some ⟨g, 0, none⟩) m c, .int .i64 (k : Int)] w (Laid w0 L m F) := by
  have HC := Lib.hid hC
  have d1 : m + k ≤ 2 ^ 40 := by omega
  have d2 : (m : Int) + (k : Int) ≤ 2000000000 := by omega
  have d3 : m ≤ m + k := by omega
  have d4 : (m : Int) + (k : Int) = ((m + k : Nat) : Int) := by push_cast; rfl
  have hmk : ∀ w : World, (Instr.makeSlice 30 (.int .i64 (m : Int)) (.int .i64 ((m : Int) + (k : Int)))).run Try.prog w = .ok (.slice (some ⟨w.heap.size, 0, none⟩) m (m + k)) (w.alloc (.cells (blk (m + k) fun _ => 0) 5)) := fun w => by
    rw [d4]; exact run_make_bytes .i64 .i64 m (m + k) d3 d1 w
  clear d4 hC
  have HP := Lib.hid (HC.out.push (blk (m + k) fun _ => 0) 5)
  go_enter Try.func54, Try.ntmps54
  go_wp2_with fail
  have hp := HP.out.get (List.mem_cons_self ..)
  have hg := HP.out.get (g := g) (cs := blk c F) (by simp)
  have hcp := copyS_rows (P := Try.prog) (w := w.alloc (.cells (blk (m + k) fun _ => 0) 5)) 30 30 3 w.heap.size 0 m (m + k) g 0 m c (by simp [go_sem]) (by simp [go_sem]) hp.2.2.1 hg.2.2.2 (by rw [hp.2.1, blk_size, Nat.min_self]; omega) (by rw [hg.2.1, blk_size, Nat.min_self]; omega) (by rw [hg.2.1, Nat.min_self, Nat.zero_add, cut_head _ _ _ hm]; exact oneCells_blk _ _)
  rw [hp.2.1, hg.2.1, Nat.min_self, Nat.zero_add, cut_head _ _ _ hm, paste_blk _ _ _ _ _ (by omega)] at hcp
  rw [hcp]
  have HP2 := Lib.hid (HC.out.tail.push (blk (m + k) (cpy (fun _ => 0) 0 F 0 m)) 5)
  clear hcp hp hg HP
  go_wp2_with fail
  go_ret
  refine Laid.mk _ _ _ rfl d3 (fun i hi => ?_) HP2.out
  unfold cpy
  rw [if_pos (by omega)]
  congr 1; omega
theorem num_own (g m c k N : Nat) (F : Nat → UInt8) (h1 : 1 ≤ k) (h8 : k ≤ 8) (hm : m ≤ c) (hb : m + k ≤ 2 ^ 30) (w0 w : World) (L : List (Nat × Array Value)) (hC : St w0 ((g, blk c F) :: L) w) :
    Calls Try.prog 39 #[.slice (some ⟨g, 0, none⟩) m c, .int .i64 (k : Int), .int .u64 (N : Int)] w (Laid w0 L (m + k) (glue m F (beB N k))) := by
  have HC := Lib.hid hC
  clear hC
  go_enter Try.func39, Try.ntmps39
  go_wp2_with fail
  refine (sized_any k h1 h8 _).mono ?_; rintro e w2 ⟨rfl, hw⟩
  have HC := Lib.hid (HC.out.call hw)
  clear hw
  go_wp2_with fail
  refine (grown_any g m c k F h8 hm (by omega) w0 _ L HC.out).mono ?_; rintro e w3 ⟨g1, c1, F1, rfl, x1, x2, hw⟩
  have HC := Lib.hid hw
  have X1 := Lib.hid x1
  have X2 := Lib.hid x2
  clear hw x1 x2
  go_wp2_with fail
  refine (lay_any g1 m c1 k N F1 h1 h8 X1.out hb w0 _ L HC.out).mono ?_; rintro e w4 ⟨g2, c2, F2, rfl, y1, y2, hw⟩
  have H1 := Lib.hid y1
  have H2 := Lib.hid y2
  have HC := Lib.hid hw
  clear y1 y2 hw
  go_wp2_with fail
  go_ret
  refine Laid.mk g2 c2 F2 rfl H1.out (fun i hi => ?_) HC.out
  rw [H2.out i hi]
  unfold glue
  split
  · exact X2.out i (by omega)
  · rfl
/-- a count's number -/
def nonceB (e n : Nat) : Nat → UInt8 := glue 6 (beB e 6) (beB n 6)
end Go.Proofs.Ytinlcpenllfcpaa
end

section
namespace Go.Proofs.Ytinlcpenllfcpaa
open Go.RowKit
attribute [local go_sem] B_xor B_or B_and
attribute [local go_sem] blk_set blk_size blk_get blk_getE upd_same oneCells_blk paste_blk cut_blk szOf
attribute [local go_sem high] paste_all cut_head
attribute [local go_sem] rowAt_alloc rowAt_drew rowAt_drewN isRow_alloc isRow_drew isRow_drewN freeRow_alloc freeRow_end freeRow_drew freeRow_drewN
attribute [local go_sem] setRow_alloc setRow_drew setRow_drewN setCell_drewN alloc_drewN rowAt_put isRow_setRow freeRow_put
attribute [local go_sem ↓] loadS_in storeS_in indexS_in copyS_in
attribute [local go_sem] loadS_row loadS_one storeS_row storeS_one indexS_blk copyS_rows run_equalIn_blk same_refl arrayAt_row
attribute [local go_sem] cell_row frozen_row st_setCell st_blk_ne stepAt stepUpon
attribute [local go_sem high] run_eql_blk run_neq_blk
attribute [local go_sem ↓] convBS_in
attribute [local go_sem] convBS_row convBS_nil allBytes_blk bytesOf_blk
attribute [local go_sem] cn_size cn_get0 cn_get1 cn_getE0 cn_getE1 cn_set0 cn_set1 cn_ne cn_one cn_cut cn_paste

/-- the results of a function: a slot, one that lies in a row, a slot -/
theorem results_qpr {P : Program} {w : World} {fn : Func} {p q r : Tmp} {ty : TypeId} (h : fn.results = #[.tmp q, .cell p ty, .tmp r]) (tmps : Array Value) (g : Nat) (hp : tmps.getD p undef = .pointer (some ⟨g, 0, none⟩)) (cs : Array Value) (hc : rowAt w g = cs)
    (ha : (isAgg ty).run P w = .ok true w) (hs : (sizeOf ty).run P w = .ok cs.size w) (hr : isRow w g = true) (v u : Value) (hq : tmps.getD q undef = v) (hu : tmps.getD r undef = u) :
    (results fn tmps).run P w = .ok (.tuple #[v, .agg cs, u]) w := by
  have hp' : tmps[p]?.getD undef = .pointer (some ⟨g, 0, none⟩) := by simpa using hp
  have hq' : tmps[q]?.getD undef = v := by simpa using hq
  have hu' : tmps[r]?.getD undef = u := by simpa using hu
  have hl := run_loadCells_row (P := P) g 0 cs.size hr (by rw [hc]; omega)
  rw [hc] at hl
  simp only [Nat.zero_add, Array.extract_size] at hl
  simp [results, h, hp', hq', hu', asAddr, loadVar, Sem.run_bind, ha, hs, hl]
end Go.Proofs.Ytinlcpenllfcpaa
end

section
namespace Go.Proofs.Ytinlcpenllfcpaa
open Go.RowKit
attribute [local go_sem] B_xor B_or B_and
attribute [local go_sem] blk_set blk_size blk_get blk_getE upd_same oneCells_blk paste_blk cut_blk szOf
attribute [local go_sem high] paste_all cut_head
attribute [local go_sem] rowAt_alloc rowAt_drew rowAt_drewN isRow_alloc isRow_drew isRow_drewN freeRow_alloc freeRow_end freeRow_drew freeRow_drewN
attribute [local go_sem] setRow_alloc setRow_drew setRow_drewN setCell_drewN alloc_drewN rowAt_put isRow_setRow freeRow_put
attribute [local go_sem ↓] loadS_in storeS_in indexS_in copyS_in
attribute [local go_sem] loadS_row loadS_one storeS_row storeS_one indexS_blk copyS_rows run_equalIn_blk same_refl arrayAt_row
attribute [local go_sem] cell_row frozen_row st_setCell st_blk_ne stepAt stepUpon
attribute [local go_sem high] run_eql_blk run_neq_blk
attribute [local go_sem ↓] convBS_in
attribute [local go_sem] convBS_row convBS_nil allBytes_blk bytesOf_blk
attribute [local go_sem] rg_size rg_get0 rg_getE0 rg_ne rg_set0 rg_one rg_cut rg_key rg_put rg_paste part_rg0 part_rg1
attribute [local go_sem] cn_size cn_get0 cn_get1 cn_getE0 cn_getE1 cn_set0 cn_set1 cn_ne cn_one cn_cut cn_paste

/-- a barrier: was it made, its kind, its notes, its ring, its count -/
structure Br where
  md : Bool
  kd : Nat
  nt : Value
  n : Nat
  f : Nat → UInt8
  e : Nat
  c : Nat
def brAt (b : Br) (i : Nat) : Value :=
  if i = 0 then .bool b.md else if i = 1 then .int .u8 (b.kd : Int) else if i = 2 then b.nt else if i = 3 then .int .i64 (b.n : Int) else if i < 100 then .int .u8 (B (b.f (i - 4))) else if i = 100 then .int .u64 (b.e : Int) else .int .u64 (b.c : Int)
def br (b : Br) : Array Value := ((List.range 102).map (brAt b)).toArray
theorem br_size (b : Br) : (br b).size = 102 := by simp [br]
theorem br_at (b : Br) (i : Nat) (h : i < 102) : (br b)[i]? = some (brAt b i) := by simp [br, h]
theorem br_get0 (b : Br) : (br b)[0]? = some (.bool b.md) := br_at b 0 (by omega)
theorem br_get1 (b : Br) : (br b)[1]? = some (.int .u8 (b.kd : Int)) := br_at b 1 (by omega)
theorem br_get2 (b : Br) : (br b)[2]? = some b.nt := br_at b 2 (by omega)
theorem br_getE0 (b : Br) (h : 0 < (br b).size) : (br b)[0]'h = .bool b.md := by
  have := br_get0 b
  rw [Array.getElem?_eq_getElem h] at this
  exact Option.some.inj this
theorem br_getE1 (b : Br) (h : 1 < (br b).size) : (br b)[1]'h = .int .u8 (b.kd : Int) := by
  have := br_get1 b
  rw [Array.getElem?_eq_getElem h] at this
  exact Option.some.inj this
theorem br_getE2 (b : Br) (h : 2 < (br b).size) : (br b)[2]'h = b.nt := by
  have := br_get2 b
  rw [Array.getElem?_eq_getElem h] at this
  exact Option.some.inj this
theorem br_ne (b : Br) : (br b = #[]) = False := by
  simp only [eq_iff_iff, iff_false]
  intro h
  have := congrArg Array.size h
  rw [br_size] at this; cases this
theorem br_ext {b : Br} {xs : Array Value} (h0 : xs.size = 102) (h : ∀ i, i < 102 → xs[i]? = some (brAt b i)) : xs = br b := by
  apply Array.ext_getElem?
  intro i
  by_cases hi : i < 102
  · rw [h i hi, br_at b i hi]
  · rw [Array.getElem?_eq_none (by omega), Array.getElem?_eq_none (by rw [br_size]; omega)]
theorem br_ring (b : Br) : cut (br b) 3 100 = rg b.n b.f := by
  refine rg_ext (by simp [cut, br_size]) ?_ (fun i hi => ?_)
  · unfold cut
    rw [Array.getElem?_extract, if_pos (by rw [br_size]; omega), br_at b _ (by omega)]
    rfl
  · unfold cut
    rw [Array.getElem?_extract, if_pos (by rw [br_size]; omega), br_at b _ (by omega)]
    unfold brAt
    rw [if_neg (by omega), if_neg (by omega), if_neg (by omega), if_neg (by omega), if_pos (by omega)]
    congr 3; congr 1; omega
theorem br_count (b : Br) : cut (br b) 100 102 = cn b.e b.c := by
  apply Array.ext_getElem?
  intro i
  unfold cut
  rw [Array.getElem?_extract]
  match i with
  | 0 => rw [if_pos (by rw [br_size]; omega), br_at b _ (by omega), cn_get0]; rfl
  | 1 => rw [if_pos (by rw [br_size]; omega), br_at b _ (by omega), cn_get1]; rfl
  | i + 2 => rw [if_neg (by omega), Array.getElem?_eq_none (by rw [cn_size]; omega)]
theorem br_whole (b : Br) : cut (br b) 0 102 = br b := by
  unfold cut
  have := @Array.extract_size Value (br b)
  rwa [br_size] at this
theorem br_put_ring (b : Br) (n : Nat) (f : Nat → UInt8) : paste (br b) 3 (rg n f) = br { b with n := n, f := f } := by
  refine br_ext (by rw [paste_size _ _ _ (by rw [br_size, rg_size]; omega), br_size]) fun i hi => ?_
  rw [paste_get _ _ _ (by rw [br_size, rg_size]; omega), rg_size]
  by_cases h : 3 ≤ i ∧ i < 3 + 97
  · rw [if_pos h]
    by_cases h3 : i = 3
    · subst h3; rw [rg_get0]; rfl
    · rw [show i - 3 = 1 + (i - 4) by omega, rg_get, blk_get _ _ _ (by omega)]
      unfold brAt
      rw [if_neg (by omega), if_neg (by omega), if_neg (by omega), if_neg (by omega), if_pos (by omega)]
  · rw [if_neg h, br_at b i hi]
    unfold brAt
    by_cases h4 : i < 3
    · congr 1
      split
      · rfl
      · split
        · rfl
        · rw [if_pos (by omega), if_pos (by omega)]
    · have e0 : ¬ i = 0 := by omega
      have e1 : ¬ i = 1 := by omega
      have e2 : ¬ i = 2 := by omega
      have e3 : ¬ i = 3 := by omega
      have e4 : ¬ i < 100 := by omega
      simp only [e0, e1, e2, e3, e4, if_false]
theorem br_put_count (b : Br) (e c : Nat) : paste (br b) 100 (cn e c) = br { b with e := e, c := c } := by
  refine br_ext (by rw [paste_size _ _ _ (by rw [br_size, cn_size]; omega), br_size]) fun i hi => ?_
  rw [paste_get _ _ _ (by rw [br_size, cn_size]; omega), cn_size]
  by_cases h : 100 ≤ i ∧ i < 100 + 2
  · rw [if_pos h]
    by_cases h3 : i = 100
    · subst h3; rw [cn_get0]; rfl
    · obtain rfl : i = 101 := by omega
      rw [cn_get1]; rfl
  · rw [if_neg h, br_at b i hi]
    unfold brAt
    congr 1
    by_cases h4 : i < 4
    · split
      · rfl
      · split
        · rfl
        · split
          · rfl
          · rw [if_pos (by omega), if_pos (by omega)]
    · rw [if_neg (by omega), if_neg (by omega), if_neg (by omega), if_neg (by omega), if_pos (by omega), if_neg (by omega), if_neg (by omega), if_neg (by omega), if_neg (by omega), if_pos (by omega)]
theorem br_paste (a b : Br) : paste (br a) 0 (br b) = br b := paste_whole _ _ (by rw [br_size, br_size])
theorem br_one (b : Br) (h : b.nt.oneCell' = true) : oneCells (br b) = true := by
  unfold oneCells br
  simp only [List.all_toArray, List.all_map, List.all_eq_true]
  intro i _
  simp only [Function.comp]
  unfold brAt
  repeat (first | rfl | exact h | split)
attribute [local go_sem] br_size br_get0 br_get1 br_get2 br_getE0 br_getE1 br_getE2 br_ne br_ring br_count br_whole br_put_ring br_put_count br_paste br_one

end Go.Proofs.Ytinlcpenllfcpaa
end

section
namespace Go.Proofs.Ytinlcpenllfcpaa
open Go.RowKit

def entOf (e : MapEntry) : Value × Value := (e.key, e.val)
section
variable {α : Type} (enc : α → Value)
/-- block m is a map that holds these -/
def Mp (w : World) (m : Nat) (N : List (ByteArray × α)) : Prop := ∃ es clock, w.heap[m]? = some (.map es clock) ∧ es.toList.map entOf = N.map fun x => (.string x.1, enc x.2)
/-- what is held by a key -/
def findN (k : ByteArray) : List (ByteArray × α) → Option α
  | [] => none
  | (k', v) :: l => if k' = k then some v else findN k l
/-- a key gets a value -/
def putN (k : ByteArray) (v : α) : List (ByteArray × α) → List (ByteArray × α)
  | [] => [(k, v)]
  | (k', v') :: l => if k' = k then (k', v) :: l else (k', v') :: putN k v l
theorem find_put (k j : ByteArray) (v : α) : ∀ l, findN j (putN k v l) = if j = k then some v else findN j l
  | [] => by
    simp only [putN, findN, eq_comm]
  | (k', v') :: l => by
    unfold putN
    by_cases h : k' = k
    · subst h
      rw [if_pos rfl]
      by_cases h2 : k' = j
      · subst h2; simp [findN]
      · simp [findN, h2, Ne.symm h2]
    · rw [if_neg h]
      by_cases h2 : k' = j
      · subst h2; simp [findN, h]
      · simp only [findN, if_neg h2, find_put k j v l]
/-- all but one block of those that were there are as they were -/
structure But (m : Nat) (w w' : World) : Prop where
  os : w'.os = w.os
  tape : w'.tape = w.tape
  output : w'.output = w.output
  size : w'.heap.size = w.heap.size
  block : ∀ k, k ≠ m → w'.heap[k]? = w.heap[k]?
theorem But.below {m : Nat} {w w' : World} (h : But m w w') {B : Nat} {a : World} (hb : Below B a w) (hm : B ≤ m) : Below B a w' :=
  ⟨h.os.trans hb.os, h.tape.trans hb.tape, h.output.trans hb.output, by rw [h.size]; exact hb.size, fun k hk => (h.block k (by omega)).trans (hb.block k hk)⟩
theorem Mp.lt {w : World} {m : Nat} {N : List (ByteArray × α)} (h : Mp enc w m N) : m < w.heap.size := by
  obtain ⟨es, c, h1, _⟩ := h
  exact (Array.getElem?_eq_some_iff.1 h1).1
theorem Mp.row {w : World} {m : Nat} {N : List (ByteArray × α)} (h : Mp enc w m N) : isRow w m = false := by
  obtain ⟨es, c, h1, _⟩ := h
  simp [isRow, h1]
theorem Mp.call {w w' : World} {m : Nat} {N : List (ByteArray × α)} (h : Mp enc w m N) (hb : Below w.heap.size w w') : Mp enc w' m N := by
  have hlt := h.lt
  obtain ⟨es, c, h1, h2⟩ := h
  exact ⟨es, c, (hb.block m hlt).trans h1, h2⟩
theorem Mp.but {w w' : World} {m q : Nat} {N : List (ByteArray × α)} (h : Mp enc w m N) (hb : But q w w') (hm : m ≠ q) : Mp enc w' m N := by
  obtain ⟨es, c, h1, h2⟩ := h
  exact ⟨es, c, (hb.block m hm).trans h1, h2⟩
/-- all maps are as they were -/
def Mk (w w' : World) : Prop := ∀ (m : Nat) (es : Array MapEntry) (c : Nat), w.heap[m]? = some (Obj.map es c) → w'.heap[m]? = some (Obj.map es c)
theorem Mk.refl (w : World) : Mk w w := fun _ _ _ h => h
theorem Mk.trans {a b c : World} (h : Mk a b) (k : Mk b c) : Mk a c := fun m es q hm => k m es q (h m es q hm)
theorem Mk.call {a b c : World} (hb : Below b.heap.size b c) (h : Mk a b) : Mk a c := fun m es q hm => by
  have h1 := h m es q hm
  exact (hb.block m (Array.getElem?_eq_some_iff.1 h1).1).trans h1
theorem Mk.alloc {a b : World} (h : Mk a b) (o : Obj) : Mk a (b.alloc o) := fun m es q hm => by
  have h1 := h m es q hm
  exact (Below.heap_alloc b o m (Array.getElem?_eq_some_iff.1 h1).1).trans h1
theorem Mk.drew {a b : World} (h : Mk a b) : Mk a b.drew := fun m es q hm => h m es q hm
theorem Mk.drewN {a b : World} (h : Mk a b) (n : Nat) : Mk a (b.drewN n) := fun m es q hm => h m es q hm
theorem Mk.setRow {a b : World} (h : Mk a b) (g : Nat) (cs : Array Value) : Mk a (b.setRow g cs) := fun m es q hm => by
  have h1 := h m es q hm
  show (b.heap.modify g _)[m]? = _
  rw [Array.getElem?_modify, h1]
  split <;> rfl
theorem Mp.mk {w w' : World} {m : Nat} {N : List (ByteArray × α)} (h : Mp enc w m N) (hb : Mk w w') : Mp enc w' m N := by
  obtain ⟨es, c, h1, h2⟩ := h
  exact ⟨es, c, hb m es c h1, h2⟩
theorem St.but {w0 w w' : World} {L : List (Nat × Array Value)} {m : Nat} (h : St w0 L w) (hb : But m w w') (hm : w0.heap.size ≤ m) (hr : isRow w m = false) : St w0 L w' := by
  refine ⟨hb.below h.below hm, h.ne, fun x hx => ?_⟩
  obtain ⟨⟨h1, h2⟩, h3, h4, h5⟩ := h.rows x hx
  have hne : x.1 ≠ m := fun e => by rw [e, hr] at h5; cases h5
  have hk := hb.block x.1 hne
  refine ⟨⟨h1, by rw [hb.size]; exact h2⟩, ?_, ?_, ?_⟩
  · unfold rowAt at h3 ⊢; rw [hk]; exact h3
  · unfold freeRow at h4 ⊢; rw [hk]; exact h4
  · unfold isRow at h5 ⊢; rw [hk]; exact h5

variable {P : Program}
theorem findNow_text (k : ByteArray) : ∀ (es : List MapEntry) (N : List (ByteArray × α)) (i : Nat), es.map entOf = N.map (fun x => (.string x.1, enc x.2)) →
    (Instr.findNow .string (.string k) es i = some none ∧ findN k N = none ∧ ∀ v, (es.map entOf) ++ [(.string k, enc v)] = (putN k v N).map fun x => (.string x.1, enc x.2)) ∨
    ∃ (j : Nat) (e : MapEntry) (v : α), Instr.findNow .string (.string k) es i = some (some (i + j, enc v)) ∧ findN k N = some v ∧ es[j]? = some e ∧ e.key = .string k ∧ ∀ v' e', e'.key = e.key → e'.val = enc v' → (es.set j e').map entOf = (putN k v' N).map fun x => (.string x.1, enc x.2)
  | [], [], i, _ => .inl ⟨rfl, rfl, fun v => rfl⟩
  | [], _ :: _, _, h => by simp at h
  | _ :: _, [], _, h => by simp at h
  | e :: es, (k', v') :: N, i, h => by
    simp only [List.map_cons, List.cons.injEq] at h
    obtain ⟨h1, h2⟩ := h
    have hk : e.key = .string k' := congrArg Prod.fst h1
    have hv : e.val = enc v' := congrArg Prod.snd h1
    by_cases hkk : k' = k
    · subst hkk
      refine .inr ⟨0, e, v', ?_, by simp [findN], rfl, hk, fun v'' e' g1 g2 => ?_⟩
      · have hb : (k' == k') = true := (MapKept.bytes_beq k' k').2 rfl
        simp [Instr.findNow, Instr.sameNow, hk, hv, hb]
      · simp [putN, entOf, g1, hk, g2, h2]
    · have hne : (k == k') = false := by
        cases hb : k == k'
        · rfl
        · exact (hkk ((MapKept.bytes_beq k k').1 hb).symm).elim
      have hs : Instr.findNow .string (.string k) (e :: es) i = Instr.findNow .string (.string k) es (i + 1) := by
        simp [Instr.findNow, Instr.sameNow, hk, hne]
      rcases findNow_text k es N (i + 1) h2 with ⟨a1, a2, a3⟩ | ⟨j, e0, v0, a1, a2, a3, a4, a5⟩
      · refine .inl ⟨by rw [hs, a1], by simp [findN, hkk, a2], fun v => ?_⟩
        simp only [List.map_cons, List.cons_append, putN, if_neg hkk, List.cons.injEq]
        exact ⟨h1, a3 v⟩
      · refine .inr ⟨j + 1, e0, v0, by rw [hs, a1]; congr 3; omega, by simp [findN, hkk, a2], by simpa using a3, a4, fun v'' e' g1 g2 => ?_⟩
        simp only [List.set_cons_succ, List.map_cons, putN, if_neg hkk, List.cons.injEq]
        exact ⟨h1, a5 v'' e' g1 g2⟩
theorem run_lookup_text (t kt et : TypeId) (ht : P.underlying t = some (.map kt et)) (hk : P.underlying kt = some .string) (z : Value) {w : World} (hz : (zeroValue et).run P w = .ok z w) {m : Nat} {N : List (ByteArray × α)} (hM : Mp enc w m N) (k : ByteArray) :
    (Instr.lookup t (.map (some m)) (.string k) true).run P w = .ok (.tuple #[((findN k N).map enc).getD z, .bool (findN k N).isSome]) w := by
  obtain ⟨es, c, h1, h2⟩ := hM
  have hc : ∀ e, (Instr.checkKey e 10000 kt (.string k)).run P w = .ok () w := fun e => MapKept.run_checkKey (k := .string k) hk (by simp [MapKept.IsKey]) e 9999
  rcases findNow_text enc k es.toList N 0 h2 with ⟨a1, a2, _⟩ | ⟨j, e0, v0, a1, a2, _⟩
  · simp [Instr.lookup, run_underlying ht, MapKept.run_getObj_map h1, hc, MapKept.run_findKey hk a1, hz, Result.andThen, a2]
  · simp [Instr.lookup, run_underlying ht, MapKept.run_getObj_map h1, hc, MapKept.run_findKey hk a1, Result.andThen, a2]
theorem run_update_text (t kt et : TypeId) (ht : P.underlying t = some (.map kt et)) (hk : P.underlying kt = some .string) {w : World} {m : Nat} {N : List (ByteArray × α)} (hM : Mp enc w m N) (k : ByteArray) (v : α) :
    ∃ w', (Instr.mapUpdate t (.map (some m)) (.string k) (enc v)).run P w = .ok () w' ∧ But m w w' ∧ Mp enc w' m (putN k v N) := by
  obtain ⟨es, c, h1, h2⟩ := hM
  have hlt := (Array.getElem?_eq_some_iff.1 h1).1
  have hc : ∀ e, (Instr.checkKey e 10000 kt (.string k)).run P w = .ok () w := fun e => MapKept.run_checkKey (k := .string k) hk (by simp [MapKept.IsKey]) e 9999
  have hB : ∀ o : Obj, But m w { w with heap := w.heap.setIfInBounds m o } := fun o => ⟨rfl, rfl, rfl, by simp, fun i hi => by
    show (w.heap.setIfInBounds m o)[i]? = _
    rw [Array.getElem?_setIfInBounds, if_neg (Ne.symm hi)]⟩
  have hO : ∀ o : Obj, ({ w with heap := w.heap.setIfInBounds m o } : World).heap[m]? = some o := fun o => by
    show (w.heap.setIfInBounds m o)[m]? = _
    rw [Array.getElem?_setIfInBounds, if_pos rfl, if_pos hlt]
  rcases findNow_text enc k es.toList N 0 h2 with ⟨a1, a2, a3⟩ | ⟨j, e0, v0, a1, a2, a3, a4, a5⟩
  · refine ⟨_, by simp [Instr.mapUpdate, run_underlying ht, MapKept.run_getObj_map h1, hc, MapKept.run_findKey hk a1, MapKept.run_setObj_map _ h1, Result.andThen]; rfl, hB _, _, _, hO _, ?_⟩
    rw [Array.toList_push, List.map_append, ← a3 v]
    rfl
  · have hj : es[j]? = some e0 := by simpa using a3
    rw [Nat.zero_add] at a1
    have hst : (Instr.keyThatStays e0.key (.string k)).run P w = .ok (.string k) w := by rw [a4]; exact MapKept.run_keyThatStays (d := .string) trivial
    refine ⟨_, by simp [Instr.mapUpdate, run_underlying ht, MapKept.run_getObj_map h1, hc, MapKept.run_findKey hk a1, hj, hst, MapKept.run_setObj_map _ h1, Result.andThen]; rfl, hB _, _, _, hO _, ?_⟩
    rw [Array.toList_modify, ← a5 v { e0 with key := .string k, val := enc v } a4.symm rfl]
    congr 1
    apply List.ext_getElem?
    intro i
    rw [List.getElem?_modify, List.getElem?_set]
    by_cases hi : j = i
    · subst hi
      have hjl := (List.getElem?_eq_some_iff.1 a3).1
      rw [if_pos rfl, if_pos hjl, a3]
      simp
    · simp [hi]
end
/-- the blocks of a call's own, as one fact; and all maps of v are as they were -/
structure Sk (v w0 : World) (L : List (Nat × Array Value)) (w : World) : Prop extends St w0 L w where
  kept : Mk v w
section
variable {v w0 a b : World} {L : List (Nat × Array Value)}
theorem St.sk (h : St w0 L a) : Sk a w0 L a := ⟨h, Mk.refl _⟩
theorem Sk.base (h : Sk v w0 L a) : Sk a w0 L a := ⟨h.toSt, Mk.refl _⟩
theorem Sk.nil (w : World) : Sk w w [] w := ⟨St.nil w, Mk.refl _⟩
theorem Sk.call (h : Sk v w0 L a) (hb : Below a.heap.size a b) : Sk v w0 L b := ⟨h.toSt.call hb, Mk.call hb h.kept⟩
theorem Sk.drew (h : Sk v w0 L a) : Sk v w0 L a.drew := ⟨h.toSt.drew, h.kept.drew⟩
theorem Sk.drewN (h : Sk v w0 L a) (n : Nat) : Sk v w0 L (a.drewN n) := ⟨h.toSt.drewN n, h.kept.drewN n⟩
theorem Sk.skip (h : Sk v w0 L a) (o : Obj) : Sk v w0 L (a.alloc o) := ⟨h.toSt.skip o, h.kept.alloc o⟩
theorem Sk.push (h : Sk v w0 L a) (cs : Array Value) (t : TypeId) : Sk v w0 ((a.heap.size, cs) :: L) (a.alloc (.cells cs t)) := ⟨h.toSt.push cs t, h.kept.alloc _⟩
theorem Sk.pushA (h : Sk v w0 L a) (cs : Array Value) (t : TypeId) {g : Nat} (hg : a.heap.size = g) : Sk v w0 ((g, cs) :: L) (a.alloc (.cells cs t)) := ⟨h.toSt.pushA cs t hg, h.kept.alloc _⟩
theorem Sk.tail {x : Nat × Array Value} (h : Sk v w0 (x :: L) a) : Sk v w0 L a := ⟨h.toSt.tail, h.kept⟩
theorem Sk.swap {x y : Nat × Array Value} (h : Sk v w0 (x :: y :: L) a) : Sk v w0 (y :: x :: L) a := ⟨h.toSt.swap, h.kept⟩
theorem Sk.set_head {g : Nat} {c : Array Value} (h : Sk v w0 ((g, c) :: L) a) (cs : Array Value) (hs : cs.size = c.size := by first | (simp only [blk_size]; done) | (simp [go_sem]; done) | rfl) : Sk v w0 ((g, cs) :: L) (a.setRow g cs) := ⟨h.toSt.set_head cs hs, h.kept.setRow g cs⟩
theorem Sk.order {L' : List (Nat × Array Value)} (h : Sk v w0 L a) (is : List Nat) (hn : is.Nodup) (hL : is.filterMap (fun i => L[i]?) = L') : Sk v w0 L' a := ⟨h.toSt.pick is hn hL, h.kept⟩
theorem Sk.next {L' : List (Nat × Array Value)} (h : Sk v w0 L a) (hc : St w0 L' b ∧ Mk a b) : Sk v w0 L' b := ⟨hc.1, h.kept.trans hc.2⟩
variable {P : Program} {id : Nat} {Q : Exit → Act → World → Prop} {t : Act} {l : List Oper}
theorem Sk.region (h : Sk v w0 L a) (hm : P.follows .mixedOrders = true) (hB : Region.lexB .any l.toArray = true)
    (k : wpQuiet P l.toArray (Sk v w0 L) (fun a' => ∀ w', Sk v w0 L w' → Q .normal a' w') l t) : (Code.region id l.toArray true).wp P Q t a := wp_region_quiet hm hB h.drew (by simpa using k)
end
end Go.Proofs.Ytinlcpenllfcpaa
end

section
namespace Go.Proofs.Ytinlcpenllfcpaa
open Go.RowKit
attribute [local go_sem] B_xor B_or B_and
attribute [local go_sem] blk_set blk_size blk_get blk_getE upd_same oneCells_blk paste_blk cut_blk szOf
attribute [local go_sem high] paste_all cut_head
attribute [local go_sem] rowAt_alloc rowAt_drew rowAt_drewN isRow_alloc isRow_drew isRow_drewN freeRow_alloc freeRow_end freeRow_drew freeRow_drewN
attribute [local go_sem] setRow_alloc setRow_drew setRow_drewN setCell_drewN alloc_drewN rowAt_put isRow_setRow freeRow_put
attribute [local go_sem ↓] loadS_in storeS_in indexS_in copyS_in
attribute [local go_sem] loadS_row loadS_one storeS_row storeS_one indexS_blk copyS_rows run_equalIn_blk same_refl arrayAt_row
attribute [local go_sem] cell_row frozen_row st_setCell st_blk_ne stepAt stepUpon
attribute [local go_sem high] run_eql_blk run_neq_blk
attribute [local go_sem ↓] convBS_in
attribute [local go_sem] convBS_row convBS_nil allBytes_blk bytesOf_blk
attribute [local go_sem] rg_size rg_get0 rg_getE0 rg_ne rg_set0 rg_one rg_cut rg_key rg_put rg_paste part_rg0 part_rg1
attribute [local go_sem] cn_size cn_get0 cn_get1 cn_getE0 cn_getE1 cn_set0 cn_set1 cn_ne cn_one cn_cut cn_paste
attribute [local go_sem] br_size br_get0 br_get1 br_get2 br_getE0 br_getE1 br_getE2 br_ne br_ring br_count br_whole br_put_ring br_put_count br_paste br_one

end Go.Proofs.Ytinlcpenllfcpaa
end

section
namespace Go.Proofs.Ytinlcpenllfcpaa
open Go.RowKit
attribute [local go_sem] B_xor B_or B_and
attribute [local go_sem] blk_set blk_size blk_get blk_getE upd_same oneCells_blk paste_blk cut_blk szOf
attribute [local go_sem high] paste_all cut_head
attribute [local go_sem] rowAt_alloc rowAt_drew rowAt_drewN isRow_alloc isRow_drew isRow_drewN freeRow_alloc freeRow_end freeRow_drew freeRow_drewN
attribute [local go_sem] setRow_alloc setRow_drew setRow_drewN setCell_drewN alloc_drewN rowAt_put isRow_setRow freeRow_put
attribute [local go_sem ↓] loadS_in storeS_in indexS_in copyS_in
attribute [local go_sem] loadS_row loadS_one storeS_row storeS_one indexS_blk copyS_rows run_equalIn_blk same_refl arrayAt_row
attribute [local go_sem] cell_row frozen_row st_setCell st_blk_ne stepAt stepUpon
attribute [local go_sem high] run_eql_blk run_neq_blk
attribute [local go_sem ↓] convBS_in
attribute [local go_sem] convBS_row convBS_nil allBytes_blk bytesOf_blk
attribute [local go_sem] rg_size rg_get0 rg_getE0 rg_ne rg_set0 rg_one rg_cut rg_key rg_put rg_paste part_rg0 part_rg1
attribute [local go_sem] cn_size cn_get0 cn_get1 cn_getE0 cn_getE1 cn_set0 cn_set1 cn_ne cn_one cn_cut cn_paste
attribute [local go_sem] br_size br_get0 br_get1 br_get2 br_getE0 br_getE1 br_getE2 br_ne br_ring br_count br_whole br_put_ring br_put_count br_paste br_one

/-- sealed -/
def Br.shut (b : Br) : Br := { b with n := 0, f := fun _ => 0, e := 0, c := 0 }
/-! ### in one -/
instance (e n : Nat) : Decidable (mayC e n) := inferInstanceAs (Decidable (_ ∧ _ ∧ _))
/-- why no nonce is taken -/
def takeE (b : Br) : Nat := if b.n = 0 then 12 else if ¬ mayC b.e b.c then 2 else if b.c = 281474976710656 then 19 else 0
def nonceS (e c : Nat) : ByteArray := strOf 12 (nonceB e c)
def takeS (b : Br) : ByteArray := if takeE b = 0 then nonceS b.e b.c else ⟨#[]⟩
def Br.took (b : Br) : Br := if takeE b = 0 then { b with c := b.c + 1 } else b
end Go.Proofs.Ytinlcpenllfcpaa
end

section
namespace Go.Proofs.Ytinlcpenllfcpaa
open Go.RowKit
attribute [local go_sem] B_xor B_or B_and
attribute [local go_sem] blk_set blk_size blk_get blk_getE upd_same oneCells_blk paste_blk cut_blk szOf
attribute [local go_sem high] paste_all cut_head
attribute [local go_sem] rowAt_alloc rowAt_drew rowAt_drewN isRow_alloc isRow_drew isRow_drewN freeRow_alloc freeRow_end freeRow_drew freeRow_drewN
attribute [local go_sem] setRow_alloc setRow_drew setRow_drewN setCell_drewN alloc_drewN rowAt_put isRow_setRow freeRow_put
attribute [local go_sem ↓] loadS_in storeS_in indexS_in copyS_in
attribute [local go_sem] loadS_row loadS_one storeS_row storeS_one indexS_blk copyS_rows run_equalIn_blk same_refl arrayAt_row
attribute [local go_sem] cell_row frozen_row st_setCell st_blk_ne stepAt stepUpon
attribute [local go_sem high] run_eql_blk run_neq_blk
attribute [local go_sem ↓] convBS_in
attribute [local go_sem] convBS_row convBS_nil allBytes_blk bytesOf_blk
attribute [local go_sem] size_sc agg_sc sc_size sc_get0 sc_get1 sc_get2 sc_getE0 sc_getE1 sc_getE2 sc_set1 sc_set2 sc_ne sc_one sc_cut sc_paste sc_build sc_set0

/-- the results of a function: four slots -/
theorem results_q4 {P : Program} {w : World} {fn : Func} {p q r s : Tmp} (h : fn.results = #[.tmp p, .tmp q, .tmp r, .tmp s]) (tmps : Array Value) (a b c d : Value) (h1 : tmps.getD p undef = a) (h2 : tmps.getD q undef = b) (h3 : tmps.getD r undef = c) (h4 : tmps.getD s undef = d) :
    (results fn tmps).run P w = .ok (.tuple #[a, b, c, d]) w := by
  have h1' : tmps[p]?.getD undef = a := by simpa using h1
  have h2' : tmps[q]?.getD undef = b := by simpa using h2
  have h3' : tmps[r]?.getD undef = c := by simpa using h3
  have h4' : tmps[s]?.getD undef = d := by simpa using h4
  simp [results, h, h1', h2', h3', h4']
set_option maxRecDepth 100000 in
theorem extract_in (s : ByteArray) (a b c d : Nat) (h : a + d ≤ b) : (s.extract a b).extract c d = s.extract (a + c) (a + d) := by
  apply ByteArray.ext
  rw [ByteArray.data_extract, ByteArray.data_extract, ByteArray.data_extract]
  apply Array.ext_getElem?
  intro i
  simp only [Array.getElem?_extract, Array.size_extract]
  by_cases h1 : i < min d (min b s.data.size - a) - c
  · rw [if_pos h1, if_pos (by omega), if_pos (by omega)]
    congr 1; omega
  · rw [if_neg h1]
    split
    · exfalso; omega
    · rfl
/-- the first bytes of an entry -/
def headS (t : Nat) (n : ByteArray) : ByteArray := strOf 4 (beB t 4) ++ n
end Go.Proofs.Ytinlcpenllfcpaa
end

section
namespace Go.Proofs.Ytinlcpenllfcpaa
open Go.RowKit
attribute [local go_sem] B_xor B_or B_and
attribute [local go_sem] blk_set blk_size blk_get blk_getE upd_same oneCells_blk paste_blk cut_blk szOf
attribute [local go_sem high] paste_all cut_head
attribute [local go_sem] rowAt_alloc rowAt_drew rowAt_drewN isRow_alloc isRow_drew isRow_drewN freeRow_alloc freeRow_end freeRow_drew freeRow_drewN
attribute [local go_sem] setRow_alloc setRow_drew setRow_drewN setCell_drewN alloc_drewN rowAt_put isRow_setRow freeRow_put
attribute [local go_sem ↓] loadS_in storeS_in indexS_in copyS_in
attribute [local go_sem] loadS_row loadS_one storeS_row storeS_one indexS_blk copyS_rows run_equalIn_blk same_refl arrayAt_row
attribute [local go_sem] cell_row frozen_row st_setCell st_blk_ne stepAt stepUpon
attribute [local go_sem high] run_eql_blk run_neq_blk
attribute [local go_sem ↓] convBS_in
attribute [local go_sem] convBS_row convBS_nil allBytes_blk bytesOf_blk
attribute [local go_sem] rg_size rg_get0 rg_getE0 rg_ne rg_set0 rg_one rg_cut rg_key rg_put rg_paste part_rg0 part_rg1
attribute [local go_sem] cn_size cn_get0 cn_get1 cn_getE0 cn_getE1 cn_set0 cn_set1 cn_ne cn_one cn_cut cn_paste
attribute [local go_sem] br_size br_get0 br_get1 br_get2 br_getE0 br_getE1 br_getE2 br_ne br_ring br_count br_whole br_put_ring br_put_count br_paste br_one

/-! ### in one -/
def openE (b : Br) (n e c : Nat) : Nat := if b.n ≠ 0 then 9 else if n = 0 ∨ ¬ mayC e c then 2 else 0
def Br.opened (b : Br) (n : Nat) (f : Nat → UInt8) (e c : Nat) : Br := if openE b n e c = 0 then { b with n := n, f := f, e := e, c := c } else b
end Go.Proofs.Ytinlcpenllfcpaa
end

section
namespace Go.Proofs.Ytinlcpenllfcpaa
open Go.RowKit
attribute [local go_sem] B_xor B_or B_and
attribute [local go_sem] blk_set blk_size blk_get blk_getE upd_same oneCells_blk paste_blk cut_blk szOf
attribute [local go_sem high] paste_all cut_head
attribute [local go_sem] rowAt_alloc rowAt_drew rowAt_drewN isRow_alloc isRow_drew isRow_drewN freeRow_alloc freeRow_end freeRow_drew freeRow_drewN
attribute [local go_sem] setRow_alloc setRow_drew setRow_drewN setCell_drewN alloc_drewN rowAt_put isRow_setRow freeRow_put
attribute [local go_sem ↓] loadS_in storeS_in indexS_in copyS_in
attribute [local go_sem] loadS_row loadS_one storeS_row storeS_one indexS_blk copyS_rows run_equalIn_blk same_refl arrayAt_row
attribute [local go_sem] cell_row frozen_row st_setCell st_blk_ne stepAt stepUpon
attribute [local go_sem high] run_eql_blk run_neq_blk
attribute [local go_sem ↓] convBS_in
attribute [local go_sem] convBS_row convBS_nil allBytes_blk bytesOf_blk
attribute [local go_sem] rg_size rg_get0 rg_getE0 rg_ne rg_set0 rg_one rg_cut rg_key rg_put rg_paste part_rg0 part_rg1

def ringS : ByteArray := ⟨#[114, 105, 110, 103]⟩
end Go.Proofs.Ytinlcpenllfcpaa
end
