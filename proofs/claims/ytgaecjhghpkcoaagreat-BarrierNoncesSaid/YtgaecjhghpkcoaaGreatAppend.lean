/- append onto a row of the call's own, of bytes or of arrays of bytes: what the new slice reads as. Under the fact St; no more than 2 to 40 cells. -/
import Derived.Test.YtgaecjhghpkcoaaGreatMGha
import Derived.Laws.Append
import Derived.Laws.AppendOwn
namespace Go.Proofs.YtgaecjhghpkcoaaGreat
open Go.RowKit

/-- what stands ahead of place n, then what stands behind -/
def glue (n : Nat) (F G : Nat → UInt8) : Nat → UInt8 := fun i => if i < n then F i else G (i - n)
section
variable {P : Program} {w0 : World} {L : List (Nat × Array Value)}
theorem zeroCells_blk (z : Value) (sz : Nat) (hz : z.cells = blk sz fun _ => 0) (hs : 0 < sz) (k : Nat) : Builtin.zeroCells z.cells k = blk (k * sz) fun _ => 0 := by
  rw [hz]
  unfold Builtin.zeroCells
  apply Array.ext_getElem?
  intro i
  rw [blk_size]
  by_cases h : i < k * sz
  · rw [blk_get _ _ _ h]
    have h2 : i % sz < sz := Nat.mod_lt _ hs
    have h3 : (blk sz fun _ => 0)[i % sz]! = .int .u8 (B 0) := by
      rw [getElem!_pos _ _ (by rw [blk_size]; exact h2)]
      exact blk_getE _ _ _ _
    simp [h, h3]
  · simp [blk_size, Nat.le_of_not_lt h]
theorem grown_row (a b c : Nat) (F G : Nat → UInt8) (N : Nat) (h : a + b + c = N) : blk a F ++ blk b G ++ blk c (fun _ => 0) = blk N (fun i => if i < a + b then glue a F G i else 0) := by
  subst h
  apply Array.ext_getElem?
  intro i
  by_cases h1 : i < a
  · rw [Array.getElem?_append_left (by simp [blk_size]; omega), Array.getElem?_append_left (by rw [blk_size]; exact h1), blk_get _ _ _ h1, blk_get _ _ _ (by omega)]
    simp [glue, h1, show i < a + b by omega]
  · by_cases h2 : i < a + b
    · rw [Array.getElem?_append_left (by simp [blk_size]; omega), Array.getElem?_append_right (by rw [blk_size]; omega), blk_size, blk_get _ _ _ (by omega), blk_get _ _ _ (by omega)]
      simp [glue, h1, h2]
    · rw [Array.getElem?_append_right (by simp [blk_size]; omega)]
      simp only [Array.size_append, blk_size]
      by_cases h3 : i < a + b + c
      · rw [blk_get _ _ _ (by omega), blk_get _ _ _ h3, if_neg h2]
      · rw [Array.getElem?_eq_none (by rw [blk_size]; omega), Array.getElem?_eq_none (by rw [blk_size]; omega)]
theorem row_cells {w : World} {h o m : Nat} {G : Nat → UInt8} (hr : isRow w h = true) (_hsz : o + m ≤ (rowAt w h).size) (hG : cut (rowAt w h) o (o + m) = blk m G) : ∀ j v, (blk m G).toList[j]? = some v → w.cell? ((⟨h, o, none⟩ : Addr).add j) = some v := fun j v hv => by
  rw [add_mid, cell_row h _ hr]
  rw [← hG] at hv
  unfold cut at hv
  rw [Array.getElem?_toList, Array.getElem?_extract] at hv
  split at hv
  · exact hv
  · cases hv
theorem cut_blk0 (N n : Nat) (F : Nat → UInt8) (h : n ≤ N) : cut (blk N F) 0 (0 + n) = blk n F := by rw [Nat.zero_add]; exact cut_head N F n h

/-- onto a row -/
theorem run_append_row (w : World) (t ty e : TypeId) (i : TypeInfo) (z : Value) (sz : Nat) (ht : P.underlying t = some (.slice e)) (hi : P.info? e = some i) (hz : i.zero = some z) (hsize : i.size = sz) (hby : i.bytes = sz) (hzc : z.cells = blk sz fun _ => 0) (hsz : 0 < sz)
    (g n cap : Nat) (F : Nat → UInt8) (hC : St w0 ((g, blk (cap * sz) F) :: L) w) (hn : n ≤ cap)
    (h o m c : Nat) (G : Nat → UInt8) (hr : isRow w h = true) (hro : o + m * sz ≤ (rowAt w h).size) (hG : cut (rowAt w h) o (o + m * sz) = blk (m * sz) G) (hbig : (n + m) * sz ≤ 2 ^ 40) :
    ∃ g' cap' F' w', (Builtin.append_ #[t, t] ty #[.slice (some ⟨g, 0, none⟩) n cap, .slice (some ⟨h, o, none⟩) m c]).run P w = .ok (.slice (some ⟨g', 0, none⟩) (n + m) cap') w' ∧ n + m ≤ cap' ∧ (∀ i, i < (n + m) * sz → F' i = glue (n * sz) F G i) ∧ St w0 ((g', blk (cap' * sz) F') :: L) w' := by
  obtain ⟨⟨b1, b2⟩, r1, f1, i1⟩ := hC.rows (g, blk (cap * sz) F) (by simp)
  have hle : n + m ≤ (n + m) * sz := Nat.le_mul_of_pos_right _ hsz
  by_cases hfit : n + m ≤ cap
  · have hmul : (n + m) * sz ≤ cap * sz := Nat.mul_le_mul_right _ hfit
    rw [Nat.add_mul] at hmul
    have hl := run_loadCells_row (P := P) (w := w) h o (m * sz) hr hro
    have hG' : (rowAt w h).extract o (o + m * sz) = blk (m * sz) G := hG
    rw [hG'] at hl
    have hst := run_storeCells_row (P := P) (w := w) g (n * sz) (blk (m * sz) G) f1 (by rw [r1, blk_size, blk_size]; exact hmul) (oneCells_blk _ _)
    rw [r1, paste_blk _ _ _ _ _ hmul] at hst
    refine ⟨g, cap, cpy F (n * sz) G 0 (m * sz), w.setRow g (blk (cap * sz) (cpy F (n * sz) G 0 (m * sz))), ?_, hfit, fun j hj => ?_, hC.set_head _⟩
    · simp [Builtin.append_, run_underlying ht, sizeOf, typeInfo, hi, hsize, Builtin.lenOf, Builtin.firstCells, hfit, hl, hst, add_mid]
    · rw [Nat.add_mul] at hj
      unfold cpy glue
      by_cases h1 : j < n * sz
      · rw [if_neg (by omega), if_pos h1]
      · rw [if_pos (by omega), if_neg h1, Nat.zero_add]
  · have hol : (blk (n * sz) F).toList.length = n * i.size := by rw [hsize]; simp [blk_size]
    have hnl : (blk (m * sz) G).toList.length = m * i.size := by rw [hsize]; simp [blk_size]
    have hmul : n * sz ≤ cap * sz := Nat.mul_le_mul_right _ hn
    have holds := row_cells (w := w) (h := g) (o := 0) (m := n * sz) (G := F) i1 (by rw [r1, blk_size]; omega) (by rw [r1]; exact cut_blk0 _ _ _ hmul)
    have hrun := run_append_grow (P := P) w t ty e i z ht hi hz ⟨g, 0, none⟩ n cap (blk (n * sz) F).toList hol holds ⟨h, o, none⟩ m c (blk (m * sz) G).toList hnl (row_cells hr hro hG) (by omega) (by omega) (growslice_fits (by omega) (by rw [hby]; omega))
    have hge := grownCap_ge w (n + m) cap e
    have hcap : n * sz + m * sz + (grownCap w (n + m) cap e - (n + m)) * sz = grownCap w (n + m) cap e * sz := by
      rw [← Nat.add_mul, ← Nat.add_mul]; congr 1; omega
    rw [Array.toArray_toList, Array.toArray_toList, zeroCells_blk z sz hzc hsz, grown_row _ _ _ F G _ hcap] at hrun
    refine ⟨_, _, fun i => if i < n * sz + m * sz then glue (n * sz) F G i else 0, _, hrun, hge, fun j hj => ?_, ?_⟩
    · rw [Nat.add_mul] at hj
      exact if_pos hj
    · exact hC.drew.tail.pushA _ _ rfl
/-- onto nothing -/
theorem run_append_none (w : World) (t ty e : TypeId) (i : TypeInfo) (z : Value) (sz : Nat) (ht : P.underlying t = some (.slice e)) (hi : P.info? e = some i) (hz : i.zero = some z) (hsize : i.size = sz) (hby : i.bytes = sz) (hzc : z.cells = blk sz fun _ => 0) (hsz : 0 < sz)
    (hC : St w0 L w) (h o m c : Nat) (G : Nat → UInt8) (hm : 0 < m) (hr : isRow w h = true) (hro : o + m * sz ≤ (rowAt w h).size) (hG : cut (rowAt w h) o (o + m * sz) = blk (m * sz) G) (hbig : m * sz ≤ 2 ^ 40) :
    ∃ g' cap' F' w', (Builtin.append_ #[t, t] ty #[.slice none 0 0, .slice (some ⟨h, o, none⟩) m c]).run P w = .ok (.slice (some ⟨g', 0, none⟩) m cap') w' ∧ m ≤ cap' ∧ (∀ i, i < m * sz → F' i = G i) ∧ St w0 ((g', blk (cap' * sz) F') :: L) w' := by
  have hle : m ≤ m * sz := Nat.le_mul_of_pos_right _ hsz
  have hnl : (blk (m * sz) G).toList.length = m * i.size := by rw [hsize]; simp [blk_size]
  have hrun := run_append_nil (P := P) w t ty e i z ht hi hz ⟨h, o, none⟩ m c (blk (m * sz) G).toList hnl (row_cells hr hro hG) hm (by omega) (by rw [hby]; omega)
  have hge := grownCap_ge w m 0 e
  have hcap : 0 + m * sz + (grownCap w m 0 e - m) * sz = grownCap w m 0 e * sz := by
    rw [Nat.zero_add, ← Nat.add_mul]; congr 1; omega
  have h0 : blk (m * sz) G ++ blk ((grownCap w m 0 e - m) * sz) (fun _ => 0) = blk (grownCap w m 0 e * sz) (fun i => if i < 0 + m * sz then glue 0 (fun _ => 0) G i else 0) := by
    rw [← grown_row 0 _ _ (fun _ => 0) G _ hcap]
    have e0 : blk 0 (fun _ => 0) = #[] := rfl
    rw [e0, Array.empty_append]
  rw [Array.toArray_toList, zeroCells_blk z sz hzc hsz, h0] at hrun
  refine ⟨_, _, fun i => if i < 0 + m * sz then glue 0 (fun _ => 0) G i else 0, _, hrun, hge, fun j hj => ?_, hC.drew.pushA _ _ rfl⟩
  show (if j < 0 + m * sz then glue 0 (fun _ => 0) G j else 0) = G j
  rw [Nat.zero_add, if_pos hj]
  simp [glue]
/-! ### at the list of a region's operations -/
theorem wpList_append_row {ops : Array Oper} {rest : List Oper} {op : Oper} {a : Act} {Q : Exit → Act → World → Prop} {w : World} (hgd : op.guard = none) (s x : Operand) (t : TypeId) (ho : op.op = .call { callee := .builtin .append, args := #[s, x], argTypes := #[t, t] })
    (e : TypeId) (i : TypeInfo) (z : Value) (sz : Nat) (ht : P.underlying t = some (.slice e)) (hi : P.info? e = some i) (hz : i.zero = some z) (hsize : i.size = sz) (hby : i.bytes = sz) (hzc : z.cells = blk sz fun _ => 0) (hsz : 0 < sz)
    (g n cap : Nat) (F : Nat → UInt8) (hs : a.eval s = .slice (some ⟨g, 0, none⟩) n cap) (hC : St w0 ((g, blk (cap * sz) F) :: L) w) (hn : n ≤ cap)
    (h o m c : Nat) (G : Nat → UInt8) (hx : a.eval x = .slice (some ⟨h, o, none⟩) m c) (hr : isRow w h = true) (hro : o + m * sz ≤ (rowAt w h).size) (hG : cut (rowAt w h) o (o + m * sz) = blk (m * sz) G) (hbig : (n + m) * sz ≤ 2 ^ 40)
    (k : ∀ g' cap' F' w', n + m ≤ cap' → (∀ i, i < (n + m) * sz → F' i = glue (n * sz) F G i) → St w0 ((g', blk (cap' * sz) F') :: L) w' → wpList P ops Q rest (a.put op.dst (.slice (some ⟨g', 0, none⟩) (n + m) cap')) w') : wpList P ops Q (op :: rest) a w :=
  wpList_plain hgd fun _ hK => by
    obtain ⟨g', cap', F', w', hrun, h1, h2, h3⟩ := run_append_row (P := P) w t op.type e i z sz ht hi hz hsize hby hzc hsz g n cap F hC hn h o m c G hr hro hG hbig
    unfold Oper.wp execOp
    simp only [ho, resolve, invoke, builtin, Sem.run_bind, Sem.run_pure, Result.andThen_ok, List.map_toArray, List.map_cons, List.map_nil, hs, hx, hrun]
    exact hK _ _ (k g' cap' F' w' h1 h2 h3)
theorem wpList_append_none {ops : Array Oper} {rest : List Oper} {op : Oper} {a : Act} {Q : Exit → Act → World → Prop} {w : World} (hgd : op.guard = none) (s x : Operand) (t : TypeId) (ho : op.op = .call { callee := .builtin .append, args := #[s, x], argTypes := #[t, t] })
    (e : TypeId) (i : TypeInfo) (z : Value) (sz : Nat) (ht : P.underlying t = some (.slice e)) (hi : P.info? e = some i) (hz : i.zero = some z) (hsize : i.size = sz) (hby : i.bytes = sz) (hzc : z.cells = blk sz fun _ => 0) (hsz : 0 < sz)
    (hs : a.eval s = .slice none 0 0) (hC : St w0 L w) (h o m c : Nat) (G : Nat → UInt8) (hm : 0 < m) (hx : a.eval x = .slice (some ⟨h, o, none⟩) m c) (hr : isRow w h = true) (hro : o + m * sz ≤ (rowAt w h).size) (hG : cut (rowAt w h) o (o + m * sz) = blk (m * sz) G) (hbig : m * sz ≤ 2 ^ 40)
    (k : ∀ g' cap' F' w', m ≤ cap' → (∀ i, i < m * sz → F' i = G i) → St w0 ((g', blk (cap' * sz) F') :: L) w' → wpList P ops Q rest (a.put op.dst (.slice (some ⟨g', 0, none⟩) m cap')) w') : wpList P ops Q (op :: rest) a w :=
  wpList_plain hgd fun _ hK => by
    obtain ⟨g', cap', F', w', hrun, h1, h2, h3⟩ := run_append_none (P := P) w t op.type e i z sz ht hi hz hsize hby hzc hsz hC h o m c G hm hr hro hG hbig
    unfold Oper.wp execOp
    simp only [ho, resolve, invoke, builtin, Sem.run_bind, Sem.run_pure, Result.andThen_ok, List.map_toArray, List.map_cons, List.map_nil, hs, hx, hrun]
    exact hK _ _ (k g' cap' F' w' h1 h2 h3)
end
end Go.Proofs.YtgaecjhghpkcoaaGreat
