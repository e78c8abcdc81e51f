/- append onto a row of the call's own, of cells of whatever kind. Under the fact St; few cells. -/
import Derived.Test.YtgaecjhghpkcoaaGreatMKeys
namespace Go.Proofs.YtgaecjhghpkcoaaGreat
open Go.RowKit

/-- n cells in a row -/
def vlk (n : Nat) (f : Nat → Value) : Array Value := ((List.range n).map f).toArray
theorem vlk_size (n : Nat) (f : Nat → Value) : (vlk n f).size = n := by simp [vlk]
theorem vlk_get (n : Nat) (f : Nat → Value) (i : Nat) (h : i < n) : (vlk n f)[i]? = some (f i) := by simp [vlk, h]
theorem vlk_ext {n : Nat} {f : Nat → Value} {xs : Array Value} (h0 : xs.size = n) (h : ∀ i, i < n → xs[i]? = some (f i)) : xs = vlk n f := by
  apply Array.ext_getElem?
  intro i
  by_cases hi : i < n
  · rw [h i hi, vlk_get _ _ _ hi]
  · rw [Array.getElem?_eq_none (by omega), Array.getElem?_eq_none (by rw [vlk_size]; omega)]
theorem vlk_of (xs : Array Value) : xs = vlk xs.size fun i => xs.getD i undef := vlk_ext rfl fun i hi => by
  simp [Array.getD_eq_getD_getElem?, hi]
def vglue (n : Nat) (F G : Nat → Value) : Nat → Value := fun i => if i < n then F i else G (i - n)
theorem vcut (N n : Nat) (F : Nat → Value) (o : Nat) (h : o + n ≤ N) : cut (vlk N F) o (o + n) = vlk n fun i => F (o + i) := by
  refine vlk_ext ?_ fun i hi => ?_
  · simp only [cut, Array.size_extract, vlk_size]; omega
  · unfold cut
    rw [Array.getElem?_extract, if_pos (by rw [vlk_size]; omega), vlk_get _ _ _ (by omega)]
section
variable {P : Program} {w0 : World} {L : List (Nat × Array Value)}
theorem vrow_cells {w : World} {h o m : Nat} {G : Nat → Value} (hr : isRow w h = true) (hG : cut (rowAt w h) o (o + m) = vlk m G) : ∀ j v, (vlk m G).toList[j]? = some v → w.cell? ((⟨h, o, none⟩ : Addr).add j) = some v := fun j v hv => by
  rw [add_mid, cell_row h _ hr]
  rw [← hG] at hv
  unfold cut at hv
  rw [Array.getElem?_toList, Array.getElem?_extract] at hv
  split at hv
  · exact hv
  · cases hv
/-- onto a row -/
theorem run_vappend (w : World) (t ty e : TypeId) (i : TypeInfo) (z : Value) (sz : Nat) (ht : P.underlying t = some (.slice e)) (hi : P.info? e = some i) (hz : i.zero = some z) (hsize : i.size = sz) (hby : i.bytes ≤ 128) (hzs : z.cells.size = sz)
    (g n cap : Nat) (F : Nat → Value) (hC : St w0 ((g, vlk (cap * sz) F) :: L) w) (hn : n ≤ cap)
    (h o m c : Nat) (G : Nat → Value) (hr : isRow w h = true) (hro : o + m * sz ≤ (rowAt w h).size) (hG : cut (rowAt w h) o (o + m * sz) = vlk (m * sz) G) (h1c : oneCells (vlk (m * sz) G) = true) (hbig : n + m ≤ 2 ^ 30) :
    ∃ g' cap' F' w', (Builtin.append_ #[t, t] ty #[.slice (some ⟨g, 0, none⟩) n cap, .slice (some ⟨h, o, none⟩) m c]).run P w = .ok (.slice (some ⟨g', 0, none⟩) (n + m) cap') w' ∧ n + m ≤ cap' ∧ (∀ i, i < (n + m) * sz → F' i = vglue (n * sz) F G i) ∧ St w0 ((g', vlk (cap' * sz) F') :: L) w' := by
  obtain ⟨⟨b1, b2⟩, r1, f1, i1⟩ := hC.rows (g, vlk (cap * sz) F) (by simp)
  by_cases hfit : n + m ≤ cap
  · have hmul : (n + m) * sz ≤ cap * sz := Nat.mul_le_mul_right _ hfit
    rw [Nat.add_mul] at hmul
    have hl := run_loadCells_row (P := P) (w := w) h o (m * sz) hr hro
    have hG' : (rowAt w h).extract o (o + m * sz) = vlk (m * sz) G := hG
    rw [hG'] at hl
    have hst := run_storeCells_row (P := P) (w := w) g (n * sz) (vlk (m * sz) G) f1 (by rw [r1, vlk_size, vlk_size]; exact hmul) h1c
    rw [r1] at hst
    have hp : paste (vlk (cap * sz) F) (n * sz) (vlk (m * sz) G) = vlk (cap * sz) fun i => if n * sz ≤ i ∧ i < n * sz + m * sz then G (i - n * sz) else F i := by
      refine vlk_ext (by rw [paste_size _ _ _ (by rw [vlk_size, vlk_size]; exact hmul), vlk_size]) fun j hj => ?_
      rw [paste_get _ _ _ (by rw [vlk_size, vlk_size]; exact hmul), vlk_size]
      split
      · rw [vlk_get _ _ _ (by omega)]
      · rw [vlk_get _ _ _ hj]
    rw [hp] at hst
    refine ⟨g, cap, (fun i => if n * sz ≤ i ∧ i < n * sz + m * sz then G (i - n * sz) else F i), w.setRow g (vlk (cap * sz) fun i => if n * sz ≤ i ∧ i < n * sz + m * sz then G (i - n * sz) else F i), ?_, hfit, fun j hj => ?_, hC.set_head _ (by simp only [vlk_size])⟩
    · simp [Builtin.append_, run_underlying ht, sizeOf, typeInfo, hi, hsize, Builtin.lenOf, Builtin.firstCells, hfit, hl, hst, add_mid]
    · rw [Nat.add_mul] at hj
      unfold vglue
      show (if n * sz ≤ j ∧ j < n * sz + m * sz then G (j - n * sz) else F j) = _
      by_cases h1 : j < n * sz
      · rw [if_neg (by omega), if_pos h1]
      · rw [if_pos (by omega), if_neg h1]
  · have hol : (vlk (n * sz) F).toList.length = n * i.size := by rw [hsize]; simp [vlk_size]
    have hnl : (vlk (m * sz) G).toList.length = m * i.size := by rw [hsize]; simp [vlk_size]
    have hmul : n * sz ≤ cap * sz := Nat.mul_le_mul_right _ hn
    have hc0 : cut (rowAt w g) 0 (0 + n * sz) = vlk (n * sz) F := by
      rw [r1, vcut _ _ _ _ (by omega)]
      congr 1; funext i; rw [Nat.zero_add]
    have holds := vrow_cells (w := w) (h := g) (o := 0) (m := n * sz) (G := F) i1 hc0
    have hrun := run_append_grow (P := P) w t ty e i z ht hi hz ⟨g, 0, none⟩ n cap (vlk (n * sz) F).toList hol holds ⟨h, o, none⟩ m c (vlk (m * sz) G).toList hnl (vrow_cells hr hG) (by omega) (by omega) (growslice_fits (by omega) (by have := Nat.mul_le_mul (show n + m ≤ 2 ^ 30 from hbig) hby; omega))
    have hge := grownCap_ge w (n + m) cap e
    rw [Array.toArray_toList, Array.toArray_toList] at hrun
    obtain ⟨X, hX⟩ : ∃ X, vlk (n * sz) F ++ vlk (m * sz) G ++ Builtin.zeroCells z.cells (grownCap w (n + m) cap e - (n + m)) = X := ⟨_, rfl⟩
    have hXs : X.size = grownCap w (n + m) cap e * sz := by
      rw [← hX]
      simp only [Array.size_append, vlk_size, Builtin.zeroCells, hzs]
      simp
      rw [← Nat.add_mul, ← Nat.add_mul]; congr 1; omega
    rw [hX] at hrun
    have hXv := vlk_of X
    rw [hXs] at hXv
    refine ⟨_, _, fun i => X.getD i undef, _, hrun, hge, fun j hj => ?_, ?_⟩
    · rw [Nat.add_mul] at hj
      show X.getD j undef = _
      rw [← hX, Array.getD_eq_getD_getElem?, Array.getElem?_append_left (by simp only [Array.size_append, vlk_size]; exact hj)]
      unfold vglue
      by_cases h1 : j < n * sz
      · rw [if_pos h1, Array.getElem?_append_left (by rw [vlk_size]; exact h1), vlk_get _ _ _ h1]; rfl
      · rw [if_neg h1, Array.getElem?_append_right (by rw [vlk_size]; omega), vlk_size, vlk_get _ _ _ (by omega)]; rfl
    · rw [← hXv]
      exact hC.drew.tail.pushA _ _ rfl
theorem wpList_vappend {ops : Array Oper} {rest : List Oper} {op : Oper} {a : Act} {Q : Exit → Act → World → Prop} {w : World} (hgd : op.guard = none) (s x : Operand) (t : TypeId) (ho : op.op = .call { callee := .builtin .append, args := #[s, x], argTypes := #[t, t] })
    (e : TypeId) (i : TypeInfo) (z : Value) (sz : Nat) (ht : P.underlying t = some (.slice e)) (hi : P.info? e = some i) (hz : i.zero = some z) (hsize : i.size = sz) (hby : i.bytes ≤ 128) (hzs : z.cells.size = sz)
    (g n cap : Nat) (F : Nat → Value) (hs : a.eval s = .slice (some ⟨g, 0, none⟩) n cap) (hC : St w0 ((g, vlk (cap * sz) F) :: L) w) (hn : n ≤ cap)
    (h o m c : Nat) (G : Nat → Value) (hx : a.eval x = .slice (some ⟨h, o, none⟩) m c) (hr : isRow w h = true) (hro : o + m * sz ≤ (rowAt w h).size) (hG : cut (rowAt w h) o (o + m * sz) = vlk (m * sz) G) (h1c : oneCells (vlk (m * sz) G) = true) (hbig : n + m ≤ 2 ^ 30)
    (k : ∀ g' cap' F' w', n + m ≤ cap' → (∀ i, i < (n + m) * sz → F' i = vglue (n * sz) F G i) → St w0 ((g', vlk (cap' * sz) F') :: L) w' → wpList P ops Q rest (a.put op.dst (.slice (some ⟨g', 0, none⟩) (n + m) cap')) w') : wpList P ops Q (op :: rest) a w :=
  wpList_plain hgd fun _ hK => by
    obtain ⟨g', cap', F', w', hrun, h1, h2, h3⟩ := run_vappend (P := P) w t op.type e i z sz ht hi hz hsize hby hzs g n cap F hC hn h o m c G hr hro hG h1c hbig
    unfold Oper.wp execOp
    simp only [ho, resolve, invoke, builtin, Sem.run_bind, Sem.run_pure, Result.andThen_ok, List.map_toArray, List.map_cons, List.map_nil, hs, hx, hrun]
    exact hK _ _ (k g' cap' F' w' h1 h2 h3)
end
end Go.Proofs.YtgaecjhghpkcoaaGreat
