/- Rows of one-cell values in a call's own blocks: what a whole row, or a part of one, reads as, and what a store or a copy leaves; as rules for the walk. No condition beside those that each rule names. -/
import Derived.Test.YtepooocdpifcfaaArr
namespace Go.Proofs.Ytepooocdpifcfaa
open Go.RowKit

/-- the cells of a block -/
def rowAt (w : World) (g : Nat) : Array Value := match w.heap[g]? with | some (.cells cs _ _) => cs | _ => #[]
/-- is it a block of cells? -/
def isRow (w : World) (g : Nat) : Bool := match w.heap[g]? with | some (.cells _ _ _) => true | _ => false
/-- does the mark lie on none of n cells? -/
def unmarked (n : Nat) (fr : Nat × Nat) : Bool := decide (n ≤ fr.1 ∨ fr.2 ≤ fr.1)
theorem unmarked_zero (n : Nat) : unmarked n (0, 0) = true := by simp [unmarked]
theorem unmarked_end (n m : Nat) : unmarked n (n, m) = true := by simp [unmarked]
/-- .. that may be written? -/
def freeRow (w : World) (g : Nat) : Bool := match w.heap[g]? with | some (.cells cs _ fr) => unmarked cs.size fr | _ => false
def oneCells (cs : Array Value) : Bool := cs.all (·.oneCell')
/-- cells laid over a row -/
def paste (xs : Array Value) (o : Nat) (cs : Array Value) : Array Value := (xs.toList.take o ++ cs.toList ++ xs.toList.drop (o + cs.size)).toArray
/-- a part of a row -/
def cut (xs : Array Value) (a b : Nat) : Array Value := xs.extract a b
/-- a type's size, as the machine reckons it -/
def szOf (P : Program) (t : TypeId) (w : World) : Nat := match (sizeOf t).run P w with | .ok n _ => n | _ => 0

theorem freeRow_isRow {w : World} {g : Nat} (h : freeRow w g = true) : ∃ cs t fr, w.heap[g]? = some (.cells cs t fr) ∧ rowAt w g = cs ∧ unmarked cs.size fr = true := by
  unfold freeRow at h
  split at h
  · rename_i cs t fr hh
    exact ⟨cs, t, fr, hh, by simp [rowAt, hh], h⟩
  · cases h
theorem isRow_cells {w : World} {g : Nat} (h : isRow w g = true) : ∃ cs t fr, w.heap[g]? = some (.cells cs t fr) ∧ rowAt w g = cs := by
  unfold isRow at h
  split at h
  · rename_i cs t fr hh
    exact ⟨cs, t, fr, hh, by simp [rowAt, hh]⟩
  · cases h
theorem isRow_of_free {w : World} {g : Nat} (h : freeRow w g = true) : isRow w g = true := by
  obtain ⟨cs, t, fr, hh, _, _⟩ := freeRow_isRow h
  simp [isRow, hh]

/-! ### in which world -/
section
variable {w : World}
theorem heap_alloc_if (o : Obj) (n : Nat) : (w.alloc o).heap[n]? = if n = w.heap.size then some o else w.heap[n]? := by
  show (w.heap.push o)[n]? = _
  rw [Array.getElem?_push]
theorem rowAt_alloc (c : Array Value) (t : TypeId) (fr : Nat × Nat) (n : Nat) : rowAt (w.alloc (.cells c t fr)) n = if n = w.heap.size then c else rowAt w n := by
  unfold rowAt; rw [heap_alloc_if]
  by_cases h : n = w.heap.size
  · simp [h]
  · simp [h]
theorem isRow_alloc (c : Array Value) (t : TypeId) (fr : Nat × Nat) (n : Nat) : isRow (w.alloc (.cells c t fr)) n = if n = w.heap.size then true else isRow w n := by
  unfold isRow; rw [heap_alloc_if]
  by_cases h : n = w.heap.size
  · simp [h]
  · simp [h]
theorem freeRow_mark (c : Array Value) (t : TypeId) (fr : Nat × Nat) (n : Nat) : freeRow (w.alloc (.cells c t fr)) n = if n = w.heap.size then unmarked c.size fr else freeRow w n := by
  unfold freeRow; rw [heap_alloc_if]
  by_cases h : n = w.heap.size
  · simp [h]
  · simp [h]
theorem freeRow_alloc (c : Array Value) (t : TypeId) (n : Nat) : freeRow (w.alloc (.cells c t)) n = if n = w.heap.size then true else freeRow w n := by
  rw [freeRow_mark, unmarked_zero]
theorem freeRow_end (c : Array Value) (t : TypeId) (m n : Nat) : freeRow (w.alloc (.cells c t (c.size, m))) n = if n = w.heap.size then true else freeRow w n := by
  rw [freeRow_mark, unmarked_end]
theorem rowAt_drew (n : Nat) : rowAt w.drew n = rowAt w n := rfl
theorem rowAt_drewN (n k : Nat) : rowAt (w.drewN k) n = rowAt w n := rfl
theorem isRow_drew (n : Nat) : isRow w.drew n = isRow w n := rfl
theorem isRow_drewN (n k : Nat) : isRow (w.drewN k) n = isRow w n := rfl
theorem freeRow_drew (n : Nat) : freeRow w.drew n = freeRow w n := rfl
theorem freeRow_drewN (n k : Nat) : freeRow (w.drewN k) n = freeRow w n := rfl
theorem setRow_alloc (c cs : Array Value) (t : TypeId) (fr : Nat × Nat) (n : Nat) : (w.alloc (.cells c t fr)).setRow n cs = if n = w.heap.size then w.alloc (.cells cs t fr) else (w.setRow n cs).alloc (.cells c t fr) := by
  split
  · rename_i h; subst h
    unfold World.setRow World.alloc
    congr 1
    apply Array.ext_getElem?
    intro k
    simp only [Array.getElem?_modify, Array.getElem?_push]
    by_cases hk : k = w.heap.size
    · subst hk; simp
    · simp [hk, Ne.symm hk]
  · rename_i h
    unfold World.setRow World.alloc
    congr 1
    apply Array.ext_getElem?
    intro k
    simp only [Array.getElem?_modify, Array.getElem?_push, Array.size_modify]
    by_cases hk : k = w.heap.size
    · subst hk; simp [h]
    · simp [hk]
theorem cell_row (g i : Nat) (h : isRow w g = true) : w.cell? ⟨g, i, none⟩ = (rowAt w g)[i]? := by
  obtain ⟨cs, t, fr, hh, hr⟩ := isRow_cells h
  rw [hr]; simp [World.cell?, hh]
theorem frozen_row (g i : Nat) (h : freeRow w g = true) (hi : i < (rowAt w g).size) : w.frozen? ⟨g, i, none⟩ = false := by
  obtain ⟨cs, t, fr, hh, hr, hu⟩ := freeRow_isRow h
  rw [hr] at hi
  obtain ⟨lo, up⟩ := fr
  simp only [unmarked, decide_eq_true_eq] at hu
  simp only [World.frozen?, hh, Bool.and_eq_false_iff, decide_eq_false_iff_not]
  omega
end

/-! ### rows of bytes -/
theorem oneCells_blk (n : Nat) (f : Nat → UInt8) : oneCells (blk n f) = true := by
  simp [oneCells, blk, Value.oneCell']
/-- g's bytes from o on, n of them -/
def cpy (f : Nat → UInt8) (o : Nat) (g : Nat → UInt8) (o' n : Nat) : Nat → UInt8 := fun j => if o ≤ j ∧ j < o + n then g (o' + (j - o)) else f j
theorem paste_size (xs : Array Value) (o : Nat) (cs : Array Value) (h : o + cs.size ≤ xs.size) : (paste xs o cs).size = xs.size := by
  simp [paste]; omega
theorem paste_get (xs : Array Value) (o : Nat) (cs : Array Value) (h : o + cs.size ≤ xs.size) (j : Nat) : (paste xs o cs)[j]? = if o ≤ j ∧ j < o + cs.size then cs[j - o]? else xs[j]? := by
  unfold paste
  rw [List.getElem?_toArray, List.append_assoc]
  by_cases h1 : j < o
  · rw [List.getElem?_append_left (by simp; omega), List.getElem?_take, if_pos h1, if_neg (by omega)]
    simp
  · rw [List.getElem?_append_right (by simp; omega)]
    simp only [List.length_take, Array.length_toList]
    rw [Nat.min_eq_left (by omega)]
    by_cases h2 : j < o + cs.size
    · rw [if_pos ⟨by omega, h2⟩, List.getElem?_append_left (by simp only [Array.length_toList]; omega)]
      simp
    · rw [if_neg (by omega), List.getElem?_append_right (by simp only [Array.length_toList]; omega)]
      simp only [Array.length_toList, List.getElem?_drop]
      rw [show o + cs.size + (j - o - cs.size) = j by omega]
      simp
theorem paste_blk (N n : Nat) (f g : Nat → UInt8) (o : Nat) (h : o + n ≤ N) : paste (blk N f) o (blk n g) = blk N (cpy f o g 0 n) := by
  apply Array.ext_getElem?
  intro j
  rw [paste_get _ _ _ (by rw [blk_size, blk_size]; exact h), blk_size]
  by_cases hj : j < N
  · rw [blk_get N (cpy f o g 0 n) j hj]
    split
    · rename_i h1
      have e : cpy f o g 0 n j = g (j - o) := by unfold cpy; rw [if_pos h1, Nat.zero_add]
      rw [e, blk_get n g _ (by omega)]
    · rename_i h1
      have e : cpy f o g 0 n j = f j := by unfold cpy; rw [if_neg h1]
      rw [e, blk_get N f j hj]
  · rw [if_neg (by omega)]
    simp [blk_size, Nat.le_of_not_lt hj]
theorem paste_all (n : Nat) (f g : Nat → UInt8) : paste (blk n f) 0 (blk n g) = blk n g := by
  rw [paste_blk n n f g 0 (by omega)]
  exact blk_congr fun i hi => by simp [cpy, hi]
theorem cut_blk (N : Nat) (f : Nat → UInt8) (a b : Nat) (h : b ≤ N) : cut (blk N f) a b = blk (b - a) (fun j => f (a + j)) := by
  unfold cut
  apply Array.ext_getElem?
  intro j
  rw [Array.getElem?_extract, blk_size, Nat.min_eq_left h]
  by_cases hj : j < b - a
  · rw [if_pos (by omega), blk_get N f _ (by omega), blk_get _ _ j hj]
  · rw [if_neg (by omega)]
    simp [blk_size, Nat.le_of_not_lt hj]

theorem cut_head (N : Nat) (f : Nat → UInt8) (b : Nat) (h : b ≤ N) : cut (blk N f) 0 b = blk b f := by
  rw [cut_blk N f 0 b h, Nat.sub_zero]
  exact blk_congr fun i _ => by rw [Nat.zero_add]

/-! ### the machine's operations -/
section
variable {P : Program} {w : World}
theorem add_mid (g o j : Nat) : (⟨g, o, none⟩ : Addr).add j = ⟨g, o + j, none⟩ := by unfold Addr.add; split <;> simp_all

theorem run_loadCells_row (g o n : Nat) (hr : isRow w g = true) (hn : o + n ≤ (rowAt w g).size) :
    (loadCells ⟨g, o, none⟩ n).run P w = .ok ((rowAt w g).extract o (o + n)) w := by
  have hl : ((rowAt w g).extract o (o + n)).toList.length = n := by simp; omega
  have := run_loadCells_list (P := P) w ⟨g, o, none⟩ ((rowAt w g).extract o (o + n)).toList (fun j v hv => by
    rw [add_mid, cell_row g _ hr]
    have hj : j < n := by
      have := (List.getElem?_eq_some_iff.1 hv).1; omega
    rw [Array.getElem?_toList, Array.getElem?_extract, if_pos (by omega)] at hv
    exact hv)
  rw [hl, Array.toArray_toList] at this
  exact this

theorem run_loadVar_rows (ty : TypeId) (g o : Nat) (ha : (isAgg ty).run P w = .ok true w) (hs : (sizeOf ty).run P w = .ok (szOf P ty w) w) (hr : isRow w g = true) (hn : o + szOf P ty w ≤ (rowAt w g).size) :
    (loadVar ty ⟨g, o, none⟩).run P w = .ok (.agg ((rowAt w g).extract o (o + szOf P ty w))) w := by
  have hl := run_loadCells_row (P := P) g o (szOf P ty w) hr hn
  simp [Sem.run_bind, loadVar, ha, hs, hl]
/-- a whole array, out of a row -/
theorem run_loadAt_row (ty : TypeId) (g o : Nat) (ha : (isAgg ty).run P w = .ok true w) (hs : (sizeOf ty).run P w = .ok (szOf P ty w) w) (hr : isRow w g = true) (hn : o + szOf P ty w ≤ (rowAt w g).size) :
    (Instr.loadAt ty (.pointer (some ⟨g, o, none⟩))).run P w = .ok (.agg ((rowAt w g).extract o (o + szOf P ty w))) w := by
  have hl := run_loadCells_row (P := P) g o (szOf P ty w) hr hn
  simp [Instr.loadAt, Instr.sureAddr, Sem.run_bind, loadVar, ha, hs, hl]

theorem list_put {α : Type} (c : List α) (k : Nat) (v : α) (vs : List α) (h : k < c.length) : (c.set k v).take (k + 1) ++ vs ++ (c.set k v).drop (k + 1 + vs.length) = c.take k ++ v :: vs ++ c.drop (k + (vs.length + 1)) := by
  have hl : (c.take k).length = k := by simp; omega
  have e1 : (c.set k v).take (k + 1) = c.take k ++ [v] := by
    rw [List.set_eq_take_append_cons_drop, if_pos h, List.take_append, hl, List.take_of_length_le (by omega), Nat.add_sub_cancel_left]; rfl
  have e2 : (c.set k v).drop (k + 1 + vs.length) = c.drop (k + (vs.length + 1)) := by
    rw [List.drop_set_of_lt (by omega)]; congr 1; omega
  rw [e1, e2]; simp
/-- cells are stored one by one into a row of which none is marked -/
theorem run_storeCells_free (g o : Nat) (t : TypeId) (fr : Nat × Nat) : ∀ (vs : List Value) (i : Nat) (cur : Array Value) (w : World), w.heap[g]? = some (.cells cur t fr) → unmarked cur.size fr = true → o + i + vs.length ≤ cur.size → (∀ v ∈ vs, v.oneCell' = true) →
    (storeCells ⟨g, o, none⟩ vs i).run P w = .ok () (w.setRow g (cur.toList.take (o + i) ++ vs ++ cur.toList.drop (o + i + vs.length)).toArray)
  | [], i, cur, w, hg, _, _, _ => by
    simp only [storeCells, List.append_nil, List.length_nil, Nat.add_zero, List.take_append_drop, Array.toArray_toList]
    rw [setRow_self w g cur t fr hg]
    rfl
  | v :: vs, i, cur, w, hg, hu, hl, h1 => by
    simp only [List.length_cons] at hl
    have hi : o + i < cur.size := by omega
    have hc : w.cell? ⟨g, o + i, none⟩ = some cur[o + i] := by simp [World.cell?, hg, hi]
    have hf : w.frozen? ⟨g, o + i, none⟩ = false := by
      refine frozen_row g (o + i) ?_ ?_
      · simpa [freeRow, hg] using hu
      · simpa [rowAt, hg] using hi
    have hst : (store ((⟨g, o, none⟩ : Addr).add i) v).run P w = .ok () (w.setRow g (cur.setIfInBounds (o + i) v)) := by
      rw [add_mid, run_store P w _ v _ (h1 v (by simp)), hc]
      simp [hf, setCell_eq_setRow w g (o + i) cur t fr v hg]
    have ih := run_storeCells_free g o t fr vs (i + 1) (cur.setIfInBounds (o + i) v) (w.setRow g (cur.setIfInBounds (o + i) v)) (setRow_heap w g cur _ t _ hg) (by simpa using hu) (by simp; omega) (fun x hx => h1 x (by simp [hx]))
    simp only [storeCells, Sem.run_bind, hst, Result.andThen_ok, ih, setRow_setRow]
    have e := list_put cur.toList (o + i) v vs (by simpa using hi)
    rw [Array.toList_setIfInBounds, ← Nat.add_assoc, e]
    rfl
theorem run_storeCells_row (g o : Nat) (cs : Array Value) (hr : freeRow w g = true) (hn : o + cs.size ≤ (rowAt w g).size) (h1 : oneCells cs = true) :
    (storeCells ⟨g, o, none⟩ cs.toList).run P w = .ok () (w.setRow g (paste (rowAt w g) o cs)) := by
  obtain ⟨cur, t, fr, hg, hrow, hu⟩ := freeRow_isRow hr
  rw [hrow] at hn ⊢
  have := run_storeCells_free (P := P) g o t fr cs.toList 0 cur w hg hu (by simpa using hn) (fun v hv => by
    unfold oneCells at h1; rw [Array.all_eq_true_iff_forall_mem] at h1; exact h1 v (by simpa using hv))
  simpa [paste] using this

theorem run_storeVar_rows (ty : TypeId) (g o : Nat) (cs : Array Value) (hs : (sizeOf ty).run P w = .ok cs.size w) (hr : freeRow w g = true) (hn : o + cs.size ≤ (rowAt w g).size) (h1 : oneCells cs = true) :
    (storeVar ty ⟨g, o, none⟩ (.agg cs)).run P w = .ok () (w.setRow g (paste (rowAt w g) o cs)) := by
  have hl := run_storeCells_row (P := P) g o cs hr hn h1
  simp [Sem.run_bind, storeVar, Value.cells, hs, hl]
/-- a whole array, into a row -/
theorem run_storeAt_row (ty : TypeId) (g o : Nat) (cs : Array Value) (hs : (sizeOf ty).run P w = .ok cs.size w) (hr : freeRow w g = true) (hn : o + cs.size ≤ (rowAt w g).size) (h1 : oneCells cs = true) :
    (Instr.storeAt ty (.pointer (some ⟨g, o, none⟩)) (.agg cs)).run P w = .ok () (w.setRow g (paste (rowAt w g) o cs)) := by
  have hl := run_storeCells_row (P := P) g o cs hr hn h1
  simp [Instr.storeAt, Instr.sureAddr, Sem.run_bind, storeVar, Value.cells, hs, hl]

/-- copy, from a row into a row -/
theorem run_copy_rows (dT sT ty : TypeId) (g o dLen dCap g' o' sLen sCap : Nat) (hu : P.underlying dT = some (.slice (P.elem dT))) (hs : (sizeOf (P.elem dT)).run P w = .ok 1 w)
    (hr : freeRow w g = true) (hr' : isRow w g' = true) (hn : o + min sLen dLen ≤ (rowAt w g).size) (hn' : o' + min sLen dLen ≤ (rowAt w g').size) (h1 : oneCells ((rowAt w g').extract o' (o' + min sLen dLen)) = true) :
    (Builtin.copy_ #[dT, sT] ty #[.slice (some ⟨g, o, none⟩) dLen dCap, .slice (some ⟨g', o', none⟩) sLen sCap]).run P w =
      .ok (goInt (min sLen dLen : Nat)) (w.setRow g (paste (rowAt w g) o ((rowAt w g').extract o' (o' + min sLen dLen)))) := by
  have hl := run_loadCells_row (P := P) g' o' (min sLen dLen) hr' hn'
  have hsz : ((rowAt w g').extract o' (o' + min sLen dLen)).size = min sLen dLen := by simp; omega
  have hst := run_storeCells_row (P := P) g o ((rowAt w g').extract o' (o' + min sLen dLen)) hr (by rw [hsz]; exact hn) h1
  have hm : Nat.min sLen dLen = min sLen dLen := rfl
  simp only [Builtin.copy_, List.getElem?_toArray, List.getElem?_cons_zero, List.getElem?_cons_succ, Sem.run_bind, run_underlying hu, Result.andThen_ok, Builtin.lenOf, Sem.run_pure, hs, Builtin.firstCells, Nat.mul_one, hm, hl, hst]

/-! ### the same as rules for the walk: an operation is first put behind a name, so that its operands are reckoned before it is laid open -/
def loadS (ty : TypeId) (x : Value) : Sem Value := Instr.loadAt ty x
def storeS (ty : TypeId) (x v : Value) : Sem Unit := Instr.storeAt ty x v
def indexS (ty : TypeId) (x i : Value) : Sem Value := Instr.index ty x i
def copyS (ts : Array TypeId) (ty : TypeId) (xs : Array Value) : Sem Value := Builtin.copy_ ts ty xs
theorem loadS_in (ty : TypeId) (x : Value) : Instr.loadAt ty x = loadS ty x := rfl
theorem storeS_in (ty : TypeId) (x v : Value) : Instr.storeAt ty x v = storeS ty x v := rfl
theorem indexS_in (ty : TypeId) (x i : Value) : Instr.index ty x i = indexS ty x i := rfl
theorem copyS_in (ts : Array TypeId) (ty : TypeId) (xs : Array Value) : Builtin.copy_ ts ty xs = copyS ts ty xs := rfl
theorem loadS_row (ty : TypeId) (g o : Nat) (ha : (isAgg ty).run P w = .ok true w) (hs : (sizeOf ty).run P w = .ok (szOf P ty w) w) (hr : isRow w g = true) (hn : o + szOf P ty w ≤ (rowAt w g).size) :
    (loadS ty (.pointer (some ⟨g, o, none⟩))).run P w = .ok (.agg (cut (rowAt w g) o (o + szOf P ty w))) w := run_loadAt_row ty g o ha hs hr hn
theorem loadS_one (ty : TypeId) (a : Addr) (ha : (isAgg ty).run P w = .ok false w) : (loadS ty (.pointer (some a))).run P w = (load a).run P w := by
  simp [loadS, Instr.loadAt, Instr.sureAddr, Sem.run_bind, loadVar, ha]
theorem storeS_row (ty : TypeId) (g o : Nat) (cs : Array Value) (hs : (sizeOf ty).run P w = .ok cs.size w) (hr : freeRow w g = true) (hn : o + cs.size ≤ (rowAt w g).size) (h1 : oneCells cs = true) :
    (storeS ty (.pointer (some ⟨g, o, none⟩)) (.agg cs)).run P w = .ok () (w.setRow g (paste (rowAt w g) o cs)) := run_storeAt_row ty g o cs hs hr hn h1
theorem storeS_one (ty : TypeId) (a : Addr) (v : Value) (_ha : (isAgg ty).run P w = .ok false w) : (storeS ty (.pointer (some a)) v).run P w = (storeVar ty a v).run P w := by
  simp [storeS, Instr.storeAt, Instr.sureAddr]
theorem indexS_blk (t : TypeId) (n : Nat) (f : Nat → UInt8) (k : Nat) (hu : P.underlying t = some (.array n (P.elem t))) (hs : (sizeOf (P.elem t)).run P w = .ok 1 w) (ha : (isAgg (P.elem t)).run P w = .ok false w) (hk : k < n) :
    (indexS t (.agg (blk n f)) (.int .i64 (k : Int))).run P w = .ok (.int .u8 (B (f k))) w := run_index_blk t n f k w hu hs ha hk
theorem copyS_rows (dT sT ty : TypeId) (g o dLen dCap g' o' sLen sCap : Nat) (hu : P.underlying dT = some (.slice (P.elem dT))) (hs : (sizeOf (P.elem dT)).run P w = .ok 1 w)
    (hr : freeRow w g = true) (hr' : isRow w g' = true) (hn : o + min sLen dLen ≤ (rowAt w g).size) (hn' : o' + min sLen dLen ≤ (rowAt w g').size) (h1 : oneCells (cut (rowAt w g') o' (o' + min sLen dLen)) = true) :
    (copyS #[dT, sT] ty #[.slice (some ⟨g, o, none⟩) dLen dCap, .slice (some ⟨g', o', none⟩) sLen sCap]).run P w =
      .ok (goInt (min sLen dLen : Nat)) (w.setRow g (paste (rowAt w g) o (cut (rowAt w g') o' (o' + min sLen dLen)))) := run_copy_rows dT sT ty g o dLen dCap g' o' sLen sCap hu hs hr hr' hn hn' h1

theorem arrayAt_row (arr : TypeId) (a : Option Addr) (len cap : Nat) (h : P.underlying arr = some (.array (P.arrayLen arr) (P.elem arr))) (hn : P.arrayLen arr ≤ len) : (Instr.arrayAt arr (.slice a len cap)).run P w = .ok (.pointer a) w :=
  run_arrayAt w arr (P.elem arr) (P.arrayLen arr) a len cap h hn

/-- the result of a function that lies in a row -/
theorem results_row {fn : Func} {p : Tmp} {ty : TypeId} (h : fn.results = #[.cell p ty]) (tmps : Array Value) (g : Nat) (hp : tmps.getD p undef = .pointer (some ⟨g, 0, none⟩)) (cs : Array Value) (hc : rowAt w g = cs)
    (ha : (isAgg ty).run P w = .ok true w) (hs : (sizeOf ty).run P w = .ok cs.size w) (hr : isRow w g = true) :
    (results fn tmps).run P w = .ok (.agg cs) w := by
  have hp' : tmps[p]?.getD undef = .pointer (some ⟨g, 0, none⟩) := by simpa using hp
  have hl := run_loadCells_row (P := P) g 0 cs.size hr (by rw [hc]; omega)
  rw [hc] at hl
  simp only [Nat.zero_add, Array.extract_size] at hl
  simp [results, h, hp', asAddr, loadVar, Sem.run_bind, ha, hs, hl]
theorem rowAt_setRow (g n : Nat) (cs : Array Value) (h : isRow w g = true) : rowAt (w.setRow g cs) n = if n = g then cs else rowAt w n := by
  obtain ⟨c0, t, fr, hh, _⟩ := isRow_cells h
  by_cases hn : n = g
  · subst hn; unfold rowAt; rw [setRow_heap w n c0 cs t fr hh]; simp
  · unfold rowAt; rw [setRow_other w g n cs hn]; simp [hn]
theorem isRow_setRow (g n : Nat) (cs : Array Value) : isRow (w.setRow g cs) n = isRow w n := by
  by_cases hn : n = g
  · subst hn
    unfold isRow World.setRow
    simp only [Array.getElem?_modify, if_true]
    cases w.heap[n]? with
    | none => rfl
    | some o => cases o <;> rfl
  · unfold isRow; rw [setRow_other w g n cs hn]
theorem freeRow_setRow (g n : Nat) (cs : Array Value) (hs : cs.size = (rowAt w g).size) : freeRow (w.setRow g cs) n = freeRow w n := by
  by_cases hn : n = g
  · subst hn
    unfold rowAt at hs
    unfold freeRow World.setRow
    simp only [Array.getElem?_modify, if_true]
    cases hh : w.heap[n]? with
    | none => rfl
    | some o =>
      rw [hh] at hs
      cases o <;> first | rfl | (simp only at hs; simp [hs])
  · unfold freeRow; rw [setRow_other w g n cs hn]
/-- the same two as rules that ask nothing -/
theorem rowAt_put (g n : Nat) (cs : Array Value) : rowAt (w.setRow g cs) n = if n = g then (if isRow w g = true then cs else rowAt w g) else rowAt w n := by
  by_cases h : isRow w g = true
  · rw [rowAt_setRow g n cs h, if_pos h]
  · rw [if_neg h]
    have h2 : isRow (w.setRow g cs) g = false := by rw [isRow_setRow]; simpa using h
    by_cases hn : n = g
    · subst hn
      have e : ∀ v : World, isRow v n = false → rowAt v n = #[] := fun v hv => by
        unfold isRow at hv; unfold rowAt
        cases hh : v.heap[n]? with
        | none => rfl
        | some o => rw [hh] at hv; cases o <;> first | rfl | (simp at hv)
      rw [if_pos rfl, e _ h2, e _ (by simpa using h)]
    · rw [if_neg hn]; unfold rowAt; rw [setRow_other w g n cs hn]
def freeElse (w : World) (g n : Nat) (cs : Array Value) : Bool := freeRow (w.setRow g cs) n
theorem freeRow_put (g n : Nat) (cs : Array Value) : freeRow (w.setRow g cs) n = if cs.size = (rowAt w g).size then freeRow w n else freeElse w g n cs := by
  split
  · rename_i h; exact freeRow_setRow g n cs h
  · rfl
theorem below_rowAt {B g : Nat} {a w : World} (h : Below B a w) (hg : g < B) : rowAt w g = rowAt a g := by unfold rowAt; rw [h.block g hg]
theorem below_isRow {B g : Nat} {a w : World} (h : Below B a w) (hg : g < B) : isRow w g = isRow a g := by unfold isRow; rw [h.block g hg]
theorem below_freeRow {B g : Nat} {a w : World} (h : Below B a w) (hg : g < B) : freeRow w g = freeRow a g := by unfold freeRow; rw [h.block g hg]
theorem below_setRow' {B g : Nat} {a w : World} (h : Below B a w) (hg : B ≤ g) (cs : Array Value) : Below B a (w.setRow g cs) := below_setRow h hg cs
/-- one row of the call's own, held through a region -/
theorem held_call {w0 wa wb : World} {g : Nat} {c : Array Value} (hb : Below wa.heap.size wa wb) (h : rowAt wa g = c ∧ isRow wa g = true ∧ g < wa.heap.size ∧ Below w0.heap.size w0 wa) :
    rowAt wb g = c ∧ isRow wb g = true ∧ g < wb.heap.size ∧ Below w0.heap.size w0 wb :=
  ⟨(below_rowAt hb h.2.2.1).trans h.1, (below_isRow hb h.2.2.1).trans h.2.1, Nat.lt_of_lt_of_le h.2.2.1 hb.size, h.2.2.2.trans (hb.mono h.2.2.2.size)⟩
theorem held_drewN {w0 wa : World} {g : Nat} {c : Array Value} (h : rowAt wa g = c ∧ isRow wa g = true ∧ g < wa.heap.size ∧ Below w0.heap.size w0 wa) (n : Nat) :
    rowAt (wa.drewN n) g = c ∧ isRow (wa.drewN n) g = true ∧ g < (wa.drewN n).heap.size ∧ Below w0.heap.size w0 (wa.drewN n) :=
  ⟨h.1, h.2.1, h.2.2.1, ⟨h.2.2.2.os, h.2.2.2.tape, h.2.2.2.output, h.2.2.2.size, h.2.2.2.block⟩⟩
theorem below_drewN {B n : Nat} {a w : World} (h : Below B a w) : Below B a (w.drewN n) := ⟨h.os, h.tape, h.output, h.size, h.block⟩
end

end Go.Proofs.Ytepooocdpifcfaa
