/- Arrays of bytes as functions of the place: what is read of them and what is stored into them. No condition. -/
import Derived.Test.YtepooocdpifcfaaWords
import Derived.Laws.CopyOwn
namespace Go.Proofs.Ytepooocdpifcfaa
open Go.RowKit

/-- n bytes in a row -/
def blk (n : Nat) (f : Nat → UInt8) : Array Value := ((List.range n).map fun i => Value.int .u8 (B (f i))).toArray
/-- one of them turned -/
def upd (f : Nat → UInt8) (i : Nat) (v : UInt8) : Nat → UInt8 := fun j => if j = i then v else f j
theorem upd_same (f : Nat → UInt8) (i : Nat) (v : UInt8) : upd f i v i = v := by simp [upd]
theorem upd_other (f : Nat → UInt8) (i j : Nat) (v : UInt8) (h : j ≠ i) : upd f i v j = f j := by simp [upd, h]

theorem blk_size (n : Nat) (f : Nat → UInt8) : (blk n f).size = n := by simp [blk]
theorem blk_get (n : Nat) (f : Nat → UInt8) (i : Nat) (h : i < n) : (blk n f)[i]? = some (.int .u8 (B (f i))) := by simp [blk, h]
theorem blk_getE (n : Nat) (f : Nat → UInt8) (i : Nat) (h : i < (blk n f).size) : (blk n f)[i]'h = .int .u8 (B (f i)) := by
  have h' : i < n := by rw [blk_size] at h; exact h
  have := blk_get n f i h'
  rw [Array.getElem?_eq_getElem h] at this
  exact Option.some.inj this
theorem blk_set (n : Nat) (f : Nat → UInt8) (i : Nat) (v : UInt8) : (blk n f).setIfInBounds i (.int .u8 (B v)) = blk n (upd f i v) := by
  apply Array.ext_getElem?
  intro j
  by_cases hj : j < n
  · rw [blk_get n _ j hj]
    by_cases hij : i = j
    · subst hij; simp [blk_size, hj, upd]
    · rw [Array.getElem?_setIfInBounds_ne hij, blk_get n f j hj, upd_other _ _ _ _ (by omega)]
  · simp [blk_size, Nat.le_of_not_lt hj]
theorem blk_congr {n : Nat} {f g : Nat → UInt8} (h : ∀ i, i < n → f i = g i) : blk n f = blk n g := by
  unfold blk; congr 1
  apply List.map_congr_left
  intro i hi
  rw [h i (List.mem_range.1 hi)]
theorem blk_inj {n : Nat} {f g : Nat → UInt8} (h : blk n f = blk n g) : ∀ i, i < n → f i = g i := by
  intro i hi
  have h1 := blk_get n f i hi
  rw [h, blk_get n g i hi] at h1
  simp only [Option.some.injEq, Value.int.injEq, true_and] at h1
  exact (B_inj h1).symm
theorem blk_toList (n : Nat) (f : Nat → UInt8) : (blk n f).toList = (List.range n).map fun i => Value.int .u8 (B (f i)) := rfl

/-! ### a whole row of the call's own, written anew -/
theorem setRow_alloc_at {w : World} (c cs : Array Value) (t : TypeId) (n : Nat) (hn : n = w.heap.size) : (w.alloc (.cells c t)).setRow n cs = w.alloc (.cells cs t) := by
  subst hn
  unfold World.setRow World.alloc
  congr 1
  apply Array.ext_getElem?
  intro k
  simp only [Array.getElem?_modify, Array.getElem?_push]
  by_cases hk : k = w.heap.size
  · subst hk; simp
  · simp [hk, Ne.symm hk]
theorem setRow_alloc_past {w : World} (o : Obj) (n : Nat) (cs : Array Value) (hn : n < w.heap.size) : (w.alloc o).setRow n cs = (w.setRow n cs).alloc o := by
  unfold World.setRow World.alloc
  congr 1
  apply Array.ext_getElem?
  intro k
  simp only [Array.getElem?_modify, Array.getElem?_push, Array.size_modify]
  by_cases hk : k = w.heap.size
  · subst hk; simp [Nat.ne_of_lt hn]
  · simp [hk]
theorem setRow_drew {w : World} (n : Nat) (cs : Array Value) : w.drew.setRow n cs = (w.setRow n cs).drew := rfl
theorem setRow_drewN {w : World} (n k : Nat) (cs : Array Value) : (w.drewN k).setRow n cs = (w.setRow n cs).drewN k := rfl
theorem setCell_drewN {w : World} (k : Nat) (a : Addr) (v : Value) : (w.drewN k).setCell a v = (w.setCell a v).drewN k := rfl
theorem alloc_drewN {w : World} (k : Nat) (o : Obj) : (w.drewN k).alloc o = (w.alloc o).drewN k := rfl
theorem heap_alloc_at {w : World} (o : Obj) (n : Nat) (hn : n = w.heap.size) : (w.alloc o).heap[n]? = some o := by subst hn; exact heap_alloc_new w o
theorem heap_alloc_past {w : World} (o : Obj) (n : Nat) (hn : n < w.heap.size) : (w.alloc o).heap[n]? = w.heap[n]? := by
  show (w.heap.push o)[n]? = w.heap[n]?
  rw [Array.getElem?_push, if_neg (Nat.ne_of_lt hn)]
theorem heap_drew' {w : World} : w.drew.heap = w.heap := rfl

/-! ### the machine's operations on such rows -/
section
variable {P : Program}
theorem run_index_blk (t : TypeId) (n : Nat) (f : Nat → UInt8) (k : Nat) (w : World) (hu : P.underlying t = some (.array n (P.elem t))) (hs : (sizeOf (P.elem t)).run P w = .ok 1 w) (ha : (isAgg (P.elem t)).run P w = .ok false w) (hk : k < n) :
    (Instr.index t (.agg (blk n f)) (.int .i64 (k : Int))).run P w = .ok (.int .u8 (B (f k))) w := by
  simp [Instr.index, asIntOf, Sem.run_bind, run_underlying hu, part, hs, ha, blk_get n f k hk]
  intro h; omega

/-- are two rows the same? -/
def same (n : Nat) (f g : Nat → UInt8) : Bool := decide (∀ i, i < n → f i = g i)
theorem same_iff (n : Nat) (f g : Nat → UInt8) : same n f g = true ↔ ∀ i, i < n → f i = g i := by simp [same]
theorem same_refl (n : Nat) (f : Nat → UInt8) : same n f f = true := by simp [same]
theorem blk_eq_iff (n : Nat) (f g : Nat → UInt8) : (blk n f = blk n g) ↔ same n f g = true :=
  ⟨fun h => (same_iff _ _ _).2 (blk_inj h), fun h => blk_congr ((same_iff _ _ _).1 h)⟩

theorem run_part_blk (e : TypeId) (n : Nat) (f : Nat → UInt8) (k : Nat) (ha : P.underlying e = some (.int .u8)) (hk : k < n) (w : World) :
    (part e (blk n f) k).run P w = .ok (.int .u8 (B (f k))) w := by
  simp [part, isAgg, Sem.run_bind, run_underlying ha, blk_get n f k hk]

theorem run_all_list {w : World} (p : Nat → Bool) (body : Nat → Option Bool × Unit → Sem (ForInStep (Option Bool × Unit))) : ∀ (l : List Nat),
    (∀ i, i ∈ l → (body i (none, ())).run P w = .ok (if p i then .yield (none, ()) else .done (some false, ())) w) →
    (forIn l (none, ()) body).run P w = .ok (if ∀ i, i ∈ l → p i = true then (none, ()) else (some false, ())) w
  | [], _ => by simp
  | i :: l, h => by
    simp only [List.forIn_cons, Sem.run_bind, h i (by simp), Result.andThen_ok]
    by_cases hp : p i = true
    · simp only [hp, if_true]
      rw [run_all_list p body l (fun j hj => h j (by simp [hj]))]
      simp [hp]
    · have hp' : p i = false := by simpa using hp
      simp [hp']
theorem run_all_range {w : World} (n : Nat) (p : Nat → Bool) (body : Nat → Option Bool × Unit → Sem (ForInStep (Option Bool × Unit)))
    (h : ∀ i, i < n → (body i (none, ())).run P w = .ok (if p i then .yield (none, ()) else .done (some false, ())) w) :
    (forIn [0:n] (none, ()) body).run P w = .ok (if ∀ i, i < n → p i = true then (none, ()) else (some false, ())) w := by
  rw [Std.Legacy.Range.forIn_eq_forIn_range']
  rw [run_all_list p body _ (fun i hi => h i (by simp [Std.Legacy.Range.size] at hi; omega))]
  congr 1
  simp [Std.Legacy.Range.size]

theorem run_equalIn_blk (d : Nat) (t : TypeId) (n : Nat) (f g : Nat → UInt8) (w : World) (hu : P.underlying t = some (.array n (P.elem t))) (hz : (sizeOf (P.elem t)).run P w = .ok 1 w) (ha : P.underlying (P.elem t) = some (.int .u8)) :
    (Op.equalIn (d + 2) t (.agg (blk n f)) (.agg (blk n g))).run P w = .ok (same n f g) w := by
  rw [Op.equalIn]
  simp only [Sem.run_bind, run_underlying hu, Result.andThen_ok, hz]
  rw [run_all_range n (fun j => f j == g j) _ (fun j hj => by
    simp only [Nat.mul_one, Sem.run_bind, run_part_blk (P.elem t) n _ j ha hj, Result.andThen_ok, run_equalIn_int w d (P.elem t) .u8 .u8 _ _ ha]
    by_cases h : f j = g j
    · simp [h]
    · have h2 : (B (f j) == B (g j)) = false := by rw [beq_eq_false_iff_ne]; exact fun e => h (B_inj e)
      simp [h, h2])]
  by_cases h : ∀ j, j < n → (f j == g j) = true
  · rw [if_pos h]
    have hh : same n f g = true := (same_iff _ _ _).2 fun j hj => by simpa using h j hj
    rw [hh]; rfl
  · rw [if_neg h]
    have hh : same n f g = false := by
      cases hs : same n f g with
      | false => rfl
      | true => exact (h fun j hj => by simpa using (same_iff _ _ _).1 hs j hj).elim
    rw [hh]; rfl
end

end Go.Proofs.Ytepooocdpifcfaa
