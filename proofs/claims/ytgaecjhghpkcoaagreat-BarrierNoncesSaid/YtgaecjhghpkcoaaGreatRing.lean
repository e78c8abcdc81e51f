/- A ring of keys as a row of cells: how many there are, and six keys. What the machine's operations make of such rows. -/
import Derived.Test.YtgaecjhghpkcoaaGreatMGcmRef
namespace Go.Proofs.YtgaecjhghpkcoaaGreat
open Go.RowKit

/-- n keys, f their bytes -/
def rg (n : Nat) (f : Nat → UInt8) : Array Value := (Value.int .i64 (n : Int) :: (List.range 96).map fun i => Value.int .u8 (B (f i))).toArray
theorem rg_size (n : Nat) (f : Nat → UInt8) : (rg n f).size = 97 := by simp [rg]
theorem rg_get0 (n : Nat) (f : Nat → UInt8) : (rg n f)[0]? = some (.int .i64 (n : Int)) := by simp [rg]
theorem rg_getE0 (n : Nat) (f : Nat → UInt8) (h : 0 < (rg n f).size) : (rg n f)[0]'h = .int .i64 (n : Int) := by
  have := rg_get0 n f
  rw [Array.getElem?_eq_getElem h] at this
  exact Option.some.inj this
theorem rg_get (n : Nat) (f : Nat → UInt8) (i : Nat) : (rg n f)[1 + i]? = (blk 96 f)[i]? := by
  unfold rg blk
  rw [List.getElem?_toArray, List.getElem?_toArray, Nat.add_comm 1 i, List.getElem?_cons_succ]
theorem rg_ne (n : Nat) (f : Nat → UInt8) : (rg n f = #[]) = False := by
  simp only [eq_iff_iff, iff_false]
  intro h
  have := congrArg Array.size h
  rw [rg_size] at this; cases this
theorem rg_ext {n : Nat} {f : Nat → UInt8} {xs : Array Value} (h0 : xs.size = 97) (h1 : xs[0]? = some (.int .i64 (n : Int))) (h2 : ∀ i, i < 96 → xs[1 + i]? = some (.int .u8 (B (f i)))) : xs = rg n f := by
  apply Array.ext_getElem?
  intro i
  match i with
  | 0 => rw [h1, rg_get0]
  | i + 1 =>
    rw [Nat.add_comm i 1, rg_get]
    by_cases hi : i < 96
    · rw [h2 i hi, blk_get _ _ _ hi]
    · rw [Array.getElem?_eq_none (by omega), Array.getElem?_eq_none (by rw [blk_size]; omega)]
theorem rg_set0 (n m : Nat) (f : Nat → UInt8) : (rg n f).setIfInBounds 0 (.int .i64 (m : Int)) = rg m f := by
  refine rg_ext (by rw [Array.size_setIfInBounds, rg_size]) ?_ (fun i hi => ?_)
  · rw [Array.getElem?_setIfInBounds_self_of_lt (by rw [rg_size]; decide)]
  · rw [Array.getElem?_setIfInBounds_ne (by omega), rg_get, blk_get _ _ _ hi]
theorem rg_one (n : Nat) (f : Nat → UInt8) : oneCells (rg n f) = true := by
  simp [oneCells, rg, Value.oneCell']
theorem rg_cut (n : Nat) (f : Nat → UInt8) : cut (rg n f) 0 97 = rg n f := by
  unfold cut
  have := @Array.extract_size Value (rg n f)
  rwa [rg_size] at this
theorem rg_key (n : Nat) (f : Nat → UInt8) (o : Nat) (h : o + 16 ≤ 96) : cut (rg n f) (1 + o) (1 + o + 16) = blk 16 fun j => f (o + j) := by
  unfold cut
  apply Array.ext_getElem?
  intro j
  rw [Array.getElem?_extract, rg_size]
  by_cases hj : j < 16
  · rw [if_pos (by omega), Nat.add_assoc, rg_get, blk_get _ _ _ (by omega), blk_get _ _ _ hj]
  · rw [if_neg (by omega), Array.getElem?_eq_none (by rw [blk_size]; omega)]
theorem rg_put (n : Nat) (f x : Nat → UInt8) (o : Nat) (h : o + 16 ≤ 96) : paste (rg n f) (1 + o) (blk 16 x) = rg n (cpy f o x 0 16) := by
  refine rg_ext (by rw [paste_size _ _ _ (by rw [rg_size, blk_size]; omega), rg_size]) ?_ (fun i hi => ?_)
  · rw [paste_get _ _ _ (by rw [rg_size, blk_size]; omega), if_neg (by omega), rg_get0]
  · rw [paste_get _ _ _ (by rw [rg_size, blk_size]; omega), blk_size]
    unfold cpy
    by_cases h1 : o ≤ i ∧ i < o + 16
    · rw [if_pos (by omega), if_pos h1, blk_get _ _ _ (by omega), show 1 + i - (1 + o) = i - o by omega, Nat.zero_add]
    · rw [if_neg (by omega), if_neg h1, rg_get, blk_get _ _ _ hi]
theorem rg_paste (n m : Nat) (f g : Nat → UInt8) : paste (rg n f) 0 (rg m g) = rg m g := paste_whole _ _ (by rw [rg_size, rg_size])
theorem rg_congr {n : Nat} {f g : Nat → UInt8} (h : ∀ i, i < 96 → f i = g i) : rg n f = rg n g := by
  refine rg_ext (rg_size _ _) (rg_get0 _ _) (fun i hi => ?_)
  rw [rg_get, blk_get _ _ _ hi, h i hi]
section
variable {P : Program} {w : World}
theorem part_rg0 (t : TypeId) (n : Nat) (f : Nat → UInt8) (ha : (isAgg t).run P w = .ok false w) : (part t (rg n f) 0).run P w = .ok (.int .i64 (n : Int)) w := by
  simp [part, Sem.run_bind, ha, rg_get0]
theorem part_rg1 (t : TypeId) (n : Nat) (f : Nat → UInt8) (ha : (isAgg t).run P w = .ok true w) (hs : (sizeOf t).run P w = .ok 96 w) : (part t (rg n f) 1).run P w = .ok (.agg (blk 96 f)) w := by
  have hc : (rg n f).extract 1 (1 + 96) = blk 96 f := by
    apply Array.ext_getElem?
    intro j
    rw [Array.getElem?_extract, rg_size]
    by_cases hj : j < 96
    · rw [if_pos (by omega), rg_get]
    · rw [if_neg (by omega), Array.getElem?_eq_none (by rw [blk_size]; omega)]
  simp [part, Sem.run_bind, ha, hs, hc]
end
theorem zero97 : Tryz.zeroCells44 = rg 0 (fun _ => 0) := by kernel_rfl

/-! ### keys of a master -/
def deriveB (m : Nat → UInt8) (t : Nat) : Nat → UInt8 := Ci.sealB (Ci.rounds m) (upd (fun _ => 0) 15 (UInt8.ofNat t))
/-- a key more, at place n -/
def addB (f : Nat → UInt8) (n : Nat) (k : Nat → UInt8) : Nat → UInt8 := cpy f (n * 16) k 0 16
end Go.Proofs.YtgaecjhghpkcoaaGreat
