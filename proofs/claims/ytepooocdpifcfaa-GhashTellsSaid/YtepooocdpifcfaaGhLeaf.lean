/- The program's small functions of a block's halves. No condition but that numbers are blocks. -/
import Derived.Test.YtepooocdpifcfaaGhWide
import Derived.Test.YtepooocdpifcfaaCiWalk
namespace Go.Proofs.Ytepooocdpifcfaa
open Go.RowKit
attribute [local go_sem] B_xor B_or B_and
attribute [local go_sem] blk_set blk_size blk_get blk_getE upd_same oneCells_blk paste_blk cut_blk szOf
attribute [local go_sem high] paste_all cut_head
attribute [local go_sem] rowAt_alloc rowAt_drew rowAt_drewN isRow_alloc isRow_drew isRow_drewN freeRow_alloc freeRow_end freeRow_drew freeRow_drewN
attribute [local go_sem] setRow_alloc setRow_drew setRow_drewN setCell_drewN alloc_drewN rowAt_put isRow_setRow freeRow_put
attribute [local go_sem ↓] loadS_in storeS_in indexS_in copyS_in
attribute [local go_sem] loadS_row loadS_one storeS_row storeS_one indexS_blk copyS_rows run_equalIn_blk same_refl arrayAt_row
attribute [local go_sem] cell_row frozen_row st_setCell st_blk_ne stepAt stepUpon
attribute [local go_sem high] run_eql_blk run_neq_blk
attribute [local go_sem] U_xor U_or U_and U_and1 U_tail U_neg U_half U_shr U_shl8 U_shl63 U_of U_to pr_size pr_get0 pr_get1 pr_getE0 pr_getE1 pr_set0 pr_set1 pr_ne oneCells_pr paste_pr cut_pr
attribute [local go_sem] wide_size wide_get0 wide_get1 wide_getE0 wide_getE1 wide_ne oneCells_wide paste_wide cut_wide
theorem size_wide (w : World) : (sizeOf 63).run Try.prog w = .ok 2 w := by simp [go_sem]
theorem agg_wide (w : World) : (isAgg 63).run Try.prog w = .ok true w := by simp [go_sem]
attribute [local go_sem] size_wide agg_wide

set_option maxRecDepth 100000 in
theorem double_any (v : Nat) (hv : Gh.Ok v) (w : World) : Calls Try.prog 59 #[.agg (wide v)] w fun e w' => e = .returned (.agg (wide (Gh.dbl v))) ∧ Below w.heap.size w w' := by
  have hz := pr_zero
  have e1 := hi_dbl hv
  have e2 := lo_dbl hv
  go_enter Try.func59, Try.ntmps59
  go_wp2_with fail
  refine bodyPost_ret (results_row rfl _ (w.heap.size + 1) rfl (wide (Gh.dbl v)) (by simp [go_sem]; rfl) (by simp [go_sem]) (by simp [go_sem]) (by simp [go_sem])) rfl ⟨rfl, ?_⟩
  exact ((Below.refl _ _).alloc (Nat.le_refl _) _).alloc (by simp) _

set_option maxRecDepth 100000 in
theorem plus_any (x y : Nat) (hx : Gh.Ok x) (hy : Gh.Ok y) (b : UInt64) (c : Bool) (hb : b = if c = true then 1 else 0) (w : World) : Calls Try.prog 42 #[.agg (wide x), .agg (wide y), .int .u64 (U b)] w fun e w' => e = .returned (.agg (wide (x ^^^ if c = true then y else 0))) ∧ Below w.heap.size w w' := by
  have hz := pr_zero
  have e1 : hiU x ^^^ hiU y &&& -b = hiU (x ^^^ if c = true then y else 0) := by
    subst hb
    rw [neg_one_bit]
    cases c
    · simp
    · simp [hi_xor hx hy]
  have e2 : loU x ^^^ loU y &&& -b = loU (x ^^^ if c = true then y else 0) := by
    subst hb
    rw [neg_one_bit]
    cases c
    · simp
    · simp [lo_xor]
  have hb' := Lib.hid hb
  clear hb
  generalize (x ^^^ if c = true then y else 0) = z at e1 e2 ⊢
  go_enter Try.func42, Try.ntmps42
  go_wp2_with fail
  refine bodyPost_ret (results_row rfl _ (w.heap.size + 1 + 1) rfl (wide z) (by simp [go_sem]; rfl) (by simp [go_sem]) (by simp [go_sem]) (by simp [go_sem])) rfl ⟨rfl, ?_⟩
  exact (((Below.refl _ _).alloc (Nat.le_refl _) _).alloc (by simp) _).alloc (by simp; omega) _

/-! ### a block as a number: the first byte leads -/
def numTo (b : Nat → UInt8) : Nat → Nat
  | 0 => 0
  | k + 1 => numTo b k * 256 + (b k).toNat
def num (b : Nat → UInt8) : Nat := numTo b 16
theorem numTo_lt (b : Nat → UInt8) : ∀ k, numTo b k < 256 ^ k
  | 0 => by simp [numTo]
  | k + 1 => by
    have h := numTo_lt b k
    have h2 := (b k).toNat_lt
    simp only [numTo]
    rw [Nat.pow_succ]
    omega
theorem num_lt (b : Nat → UInt8) : Gh.Ok (num b) := by
  have := numTo_lt b 16
  unfold Gh.Ok num
  omega
theorem numTo_add (b : Nat → UInt8) (m : Nat) : ∀ k, numTo b (m + k) = numTo b m * 256 ^ k + numTo (fun j => b (m + j)) k
  | 0 => by simp [numTo]
  | k + 1 => by
    show numTo b (m + k) * 256 + (b (m + k)).toNat = _
    rw [numTo_add b m k]
    simp only [numTo]
    rw [Nat.pow_succ, Nat.add_mul, Nat.mul_assoc, Nat.add_assoc]
theorem numTo_congr {b c : Nat → UInt8} : ∀ {k : Nat}, (∀ i, i < k → b i = c i) → numTo b k = numTo c k
  | 0, _ => rfl
  | k + 1, h => by simp only [numTo]; rw [numTo_congr (k := k) (fun i hi => h i (by omega)), h k (by omega)]
/-- byte i of a number of k bytes -/
def byteN (v k i : Nat) : UInt8 := UInt8.ofNat (v / 256 ^ (k - 1 - i))
def unum (v : Nat) : Nat → UInt8 := byteN v 16
theorem numTo_byteN (v : Nat) : ∀ (k m : Nat), m ≤ k → numTo (byteN v k) m = v / 256 ^ (k - m) % 256 ^ m
  | k, 0, _ => by simp [numTo, Nat.mod_one]
  | k, m + 1, h => by
    simp only [numTo]
    rw [numTo_byteN v k m (by omega)]
    unfold byteN
    rw [UInt8.toNat_ofNat']
    have e : k - m = (k - (m + 1)) + 1 := by omega
    have e2 : k - 1 - m = k - (m + 1) := by omega
    rw [e, e2, Nat.pow_succ, ← Nat.div_div_eq_div_mul]
    generalize v / 256 ^ (k - (m + 1)) = q
    rw [Nat.pow_succ 256 m, Nat.mul_comm (256 ^ m) 256, Nat.mod_mul]
    show q / 256 % 256 ^ m * 256 + q % 256 = q % 256 + 256 * (q / 256 % 256 ^ m)
    omega
theorem num_unum {v : Nat} (h : Gh.Ok v) : num (unum v) = v := by
  unfold num unum
  rw [numTo_byteN v 16 16 (Nat.le_refl _), Nat.sub_self, Nat.pow_zero, Nat.div_one]
  exact Nat.mod_eq_of_lt h
theorem numTo_div (b : Nat → UInt8) (m : Nat) : ∀ k, numTo b (m + k) / 256 ^ k = numTo b m := fun k => by
  rw [numTo_add]
  have := numTo_lt (fun j => b (m + j)) k
  rw [Nat.add_comm, Nat.add_mul_div_right _ _ (Nat.pow_pos (by decide)), Nat.div_eq_of_lt this, Nat.zero_add]
theorem unum_num (b : Nat → UInt8) (i : Nat) (hi : i < 16) : unum (num b) i = b i := by
  unfold unum byteN num
  have h := numTo_div b (i + 1) (16 - 1 - i)
  rw [show i + 1 + (16 - 1 - i) = 16 by omega] at h
  rw [h]
  apply UInt8.toNat_inj.1
  rw [UInt8.toNat_ofNat']
  simp only [numTo]
  have := (b i).toNat_lt
  omega
theorem blk_unum (b : Nat → UInt8) : blk 16 (unum (num b)) = blk 16 b := blk_congr fun i hi => unum_num b i hi
theorem unum_same {x y : Nat} (hx : Gh.Ok x) (hy : Gh.Ok y) : same 16 (unum x) (unum y) = decide (x = y) := by
  rw [Bool.eq_iff_iff, same_iff, decide_eq_true_eq]
  constructor
  · intro h
    rw [← num_unum hx, ← num_unum hy]
    exact numTo_congr h
  · rintro rfl i _; rfl
theorem num_inj {a b : Nat → UInt8} (h : num a = num b) (i : Nat) (hi : i < 16) : a i = b i := by
  rw [← unum_num a i hi, ← unum_num b i hi, h]
end Go.Proofs.Ytepooocdpifcfaa
