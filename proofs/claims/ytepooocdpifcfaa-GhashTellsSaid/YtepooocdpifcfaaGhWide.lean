/- Numbers of 64 bits as the walk's integers, and pairs of them; a block's two halves. No condition. -/
import Derived.Test.YtepooocdpifcfaaStores
import Derived.Test.YtepooocdpifcfaaGhPlain
namespace Go.Proofs.Ytepooocdpifcfaa
open Go.RowKit

/-- a number of 64 bits as an integer -/
def U (x : UInt64) : Int := (x.toNat : Int)
theorem U_bd (x : UInt64) : 0 ≤ U x ∧ U x ≤ 18446744073709551615 := by
  have := x.toNat_lt; unfold U; omega
theorem U_xor (x y : UInt64) : bits BinOp.xor IntKind.u64 (U x) (U y) = U (x ^^^ y) := by
  unfold U
  rw [u64_xor_nat _ _ x.toNat_lt y.toNat_lt, UInt64.toNat_xor]
theorem U_or (x y : UInt64) : bits BinOp.or IntKind.u64 (U x) (U y) = U (x ||| y) := by
  unfold U
  rw [u64_or_nat _ _ x.toNat_lt y.toNat_lt, UInt64.toNat_or]
theorem U_and (x y : UInt64) : bits BinOp.and IntKind.u64 (U x) (U y) = U (x &&& y) := by
  unfold U
  rw [u64_and_nat _ _ x.toNat_lt y.toNat_lt, UInt64.toNat_and]
theorem U_and1 (x : UInt64) : bits BinOp.and IntKind.u64 (U x) 1 = U (x &&& 1) := U_and x 1
def tailU : UInt64 := 16212958658533785600
theorem U_tail (x : UInt64) : bits BinOp.and IntKind.u64 16212958658533785600 (U x) = U (tailU &&& x) := U_and tailU x
theorem wrap64 (n : Int) : IntKind.u64.wrap n = n % 18446744073709551616 := by simp [IntKind.wrap, IntKind.bits, IntKind.signed]
theorem wrap8 (n : Int) : IntKind.u8.wrap n = n % 256 := by simp [IntKind.wrap, IntKind.bits, IntKind.signed]
theorem U_neg (x : UInt64) : IntKind.u64.wrap (-U x) = U (-x) := by
  rw [wrap64]
  unfold U
  rw [UInt64.toNat_neg]
  have := x.toNat_lt
  show -(x.toNat : Int) % 18446744073709551616 = (((18446744073709551616 - x.toNat) % 18446744073709551616 : Nat) : Int)
  omega
theorem U_half (x : UInt64) : U x / (2 : Int) = U (x >>> 1) := by
  unfold U
  rw [UInt64.toNat_shiftRight, Nat.shiftRight_eq_div_pow]
  show (x.toNat : Int) / 2 = ((x.toNat / 2 ^ 1 : Nat) : Int)
  omega
theorem U_shr (x : UInt64) (k : Nat) (h : k < 64) : U x / (2 : Int) ^ k = U (x >>> UInt64.ofNat k) := by
  unfold U
  rw [UInt64.toNat_shiftRight, Nat.shiftRight_eq_div_pow, UInt64.toNat_ofNat_of_lt' (by have : UInt64.size = 18446744073709551616 := rfl; omega), Nat.mod_eq_of_lt h]
  simp
theorem U_shl8 (x : UInt64) : IntKind.u64.wrap (U x * (256 : Int)) = U (x <<< 8) := by
  rw [wrap64]
  unfold U
  rw [UInt64.toNat_shiftLeft, Nat.shiftLeft_eq]
  show (x.toNat : Int) * 256 % 18446744073709551616 = ((x.toNat * 2 ^ 8 % 2 ^ 64 : Nat) : Int)
  omega
theorem U_shl63 (x : UInt64) : IntKind.u64.wrap (U x * (9223372036854775808 : Int)) = U (x <<< 63) := by
  rw [wrap64]
  unfold U
  rw [UInt64.toNat_shiftLeft, Nat.shiftLeft_eq]
  show (x.toNat : Int) * 9223372036854775808 % 18446744073709551616 = ((x.toNat * 2 ^ 63 % 2 ^ 64 : Nat) : Int)
  omega
theorem U_of (b : UInt8) : IntKind.u64.wrap (B b) = U b.toUInt64 := by
  rw [wrap64]
  have := b.toNat_lt
  unfold U B
  rw [UInt8.toNat_toUInt64]
  omega
theorem U_to (x : UInt64) : IntKind.u8.wrap (U x) = B x.toUInt8 := by
  rw [wrap8]
  unfold U B
  rw [UInt64.toNat_toUInt8]
  omega

/-- two of them -/
def pr (a b : Int) : Array Value := #[.int .u64 a, .int .u64 b]
theorem pr_size (a b : Int) : (pr a b).size = 2 := by simp [pr]
theorem pr_get0 (a b : Int) : (pr a b)[0]? = some (.int .u64 a) := by simp [pr]
theorem pr_get1 (a b : Int) : (pr a b)[1]? = some (.int .u64 b) := by simp [pr]
theorem pr_getE0 (a b : Int) (h : 0 < (pr a b).size) : (pr a b)[0]'h = .int .u64 a := by simp [pr]
theorem pr_getE1 (a b : Int) (h : 1 < (pr a b).size) : (pr a b)[1]'h = .int .u64 b := by simp [pr]
theorem pr_set0 (a b c : Int) : (pr a b).setIfInBounds 0 (.int .u64 c) = pr c b := by simp [pr]
theorem pr_set1 (a b c : Int) : (pr a b).setIfInBounds 1 (.int .u64 c) = pr a c := by simp [pr]
theorem pr_ne (a b : Int) : (pr a b = #[]) = False := by simp [pr]
theorem oneCells_pr (a b : Int) : oneCells (pr a b) = true := by simp [oneCells, pr, Value.oneCell']
theorem paste_pr (a b c d : Int) : paste (pr a b) 0 (pr c d) = pr c d := by simp [pr, paste]
theorem cut_pr (a b : Int) : cut (pr a b) 0 2 = pr a b := by simp [pr, cut]
theorem pr_zero : #[Value.int .u64 0, Value.int .u64 0] = pr 0 0 := rfl
theorem pr_inj {a b c d : Int} (h : pr a b = pr c d) : a = c ∧ b = d := by
  unfold pr at h; simp at h; exact h

/-! ### a block's halves -/
def hiU (v : Nat) : UInt64 := UInt64.ofNat (v >>> 64)
def loU (v : Nat) : UInt64 := UInt64.ofNat v
def wide (v : Nat) : Array Value := pr (U (hiU v)) (U (loU v))
theorem wide_size (v : Nat) : (wide v).size = 2 := by simp [wide, pr]
theorem wide_get0 (v : Nat) : (wide v)[0]? = some (.int .u64 (U (hiU v))) := by simp [wide, pr]
theorem wide_get1 (v : Nat) : (wide v)[1]? = some (.int .u64 (U (loU v))) := by simp [wide, pr]
theorem wide_getE0 (v : Nat) (h : 0 < (wide v).size) : (wide v)[0]'h = .int .u64 (U (hiU v)) := by simp [wide, pr]
theorem wide_getE1 (v : Nat) (h : 1 < (wide v).size) : (wide v)[1]'h = .int .u64 (U (loU v)) := by simp [wide, pr]
theorem wide_ne (v : Nat) : (wide v = #[]) = False := pr_ne _ _
theorem oneCells_wide (v : Nat) : oneCells (wide v) = true := oneCells_pr _ _
theorem paste_wide (x y : Nat) : paste (wide x) 0 (wide y) = wide y := paste_pr _ _ _ _
theorem cut_wide (x : Nat) : cut (wide x) 0 2 = wide x := cut_pr _ _
theorem wide_build (v : Nat) : pr (U (hiU v)) (U (loU v)) = wide v := rfl
theorem wide_zero : #[Value.int .u64 0, Value.int .u64 0] = wide 0 := rfl

theorem hi_nat {v : Nat} (h : Gh.Ok v) : (hiU v).toNat = v >>> 64 := by
  unfold hiU
  rw [UInt64.toNat_ofNat_of_lt']
  unfold Gh.Ok at h
  rw [Nat.shiftRight_eq_div_pow]
  have : UInt64.size = 2 ^ 64 := rfl
  omega
theorem lo_nat (v : Nat) : (loU v).toNat = v % 2 ^ 64 := by
  unfold loU
  rw [UInt64.toNat_ofNat']
theorem hi_xor {x y : Nat} (hx : Gh.Ok x) (hy : Gh.Ok y) : hiU (x ^^^ y) = hiU x ^^^ hiU y := by
  apply UInt64.toNat_inj.1
  rw [UInt64.toNat_xor, hi_nat (Gh.xor_lt hx hy), hi_nat hx, hi_nat hy, Nat.shiftRight_xor_distrib]
theorem lo_xor (x y : Nat) : loU (x ^^^ y) = loU x ^^^ loU y := by
  apply UInt64.toNat_inj.1
  rw [UInt64.toNat_xor, lo_nat, lo_nat, lo_nat, Nat.xor_mod_two_pow]
theorem lo_bit (v : Nat) : loU v &&& 1 = if v.testBit 0 then 1 else 0 := by
  apply UInt64.toNat_inj.1
  rw [UInt64.toNat_and, lo_nat]
  show v % 2 ^ 64 &&& 1 = _
  rw [Nat.and_one_is_mod, Nat.mod_mod_of_dvd _ (by decide : 2 ∣ 2 ^ 64), Nat.testBit_zero]
  by_cases h : v % 2 = 1
  · simp [h]
  · have : v % 2 = 0 := by omega
    simp [this]
theorem hi_dbl {v : Nat} (h : Gh.Ok v) : hiU v >>> 1 ^^^ (tailU &&& -(loU v &&& 1)) = hiU (Gh.dbl v) := by
  have e1 : hiU (v >>> 1) = hiU v >>> 1 := by
    apply UInt64.toNat_inj.1
    have h1 : Gh.Ok (v >>> 1) := by
      unfold Gh.Ok at *; rw [Nat.shiftRight_eq_div_pow]; omega
    rw [UInt64.toNat_shiftRight, hi_nat h1, hi_nat h]
    show v >>> 1 >>> 64 = v >>> 64 >>> 1
    rw [← Nat.shiftRight_add, ← Nat.shiftRight_add]
  have h1 : Gh.Ok (v >>> 1) := by
    unfold Gh.Ok at *; rw [Nat.shiftRight_eq_div_pow]; omega
  unfold Gh.dbl
  rw [hi_xor h1 (by split <;> (unfold Gh.Ok; decide)), e1, lo_bit]
  congr 1
  split <;> decide +kernel
theorem lo_dbl {v : Nat} (h : Gh.Ok v) : loU v >>> 1 ||| hiU v <<< 63 = loU (Gh.dbl v) := by
  unfold Gh.dbl
  rw [lo_xor]
  have e0 : loU (if v.testBit 0 = true then 225 <<< 120 else 0) = 0 := by split <;> decide +kernel
  rw [e0, UInt64.xor_zero]
  apply UInt64.toNat_inj.1
  rw [UInt64.toNat_or, UInt64.toNat_shiftRight, UInt64.toNat_shiftLeft, hi_nat h, lo_nat, lo_nat]
  show (v % 2 ^ 64) >>> 1 ||| ((v >>> 64) <<< 63) % 2 ^ 64 = (v >>> 1) % 2 ^ 64
  apply Nat.eq_of_testBit_eq
  intro i
  simp only [Nat.testBit_or, Nat.testBit_shiftRight, Nat.testBit_mod_two_pow, Nat.testBit_shiftLeft]
  by_cases h1 : i < 63
  · have a1 : 1 + i < 64 := by omega
    have a2 : i < 64 := by omega
    have a3 : ¬ 63 ≤ i := by omega
    simp [a1, a2, a3]
  · by_cases h2 : i = 63
    · subst h2; simp
    · have a1 : ¬ 1 + i < 64 := by omega
      have a2 : ¬ i < 64 := by omega
      simp [a1, a2]
/-- coefficient n, of the half that holds it -/
theorem hi_bit {v : Nat} (h : Gh.Ok v) (i : Nat) : (hiU v).toNat.testBit i = v.testBit (64 + i) := by
  rw [hi_nat h, Nat.testBit_shiftRight]
theorem lo_bit' (v : Nat) (i : Nat) (hi : i < 64) : (loU v).toNat.testBit i = v.testBit i := by
  rw [lo_nat, Nat.testBit_mod_two_pow]; simp [hi]
theorem neg_one_bit (c : Bool) (x : UInt64) : (x &&& -(if c = true then 1 else 0 : UInt64)) = if c = true then x else 0 := by
  cases c
  · simp
  · simp
theorem hi_zero : hiU 0 = 0 := by decide
theorem lo_zero : loU 0 = 0 := by decide
end Go.Proofs.Ytepooocdpifcfaa
