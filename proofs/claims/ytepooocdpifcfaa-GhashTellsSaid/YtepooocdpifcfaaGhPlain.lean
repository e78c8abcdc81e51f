/- The field of 2^128 in plain Lean, as the document's chapter 8 has it: a block is a number below 2^128 whose bit 127 - i is coefficient i. Products: order and brackets of factors, sums, 1, no divisors of 0; powers; texts folded in. No program stands in this text. Conditions: numbers below 2^128 where a law says so. -/
import Derived.Test.YtepooocdpifcfaaGfPlain
namespace Go.Proofs.Ytepooocdpifcfaa.Gh

/-- times x -/
def dbl (v : Nat) : Nat := (v >>> 1) ^^^ (if v.testBit 0 then 0xe1 <<< 120 else 0)
def dblN : Nat → Nat → Nat
  | 0, w => w
  | n + 1, w => dbl (dblN n w)
/-- the first n coefficients of v, times w -/
def tm (w v : Nat) : Nat → Nat
  | 0 => 0
  | n + 1 => tm w v n ^^^ (if v.testBit (127 - n) then dblN n w else 0)
def mul (w v : Nat) : Nat := tm w v 128
def one : Nat := 2 ^ 127
def Ok (v : Nat) : Prop := v < 2 ^ 128

theorem ite_xor (p q : Bool) (c : Nat) : (if (p ^^ q) = true then c else 0) = (if p = true then c else 0) ^^^ (if q = true then c else 0) := by
  cases p <;> cases q <;> simp
theorem ite_xor2 (p : Bool) (c d : Nat) : (if p = true then c ^^^ d else 0) = (if p = true then c else 0) ^^^ (if p = true then d else 0) := by
  cases p <;> simp
theorem xor_22 (a b c d : Nat) : (a ^^^ b) ^^^ (c ^^^ d) = (a ^^^ c) ^^^ (b ^^^ d) := by ac_rfl
theorem dbl_xor (a b : Nat) : dbl (a ^^^ b) = dbl a ^^^ dbl b := by
  unfold dbl
  rw [Nat.shiftRight_xor_distrib, Nat.testBit_xor, ite_xor, xor_22]
theorem dbl_zero : dbl 0 = 0 := rfl
theorem xor_lt {a b : Nat} (ha : Ok a) (hb : Ok b) : Ok (a ^^^ b) := Nat.xor_lt_two_pow ha hb
theorem ok_zero : Ok 0 := by unfold Ok; decide
theorem ok_one : Ok one := by unfold Ok one; decide
theorem dbl_lt {a : Nat} (ha : Ok a) : Ok (dbl a) := by
  unfold dbl
  refine xor_lt ?_ ?_
  · unfold Ok at *
    rw [Nat.shiftRight_eq_div_pow]
    omega
  · split
    · unfold Ok; decide
    · exact ok_zero
theorem dblN_lt {a : Nat} (ha : Ok a) : ∀ n, Ok (dblN n a)
  | 0 => ha
  | n + 1 => dbl_lt (dblN_lt ha n)
theorem dblN_xor (a b : Nat) : ∀ n, dblN n (a ^^^ b) = dblN n a ^^^ dblN n b
  | 0 => rfl
  | n + 1 => by simp only [dblN, dblN_xor a b n, dbl_xor]
theorem dblN_zero : ∀ n, dblN n 0 = 0
  | 0 => rfl
  | n + 1 => by simp only [dblN, dblN_zero n]; rfl
theorem dblN_dbl (a : Nat) : ∀ n, dblN n (dbl a) = dbl (dblN n a)
  | 0 => rfl
  | n + 1 => by simp only [dblN, dblN_dbl a n]
theorem dblN_add (a : Nat) (m : Nat) : ∀ n, dblN (n + m) a = dblN n (dblN m a)
  | 0 => by rw [Nat.zero_add]; rfl
  | n + 1 => by rw [show n + 1 + m = (n + m) + 1 by omega]; simp only [dblN, dblN_add a m n]
theorem tm_lt {w : Nat} (hw : Ok w) (v : Nat) : ∀ n, Ok (tm w v n)
  | 0 => ok_zero
  | n + 1 => by
    simp only [tm]
    refine xor_lt (tm_lt hw v n) ?_
    split
    · exact dblN_lt hw n
    · exact ok_zero
theorem mul_lt {w : Nat} (hw : Ok w) (v : Nat) : Ok (mul w v) := tm_lt hw v 128
theorem tm_zero_left (v : Nat) : ∀ n, tm 0 v n = 0
  | 0 => rfl
  | n + 1 => by simp [tm, tm_zero_left v n, dblN_zero]
theorem tm_xor_left (a b v : Nat) : ∀ n, tm (a ^^^ b) v n = tm a v n ^^^ tm b v n
  | 0 => by simp [tm]
  | n + 1 => by
    simp only [tm, tm_xor_left a b v n, dblN_xor, ite_xor2]
    exact xor_22 _ _ _ _
theorem tm_xor_right (w a b : Nat) : ∀ n, tm w (a ^^^ b) n = tm w a n ^^^ tm w b n
  | 0 => by simp [tm]
  | n + 1 => by
    simp only [tm, tm_xor_right w a b n, Nat.testBit_xor, ite_xor]
    exact xor_22 _ _ _ _
theorem tm_dbl (a v : Nat) : ∀ n, tm (dbl a) v n = dbl (tm a v n)
  | 0 => dbl_zero.symm
  | n + 1 => by
    simp only [tm, tm_dbl a v n, dblN_dbl, dbl_xor]
    cases v.testBit (127 - n) <;> simp [dbl_zero]
theorem tm_dblN (a v m : Nat) : ∀ n, tm (dblN n a) v m = dblN n (tm a v m)
  | 0 => rfl
  | n + 1 => by simp only [dblN, tm_dbl, tm_dblN a v m n]
/-- sums of x's powers times a: they change places -/
theorem tm_comm (a w v m : Nat) : ∀ n, tm (tm a w n) v m = tm (tm a v m) w n
  | 0 => tm_zero_left v m
  | n + 1 => by
    simp only [tm]
    rw [tm_xor_left, tm_comm a w v m n]
    congr 1
    cases w.testBit (127 - n)
    · simp [tm_zero_left]
    · simp [tm_dblN]

theorem dblN_one : ∀ n < 128, dblN n one = 2 ^ (127 - n) := by decide +kernel
theorem tm_one_bit (v : Nat) : ∀ n, n ≤ 128 → ∀ j, (tm one v n).testBit j = (decide (j ≤ 127 ∧ 127 - j < n) && v.testBit j)
  | 0, _, j => by simp [tm]
  | n + 1, hn, j => by
    simp only [tm, Nat.testBit_xor, tm_one_bit v n (by omega) j]
    by_cases hv : v.testBit (127 - n) = true
    · rw [if_pos hv, dblN_one n (by omega), Nat.testBit_two_pow]
      by_cases hj : 127 - n = j
      · subst hj
        rw [hv]
        have : 127 - (127 - n) = n := by omega
        simp [this]
      · have e : decide (j ≤ 127 ∧ 127 - j < n) = decide (j ≤ 127 ∧ 127 - j < n + 1) := by
          apply decide_eq_decide.2; omega
        simp [hj, e]
    · rw [if_neg hv]
      by_cases hj : 127 - n = j
      · subst hj
        simp [hv]
      · have e : decide (j ≤ 127 ∧ 127 - j < n) = decide (j ≤ 127 ∧ 127 - j < n + 1) := by
          apply decide_eq_decide.2; omega
        simp [e]
theorem one_mul {v : Nat} (hv : Ok v) : mul one v = v := by
  apply Nat.eq_of_testBit_eq
  intro j
  unfold mul
  rw [tm_one_bit v 128 (Nat.le_refl _)]
  by_cases hj : j ≤ 127
  · simp [hj]; intro h; omega
  · have : v.testBit j = false := Nat.testBit_lt_two_pow (Nat.lt_of_lt_of_le hv (Nat.pow_le_pow_right (by decide) (by omega)))
    simp [this]
theorem mul_comm {w v : Nat} (hw : Ok w) (hv : Ok v) : mul w v = mul v w := by
  have h1 : mul w v = mul (mul one w) v := by rw [one_mul hw]
  rw [h1]
  unfold mul
  rw [tm_comm]
  have h2 := one_mul hv
  unfold mul at h2
  rw [h2]
theorem mul_one {v : Nat} (hv : Ok v) : mul v one = v := by rw [mul_comm hv ok_one, one_mul hv]
theorem mul_right_comm (a b c : Nat) : mul (mul a b) c = mul (mul a c) b := tm_comm a b c 128 128
theorem mul_assoc {a b c : Nat} (ha : Ok a) (hb : Ok b) : mul (mul a b) c = mul a (mul b c) := by
  rw [mul_comm ha hb, mul_right_comm b a c, mul_comm (mul_lt hb c) ha]
theorem mul_xor_right (a b c : Nat) : mul a (b ^^^ c) = mul a b ^^^ mul a c := tm_xor_right a b c 128
theorem mul_xor_left (a b c : Nat) : mul (a ^^^ b) c = mul a c ^^^ mul b c := tm_xor_left a b c 128
theorem zero_mul (v : Nat) : mul 0 v = 0 := tm_zero_left v 128
theorem mul_zero {v : Nat} (hv : Ok v) : mul v 0 = 0 := by rw [mul_comm hv ok_zero, zero_mul]
theorem mul_dbl (a v : Nat) : mul (dbl a) v = dbl (mul a v) := tm_dbl a v 128
def xx : Nat := 2 ^ 126
theorem dbl_one : dbl one = xx := by decide +kernel
theorem ok_xx : Ok xx := by unfold Ok xx; decide
theorem xx_mul {v : Nat} (hv : Ok v) : mul xx v = dbl v := by rw [← dbl_one, mul_dbl, one_mul hv]

/-! ### linear functions are told by what they make of x's powers -/
structure Lin (f : Nat → Nat) : Prop where
  zero : f 0 = 0
  xor : ∀ a b, Ok a → Ok b → f (a ^^^ b) = f a ^^^ f b
theorem lin_ext {f g : Nat → Nat} (hf : Lin f) (hg : Lin g) (h : ∀ n, n < 128 → f (dblN n one) = g (dblN n one)) {v : Nat} (hv : Ok v) : f v = g v := by
  have : ∀ n, n ≤ 128 → f (tm one v n) = g (tm one v n) := fun n => by
    induction n with
    | zero => intro _; simp only [tm]; rw [hf.zero, hg.zero]
    | succ n ih =>
      intro hn
      simp only [tm]
      have h1 : Ok (tm one v n) := tm_lt ok_one v n
      split
      · rw [hf.xor _ _ h1 (dblN_lt ok_one n), hg.xor _ _ h1 (dblN_lt ok_one n), ih (by omega), h n (by omega)]
      · rw [hf.xor _ _ h1 ok_zero, hg.xor _ _ h1 ok_zero, ih (by omega), hf.zero, hg.zero]
  have h2 := this 128 (Nat.le_refl _)
  have h3 := one_mul hv
  unfold mul at h3
  rwa [h3] at h2

/-! ### squares -/
def sq (a : Nat) : Nat := mul a a
theorem sq_lt {a : Nat} (ha : Ok a) : Ok (sq a) := mul_lt ha a
theorem sq_xor {a b : Nat} (ha : Ok a) (hb : Ok b) : sq (a ^^^ b) = sq a ^^^ sq b := by
  unfold sq
  rw [mul_xor_left, mul_xor_right, mul_xor_right, mul_comm hb ha]
  rw [Nat.xor_assoc, ← Nat.xor_assoc (mul a b) (mul a b), Nat.xor_self, Nat.zero_xor]
theorem sq_mul {a b : Nat} (ha : Ok a) (hb : Ok b) : sq (mul a b) = mul (sq a) (sq b) := by
  unfold sq
  have hab := mul_lt ha b
  rw [← mul_assoc (mul_lt ha a) hb, mul_assoc ha hb, ← mul_assoc hb ha, mul_comm hb ha, mul_assoc ha hb, ← mul_assoc ha ha, ← mul_assoc (mul_lt ha a) hb]
theorem sq_one : sq one = one := mul_one ok_one
theorem sq_zero : sq 0 = 0 := zero_mul 0
def sqN : Nat → Nat → Nat
  | 0, a => a
  | n + 1, a => sq (sqN n a)
theorem sqN_lt {a : Nat} (ha : Ok a) : ∀ n, Ok (sqN n a)
  | 0 => ha
  | n + 1 => sq_lt (sqN_lt ha n)
theorem sqN_xor {a b : Nat} (ha : Ok a) (hb : Ok b) : ∀ n, sqN n (a ^^^ b) = sqN n a ^^^ sqN n b
  | 0 => rfl
  | n + 1 => by simp only [sqN, sqN_xor ha hb n, sq_xor (sqN_lt ha n) (sqN_lt hb n)]
theorem sqN_mul {a b : Nat} (ha : Ok a) (hb : Ok b) : ∀ n, sqN n (mul a b) = mul (sqN n a) (sqN n b)
  | 0 => rfl
  | n + 1 => by simp only [sqN, sqN_mul ha hb n, sq_mul (sqN_lt ha n) (sqN_lt hb n)]
theorem sqN_one : ∀ n, sqN n one = one
  | 0 => rfl
  | n + 1 => by simp only [sqN, sqN_one n, sq_one]
theorem sqN_zero : ∀ n, sqN n 0 = 0
  | 0 => rfl
  | n + 1 => by simp only [sqN, sqN_zero n, sq_zero]

/-! ### reckoned quickly -/
def quick (v : Nat) : Nat → Nat → Nat → Nat
  | 0, _, s => s
  | n + 1, w, s => quick v n (dbl w) (s ^^^ (if v.testBit n then w else 0))
theorem quick_tm (v a : Nat) : ∀ n m, n + m = 128 → quick v n (dblN m a) (tm a v m) = tm a v 128
  | 0, m, h => by obtain rfl : m = 128 := by omega
                  rfl
  | n + 1, m, h => by
    have ih := quick_tm v a n (m + 1) (by omega)
    have e : 127 - m = n := by omega
    simp only [quick]
    rw [← ih]
    simp only [tm, dblN, e]
def quickMul (a v : Nat) : Nat := quick v 128 a 0
theorem quickMul_eq (a v : Nat) : quickMul a v = mul a v := quick_tm v a 128 0 (by omega)
def quickSqN : Nat → Nat → Nat
  | 0, a => a
  | n + 1, a => quickMul (quickSqN n a) (quickSqN n a)
theorem quickSqN_eq (a : Nat) : ∀ n, quickSqN n a = sqN n a
  | 0 => rfl
  | n + 1 => by simp only [quickSqN, sqN, quickSqN_eq a n, quickMul_eq]; rfl
set_option maxRecDepth 100000 in
theorem quick_xx : quickSqN 128 xx = xx := by decide +kernel
theorem sqN_xx : sqN 128 xx = xx := by rw [← quickSqN_eq]; exact quick_xx
theorem sqN_all {v : Nat} (hv : Ok v) : sqN 128 v = v := by
  refine lin_ext (f := sqN 128) (g := fun v => v) ⟨sqN_zero 128, fun a b ha hb => sqN_xor ha hb 128⟩ ⟨rfl, fun _ _ _ _ => rfl⟩ (fun n _ => ?_) hv
  induction n with
  | zero => exact sqN_one 128
  | succ n ih =>
    show sqN 128 (dbl (dblN n one)) = dbl (dblN n one)
    have h := dblN_lt ok_one n
    rw [← xx_mul h, sqN_mul ok_xx h 128, sqN_xx, ih (by omega)]

/-! ### which blocks are their own squares -/
def tab : Array Nat := #[0x10d04d25f93556e69f58ce2f8d035a94, 0x202f566ef59a994991d0e977a9aa5ba7, 0x602f566ef59a994991d0e977a9aa5ba7, 0x3045202cccefc1ee67fd0ac2e3641972, 0x402f566ef59a994991d0e977a9aa5ba7, 0x5672e0c1d328e3be0d2c5beb59e57554, 0x2045202cccefc1ee67fd0ac2e3641972, 0x187f9b4b8cafcfaf8e88275824a90133, 0x482f566ef59a994991d0e977a9aa5ba7, 0x22da13517461d3ee69739a8be16c1972, 0x5272e0c1d328e3be0d2c5beb59e57554, 0x6aff55603cd3fceff55228f556d54755, 0x2245202cccefc1ee67fd0ac2e3641972, 0x46fc06025397fc91bb49eab33e4cf467, 0x197f9b4b8cafcfaf8e88275824a90133, 0x646dca2be3d6cc87d093e2fc4c0f4ad5, 0x48af566ef59a994991d0e977a9aa5ba7, 0x5cea2fd59105659e2d1ccaeb5d2c7d54, 0x229a13517461d3ee69739a8be16c1972, 0x3f46a4c41f7d395874f4e33b9d331780, 0x5252e0c1d328e3be0d2c5beb59e57554, 0x312701524d961730583bcf844c342240, 0x6aef55603cd3fceff55228f556d54755, 0x144559bb6c9ffcd7bc4c239cf48626f3, 0x224d202cccefc1ee67fd0ac2e3641972, 0x1a24eaea541cab0f9092b01169688933, 0x46f806025397fc91bb49eab33e4cf467, 0x2c14dba71e26fe964f314b9433eb3eb2, 0x197d9b4b8cafcfaf8e88275824a90133, 0x2561da58536a903fe562896ae4899333, 0x646cca2be3d6cc87d093e2fc4c0f4ad5, 0x41d77800d619af2838dab35b297373a6, 0x48afd66ef59a994991d0e977a9aa5ba7, 0x5ce7c3e3968e47f62e5390ab45fe70d4, 0x5cea6fd59105659e2d1ccaeb5d2c7d54, 0x428019a11caacb8824c8241264b2fba6, 0x229a33517461d3ee69739a8be16c1972, 0x258e6f54b84bf6f7ef54f70e70ef2ef3, 0x3f46b4c41f7d395874f4e33b9d331780, 0x1af0929921b9589f9fb368dce89d2373, 0x5252e8c1d328e3be0d2c5beb59e57554, 0x3bdc8ad604f36599e246fae899f68fc1, 0x312705524d961730583bcf844c342240, 0x38e6217d7e479d8109554569546afc0, 0x6aef57603cd3fceff55228f556d54755, 0x2bd77bb364ab6b3fc733d8875e039333, 0x144558bb6c9ffcd7bc4c239cf48626f3, 0x698e6217d7fb8627ef6aa903c013fa95, 0x224d20acccefc1ee67fd0ac2e3641972, 0x21ce3a83c07704de74dad50f0d583b32, 0x1a24eaaa541cab0f9092b01169688933, 0x56f3167fe31312df9eb885b869165d55, 0x46f806225397fc91bb49eab33e4cf467, 0x77dcb1c60e3ad1c9e2190477682adba7, 0x2c14dbb71e26fe964f314b9433eb3eb2, 0x7348a7e5645f92d076e747a9d181ec26, 0x197d9b438cafcfaf8e88275824a90133, 0x2cfbb4409945161e45d21862e0409b32, 0x2561da5c536a903fe562896ae4899333, 0x36e717e02724b8f1d1527df73b8e8241, 0x646cca29e3d6cc87d093e2fc4c0f4ad5, 0x7adc3b3404788e11d4cfd6f8f5447467, 0x41d77801d619af2838dab35b297373a6, 0x4a2ade42a1db559927495c4d4e62fc1, 0x48afd66e759a994991d0e977a9aa5ba7, 0x329f337db88e12004e8e904902080000, 0x5ce7c3e3d68e47f62e5390ab45fe70d4, 0x36e9eb0be64d6b99d3ec2e5e502bb781, 0x5cea6fd5b105659e2d1ccaeb5d2c7d54, 0x4622ba58b211bb21b69fb337b1785627, 0x428019a10caacb8824c8241264b2fba6, 0x49a065cd7758d5196f0e3578d383201, 0x229a33517c61d3ee69739a8be16c1972, 0x55aabdbeec28a2078079924a4cd2f295, 0x258e6f54bc4bf6f7ef54f70e70ef2ef3, 0x7986f6afcfc951e9cb9188c1a5beebe7, 0x3f46b4c41d7d395874f4e33b9d331780, 0x2f76850d57908a5e54a716d46cf0bb32, 0x1af0929920b9589f9fb368dce89d2373, 0x489a0b11781e0c1196cc4fdebc394c27, 0x5252e8c1d3a8e3be0d2c5beb59e57554, 0x72ccff3fd3d186182e1ce9a41041041, 0x3bdc8ad604b36599e246fae899f68fc1, 0x5c33b52f8947e9462158188b7248d294, 0x312705524db61730583bcf844c342240, 0x79880aa666d696d9c926622882fff1e7, 0x38e6217d7f479d8109554569546afc0, 0x285aabc679b16ad7d6c2852abfdb1eb3, 0x6aef57603cdbfceff55228f556d54755, 0x26d44eb77ddd535ff0b1c738de72bb33, 0x2bd77bb364af6b3fc733d8875e039333, 0x3cfddc25f2ae2df86391fd8d3387a7c0, 0x144558bb6c9dfcd7bc4c239cf48626f3, 0x457534e82f16f649aa2d862c91005ba7, 0x698e6217d7fa8627ef6aa903c013fa95, 0x4bf8b9d33b8f38198de17cdee54751e7, 0x224d20acccef41ee67fd0ac2e3641972, 0x634efa836deeebf650dae654442b4894, 0x21ce3a83c07744de74dad50f0d583b32, 0x4bf6a9a1f02e1f698fec4b1a74166be7, 0x1a24eaaa541c8b0f9092b01169688933, 0x6462e2cc93c28627d2d0526e0d66c2d5, 0x56f3167fe31302df9eb885b869165d55, 0x79b07befedd921e9cd751ec18ebeebe7, 0x46f806225397f491bb49eab33e4cf467, 0x701c741cbd9fc8b06b94eadf79b8c426, 0x77dcb1c60e3ad5c9e2190477682adba7, 0x44eaa59bd8819a999287fa5ed58ad81, 0x2c14dbb71e26fc964f314b9433eb3eb2, 0x602105ae977251e64834e0c2dd2d5a94, 0x7348a7e5645f93d076e747a9d181ec26, 0x645919a4b35879f7d7a68d71cb5770d5, 0x197d9b438cafcf2f8e88275824a90133, 0xd94d9da18080030c4db699e5dc0, 0x2cfbb4409945165e45d21862e0409b32, 0x99a6e1cca2f8641a0b0910804c90841, 0x2561da5c536a901fe562896ae4899333, 0x5f86cdbc744e28fe3430f49ddf071154, 0x36e717e02724b8e1d1527df73b8e8241, 0x51eae8be2fe60df61bf9191de1788d94, 0x646cca29e3d6cc8fd093e2fc4c0f4ad5, 0x5f67891c31b7edb03c86875f90384d1c, 0x7adc3b3404788e15d4cfd6f8f5447467, 0x36dc3b3404788e15d4cfd6f8f5447461, 0x41d77801d619af2a38dab35b297373a6, 0x35bd0e43ef6cf78dcef750ee63bd3171, 0x4a2ade42a1db558927495c4d4e62fc1, 0x0]
/-- linear: coefficient i makes tab[i] -/
def lt (y : Nat) : Nat → Nat
  | 0 => 0
  | n + 1 => lt y n ^^^ (if y.testBit (127 - n) then tab.getD n 0 else 0)
theorem lt_xor (a b : Nat) : ∀ n, lt (a ^^^ b) n = lt a n ^^^ lt b n
  | 0 => by simp [lt]
  | n + 1 => by
    simp only [lt, lt_xor a b n, Nat.testBit_xor, ite_xor]
    exact xor_22 _ _ _ _
theorem lt_zero : ∀ n, lt 0 n = 0
  | 0 => rfl
  | n + 1 => by simp [lt, lt_zero n]
set_option maxRecDepth 100000 in
theorem lt_basis : ∀ n < 128, lt (quickMul (2 ^ (127 - n)) (2 ^ (127 - n)) ^^^ 2 ^ (127 - n)) 128 = if n = 0 then 0 else 2 ^ (127 - n) := by decide +kernel
/-- coefficient 0 struck -/
def strike (v : Nat) : Nat := v &&& (2 ^ 127 - 1)
theorem lt_all {v : Nat} (hv : Ok v) : lt (sq v ^^^ v) 128 = strike v := by
  refine lin_ext (f := fun v => lt (sq v ^^^ v) 128) (g := strike) ⟨?_, fun a b ha hb => ?_⟩ ⟨?_, fun a b _ _ => ?_⟩ (fun n hn => ?_) hv
  · simp only [sq_zero, Nat.xor_self]; exact lt_zero 128
  · rw [← lt_xor, sq_xor ha hb]
    congr 1
    exact xor_22 _ _ _ _
  · simp [strike]
  · unfold strike; exact Nat.and_xor_distrib_right ..
  · rw [dblN_one n hn]
    have h := lt_basis n hn
    rw [quickMul_eq] at h
    show lt (mul (2 ^ (127 - n)) (2 ^ (127 - n)) ^^^ 2 ^ (127 - n)) 128 = strike (2 ^ (127 - n))
    rw [h]
    unfold strike
    rw [Nat.and_two_pow_sub_one_eq_mod]
    split
    · rename_i h0; subst h0; simp
    · rw [Nat.mod_eq_of_lt]
      exact Nat.pow_lt_pow_right (by decide) (by omega)
theorem own_square {v : Nat} (hv : Ok v) (h : sq v = v) : v = 0 ∨ v = one := by
  have h1 := lt_all hv
  rw [h, Nat.xor_self, lt_zero] at h1
  unfold strike at h1
  rw [Nat.and_two_pow_sub_one_eq_mod] at h1
  unfold Ok at hv
  unfold one
  omega

/-! ### no divisors of 0 -/
/-- the product of the first n squares of squares -/
def norm (a : Nat) : Nat → Nat
  | 0 => one
  | n + 1 => mul (norm a n) (sqN n a)
theorem norm_lt {a : Nat} : ∀ n, Ok (norm a n)
  | 0 => ok_one
  | n + 1 => mul_lt (norm_lt n) _
theorem norm_mul {a : Nat} (ha : Ok a) : ∀ n, mul (norm a n) a = sqN n a
  | 0 => one_mul ha
  | n + 1 => by
    simp only [norm, sqN]
    rw [mul_right_comm, norm_mul ha n]; rfl
theorem sq_norm {a : Nat} (ha : Ok a) : ∀ n, mul (sq (norm a n)) a = mul (norm a n) (sqN n a)
  | 0 => by simp only [norm, sqN]; rw [sq_one]
  | n + 1 => by
    have h1 := norm_lt (a := a) n
    have h2 := sqN_lt ha n
    simp only [norm, sqN]
    rw [sq_mul h1 h2, mul_right_comm, sq_norm ha n]
theorem norm_own {a : Nat} (ha : Ok a) : sq (norm a 128) = norm a 128 := by
  have h1 : mul (sq (norm a 127)) a = norm a 128 := sq_norm ha 127
  have h2 : sq (norm a 128) = mul (sq (norm a 127)) (sqN 128 a) := sq_mul (norm_lt 127) (sqN_lt ha 127)
  rw [h2, sqN_all ha, h1]
theorem no_div {a b : Nat} (ha : Ok a) (hb : Ok b) (h : mul a b = 0) : a = 0 ∨ b = 0 := by
  have hn : Ok (norm a 128) := norm_lt 128
  rcases own_square hn (norm_own ha) with h0 | h1
  · left
    have h2 := norm_mul ha 128
    rw [h0, zero_mul, sqN_all ha] at h2
    exact h2.symm
  · right
    have h2 : mul (sq (norm a 127)) a = norm a 128 := sq_norm ha 127
    have h3 : mul (norm a 128) b = 0 := by
      rw [← h2, mul_assoc (sq_lt (norm_lt 127)) ha, h, mul_zero (sq_lt (norm_lt 127))]
    rwa [h1, one_mul hb] at h3
theorem mul_eq_zero {a b : Nat} (ha : Ok a) (hb : Ok b) : mul a b = 0 ↔ a = 0 ∨ b = 0 :=
  ⟨no_div ha hb, fun h => by rcases h with rfl | rfl; exact zero_mul b; exact mul_zero ha⟩

/-! ### powers -/
def pw (h : Nat) : Nat → Nat
  | 0 => one
  | n + 1 => mul (pw h n) h
theorem pw_lt {h : Nat} : ∀ n, Ok (pw h n)
  | 0 => ok_one
  | n + 1 => mul_lt (pw_lt n) h
theorem pw_add {h : Nat} (hh : Ok h) (m : Nat) : ∀ n, pw h (m + n) = mul (pw h m) (pw h n)
  | 0 => (mul_one (pw_lt m)).symm
  | n + 1 => by
    show mul (pw h (m + n)) h = mul (pw h m) (mul (pw h n) h)
    rw [pw_add hh m n, mul_assoc (pw_lt m) (pw_lt n)]
theorem pw_one {h : Nat} (hh : Ok h) : pw h 1 = h := one_mul hh
theorem pw_double {h : Nat} (hh : Ok h) (n : Nat) : pw (mul h h) n = pw h (2 * n) := by
  induction n with
  | zero => rfl
  | succ n ih =>
    show mul (pw (mul h h) n) (mul h h) = _
    rw [ih, show 2 * (n + 1) = (2 * n + 1) + 1 by omega]
    show _ = mul (mul (pw h (2 * n)) h) h
    rw [mul_assoc (pw_lt _) hh]
theorem pw_ne {h : Nat} (hh : Ok h) (h0 : h ≠ 0) : ∀ n, pw h n ≠ 0
  | 0 => by unfold pw one; decide
  | n + 1 => fun e => by
    rcases no_div (pw_lt n) hh e with h1 | h1
    · exact pw_ne hh h0 n h1
    · exact h0 h1

/-! ### numbers folded in -/
def fold (h : Nat) : Nat → List Nat → Nat
  | s, [] => s
  | s, c :: l => fold h (mul (s ^^^ c) h) l
theorem fold_lt {h s : Nat} (hs : Ok s) : ∀ l : List Nat, (∀ c ∈ l, Ok c) → Ok (fold h s l)
  | [], _ => hs
  | c :: l, hl => fold_lt (mul_lt (xor_lt hs (hl c (by simp))) h) l (fun x hx => hl x (by simp [hx]))
theorem fold_append (h : Nat) : ∀ (s : Nat) (l m : List Nat), fold h s (l ++ m) = fold h (fold h s l) m
  | _, [], _ => rfl
  | _, _ :: l, m => fold_append h _ l m
theorem fold_xor {h : Nat} (hh : Ok h) : ∀ (s t : Nat) (l : List Nat), Ok s → Ok t → (∀ c ∈ l, Ok c) → fold h s l ^^^ fold h t l = mul (s ^^^ t) (pw h l.length)
  | s, t, [], hs, ht, _ => by show s ^^^ t = mul (s ^^^ t) one; rw [mul_one (xor_lt hs ht)]
  | s, t, c :: l, hs, ht, hl => by
    have hc := hl c (by simp)
    show fold h (mul (s ^^^ c) h) l ^^^ fold h (mul (t ^^^ c) h) l = _
    rw [fold_xor hh _ _ l (mul_lt (xor_lt hs hc) h) (mul_lt (xor_lt ht hc) h) (fun x hx => hl x (by simp [hx])), ← mul_xor_left]
    have e : (s ^^^ c) ^^^ (t ^^^ c) = s ^^^ t := by
      rw [Nat.xor_comm t c, Nat.xor_assoc, ← Nat.xor_assoc c c, Nat.xor_self, Nat.zero_xor]
    rw [e, mul_assoc (xor_lt hs ht) hh, mul_comm hh (pw_lt _)]; rfl
theorem xor_eq_zero {a b : Nat} (h : a ^^^ b = 0) : a = b := by
  have : (a ^^^ b) ^^^ b = b := by rw [h, Nat.zero_xor]
  rwa [Nat.xor_assoc, Nat.xor_self, Nat.xor_zero] at this
/-- two sums that part at one number, and are alike behind it, part -/
theorem fold_ne {h s c d : Nat} (hh : Ok h) (h0 : h ≠ 0) (hs : Ok s) (hc : Ok c) (hd : Ok d) (hcd : c ≠ d) (l : List Nat) (hl : ∀ c ∈ l, Ok c) : fold h s (c :: l) ≠ fold h s (d :: l) := fun e => by
  have h1 := fold_xor hh (mul (s ^^^ c) h) (mul (s ^^^ d) h) l (mul_lt (xor_lt hs hc) h) (mul_lt (xor_lt hs hd) h) hl
  have e' : fold h (mul (s ^^^ c) h) l = fold h (mul (s ^^^ d) h) l := e
  rw [e', Nat.xor_self, ← mul_xor_left] at h1
  have e2 : (s ^^^ c) ^^^ (s ^^^ d) = c ^^^ d := by
    rw [Nat.xor_comm s c, Nat.xor_assoc, ← Nat.xor_assoc s s, Nat.xor_self, Nat.zero_xor]
  rw [e2] at h1
  rcases no_div (mul_lt (xor_lt hc hd) h) (pw_lt _) h1.symm with h2 | h2
  · rcases no_div (xor_lt hc hd) hh h2 with h3 | h3
    · exact hcd (xor_eq_zero h3)
    · exact h0 h3
  · exact pw_ne hh h0 _ h2
end Go.Proofs.Ytepooocdpifcfaa.Gh
