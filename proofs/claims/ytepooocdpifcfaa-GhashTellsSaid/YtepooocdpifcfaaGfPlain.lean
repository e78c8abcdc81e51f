/- Plain facts on the field of 256 elements that the program's package gf reckons in: products, powers, inverses, the box, and mixed columns. No program stands in this text; no condition. -/
import Init.Data.UInt.Bitwise
import Init.Data.UInt.Lemmas
namespace Go.Proofs.Ytepooocdpifcfaa.Gf

theorem all256 (p : UInt8 → Prop) (h : ∀ n < 256, p (UInt8.ofNat n)) (x : UInt8) : p x := by
  have := h x.toNat x.toNat_lt
  simpa using this

/-- times x -/
def dbl (a : UInt8) : UInt8 := (a <<< 1) ^^^ ((27 : UInt8) &&& -(a >>> 7))
/-- one step of the product: bit i of b -/
def mulStep (a b : UInt8) (i : Nat) (out : UInt8) : UInt8 := dbl out ^^^ (a &&& -((b >>> UInt8.ofNat i) &&& 1))
/-- the product behind k steps, the highest bit first -/
def mulTo (a b : UInt8) : Nat → UInt8
  | 0 => 0
  | k + 1 => mulStep a b (7 - k) (mulTo a b k)
/-- the product -/
def mul (a b : UInt8) : UInt8 := mulTo a b 8
/-- bit i as a mask -/
def mask (b : UInt8) (i : Nat) : UInt8 := -((b >>> UInt8.ofNat i) &&& 1)

/-- the same, over natural numbers -/
def dblN (a : Nat) : Nat := ((2 * a) % 256) ^^^ (if a < 128 then 0 else 27)

theorem dbl_nat (a : UInt8) : (dbl a).toNat = dblN a.toNat := by
  revert a; apply all256; decide +kernel

theorem xor4 (a b c d : UInt8) : (a ^^^ b) ^^^ (c ^^^ d) = (a ^^^ c) ^^^ (b ^^^ d) := by
  rw [UInt8.xor_assoc, UInt8.xor_assoc, ← UInt8.xor_assoc b, UInt8.xor_comm b c, UInt8.xor_assoc c]

theorem dbl_top (a : UInt8) : (27 : UInt8) &&& -(a >>> 7) = if a.toNat.testBit 7 then 27 else 0 := by
  revert a; apply all256; decide +kernel

theorem dbl_xor (a b : UInt8) : dbl (a ^^^ b) = dbl a ^^^ dbl b := by
  unfold dbl
  rw [dbl_top, dbl_top, dbl_top, UInt8.shiftLeft_xor, xor4 (a <<< 1)]
  congr 1
  rw [UInt8.toNat_xor, Nat.testBit_xor]
  cases a.toNat.testBit 7 <;> cases b.toNat.testBit 7 <;> decide

theorem mask_or (b : UInt8) (i : Nat) (hi : i < 8) : mask b i = if b.toNat.testBit i then 255 else 0 := by
  have h : ∀ n < 256, ∀ i < 8, mask (UInt8.ofNat n) i = if (UInt8.ofNat n).toNat.testBit i then 255 else 0 := by decide +kernel
  have := h b.toNat b.toNat_lt i hi
  simpa using this

theorem and_255 (a : UInt8) : a &&& 255 = a := by revert a; apply all256; decide +kernel

theorem mulStep_eq (a b : UInt8) (i : Nat) (hi : i < 8) (out : UInt8) : mulStep a b i out = dbl out ^^^ (if b.toNat.testBit i then a else 0) := by
  show dbl out ^^^ (a &&& mask b i) = _
  rw [mask_or b i hi]
  split <;> simp [and_255]

theorem xor_left_comm (a b c : UInt8) : a ^^^ (b ^^^ c) = b ^^^ (a ^^^ c) := by
  rw [← UInt8.xor_assoc, UInt8.xor_comm a b, UInt8.xor_assoc]

theorem mulTo_xor_right (a b c : UInt8) : ∀ k ≤ 8, mulTo a (b ^^^ c) k = mulTo a b k ^^^ mulTo a c k
  | 0, _ => by simp [mulTo]
  | k + 1, hk => by
    simp only [mulTo]
    rw [mulStep_eq _ _ _ (by omega), mulStep_eq _ _ _ (by omega), mulStep_eq _ _ _ (by omega), mulTo_xor_right a b c k (by omega), dbl_xor, xor4]
    congr 1
    rw [UInt8.toNat_xor, Nat.testBit_xor]
    cases b.toNat.testBit (7 - k) <;> cases c.toNat.testBit (7 - k) <;> simp

theorem mulTo_xor_left (a b c : UInt8) : ∀ k ≤ 8, mulTo (a ^^^ b) c k = mulTo a c k ^^^ mulTo b c k
  | 0, _ => by simp [mulTo]
  | k + 1, hk => by
    simp only [mulTo]
    rw [mulStep_eq _ _ _ (by omega), mulStep_eq _ _ _ (by omega), mulStep_eq _ _ _ (by omega), mulTo_xor_left a b c k (by omega), dbl_xor, xor4]
    congr 1
    split <;> simp

theorem mul_xor_right (a b c : UInt8) : mul a (b ^^^ c) = mul a b ^^^ mul a c := mulTo_xor_right a b c 8 (by omega)
theorem mul_xor_left (a b c : UInt8) : mul (a ^^^ b) c = mul a c ^^^ mul b c := mulTo_xor_left a b c 8 (by omega)

/-- what adds up is told by the eight bits -/
structure Adds (f : UInt8 → UInt8) : Prop where
  add : ∀ x y, f (x ^^^ y) = f x ^^^ f y

theorem Adds.zero {f : UInt8 → UInt8} (h : Adds f) : f 0 = 0 := by
  have := h.add 0 0
  simp only [UInt8.xor_self] at this
  rw [this]

/-- the bits of a byte, put together -/
def bitsOf (x : UInt8) : List UInt8 := [1, 2, 4, 8, 16, 32, 64, 128].filter (fun p => x &&& p != 0)

theorem bitsOf_sum (x : UInt8) : (bitsOf x).foldr (· ^^^ ·) 0 = x := by
  revert x; apply all256; decide +kernel

theorem Adds.sum {f : UInt8 → UInt8} (h : Adds f) : ∀ l : List UInt8, f (l.foldr (· ^^^ ·) 0) = (l.map f).foldr (· ^^^ ·) 0
  | [] => h.zero
  | x :: l => by simp only [List.foldr_cons, List.map_cons, h.add, Adds.sum h l]

theorem mem_bitsOf (x p : UInt8) (h : p ∈ bitsOf x) : p ∈ ([1, 2, 4, 8, 16, 32, 64, 128] : List UInt8) := (List.mem_filter.1 h).1

theorem Adds.ext {f g : UInt8 → UInt8} (hf : Adds f) (hg : Adds g) (h : ∀ p ∈ ([1, 2, 4, 8, 16, 32, 64, 128] : List UInt8), f p = g p) (x : UInt8) : f x = g x := by
  rw [← bitsOf_sum x, hf.sum, hg.sum]
  congr 1
  exact List.map_congr_left fun p hp => h p (mem_bitsOf x p hp)

theorem adds_right (a : UInt8) : Adds (mul a) := ⟨mul_xor_right a⟩
theorem adds_left (b : UInt8) : Adds (fun a => mul a b) := ⟨fun x y => mul_xor_left x y b⟩
theorem Adds.comp {f g : UInt8 → UInt8} (hf : Adds f) (hg : Adds g) : Adds (fun x => f (g x)) := ⟨fun x y => by show f (g (x ^^^ y)) = f (g x) ^^^ f (g y); rw [hg.add, hf.add]⟩

theorem mul_comm (a b : UInt8) : mul a b = mul b a := by
  refine Adds.ext (f := fun a => mul a b) (g := mul b) (adds_left b) (adds_right b) (fun p hp => ?_) a
  refine Adds.ext (f := mul p) (g := fun b => mul b p) (adds_right p) (adds_left p) (fun q hq => ?_) b
  have : ∀ p ∈ ([1, 2, 4, 8, 16, 32, 64, 128] : List UInt8), ∀ q ∈ ([1, 2, 4, 8, 16, 32, 64, 128] : List UInt8), mul p q = mul q p := by decide +kernel
  exact this p hp q hq

theorem mul_assoc (a b c : UInt8) : mul (mul a b) c = mul a (mul b c) := by
  refine Adds.ext (f := fun a => mul (mul a b) c) (g := fun a => mul a (mul b c)) ((adds_left c).comp (adds_left b)) (adds_left _) (fun p hp => ?_) a
  refine Adds.ext (f := fun b => mul (mul p b) c) (g := fun b => mul p (mul b c)) ((adds_left c).comp (adds_right p)) ((adds_right p).comp (adds_left c)) (fun q hq => ?_) b
  refine Adds.ext (f := fun c => mul (mul p q) c) (g := fun c => mul p (mul q c)) (adds_right _) ((adds_right p).comp (adds_right q)) (fun r hr => ?_) c
  have : ∀ p ∈ ([1, 2, 4, 8, 16, 32, 64, 128] : List UInt8), ∀ q ∈ ([1, 2, 4, 8, 16, 32, 64, 128] : List UInt8), ∀ r ∈ ([1, 2, 4, 8, 16, 32, 64, 128] : List UInt8), mul (mul p q) r = mul p (mul q r) := by decide +kernel
  exact this p hp q hq r hr

theorem mul_one (a : UInt8) : mul a 1 = a := by revert a; apply all256; decide +kernel
theorem one_mul (a : UInt8) : mul 1 a = a := by rw [mul_comm, mul_one]
theorem mul_zero (a : UInt8) : mul a 0 = 0 := (adds_right a).zero
theorem zero_mul (a : UInt8) : mul 0 a = 0 := (adds_left a).zero
theorem mul_left_comm (a b c : UInt8) : mul a (mul b c) = mul b (mul a c) := by rw [← mul_assoc, mul_comm a b, mul_assoc]
theorem mul4 (a b c d : UInt8) : mul (mul a b) (mul c d) = mul (mul a c) (mul b d) := by rw [mul_assoc, mul_left_comm b c d, ← mul_assoc]

/-- times x, some times -/
def xt (a : UInt8) : Nat → UInt8
  | 0 => a
  | k + 1 => dbl (xt a k)
/-- the reference's product behind k steps, the lowest bit first -/
def refTo (a b : UInt8) : Nat → UInt8
  | 0 => 0
  | k + 1 => refTo a b k ^^^ (if b.toNat / 2 ^ k % 2 = 1 then xt a k else 0)
theorem testBit_div (n k : Nat) : (n / 2 ^ k % 2 = 1) = (n.testBit k = true) := by
  rw [Nat.testBit_eq_decide_div_mod_eq]; simp
theorem xt_xor (a b : UInt8) : ∀ k, xt (a ^^^ b) k = xt a k ^^^ xt b k
  | 0 => rfl
  | k + 1 => by simp only [xt]; rw [xt_xor a b k, dbl_xor]
theorem refTo_xor_right (a b c : UInt8) : ∀ k, refTo a (b ^^^ c) k = refTo a b k ^^^ refTo a c k
  | 0 => by simp [refTo]
  | k + 1 => by
    simp only [refTo, testBit_div]
    rw [refTo_xor_right a b c k, xor4]
    congr 1
    rw [UInt8.toNat_xor, Nat.testBit_xor]
    cases b.toNat.testBit k <;> cases c.toNat.testBit k <;> simp
theorem refTo_xor_left (a b c : UInt8) : ∀ k, refTo (a ^^^ b) c k = refTo a c k ^^^ refTo b c k
  | 0 => by simp [refTo]
  | k + 1 => by
    simp only [refTo, testBit_div]
    rw [refTo_xor_left a b c k, xor4]
    congr 1
    split
    · exact xt_xor a b k
    · rfl
theorem refTo_mul (a b : UInt8) : refTo a b 8 = mul a b := by
  refine Adds.ext (f := fun a => refTo a b 8) (g := fun a => mul a b) ⟨fun x y => refTo_xor_left x y b 8⟩ (adds_left b) (fun p hp => ?_) a
  refine Adds.ext (f := fun b => refTo p b 8) (g := mul p) ⟨fun x y => refTo_xor_right p x y 8⟩ (adds_right p) (fun q hq => ?_) b
  have : ∀ p ∈ ([1, 2, 4, 8, 16, 32, 64, 128] : List UInt8), ∀ q ∈ ([1, 2, 4, 8, 16, 32, 64, 128] : List UInt8), refTo p q 8 = mul p q := by decide +kernel
  exact this p hp q hq

/-- powers -/
def pow (a : UInt8) : Nat → UInt8
  | 0 => 1
  | n + 1 => mul (pow a n) a

theorem pow_add (a : UInt8) (m : Nat) : ∀ n, pow a (m + n) = mul (pow a m) (pow a n)
  | 0 => by simp [pow, mul_one]
  | n + 1 => by rw [← Nat.add_assoc]; simp only [pow]; rw [pow_add a m n, mul_assoc]

theorem mul_pow (a b : UInt8) : ∀ n, pow (mul a b) n = mul (pow a n) (pow b n)
  | 0 => by simp [pow, mul_one]
  | n + 1 => by simp only [pow]; rw [mul_pow a b n, mul4]

theorem pow_mul (a : UInt8) (m : Nat) : ∀ n, pow a (m * n) = pow (pow a m) n
  | 0 => rfl
  | n + 1 => by rw [Nat.mul_succ, pow_add, pow_mul a m n]; rfl

theorem one_pow : ∀ n, pow 1 n = 1
  | 0 => rfl
  | n + 1 => by simp only [pow]; rw [one_pow n, mul_one]

theorem pow_two (a : UInt8) : pow a 2 = mul a a := by
  show mul (mul 1 a) a = _
  rw [one_mul]
theorem sq_pow (a : UInt8) (n : Nat) : pow (mul a a) n = pow a (2 * n) := by
  rw [pow_mul, pow_two]

theorem mul3 (p : UInt8) : mul 3 p = dbl p ^^^ p := by
  rw [mul_comm]; revert p; apply all256; decide +kernel

/-- 3's powers -/
def three : Nat → UInt8
  | 0 => 1
  | n + 1 => mul 3 (three n)
theorem three_pow : ∀ n, three n = pow 3 n
  | 0 => rfl
  | n + 1 => by simp only [three, pow]; rw [three_pow n, mul_comm]

def threeN : Nat → Nat
  | 0 => 1
  | n + 1 => let p := threeN n; dblN p ^^^ p
theorem three_nat : ∀ n, (three n).toNat = threeN n
  | 0 => rfl
  | n + 1 => by simp only [three, threeN, mul3, UInt8.toNat_xor, dbl_nat, three_nat n]

/-- the powers one by one, as natural numbers -/
def runs : Nat → Nat → List Nat
  | 0, _ => []
  | k + 1, p => p :: runs k (dblN p ^^^ p)
theorem runs_get : ∀ k m, ∀ x ∈ runs k (threeN m), ∃ n, n < m + k ∧ m ≤ n ∧ threeN n = x
  | 0, _, x, h => by cases h
  | k + 1, m, x, h => by
    rcases List.mem_cons.1 h with rfl | h
    · exact ⟨m, by omega, by omega, rfl⟩
    · obtain ⟨n, h1, h2, h3⟩ := runs_get k (m + 1) x h
      exact ⟨n, by omega, by omega, h3⟩
theorem three_all (a : UInt8) (h : a ≠ 0) : ∃ n, n < 255 ∧ three n = a := by
  have hr : ∀ x < 256, x ≠ 0 → (runs 255 1).contains x = true := by decide +kernel
  have := hr a.toNat a.toNat_lt (fun e => h (by apply UInt8.toNat_inj.1; simpa using e))
  obtain ⟨n, h1, _, h3⟩ := runs_get 255 0 a.toNat (by simpa [threeN] using this)
  exact ⟨n, by omega, by apply UInt8.toNat_inj.1; rw [three_nat, h3]⟩

theorem three255 : pow 3 255 = 1 := by
  rw [← three_pow]
  apply UInt8.toNat_inj.1
  rw [three_nat]
  decide +kernel

theorem pow255 (a : UInt8) (h : a ≠ 0) : pow a 255 = 1 := by
  obtain ⟨n, _, rfl⟩ := three_all a h
  rw [three_pow, ← pow_mul, Nat.mul_comm, pow_mul, three255, one_pow]

theorem pow_even (o a : UInt8) (n : Nat) (h : n % 2 ≠ 1) : mul o (pow (mul a a) (n / 2)) = mul o (pow a n) := by
  rw [sq_pow, show 2 * (n / 2) = n by omega]
theorem pow_odd (o a : UInt8) (n : Nat) (h : n % 2 = 1) : mul (mul o a) (pow (mul a a) (n / 2)) = mul o (pow a n) := by
  have e : pow a n = mul (pow a (2 * (n / 2))) a := by
    have : pow a (2 * (n / 2) + 1) = mul (pow a (2 * (n / 2))) a := rfl
    rw [← this]; congr 1; omega
  rw [sq_pow, mul_assoc, e, mul_comm a]

/-- the inverse: 254 factors -/
def inv (a : UInt8) : UInt8 := pow a 254

theorem inv_step (a : UInt8) : mul (inv a) a = pow a 255 := (pow.eq_2 a 254).symm
theorem mul_inv (a : UInt8) (h : a ≠ 0) : mul a (inv a) = 1 := by
  rw [mul_comm, inv_step]; exact pow255 a h
theorem inv_mul_self (a : UInt8) (h : a ≠ 0) : mul (inv a) a = 1 := by rw [mul_comm, mul_inv a h]
theorem inv_zero : inv 0 = 0 := by show mul (pow 0 253) 0 = 0; rw [mul_zero]

theorem mul_eq_zero (a b : UInt8) (h : mul a b = 0) : a = 0 ∨ b = 0 := by
  by_cases ha : a = 0
  · exact .inl ha
  · right
    have : mul (inv a) (mul a b) = 0 := by rw [h, mul_zero]
    rwa [← mul_assoc, inv_mul_self a ha, one_mul] at this

/-- what times a is 1 is the inverse -/
theorem inv_unique (a b : UInt8) (h : mul b a = 1) : b = inv a := by
  have ha : a ≠ 0 := fun e => by rw [e, mul_zero] at h; exact absurd h (by decide)
  have : mul (mul b a) (inv a) = inv a := by rw [h, one_mul]
  rwa [mul_assoc, mul_inv a ha, mul_one] at this

theorem inv_mul (a b : UInt8) : inv (mul a b) = mul (inv a) (inv b) := mul_pow a b 254

theorem inv_inv (a : UInt8) : inv (inv a) = a := by
  by_cases h : a = 0
  · subst h; rw [inv_zero, inv_zero]
  · exact (inv_unique (inv a) a (mul_inv a h)).symm

theorem three_inv (n : Nat) (h : n ≤ 255) : three (255 - n) = inv (three n) := by
  apply inv_unique
  rw [three_pow, three_pow, ← pow_add, show 255 - n + n = 255 by omega]
  exact pow255 3 (by decide)

/-- a byte turned to the left by one -/
def rot1 (a : UInt8) : UInt8 := (a <<< 1) ||| (a >>> 7)
def rot (a : UInt8) : Nat → UInt8
  | 0 => a
  | n + 1 => rot1 (rot a n)

/-- the box -/
def box (a : UInt8) : UInt8 :=
  let b := inv a
  b ^^^ rot b 1 ^^^ rot b 2 ^^^ rot b 3 ^^^ rot b 4 ^^^ 99
/-- and back -/
def unbox (a : UInt8) : UInt8 := inv (rot a 1 ^^^ rot a 3 ^^^ rot a 6 ^^^ 5)

/-- the box's bits, ahead and back -/
def aff (b : UInt8) : UInt8 := b ^^^ rot b 1 ^^^ rot b 2 ^^^ rot b 3 ^^^ rot b 4 ^^^ 99
def unaff (a : UInt8) : UInt8 := rot a 1 ^^^ rot a 3 ^^^ rot a 6 ^^^ 5
theorem unaff_aff (b : UInt8) : unaff (aff b) = b := by revert b; apply all256; decide +kernel
theorem aff_unaff (b : UInt8) : aff (unaff b) = b := by revert b; apply all256; decide +kernel
theorem unbox_box (a : UInt8) : unbox (box a) = a := by
  show inv (unaff (aff (inv a))) = a
  rw [unaff_aff, inv_inv]
theorem box_unbox (a : UInt8) : box (unbox a) = a := by
  show aff (inv (inv (unaff a))) = a
  rw [inv_inv, aff_unaff]
theorem box_inj (a b : UInt8) : box a = box b ↔ a = b :=
  ⟨fun h => by rw [← unbox_box a, h, unbox_box], fun h => by rw [h]⟩

/-- the box of each byte, laid out -/
def boxTab : List UInt8 := [99, 124, 119, 123, 242, 107, 111, 197, 48, 1, 103, 43, 254, 215, 171, 118, 202, 130, 201, 125, 250, 89, 71, 240, 173, 212, 162, 175, 156, 164, 114, 192, 183, 253, 147, 38, 54, 63, 247, 204, 52, 165, 229, 241, 113, 216, 49, 21, 4, 199, 35, 195, 24, 150, 5, 154, 7, 18, 128, 226, 235, 39, 178, 117, 9, 131, 44, 26, 27, 110, 90, 160, 82, 59, 214, 179, 41, 227, 47, 132, 83, 209, 0, 237, 32, 252, 177, 91, 106, 203, 190, 57, 74, 76, 88, 207, 208, 239, 170, 251, 67, 77, 51, 133, 69, 249, 2, 127, 80, 60, 159, 168, 81, 163, 64, 143, 146, 157, 56, 245, 188, 182, 218, 33, 16, 255, 243, 210, 205, 12, 19, 236, 95, 151, 68, 23, 196, 167, 126, 61, 100, 93, 25, 115, 96, 129, 79, 220, 34, 42, 144, 136, 70, 238, 184, 20, 222, 94, 11, 219, 224, 50, 58, 10, 73, 6, 36, 92, 194, 211, 172, 98, 145, 149, 228, 121, 231, 200, 55, 109, 141, 213, 78, 169, 108, 86, 244, 234, 101, 122, 174, 8, 186, 120, 37, 46, 28, 166, 180, 198, 232, 221, 116, 31, 75, 189, 139, 138, 112, 62, 181, 102, 72, 3, 246, 14, 97, 53, 87, 185, 134, 193, 29, 158, 225, 248, 152, 17, 105, 217, 142, 148, 155, 30, 135, 233, 206, 85, 40, 223, 140, 161, 137, 13, 191, 230, 66, 104, 65, 153, 45, 15, 176, 84, 187, 22]
theorem inv_tab (a : UInt8) : inv a = unaff (boxTab.getD a.toNat 0) := by
  have h : ∀ n < 256, n ≠ 0 → mul (unaff (boxTab.getD (UInt8.ofNat n).toNat 0)) (UInt8.ofNat n) = 1 := by decide +kernel
  by_cases ha : a = 0
  · subst ha; rw [inv_zero]; decide +kernel
  · have := h a.toNat a.toNat_lt (fun e => ha (by apply UInt8.toNat_inj.1; simpa using e))
    simp only [UInt8.ofNat_toNat] at this
    exact (inv_unique a _ this).symm
theorem box_tab (a : UInt8) : box a = boxTab.getD a.toNat 0 := by
  show aff (inv a) = _
  rw [inv_tab, aff_unaff]
theorem box_ne (a : UInt8) : box a ≠ a := by
  rw [box_tab]
  revert a; apply all256; decide +kernel

/-- mixed columns: byte i -/
def mix (c : Nat → UInt8) (i : Nat) : UInt8 := mul 2 (c i) ^^^ mul 3 (c ((i + 1) % 4)) ^^^ c ((i + 2) % 4) ^^^ c ((i + 3) % 4)
def unmix (c : Nat → UInt8) (i : Nat) : UInt8 := mul 14 (c i) ^^^ mul 11 (c ((i + 1) % 4)) ^^^ mul 13 (c ((i + 2) % 4)) ^^^ mul 9 (c ((i + 3) % 4))

end Go.Proofs.Ytepooocdpifcfaa.Gf
