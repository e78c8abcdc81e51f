/- Rows of bools, and the reference's product of two blocks in plain Lean: coefficient by coefficient, then the multiples off. No condition. -/
import Derived.Test.YtepooocdpifcfaaGhSum
namespace Go.Proofs.Ytepooocdpifcfaa
open Go.RowKit

/-! ### rows of bools -/
def blkB (n : Nat) (f : Nat → Bool) : Array Value := ((List.range n).map fun i => Value.bool (f i)).toArray
def updB (f : Nat → Bool) (i : Nat) (v : Bool) : Nat → Bool := fun j => if j = i then v else f j
theorem blkB_size (n : Nat) (f : Nat → Bool) : (blkB n f).size = n := by simp [blkB]
theorem blkB_get (n : Nat) (f : Nat → Bool) (i : Nat) (h : i < n) : (blkB n f)[i]? = some (.bool (f i)) := by simp [blkB, h]
theorem blkB_getE (n : Nat) (f : Nat → Bool) (i : Nat) (h : i < (blkB n f).size) : (blkB n f)[i]'h = .bool (f i) := by
  have h' : i < n := by rw [blkB_size] at h; exact h
  have := blkB_get n f i h'
  rw [Array.getElem?_eq_getElem h] at this
  exact Option.some.inj this
theorem blkB_set (n : Nat) (f : Nat → Bool) (i : Nat) (v : Bool) : (blkB n f).setIfInBounds i (.bool v) = blkB n (updB f i v) := by
  apply Array.ext_getElem?
  intro j
  by_cases hj : j < n
  · rw [blkB_get n _ j hj]
    by_cases hij : i = j
    · subst hij; simp [blkB_size, hj, updB]
    · rw [Array.getElem?_setIfInBounds_ne hij, blkB_get n f j hj]
      simp [updB, Ne.symm hij]
  · simp [blkB_size, Nat.le_of_not_lt hj]
theorem blkB_congr {n : Nat} {f g : Nat → Bool} (h : ∀ i, i < n → f i = g i) : blkB n f = blkB n g := by
  unfold blkB; congr 1
  apply List.map_congr_left
  intro i hi
  rw [h i (List.mem_range.1 hi)]
theorem oneCells_blkB (n : Nat) (f : Nat → Bool) : oneCells (blkB n f) = true := by simp [oneCells, blkB, Value.oneCell']
theorem paste_allB (n : Nat) (f g : Nat → Bool) : paste (blkB n f) 0 (blkB n g) = blkB n g := paste_whole _ _ (by rw [blkB_size, blkB_size])
theorem cut_headB (n : Nat) (f : Nat → Bool) : cut (blkB n f) 0 n = blkB n f := by
  unfold cut
  apply Array.ext_getElem?
  intro j
  rw [Array.getElem?_extract, blkB_size]
  by_cases hj : j < n
  · rw [if_pos (by omega), Nat.zero_add]
  · rw [if_neg (by omega)]
    simp [blkB_size, Nat.le_of_not_lt hj]
theorem blkB_ne (n : Nat) (f : Nat → Bool) : (blkB (n + 1) f = #[]) = False := by
  simp only [eq_iff_iff, iff_false]
  intro h
  have := congrArg Array.size h
  rw [blkB_size] at this
  simp at this

/-! ### what a row of coefficients tells -/
open Gh in
def valTo (p : Nat → Bool) : Nat → Nat
  | 0 => 0
  | m + 1 => valTo p m ^^^ (if p m = true then dblN m one else 0)
theorem valTo_congr {p q : Nat → Bool} : ∀ {m : Nat}, (∀ j, j < m → p j = q j) → valTo p m = valTo q m
  | 0, _ => rfl
  | m + 1, h => by simp only [valTo]; rw [valTo_congr (m := m) (fun j hj => h j (by omega)), h m (by omega)]
theorem valTo_xor (p q : Nat → Bool) : ∀ m, valTo (fun j => p j ^^ q j) m = valTo p m ^^^ valTo q m
  | 0 => by simp [valTo]
  | m + 1 => by
    simp only [valTo]
    rw [valTo_xor p q m, Gh.ite_xor]
    exact Gh.xor_22 _ _ _ _
theorem valTo_none : ∀ m, valTo (fun _ => false) m = 0
  | 0 => rfl
  | m + 1 => by simp [valTo, valTo_none m]
theorem valTo_only (c : Bool) (j : Nat) : ∀ m, valTo (fun i => decide (i = j) && c) m = if j < m ∧ c = true then Gh.dblN j Gh.one else 0
  | 0 => by simp [valTo]
  | m + 1 => by
    simp only [valTo]
    rw [valTo_only c j m]
    cases c
    · simp
    · by_cases h : m = j
      · subst h; simp
      · by_cases h2 : j < m
        · have h3 : j < m + 1 := by omega
          simp [h, h2, h3]
        · have h3 : ¬ j < m + 1 := by omega
          simp [h, h2, h3]
def flip (p : Nat → Bool) (j : Nat) : Nat → Bool := updB p j (!p j)
theorem valTo_flip (p : Nat → Bool) (j m : Nat) (h : j < m) : valTo (flip p j) m = valTo p m ^^^ Gh.dblN j Gh.one := by
  have e : flip p j = fun i => p i ^^ (decide (i = j) && true) := by
    funext i
    unfold flip updB
    by_cases hi : i = j
    · subst hi; simp
    · simp [hi]
  rw [e, valTo_xor, valTo_only, if_pos ⟨h, rfl⟩]
theorem valTo_bits (v : Nat) : ∀ m, valTo (fun i => v.testBit (127 - i)) m = Gh.tm Gh.one v m
  | 0 => rfl
  | m + 1 => by simp only [valTo, Gh.tm, valTo_bits v m]
theorem top_is : Gh.dblN 128 Gh.one = Gh.one ^^^ Gh.dblN 1 Gh.one ^^^ Gh.dblN 2 Gh.one ^^^ Gh.dblN 7 Gh.one := by decide +kernel
theorem top_at (k : Nat) : Gh.dblN (k + 128) Gh.one = Gh.dblN k Gh.one ^^^ Gh.dblN (k + 1) Gh.one ^^^ Gh.dblN (k + 2) Gh.one ^^^ Gh.dblN (k + 7) Gh.one := by
  have a0 := Gh.dblN_add Gh.one 128 k
  have a1 := Gh.dblN_add Gh.one 1 k
  have a2 := Gh.dblN_add Gh.one 2 k
  have a7 := Gh.dblN_add Gh.one 7 k
  rw [a0, a1, a2, a7, top_is, Gh.dblN_xor, Gh.dblN_xor, Gh.dblN_xor]

/-! ### the multiples off -/
def flip4 (p : Nat → Bool) (i : Nat) : Nat → Bool := flip (flip (flip (flip p (i - 128)) (i - 127)) (i - 126)) (i - 121)
def redOne (q : Nat → Bool) (i : Nat) : Nat → Bool := if q i = true then flip4 q i else q
def red (p : Nat → Bool) : Nat → Nat → Bool
  | 0 => p
  | n + 1 => redOne (red p n) (254 - n)
theorem red_val (p : Nat → Bool) : ∀ n, n ≤ 127 → valTo (red p n) (255 - n) = valTo p 255
  | 0, _ => rfl
  | n + 1, h => by
    rw [← red_val p n (by omega)]
    rw [show 255 - n = (254 - n) + 1 by omega, show 255 - (n + 1) = 254 - n by omega]
    have hr : red p (n + 1) = redOne (red p n) (254 - n) := rfl
    have hlo : 128 ≤ 254 - n := by omega
    rw [hr]
    generalize 254 - n = m at hlo ⊢
    generalize red p n = q
    have hv : valTo q (m + 1) = valTo q m ^^^ (if q m = true then Gh.dblN m Gh.one else 0) := rfl
    rw [hv]
    unfold redOne
    by_cases hb : q m = true
    · rw [if_pos hb, if_pos hb]
      unfold flip4
      rw [valTo_flip _ _ _ (by omega), valTo_flip _ _ _ (by omega), valTo_flip _ _ _ (by omega), valTo_flip _ _ _ (by omega)]
      have ht := top_at (m - 128)
      rw [show m - 128 + 128 = m by omega, show m - 128 + 1 = m - 127 by omega, show m - 128 + 2 = m - 126 by omega, show m - 128 + 7 = m - 121 by omega] at ht
      rw [ht]
      simp only [Nat.xor_assoc]
    · rw [if_neg hb, if_neg hb, Nat.xor_zero]

/-! ### the product -/
def pA (x y : Nat → Bool) : Nat → Nat → Bool
  | 0 => fun _ => false
  | i + 1 => fun j => pA x y i j ^^ (x i && (decide (i ≤ j ∧ j < i + 128) && y (j - i)))
def pI (x y : Nat → Bool) (i k : Nat) : Nat → Bool := fun j => pA x y i j ^^ (decide (i ≤ j ∧ j < i + k) && y (j - i))
theorem valTo_shift (y : Nat → Bool) (i N : Nat) : ∀ m, i + m ≤ N → valTo (fun j => decide (i ≤ j ∧ j < i + m) && y (j - i)) N = Gh.dblN i (valTo y m)
  | 0, _ => by
    have e : (fun j => decide (i ≤ j ∧ j < i + 0) && y (j - i)) = fun _ => false := by
      funext j
      have h0 : ¬ (i ≤ j ∧ j < i + 0) := by omega
      rw [decide_eq_false h0, Bool.false_and]
    rw [e, valTo_none]; exact (Gh.dblN_zero i).symm
  | m + 1, h => by
    have e : (fun j => decide (i ≤ j ∧ j < i + (m + 1)) && y (j - i)) = fun j => (decide (i ≤ j ∧ j < i + m) && y (j - i)) ^^ (decide (j = i + m) && y m) := by
      funext j
      by_cases h1 : j = i + m
      · subst h1
        have a1 : ¬ (i ≤ i + m ∧ i + m < i + m) := by omega
        have a2 : i ≤ i + m ∧ i + m < i + (m + 1) := by omega
        have a3 : i + m - i = m := by omega
        simp [a3]
      · by_cases h2 : i ≤ j ∧ j < i + m
        · have a2 : i ≤ j ∧ j < i + (m + 1) := by omega
          simp [h1, h2, a2]
        · have a2 : ¬ (i ≤ j ∧ j < i + (m + 1)) := by omega
          simp [h1, h2, a2]
    rw [e, valTo_xor, valTo_shift y i N m (by omega), valTo_only]
    simp only [valTo]
    rw [Gh.dblN_xor]
    congr 1
    cases y m
    · simp [Gh.dblN_zero]
    · rw [if_pos ⟨by omega, rfl⟩, if_pos rfl, Gh.dblN_add]
theorem pA_val (v : Nat) (y : Nat → Bool) : ∀ n, n ≤ 128 → valTo (pA (fun i => v.testBit (127 - i)) y n) 255 = Gh.tm (valTo y 128) v n
  | 0, _ => valTo_none 255
  | n + 1, h => by
    simp only [pA, Gh.tm]
    rw [valTo_xor, pA_val v y n (by omega)]
    congr 1
    cases v.testBit (127 - n)
    · simp [valTo_none]
    · simp only [Bool.true_and, if_true]
      exact valTo_shift y n 255 128 (by omega)
theorem pI_zero (x y : Nat → Bool) (i : Nat) : blkB 255 (pI x y i 0) = blkB 255 (pA x y i) := blkB_congr fun j _ => by
  unfold pI
  have h0 : ¬ (i ≤ j ∧ j < i + 0) := by omega
  rw [decide_eq_false h0, Bool.false_and, Bool.xor_false]
theorem pI_all (x y : Nat → Bool) (i : Nat) (h : x i = true) : blkB 255 (pI x y i 128) = blkB 255 (pA x y (i + 1)) := blkB_congr fun j _ => by
  unfold pI
  simp only [pA, h, Bool.true_and]
theorem pA_skip (x y : Nat → Bool) (i : Nat) (h : x i = false) : blkB 255 (pA x y (i + 1)) = blkB 255 (pA x y i) := blkB_congr fun j _ => by
  simp only [pA, h, Bool.false_and, Bool.xor_false]
theorem pI_step (x y : Nat → Bool) (i k : Nat) : blkB 255 (updB (pI x y i k) (i + k) (pI x y i k (i + k) ^^ y k)) = blkB 255 (pI x y i (k + 1)) := blkB_congr fun j _ => by
  unfold updB pI
  by_cases h : j = i + k
  · subst h
    have a3 : i + k - i = k := by omega
    simp [a3]
  · rw [if_neg h]
    by_cases h2 : i ≤ j ∧ j < i + k
    · have a2 : i ≤ j ∧ j < i + (k + 1) := by omega
      simp [h2, a2]
    · have a2 : ¬ (i ≤ j ∧ j < i + (k + 1)) := by omega
      simp [h2, a2]

/-! ### bits as bytes -/
def accN (p : Nat → Bool) (q : Nat) : Nat → Nat
  | 0 => 0
  | c + 1 => 2 * accN p q c + (if p (8 * q + c) = true then 1 else 0)
theorem accN_lt (p : Nat → Bool) (q : Nat) : ∀ c, accN p q c < 2 ^ c
  | 0 => by simp [accN]
  | c + 1 => by
    have := accN_lt p q c
    simp only [accN]
    rw [Nat.pow_succ]
    split <;> omega
theorem accN_bit (p : Nat → Bool) (q : Nat) : ∀ c j, j < c → (accN p q c).testBit (c - 1 - j) = p (8 * q + j)
  | 0, j, h => by omega
  | c + 1, j, h => by
    simp only [accN]
    by_cases hj : j = c
    · subst hj
      rw [show j + 1 - 1 - j = 0 by omega, Nat.testBit_zero]
      cases p (8 * q + j)
      · simp
      · simp only [if_true]
        apply decide_eq_true; omega
    · have ih := accN_bit p q c j (by omega)
      rw [show c + 1 - 1 - j = (c - 1 - j) + 1 by omega, Nat.testBit_succ]
      rw [show (2 * accN p q c + (if p (8 * q + c) = true then 1 else 0)) / 2 = accN p q c by split <;> omega]
      exact ih
def outF (p : Nat → Bool) (i : Nat) : Nat → UInt8 := fun q => UInt8.ofNat (accN p q (min 8 (i - 8 * q)))
def outD (p : Nat → Bool) (i : Nat) : UInt8 := UInt8.ofNat (2 * accN p (i / 8) (i % 8))
theorem outF_zero (p : Nat → Bool) : blk 16 (outF p 0) = blk 16 (fun _ => 0) := blk_congr fun q _ => by
  unfold outF
  rw [Nat.zero_sub]; rfl
theorem outF_at (p : Nat → Bool) (i : Nat) : (outF p i (i / 8)).toNat = accN p (i / 8) (i % 8) := by
  unfold outF
  rw [show min 8 (i - 8 * (i / 8)) = i % 8 by omega, UInt8.toNat_ofNat']
  have h := accN_lt p (i / 8) (i % 8)
  have h2 : 2 ^ (i % 8) ≤ 2 ^ 7 := Nat.pow_le_pow_right (by decide) (by omega)
  omega
theorem outD_nat (p : Nat → Bool) (i : Nat) : (outD p i).toNat = 2 * accN p (i / 8) (i % 8) := by
  unfold outD
  rw [UInt8.toNat_ofNat']
  have h := accN_lt p (i / 8) (i % 8)
  have h2 : 2 ^ (i % 8) ≤ 2 ^ 7 := Nat.pow_le_pow_right (by decide) (by omega)
  omega
theorem outD_wrap (p : Nat → Bool) (i : Nat) : IntKind.u8.wrap ((2 : Int) * B (outF p i (quo8 i))) = B (outD p i) := by
  rw [wrap8]
  unfold B quo8
  rw [outF_at, outD_nat]
  have h := accN_lt p (i / 8) (i % 8)
  have h2 : 2 ^ (i % 8) ≤ 2 ^ 7 := Nat.pow_le_pow_right (by decide) (by omega)
  omega
theorem outD_one (p : Nat → Bool) (i : Nat) : IntKind.u8.wrap (B (outD p i) + (1 : Int)) = B (outD p i + 1) := by
  rw [wrap8]
  unfold B
  rw [UInt8.toNat_add]
  have := (outD p i).toNat_lt
  show ((outD p i).toNat + 1 : Int) % 256 = (((outD p i).toNat + 1) % 2 ^ 8 : Nat)
  omega
theorem outF_next (p : Nat → Bool) (i : Nat) (x : UInt8) (hx : x.toNat = 2 * accN p (i / 8) (i % 8) + (if p i = true then 1 else 0)) : blk 16 (upd (outF p i) (quo8 i) x) = blk 16 (outF p (i + 1)) := blk_congr fun q _ => by
  unfold upd quo8
  by_cases h : q = i / 8
  · subst h
    rw [if_pos rfl]
    unfold outF
    rw [show min 8 (i + 1 - 8 * (i / 8)) = i % 8 + 1 by omega]
    simp only [accN]
    rw [show 8 * (i / 8) + i % 8 = i by omega, ← hx]
    apply UInt8.toNat_inj.1
    rw [UInt8.toNat_ofNat']
    have := x.toNat_lt
    omega
  · rw [if_neg h]
    unfold outF
    congr 2
    omega
theorem outF_no (p : Nat → Bool) (i : Nat) (h : p i = false) : blk 16 (upd (outF p i) (quo8 i) (outD p i)) = blk 16 (outF p (i + 1)) := outF_next p i _ (by rw [outD_nat, h]; simp)
theorem outF_yes (p : Nat → Bool) (i : Nat) (h : p i = true) : blk 16 (upd (upd (outF p i) (quo8 i) (outD p i)) (quo8 i) (outD p i + 1)) = blk 16 (outF p (i + 1)) := by
  rw [← outF_next p i (outD p i + 1) (by
    rw [UInt8.toNat_add, outD_nat, h]
    have h := accN_lt p (i / 8) (i % 8)
    have h2 : 2 ^ (i % 8) ≤ 2 ^ 7 := Nat.pow_le_pow_right (by decide) (by omega)
    show (2 * accN p (i / 8) (i % 8) + 1) % 2 ^ 8 = 2 * accN p (i / 8) (i % 8) + 1
    omega)]
  refine blk_congr fun q _ => ?_
  unfold upd
  by_cases hq : q = quo8 i
  · rw [if_pos hq, if_pos hq]
  · rw [if_neg hq, if_neg hq, if_neg hq]
theorem outF_num (p : Nat → Bool) : num (outF p 128) = valTo p 128 := by
  have hb : ∀ i, i < 128 → (num (outF p 128)).testBit (127 - i) = p i := fun i hi => by
    have h := byte_bit (outF p 128) (i / 8) (7 - i % 8) (by omega) (by omega)
    rw [show 8 * (15 - i / 8) + (7 - i % 8) = 127 - i by omega] at h
    rw [← h]
    unfold outF
    rw [show min 8 (128 - 8 * (i / 8)) = 8 by omega, UInt8.toNat_ofNat', Nat.mod_eq_of_lt (accN_lt p (i / 8) 8)]
    have := accN_bit p (i / 8) 8 (i % 8) (by omega)
    rw [show 8 - 1 - i % 8 = 7 - i % 8 by omega, show 8 * (i / 8) + i % 8 = i by omega] at this
    exact this
  have h1 : valTo p 128 = valTo (fun i => (num (outF p 128)).testBit (127 - i)) 128 := valTo_congr fun j hj => (hb j hj).symm
  rw [h1, valTo_bits]
  exact (Gh.one_mul (num_lt _)).symm
/-- all of it -/
theorem ref_product (a b : Nat → UInt8) : blk 16 (outF (red (pA (bitB a) (bitB b) 128) 127) 128) = blk 16 (mulB a b) := by
  have h1 := outF_num (red (pA (bitB a) (bitB b) 128) 127)
  have h2 := red_val (pA (bitB a) (bitB b) 128) 127 (Nat.le_refl _)
  have h3 := pA_val (num a) (bitB b) 128 (Nat.le_refl _)
  have h4 : valTo (bitB b) 128 = num b := (valTo_bits (num b) 128).trans (Gh.one_mul (num_lt b))
  rw [h4] at h3
  have h5 : num (outF (red (pA (bitB a) (bitB b) 128) 127) 128) = Gh.mul (num a) (num b) := by
    rw [h1, Gh.mul_comm (num_lt a) (num_lt b)]
    exact h2.trans h3
  rw [← blk_unum, h5]; rfl
end Go.Proofs.Ytepooocdpifcfaa
