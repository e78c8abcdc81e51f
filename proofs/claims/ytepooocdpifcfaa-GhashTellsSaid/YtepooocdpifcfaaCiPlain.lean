/- The cipher in plain Lean: blocks as functions of the place, rounds, what is put in secret and told again. No program stands in this text; no condition. -/
import Derived.Test.YtepooocdpifcfaaGfPlain
namespace Go.Proofs.Ytepooocdpifcfaa.Ci
open Gf

/-- two blocks put together -/
def xorB (a b : Nat → UInt8) : Nat → UInt8 := fun i => a i ^^^ b i
def turnAt (i : Nat) : Nat := (i + 4 * (i % 4)) % 16
def unturnAt (i : Nat) : Nat := (i + 12 * (i % 4)) % 16
def turn (b : Nat → UInt8) : Nat → UInt8 := fun i => b (turnAt i)
def unturn (b : Nat → UInt8) : Nat → UInt8 := fun i => b (unturnAt i)
def each (g : UInt8 → UInt8) (b : Nat → UInt8) : Nat → UInt8 := fun i => g (b i)
/-- a column -/
def col (b : Nat → UInt8) (n : Nat) : Nat → UInt8 := fun k => b (4 * n + k)
def columns (m : (Nat → UInt8) → Nat → UInt8) (b : Nat → UInt8) : Nat → UInt8 := fun i => m (col b (i / 4)) (i % 4)
/-- a round of some -/
def rd (r : Nat → UInt8) (n : Nat) : Nat → UInt8 := fun i => r (16 * n + i)

/-- the word that is put to the first of a round -/
def first (b : Nat → UInt8) (mark : UInt8) : Nat → UInt8 := fun i => match i with
  | 0 => box (b 13) ^^^ mark
  | 1 => box (b 14)
  | 2 => box (b 15)
  | _ => box (b 12)
/-- the round behind one, word by word -/
def nextAt (b t : Nat → UInt8) : Nat → Nat → UInt8
  | 0, i => b i ^^^ t i
  | n + 1, i => b (4 * (n + 1) + i) ^^^ nextAt b t n i
def next (b : Nat → UInt8) (mark : UInt8) : Nat → UInt8 := fun j => nextAt b (first b mark) (j / 4) (j % 4)
def mark : Nat → UInt8
  | 0 => 1
  | n + 1 => dbl (mark n)
/-- round n of a key -/
def expand (key : Nat → UInt8) : Nat → Nat → UInt8
  | 0 => key
  | n + 1 => next (expand key n) (mark n)
/-- all rounds in a row -/
def rounds (key : Nat → UInt8) : Nat → UInt8 := fun j => expand key (j / 16) (j % 16)

/-- a block in secret: behind n rounds -/
def sealTo (r b : Nat → UInt8) : Nat → Nat → UInt8
  | 0 => xorB b (rd r 0)
  | n + 1 => xorB (columns mix (turn (each box (sealTo r b n)))) (rd r (n + 1))
def sealB (r b : Nat → UInt8) : Nat → UInt8 := xorB (turn (each box (sealTo r b 9))) (rd r 10)
/-- told again: behind n rounds, from the last on -/
def openTo (r b : Nat → UInt8) : Nat → Nat → UInt8
  | 0 => xorB b (rd r 10)
  | n + 1 => columns unmix (xorB (each unbox (unturn (openTo r b n))) (rd r (9 - n)))
def openB (r b : Nat → UInt8) : Nat → UInt8 := xorB (each unbox (unturn (openTo r b 9))) (rd r 0)

/-! ### the same bytes -/
def EqB (a b : Nat → UInt8) : Prop := ∀ i, i < 16 → a i = b i
theorem EqB.refl (a : Nat → UInt8) : EqB a a := fun _ _ => rfl
theorem EqB.symm {a b : Nat → UInt8} (h : EqB a b) : EqB b a := fun i hi => (h i hi).symm
theorem EqB.trans {a b c : Nat → UInt8} (h : EqB a b) (k : EqB b c) : EqB a c := fun i hi => (h i hi).trans (k i hi)
theorem turnAt_lt (i : Nat) : turnAt i < 16 := Nat.mod_lt _ (by decide)
theorem unturnAt_lt (i : Nat) : unturnAt i < 16 := Nat.mod_lt _ (by decide)
theorem turn_unturnAt : ∀ i < 16, turnAt (unturnAt i) = i := by decide
theorem unturn_turnAt : ∀ i < 16, unturnAt (turnAt i) = i := by decide
theorem EqB.xor {a b c d : Nat → UInt8} (h : EqB a b) (k : EqB c d) : EqB (xorB a c) (xorB b d) := fun i hi => by unfold xorB; rw [h i hi, k i hi]
theorem EqB.turn {a b : Nat → UInt8} (h : EqB a b) : EqB (turn a) (turn b) := fun i _ => h _ (turnAt_lt i)
theorem EqB.unturn {a b : Nat → UInt8} (h : EqB a b) : EqB (unturn a) (unturn b) := fun i _ => h _ (unturnAt_lt i)
theorem EqB.each {a b : Nat → UInt8} (h : EqB a b) (g : UInt8 → UInt8) : EqB (each g a) (each g b) := fun i hi => by unfold Ci.each; rw [h i hi]
theorem mix_congr {c d : Nat → UInt8} (h : ∀ i, i < 4 → c i = d i) (i : Nat) (hi : i < 4) : mix c i = mix d i := by
  unfold mix
  rw [h i hi, h _ (Nat.mod_lt _ (by decide)), h _ (Nat.mod_lt _ (by decide)), h _ (Nat.mod_lt _ (by decide))]
theorem unmix_congr {c d : Nat → UInt8} (h : ∀ i, i < 4 → c i = d i) (i : Nat) (hi : i < 4) : unmix c i = unmix d i := by
  unfold unmix
  rw [h i hi, h _ (Nat.mod_lt _ (by decide)), h _ (Nat.mod_lt _ (by decide)), h _ (Nat.mod_lt _ (by decide))]
theorem EqB.columns {a b : Nat → UInt8} {m : (Nat → UInt8) → Nat → UInt8} (hm : ∀ {c d : Nat → UInt8}, (∀ i, i < 4 → c i = d i) → ∀ i, i < 4 → m c i = m d i) (h : EqB a b) : EqB (columns m a) (columns m b) := fun i hi => by
  unfold Ci.columns
  refine hm (fun k hk => ?_) _ (Nat.mod_lt _ (by decide))
  exact h _ (by omega)
theorem EqB.rd {r s : Nat → UInt8} (h : ∀ j, j < 176 → r j = s j) (n : Nat) (hn : n ≤ 10) : EqB (rd r n) (rd s n) := fun i hi => h _ (by omega)

theorem xor_cancel (a b : UInt8) : a ^^^ b ^^^ b = a := by rw [UInt8.xor_assoc, UInt8.xor_self, UInt8.xor_zero]
theorem xorB_cancel (a b : Nat → UInt8) : xorB (xorB a b) b = a := by funext i; exact xor_cancel _ _
theorem turn_unturn (a : Nat → UInt8) : EqB (turn (unturn a)) a := fun i hi => by show a (unturnAt (turnAt i)) = a i; rw [unturn_turnAt i hi]
theorem unturn_turn (a : Nat → UInt8) : EqB (unturn (turn a)) a := fun i hi => by show a (turnAt (unturnAt i)) = a i; rw [turn_unturnAt i hi]
theorem unbox_each (a : Nat → UInt8) : each unbox (each box a) = a := by funext i; exact unbox_box _
theorem box_each (a : Nat → UInt8) : each box (each unbox a) = a := by funext i; exact box_unbox _

/-! ### mixed columns undone: both sides add up, byte by byte -/
theorem four_cases {i : Nat} (hi : i < 4) : i = 0 ∨ i = 1 ∨ i = 2 ∨ i = 3 := by omega
theorem mul_add4 (k a b c d : UInt8) : mul k (a ^^^ b ^^^ c ^^^ d) = mul k a ^^^ mul k b ^^^ mul k c ^^^ mul k d := by rw [mul_xor_right, mul_xor_right, mul_xor_right]
theorem xor_ac (a b c d e f g h i j k l m n o p : UInt8) :
    (a ^^^ b ^^^ c ^^^ d) ^^^ (e ^^^ f ^^^ g ^^^ h) ^^^ (i ^^^ j ^^^ k ^^^ l) ^^^ (m ^^^ n ^^^ o ^^^ p) = (a ^^^ e ^^^ i ^^^ m) ^^^ (b ^^^ f ^^^ j ^^^ n) ^^^ (c ^^^ g ^^^ k ^^^ o) ^^^ (d ^^^ h ^^^ l ^^^ p) := by ac_rfl
theorem coef (k l m n x : UInt8) : mul k x ^^^ mul l x ^^^ mul m x ^^^ mul n x = mul (k ^^^ l ^^^ m ^^^ n) x := by rw [mul_xor_left, mul_xor_left, mul_xor_left]
/-- turned round by k places -/
def sh (c : Nat → UInt8) (k : Nat) : Nat → UInt8 := fun i => c ((i + k) % 4)
theorem mix_sh (c : Nat → UInt8) (k i : Nat) (hk : k < 4) (hi : i < 4) : mix (sh c k) i = mix c ((i + k) % 4) := by
  unfold mix sh
  rcases four_cases hi with rfl | rfl | rfl | rfl <;> rcases four_cases hk with rfl | rfl | rfl | rfl <;> rfl
theorem unmix_sh (c : Nat → UInt8) (k i : Nat) (hk : k < 4) (hi : i < 4) : unmix (sh c k) i = unmix c ((i + k) % 4) := by
  unfold unmix sh
  rcases four_cases hi with rfl | rfl | rfl | rfl <;> rcases four_cases hk with rfl | rfl | rfl | rfl <;> rfl
theorem unmix_mix0 (c : Nat → UInt8) : unmix (mix c) 0 = c 0 := by
  have z : ∀ x : UInt8, mul 0 x = 0 := zero_mul
  simp only [unmix, mix, Nat.reduceAdd, Nat.reduceMod]
  rw [mul_add4, mul_add4, mul_add4, mul_add4]
  simp only [← mul_assoc]
  rw [show (mul (mul 14 2) (c 0) ^^^ mul (mul 14 3) (c 1) ^^^ mul 14 (c 2) ^^^ mul 14 (c 3) ^^^ (mul (mul 11 2) (c 1) ^^^ mul (mul 11 3) (c 2) ^^^ mul 11 (c 3) ^^^ mul 11 (c 0)) ^^^ (mul (mul 13 2) (c 2) ^^^ mul (mul 13 3) (c 3) ^^^ mul 13 (c 0) ^^^ mul 13 (c 1)) ^^^ (mul (mul 9 2) (c 3) ^^^ mul (mul 9 3) (c 0) ^^^ mul 9 (c 1) ^^^ mul 9 (c 2))) = (mul (mul 14 2) (c 0) ^^^ mul 11 (c 0) ^^^ mul 13 (c 0) ^^^ mul (mul 9 3) (c 0)) ^^^ (mul (mul 14 3) (c 1) ^^^ mul (mul 11 2) (c 1) ^^^ mul 13 (c 1) ^^^ mul 9 (c 1)) ^^^ (mul 14 (c 2) ^^^ mul (mul 11 3) (c 2) ^^^ mul (mul 13 2) (c 2) ^^^ mul 9 (c 2)) ^^^ (mul 14 (c 3) ^^^ mul 11 (c 3) ^^^ mul (mul 13 3) (c 3) ^^^ mul (mul 9 2) (c 3)) from by ac_rfl]
  rw [coef, coef, coef, coef, show mul 14 2 ^^^ 11 ^^^ 13 ^^^ mul 9 3 = 1 from by decide +kernel, show mul 14 3 ^^^ mul 11 2 ^^^ 13 ^^^ 9 = 0 from by decide +kernel, show 14 ^^^ mul 11 3 ^^^ mul 13 2 ^^^ 9 = 0 from by decide +kernel, show 14 ^^^ 11 ^^^ mul 13 3 ^^^ mul 9 2 = 0 from by decide +kernel]
  simp [z, one_mul]
theorem mix_unmix0 (c : Nat → UInt8) : mix (unmix c) 0 = c 0 := by
  have z : ∀ x : UInt8, mul 0 x = 0 := zero_mul
  have o : ∀ x : UInt8, x = mul 1 x := fun x => (one_mul x).symm
  simp only [unmix, mix, Nat.reduceAdd, Nat.reduceMod]
  rw [mul_add4, mul_add4]
  simp only [← mul_assoc]
  rw [show (mul (mul 2 14) (c 0) ^^^ mul (mul 2 11) (c 1) ^^^ mul (mul 2 13) (c 2) ^^^ mul (mul 2 9) (c 3) ^^^ (mul (mul 3 14) (c 1) ^^^ mul (mul 3 11) (c 2) ^^^ mul (mul 3 13) (c 3) ^^^ mul (mul 3 9) (c 0)) ^^^ (mul 14 (c 2) ^^^ mul 11 (c 3) ^^^ mul 13 (c 0) ^^^ mul 9 (c 1)) ^^^ (mul 14 (c 3) ^^^ mul 11 (c 0) ^^^ mul 13 (c 1) ^^^ mul 9 (c 2))) = (mul (mul 2 14) (c 0) ^^^ mul (mul 3 9) (c 0) ^^^ mul 13 (c 0) ^^^ mul 11 (c 0)) ^^^ (mul (mul 2 11) (c 1) ^^^ mul (mul 3 14) (c 1) ^^^ mul 9 (c 1) ^^^ mul 13 (c 1)) ^^^ (mul (mul 2 13) (c 2) ^^^ mul (mul 3 11) (c 2) ^^^ mul 14 (c 2) ^^^ mul 9 (c 2)) ^^^ (mul (mul 2 9) (c 3) ^^^ mul (mul 3 13) (c 3) ^^^ mul 11 (c 3) ^^^ mul 14 (c 3)) from by ac_rfl]
  rw [coef, coef, coef, coef, show mul 2 14 ^^^ mul 3 9 ^^^ 13 ^^^ 11 = 1 from by decide +kernel, show mul 2 11 ^^^ mul 3 14 ^^^ 9 ^^^ 13 = 0 from by decide +kernel, show mul 2 13 ^^^ mul 3 11 ^^^ 14 ^^^ 9 = 0 from by decide +kernel, show mul 2 9 ^^^ mul 3 13 ^^^ 11 ^^^ 14 = 0 from by decide +kernel]
  simp [z, one_mul]
theorem unmix_mix (c : Nat → UInt8) (i : Nat) (hi : i < 4) : unmix (mix c) i = c i := by
  have h := unmix_sh (mix c) i 0 hi (by decide)
  rw [Nat.zero_add, Nat.mod_eq_of_lt hi] at h
  rw [← h, unmix_congr (c := sh (mix c) i) (d := mix (sh c i)) (fun k hk => (mix_sh c i k hi hk).symm) 0 (by decide), unmix_mix0]
  show c ((0 + i) % 4) = c i
  rw [Nat.zero_add, Nat.mod_eq_of_lt hi]
theorem mix_unmix (c : Nat → UInt8) (i : Nat) (hi : i < 4) : mix (unmix c) i = c i := by
  have h := mix_sh (unmix c) i 0 hi (by decide)
  rw [Nat.zero_add, Nat.mod_eq_of_lt hi] at h
  rw [← h, mix_congr (c := sh (unmix c) i) (d := unmix (sh c i)) (fun k hk => (unmix_sh c i k hi hk).symm) 0 (by decide), mix_unmix0]
  show c ((0 + i) % 4) = c i
  rw [Nat.zero_add, Nat.mod_eq_of_lt hi]
theorem col_columns (m : (Nat → UInt8) → Nat → UInt8) (b : Nat → UInt8) (n : Nat) : ∀ k, k < 4 → col (columns m b) n k = m (col b n) k := fun k hk => by
  unfold col columns
  rw [show (4 * n + k) / 4 = n by omega, show (4 * n + k) % 4 = k by omega]; rfl
theorem columns_undo (m u : (Nat → UInt8) → Nat → UInt8) (hu : ∀ {c d : Nat → UInt8}, (∀ i, i < 4 → c i = d i) → ∀ i, i < 4 → u c i = u d i) (h : ∀ c i, i < 4 → u (m c) i = c i) (b : Nat → UInt8) : EqB (columns u (columns m b)) b := fun i _ => by
  show u (col (columns m b) (i / 4)) (i % 4) = b i
  have h4 : i % 4 < 4 := Nat.mod_lt _ (by decide)
  rw [hu (fun k hk => col_columns m b (i / 4) k hk) _ h4, h _ _ h4]
  show b (4 * (i / 4) + i % 4) = b i
  congr 1; omega

/-! ### what is put in secret is told again -/
theorem openTo_seal (r b : Nat → UInt8) : ∀ n, n ≤ 9 → EqB (openTo r (sealB r b) n) (turn (each box (sealTo r b (9 - n))))
  | 0, _ => by
    show EqB (xorB (xorB (turn (each box (sealTo r b 9))) (rd r 10)) (rd r 10)) _
    rw [xorB_cancel]; exact EqB.refl _
  | n + 1, hn => by
    have ih := openTo_seal r b n (by omega)
    show EqB (columns unmix (xorB (each unbox (unturn (openTo r (sealB r b) n))) (rd r (9 - n)))) _
    have e : 9 - n = (9 - (n + 1)) + 1 := by omega
    have h1 : EqB (each unbox (unturn (openTo r (sealB r b) n))) (sealTo r b (9 - n)) := by
      refine ((ih.unturn.trans (unturn_turn _)).each unbox).trans ?_
      rw [unbox_each]; exact EqB.refl _
    have h2 : EqB (xorB (each unbox (unturn (openTo r (sealB r b) n))) (rd r (9 - n))) (columns mix (turn (each box (sealTo r b (9 - (n + 1)))))) := by
      refine (h1.xor (EqB.refl (rd r (9 - n)))).trans ?_
      rw [e]
      show EqB (xorB (xorB (columns mix (turn (each box (sealTo r b (9 - (n + 1)))))) (rd r (9 - (n + 1) + 1))) (rd r (9 - (n + 1) + 1))) _
      rw [xorB_cancel]; exact EqB.refl _
    exact (EqB.columns unmix_congr h2).trans (columns_undo mix unmix unmix_congr unmix_mix _)
theorem open_seal (r b : Nat → UInt8) : EqB (openB r (sealB r b)) b := by
  show EqB (xorB (each unbox (unturn (openTo r (sealB r b) 9))) (rd r 0)) b
  have h := openTo_seal r b 9 (by omega)
  have h1 : EqB (each unbox (unturn (openTo r (sealB r b) 9))) (sealTo r b 0) := by
    refine ((h.unturn.trans (unturn_turn _)).each unbox).trans ?_
    rw [unbox_each]; exact EqB.refl _
  refine (h1.xor (EqB.refl (rd r 0))).trans ?_
  show EqB (xorB (xorB b (rd r 0)) (rd r 0)) b
  rw [xorB_cancel]; exact EqB.refl _
theorem sealTo_open (r b : Nat → UInt8) : ∀ n, n ≤ 9 → EqB (sealTo r (openB r b) n) (each unbox (unturn (openTo r b (9 - n))))
  | 0, _ => by
    show EqB (xorB (xorB (each unbox (unturn (openTo r b 9))) (rd r 0)) (rd r 0)) _
    rw [xorB_cancel]; exact EqB.refl _
  | n + 1, hn => by
    have ih := sealTo_open r b n (by omega)
    show EqB (xorB (columns mix (turn (each box (sealTo r (openB r b) n)))) (rd r (n + 1))) _
    have e : 9 - n = (9 - (n + 1)) + 1 := by omega
    have e2 : 9 - (9 - (n + 1)) = n + 1 := by omega
    have h1 : EqB (turn (each box (sealTo r (openB r b) n))) (openTo r b (9 - n)) := by
      refine (ih.each box).turn.trans ?_
      rw [box_each]; exact turn_unturn _
    have h2 : EqB (columns mix (turn (each box (sealTo r (openB r b) n)))) (xorB (each unbox (unturn (openTo r b (9 - (n + 1))))) (rd r (n + 1))) := by
      refine (EqB.columns mix_congr h1).trans ?_
      rw [e]
      show EqB (columns mix (columns unmix (xorB (each unbox (unturn (openTo r b (9 - (n + 1))))) (rd r (9 - (9 - (n + 1))))))) _
      rw [e2]
      exact columns_undo unmix mix mix_congr mix_unmix _
    refine (h2.xor (EqB.refl (rd r (n + 1)))).trans ?_
    rw [xorB_cancel]; exact EqB.refl _
theorem seal_open (r b : Nat → UInt8) : EqB (sealB r (openB r b)) b := by
  show EqB (xorB (turn (each box (sealTo r (openB r b) 9))) (rd r 10)) b
  have h := sealTo_open r b 9 (by omega)
  have h1 : EqB (turn (each box (sealTo r (openB r b) 9))) (openTo r b 0) := by
    refine (h.each box).turn.trans ?_
    rw [box_each]; exact turn_unturn _
  refine (h1.xor (EqB.refl (rd r 10))).trans ?_
  show EqB (xorB (xorB b (rd r 10)) (rd r 10)) b
  rw [xorB_cancel]; exact EqB.refl _
theorem sealTo_congr {r a b : Nat → UInt8} (h : EqB a b) : ∀ n, EqB (sealTo r a n) (sealTo r b n)
  | 0 => h.xor (EqB.refl _)
  | n + 1 => (EqB.columns mix_congr ((sealTo_congr h n).each box).turn).xor (EqB.refl _)
theorem seal_congr {r a b : Nat → UInt8} (h : EqB a b) : EqB (sealB r a) (sealB r b) := ((sealTo_congr h 9).each box).turn.xor (EqB.refl _)
theorem openTo_congr {r a b : Nat → UInt8} (h : EqB a b) : ∀ n, EqB (openTo r a n) (openTo r b n)
  | 0 => h.xor (EqB.refl _)
  | n + 1 => EqB.columns unmix_congr (((openTo_congr h n).unturn.each unbox).xor (EqB.refl _))
theorem open_congr {r a b : Nat → UInt8} (h : EqB a b) : EqB (openB r a) (openB r b) := ((openTo_congr h 9).unturn.each unbox).xor (EqB.refl _)
theorem seal_inj {r a b : Nat → UInt8} (h : EqB (sealB r a) (sealB r b)) : EqB a b := ((open_seal r a).symm.trans (open_congr h)).trans (open_seal r b)

end Go.Proofs.Ytepooocdpifcfaa.Ci
