/- The functions of the program's package gf, and of the reference's, return what the plain functions reckon. No condition on bytes. * Powers, inverses, turned bytes and the box, as the program's package gf and the reference reckon them. Powers of fewer than 2^40 factors; no other condition. * The reference's powers, inverses, turned bytes and box return what the plain functions reckon. No condition on bytes. * The program's columns, mixed and unmixed, and the reference's, return what the plain functions reckon; the call's own memory apart nothing turns. No condition on bytes. * Mixed and unmixed columns, of the program and of the reference, are what the plain functions reckon. No condition on bytes. * The reference's mixed column is what the plain function reckons. No condition on bytes. * The cipher in plain Lean: blocks as functions of the place, rounds, what is put in secret and told again. No program stands in this text; no condition. * The small functions of the program's package cipher return what the plain functions reckon; the call's own memory apart nothing turns. No condition on bytes. * Columns of blocks, mixed and told out, of the program's package cipher. No condition on bytes. * The program's round behind a round. No condition on bytes. * All rounds of a key, as the program tells them. No condition on bytes. * A block in secret, as the program puts it. No condition on bytes. * A block told again, and a text as a block, as the program does it. No condition on bytes. * A text as a block, as the program tells it. No condition on bytes. -/
import Derived.Test.YtinlcpenllfcpaaRows
import Derived.Test.YtinlcpenllfcpaaMGround
import Derived.Deep.RegionHeld3
import Derived.KernelRfl
section
namespace Go.Proofs.Ytinlcpenllfcpaa
open Go.RowKit
attribute [local go_sem] B_xor B_or B_and

theorem dbl_walk (a : UInt8) : bits BinOp.xor IntKind.u8 (B a * 2 % 256) (bits BinOp.and IntKind.u8 27 (-(B a / 128) % 256)) = B (Gf.dbl a) := by
  revert a; apply Gf.all256; decide +kernel

theorem mask_walk (b : UInt8) (i : Nat) (hi : i < 8) : (-bits BinOp.and IntKind.u8 (B b / 2 ^ i) 1 % 256 : Int) = B (Gf.mask b i) := by
  have h : ∀ n < 256, ∀ i < 8, (-bits BinOp.and IntKind.u8 (B (UInt8.ofNat n) / 2 ^ i) 1 % 256 : Int) = B (Gf.mask (UInt8.ofNat n) i) := by decide +kernel
  have := h b.toNat b.toNat_lt i hi
  simpa using this
theorem mulStep_walk (a b o : UInt8) (k : Nat) (hk : k < 8) :
    bits BinOp.xor IntKind.u8 (B (Gf.dbl o)) (bits BinOp.and IntKind.u8 (B a) (-bits BinOp.and IntKind.u8 (B b / 2 ^ (7 - k)) 1 % 256)) = B (Gf.mulStep a b (7 - k) o) := by
  rw [mask_walk b (7 - k) (by omega), B_and, B_xor]; rfl

/-- a number behind k halvings, behind a name of its own -/
def halved (n k : Nat) : Nat := n / 2 ^ k
theorem halved_zero (n : Nat) : halved n 0 = n := by simp [halved]
theorem halved_succ (n k : Nat) : halved n (k + 1) = halved n k / 2 := by simp [halved, Nat.div_div_eq_div_mul, Nat.pow_succ]
theorem halved_le (n k : Nat) : halved n k ≤ n := Nat.div_le_self _ _

theorem refTo_one (a b : UInt8) (k : Nat) (h : halved b.toNat k % 2 = 1) : Gf.refTo a b (k + 1) = Gf.refTo a b k ^^^ Gf.xt a k := by
  unfold halved at h; simp only [Gf.refTo]; rw [if_pos h]
theorem refTo_no (a b : UInt8) (k : Nat) (h : ¬ halved b.toNat k % 2 = 1) : Gf.refTo a b (k + 1) = Gf.refTo a b k := by
  unfold halved at h; simp only [Gf.refTo]; rw [if_neg h]; simp
theorem xor_walk64 (x y : UInt8) : bits BinOp.xor IntKind.i64 (B x) (B y) = B (x ^^^ y) := by
  have h : ∀ n < 256, ∀ m < 256, n ^^^ m < 256 := by
    intro n hn m hm; exact Nat.xor_lt_two_pow (n := 8) hn hm
  have hx := x.toNat_lt
  have hy := y.toNat_lt
  have hxy := h _ hx _ hy
  unfold B
  show IntKind.i64.wrap ((BitVec.ofInt 64 (x.toNat : Int) ^^^ BitVec.ofInt 64 (y.toNat : Int)).toNat : Int) = _
  have e : ∀ a : Nat, a < 256 → (BitVec.ofInt 64 (a : Int)).toNat = a := fun a ha => by
    rw [BitVec.ofInt_natCast, BitVec.toNat_ofNat]; exact Nat.mod_eq_of_lt (by omega)
  rw [BitVec.toNat_xor, e _ hx, e _ hy, UInt8.toNat_xor]
  exact IntWalk.i64_in _ (by omega)
theorem dbl_low (x : UInt8) (h : 2 * B x ≤ 255) : 2 * B x = B (Gf.dbl x) := by
  have : ∀ n < 256, 2 * B (UInt8.ofNat n) ≤ 255 → 2 * B (UInt8.ofNat n) = B (Gf.dbl (UInt8.ofNat n)) := by decide +kernel
  have := this x.toNat x.toNat_lt
  simp only [UInt8.ofNat_toNat] at this
  exact this h
theorem dbl_high (x : UInt8) (h : 255 < 2 * B x) : bits BinOp.xor IntKind.i64 (2 * B x) 283 = B (Gf.dbl x) := by
  have : ∀ n < 256, 255 < 2 * B (UInt8.ofNat n) → bits BinOp.xor IntKind.i64 (2 * B (UInt8.ofNat n)) 283 = B (Gf.dbl (UInt8.ofNat n)) := by decide +kernel
  have := this x.toNat x.toNat_lt
  simp only [UInt8.ofNat_toNat] at this
  exact this h

end Go.Proofs.Ytinlcpenllfcpaa
end

section
namespace Go.Proofs.Ytinlcpenllfcpaa
open Go.RowKit
attribute [local go_sem] B_xor B_or B_and

def PowAt (a : UInt8) (n : Nat) (x m o : Value) : Prop :=
  ∃ (a' o' : UInt8) (n' : Nat), n' ≤ n ∧ x = .int .u8 (B a') ∧ m = .int .u64 (n' : Int) ∧ o = .int .u8 (B o') ∧ Hid (Gf.mul o' (Gf.pow a' n') = Gf.pow a n)

theorem turned_walk (a : UInt8) (n : Nat) (h : n < 8) : bits BinOp.or IntKind.u8 (B a * 2 ^ n % 256) (B a / 2 ^ (8 - n)) = B (Gf.rot a n) := by
  have h' : ∀ x < 256, ∀ n < 8, bits BinOp.or IntKind.u8 (B (UInt8.ofNat x) * 2 ^ n % 256) (B (UInt8.ofNat x) / 2 ^ (8 - n)) = B (Gf.rot (UInt8.ofNat x) n) := by decide +kernel
  have := h' a.toNat a.toNat_lt n h
  simpa using this

end Go.Proofs.Ytinlcpenllfcpaa
end

section
namespace Go.Proofs.Ytinlcpenllfcpaa
open Go.RowKit
attribute [local go_sem] B_xor B_or B_and

theorem three_step (n : Nat) : Gf.mul 3 (Gf.three n) = Gf.three (n + 1) := rfl

/-- the box behind k of the five sums -/
def boxTo (b : UInt8) : Nat → UInt8
  | 0 => 99
  | k + 1 => boxTo b k ^^^ Gf.rot b k
theorem boxTo_box (b : UInt8) : boxTo b 5 = Gf.aff b := by
  revert b; apply Gf.all256; decide +kernel

end Go.Proofs.Ytinlcpenllfcpaa
end

section
namespace Go.Proofs.Ytinlcpenllfcpaa
open Go.RowKit
attribute [local go_sem] B_xor B_or B_and
attribute [local go_sem] blk_set blk_size blk_get blk_getE upd_same oneCells_blk paste_blk cut_blk szOf
attribute [local go_sem high] paste_all cut_head
attribute [local go_sem] rowAt_alloc rowAt_drew rowAt_drewN isRow_alloc isRow_drew isRow_drewN freeRow_alloc freeRow_drew freeRow_drewN
attribute [local go_sem] setRow_alloc setRow_drew setRow_drewN setCell_drewN alloc_drewN
attribute [local go_sem ↓] loadS_in storeS_in indexS_in copyS_in
attribute [local go_sem] loadS_row loadS_one storeS_row storeS_one indexS_blk copyS_rows
theorem zero4 : (#[Value.int IntKind.u8 0, Value.int IntKind.u8 0, Value.int IntKind.u8 0, Value.int IntKind.u8 0] : Array Value) = blk 4 (fun _ => 0) := rfl

def colRow (f : Nat → UInt8) (i : Nat) : Nat → UInt8 := fun j => f ((j + 3 * i) % 4)
def colTo (c f : Nat → UInt8) (i : Nat) : Nat → UInt8
  | 0 => 0
  | k + 1 => colTo c f i k ^^^ Gf.mul (colRow f i k) (c k)
def colOut (c f : Nat → UInt8) (i : Nat) : Nat → UInt8 := fun t => if t < i then colTo c f t 4 else 0
theorem colRow_begin (f : Nat → UInt8) : blk 4 f = blk 4 (colRow f 0) :=
  blk_congr fun i hi => by simp only [colRow]; congr 1; omega
theorem colRow_next (f : Nat → UInt8) (m : Nat) : blk 4 (upd (cpy (colRow f m) 1 (colRow f m) 0 3) 0 (colRow f m 3)) = blk 4 (colRow f (m + 1)) :=
  blk_congr fun i hi => by
    unfold upd cpy colRow
    split
    · rename_i h; subst h; congr 1; omega
    · rw [if_pos (by omega)]; simp only [Nat.zero_add]; congr 1; omega
theorem colOut_begin (c f : Nat → UInt8) (m : Nat) : blk 4 (upd (colOut c f m) m (colTo c f m 0)) = blk 4 (colOut c f m) :=
  blk_congr fun i hi => by unfold upd; split <;> simp_all [colOut, colTo]
theorem colOut_step (c f : Nat → UInt8) (m k : Nat) : blk 4 (upd (upd (colOut c f m) m (colTo c f m k)) m (colTo c f m k ^^^ Gf.mul (colRow f m k) (c k))) = blk 4 (upd (colOut c f m) m (colTo c f m (k + 1))) :=
  blk_congr fun i hi => by unfold upd; split <;> simp_all [colTo]
theorem colOut_next (c f : Nat → UInt8) (m : Nat) : blk 4 (upd (colOut c f m) m (colTo c f m 4)) = blk 4 (colOut c f (m + 1)) :=
  blk_congr fun i hi => by
    unfold upd colOut
    by_cases h : i = m
    · subst h; simp
    · simp only [h, if_false]
      by_cases h2 : i < m
      · rw [if_pos h2, if_pos (by omega)]
      · rw [if_neg h2, if_neg (by omega)]

end Go.Proofs.Ytinlcpenllfcpaa
end

section
namespace Go.Proofs.Ytinlcpenllfcpaa
open Go.RowKit
attribute [local go_sem] B_xor B_or B_and
attribute [local go_sem] blk_set blk_size blk_get blk_getE upd_same oneCells_blk paste_blk cut_blk szOf
attribute [local go_sem high] paste_all cut_head
attribute [local go_sem] rowAt_alloc rowAt_drew rowAt_drewN isRow_alloc isRow_drew isRow_drewN freeRow_alloc freeRow_drew freeRow_drewN
attribute [local go_sem] setRow_alloc setRow_drew setRow_drewN setCell_drewN alloc_drewN rowAt_put isRow_setRow freeRow_put
attribute [local go_sem ↓] loadS_in storeS_in indexS_in copyS_in
attribute [local go_sem] loadS_row loadS_one storeS_row storeS_one indexS_blk copyS_rows

def four (a b c d : UInt8) : Nat → UInt8 := fun i => match i with | 0 => a | 1 => b | 2 => c | _ => d
theorem four_lit (a b c d : UInt8) : (#[Value.int IntKind.u8 (B a), Value.int IntKind.u8 (B b), Value.int IntKind.u8 (B c), Value.int IntKind.u8 (B d)] : Array Value) = blk 4 (four a b c d) := rfl

theorem colOut_mix (c : Nat → UInt8) : blk 4 (colOut c (four 2 3 1 1) 4) = blk 4 (Gf.mix c) :=
  blk_congr fun i hi => by
    have h : i = 0 ∨ i = 1 ∨ i = 2 ∨ i = 3 := by omega
    have e : ∀ a b d e : UInt8, 0 ^^^ a ^^^ b ^^^ d ^^^ e = a ^^^ b ^^^ d ^^^ e := by intro a b d e; simp
    rcases h with rfl | rfl | rfl | rfl <;>
      simp only [colOut, colTo, colRow, four, Gf.mix, Gf.one_mul, e, show (0 : Nat) < 4 from by decide, show (1 : Nat) < 4 from by decide, show (2 : Nat) < 4 from by decide, show (3 : Nat) < 4 from by decide, if_true, Nat.reduceMod, Nat.reduceMul, Nat.reduceAdd] <;>
      ac_rfl

theorem colOut_unmix (c : Nat → UInt8) : blk 4 (colOut c (four 14 11 13 9) 4) = blk 4 (Gf.unmix c) :=
  blk_congr fun i hi => by
    have h : i = 0 ∨ i = 1 ∨ i = 2 ∨ i = 3 := by omega
    have e : ∀ a b d e : UInt8, 0 ^^^ a ^^^ b ^^^ d ^^^ e = a ^^^ b ^^^ d ^^^ e := by intro a b d e; simp
    rcases h with rfl | rfl | rfl | rfl <;>
      simp only [colOut, colTo, colRow, four, Gf.unmix, e, show (0 : Nat) < 4 from by decide, show (1 : Nat) < 4 from by decide, show (2 : Nat) < 4 from by decide, show (3 : Nat) < 4 from by decide, if_true, Nat.reduceMod, Nat.reduceMul, Nat.reduceAdd] <;>
      ac_rfl

theorem built_unmix : ((((blk 4 fun _ => 0).setIfInBounds 0 (Value.int .u8 14)).setIfInBounds 1 (Value.int .u8 11)).setIfInBounds 2 (Value.int .u8 13)).setIfInBounds 3 (Value.int .u8 9) = blk 4 (four 14 11 13 9) := rfl
end Go.Proofs.Ytinlcpenllfcpaa
end

section
namespace Go.Proofs.Ytinlcpenllfcpaa
open Go.RowKit
attribute [local go_sem] B_xor B_or B_and
attribute [local go_sem] blk_set blk_size blk_get blk_getE upd_same oneCells_blk paste_blk cut_blk szOf
attribute [local go_sem high] paste_all cut_head
attribute [local go_sem] rowAt_alloc rowAt_drew rowAt_drewN isRow_alloc isRow_drew isRow_drewN freeRow_alloc freeRow_drew freeRow_drewN
attribute [local go_sem] setRow_alloc setRow_drew setRow_drewN setCell_drewN alloc_drewN rowAt_put isRow_setRow freeRow_put
attribute [local go_sem ↓] loadS_in storeS_in indexS_in copyS_in
attribute [local go_sem] loadS_row loadS_one storeS_row storeS_one indexS_blk copyS_rows

theorem B_two : (2 : Int) = B 2 := rfl
theorem B_three : (3 : Int) = B 3 := rfl
/-- so many places on, round the end -/
def on4 (m k : Nat) : Nat := (m + k) % 4
theorem on4_lt (m k : Nat) : on4 m k < 4 := Nat.mod_lt _ (by omega)
theorem on4_tmod (m k : Nat) : ((m : Int) + (k : Int)).tmod 4 = (on4 m k : Int) := by
  rw [Int.tmod_eq_emod_of_nonneg (by omega)]; unfold on4; omega
def mixTo (c : Nat → UInt8) (i : Nat) : Nat → UInt8 := fun t => if t < i then Gf.mix c t else 0
theorem mixTo_begin (c : Nat → UInt8) : blk 4 (fun _ => 0) = blk 4 (mixTo c 0) := rfl
theorem mixTo_next (c : Nat → UInt8) (m : Nat) : blk 4 (upd (mixTo c m) m (Gf.mul 2 (c m) ^^^ Gf.mul 3 (c (on4 m 1)) ^^^ c (on4 m 2) ^^^ c (on4 m 3))) = blk 4 (mixTo c (m + 1)) :=
  blk_congr fun i hi => by
    unfold upd mixTo
    by_cases h : i = m
    · subst h; simp [Gf.mix, on4]
    · simp only [h, if_false]
      by_cases h2 : i < m
      · rw [if_pos h2, if_pos (by omega)]
      · rw [if_neg h2, if_neg (by omega)]
theorem mixTo_end (c : Nat → UInt8) : blk 4 (mixTo c 4) = blk 4 (Gf.mix c) := blk_congr fun i hi => by simp [mixTo, hi]

end Go.Proofs.Ytinlcpenllfcpaa
end

section
namespace Go.Proofs.Ytinlcpenllfcpaa.Ci
open Gf

/-- two blocks put together -/
def xorB (a b : Nat → UInt8) : Nat → UInt8 := fun i => a i ^^^ b i
def turnAt (i : Nat) : Nat := (i + 4 * (i % 4)) % 16
def unturnAt (i : Nat) : Nat := (i + 12 * (i % 4)) % 16
def turn (b : Nat → UInt8) : Nat → UInt8 := fun i => b (turnAt i)
def unturn (b : Nat → UInt8) : Nat → UInt8 := fun i => b (unturnAt i)
def each (g : UInt8 → UInt8) (b : Nat → UInt8) : Nat → UInt8 := fun i => g (b i)
/-- a column -/
def col (b : Nat → UInt8) (n : Nat) : Nat → UInt8 := fun k => b (4 * n + k)
def columns (m : (Nat → UInt8) → Nat → UInt8) (b : Nat → UInt8) : Nat → UInt8 := fun i => m (col b (i / 4)) (i % 4)
/-- a round of some -/
def rd (r : Nat → UInt8) (n : Nat) : Nat → UInt8 := fun i => r (16 * n + i)

/-- the word that is put to the first of a round -/
def first (b : Nat → UInt8) (mark : UInt8) : Nat → UInt8 := fun i => match i with
  | 0 => box (b 13) ^^^ mark
  | 1 => box (b 14)
  | 2 => box (b 15)
  | _ => box (b 12)
/-- the round behind one, word by word -/
def nextAt (b t : Nat → UInt8) : Nat → Nat → UInt8
  | 0, i => b i ^^^ t i
  | n + 1, i => b (4 * (n + 1) + i) ^^^ nextAt b t n i
def next (b : Nat → UInt8) (mark : UInt8) : Nat → UInt8 := fun j => nextAt b (first b mark) (j / 4) (j % 4)
def mark : Nat → UInt8
  | 0 => 1
  | n + 1 => dbl (mark n)
/-- round n of a key -/
def expand (key : Nat → UInt8) : Nat → Nat → UInt8
  | 0 => key
  | n + 1 => next (expand key n) (mark n)
/-- all rounds in a row -/
def rounds (key : Nat → UInt8) : Nat → UInt8 := fun j => expand key (j / 16) (j % 16)

/-- a block in secret: behind n rounds -/
def sealTo (r b : Nat → UInt8) : Nat → Nat → UInt8
  | 0 => xorB b (rd r 0)
  | n + 1 => xorB (columns mix (turn (each box (sealTo r b n)))) (rd r (n + 1))
def sealB (r b : Nat → UInt8) : Nat → UInt8 := xorB (turn (each box (sealTo r b 9))) (rd r 10)
/-- told again: behind n rounds, from the last on -/
def openTo (r b : Nat → UInt8) : Nat → Nat → UInt8
  | 0 => xorB b (rd r 10)
  | n + 1 => columns unmix (xorB (each unbox (unturn (openTo r b n))) (rd r (9 - n)))
def openB (r b : Nat → UInt8) : Nat → UInt8 := xorB (each unbox (unturn (openTo r b 9))) (rd r 0)

/-! ### the same bytes -/
def EqB (a b : Nat → UInt8) : Prop := ∀ i, i < 16 → a i = b i
theorem EqB.refl (a : Nat → UInt8) : EqB a a := fun _ _ => rfl
theorem EqB.symm {a b : Nat → UInt8} (h : EqB a b) : EqB b a := fun i hi => (h i hi).symm
theorem EqB.trans {a b c : Nat → UInt8} (h : EqB a b) (k : EqB b c) : EqB a c := fun i hi => (h i hi).trans (k i hi)
theorem turnAt_lt (i : Nat) : turnAt i < 16 := Nat.mod_lt _ (by decide)
theorem unturnAt_lt (i : Nat) : unturnAt i < 16 := Nat.mod_lt _ (by decide)
theorem turn_unturnAt : ∀ i < 16, turnAt (unturnAt i) = i := by decide
theorem unturn_turnAt : ∀ i < 16, unturnAt (turnAt i) = i := by decide
theorem EqB.xor {a b c d : Nat → UInt8} (h : EqB a b) (k : EqB c d) : EqB (xorB a c) (xorB b d) := fun i hi => by unfold xorB; rw [h i hi, k i hi]
theorem EqB.turn {a b : Nat → UInt8} (h : EqB a b) : EqB (turn a) (turn b) := fun i _ => h _ (turnAt_lt i)
theorem EqB.unturn {a b : Nat → UInt8} (h : EqB a b) : EqB (unturn a) (unturn b) := fun i _ => h _ (unturnAt_lt i)
theorem EqB.each {a b : Nat → UInt8} (h : EqB a b) (g : UInt8 → UInt8) : EqB (each g a) (each g b) := fun i hi => by unfold Ci.each; rw [h i hi]
theorem mix_congr {c d : Nat → UInt8} (h : ∀ i, i < 4 → c i = d i) (i : Nat) (hi : i < 4) : mix c i = mix d i := by
  unfold mix
  rw [h i hi, h _ (Nat.mod_lt _ (by decide)), h _ (Nat.mod_lt _ (by decide)), h _ (Nat.mod_lt _ (by decide))]
theorem unmix_congr {c d : Nat → UInt8} (h : ∀ i, i < 4 → c i = d i) (i : Nat) (hi : i < 4) : unmix c i = unmix d i := by
  unfold unmix
  rw [h i hi, h _ (Nat.mod_lt _ (by decide)), h _ (Nat.mod_lt _ (by decide)), h _ (Nat.mod_lt _ (by decide))]
theorem EqB.columns {a b : Nat → UInt8} {m : (Nat → UInt8) → Nat → UInt8} (hm : ∀ {c d : Nat → UInt8}, (∀ i, i < 4 → c i = d i) → ∀ i, i < 4 → m c i = m d i) (h : EqB a b) : EqB (columns m a) (columns m b) := fun i hi => by
  unfold Ci.columns
  refine hm (fun k hk => ?_) _ (Nat.mod_lt _ (by decide))
  exact h _ (by omega)
theorem EqB.rd {r s : Nat → UInt8} (h : ∀ j, j < 176 → r j = s j) (n : Nat) (hn : n ≤ 10) : EqB (rd r n) (rd s n) := fun i hi => h _ (by omega)

theorem xor_cancel (a b : UInt8) : a ^^^ b ^^^ b = a := by rw [UInt8.xor_assoc, UInt8.xor_self, UInt8.xor_zero]
theorem xorB_cancel (a b : Nat → UInt8) : xorB (xorB a b) b = a := by funext i; exact xor_cancel _ _
theorem turn_unturn (a : Nat → UInt8) : EqB (turn (unturn a)) a := fun i hi => by show a (unturnAt (turnAt i)) = a i; rw [unturn_turnAt i hi]
theorem unturn_turn (a : Nat → UInt8) : EqB (unturn (turn a)) a := fun i hi => by show a (turnAt (unturnAt i)) = a i; rw [turn_unturnAt i hi]
theorem unbox_each (a : Nat → UInt8) : each unbox (each box a) = a := by funext i; exact unbox_box _
theorem box_each (a : Nat → UInt8) : each box (each unbox a) = a := by funext i; exact box_unbox _

/-! ### mixed columns undone: both sides add up, byte by byte -/
theorem four_cases {i : Nat} (hi : i < 4) : i = 0 ∨ i = 1 ∨ i = 2 ∨ i = 3 := by omega
theorem mul_add4 (k a b c d : UInt8) : mul k (a ^^^ b ^^^ c ^^^ d) = mul k a ^^^ mul k b ^^^ mul k c ^^^ mul k d := by rw [mul_xor_right, mul_xor_right, mul_xor_right]
theorem xor_ac (a b c d e f g h i j k l m n o p : UInt8) :
    (a ^^^ b ^^^ c ^^^ d) ^^^ (e ^^^ f ^^^ g ^^^ h) ^^^ (i ^^^ j ^^^ k ^^^ l) ^^^ (m ^^^ n ^^^ o ^^^ p) = (a ^^^ e ^^^ i ^^^ m) ^^^ (b ^^^ f ^^^ j ^^^ n) ^^^ (c ^^^ g ^^^ k ^^^ o) ^^^ (d ^^^ h ^^^ l ^^^ p) := by ac_rfl
theorem coef (k l m n x : UInt8) : mul k x ^^^ mul l x ^^^ mul m x ^^^ mul n x = mul (k ^^^ l ^^^ m ^^^ n) x := by rw [mul_xor_left, mul_xor_left, mul_xor_left]
/-- turned round by k places -/
def sh (c : Nat → UInt8) (k : Nat) : Nat → UInt8 := fun i => c ((i + k) % 4)
theorem mix_sh (c : Nat → UInt8) (k i : Nat) (hk : k < 4) (hi : i < 4) : mix (sh c k) i = mix c ((i + k) % 4) := by
  unfold mix sh
  rcases four_cases hi with rfl | rfl | rfl | rfl <;> rcases four_cases hk with rfl | rfl | rfl | rfl <;> rfl
theorem unmix_sh (c : Nat → UInt8) (k i : Nat) (hk : k < 4) (hi : i < 4) : unmix (sh c k) i = unmix c ((i + k) % 4) := by
  unfold unmix sh
  rcases four_cases hi with rfl | rfl | rfl | rfl <;> rcases four_cases hk with rfl | rfl | rfl | rfl <;> rfl
theorem unmix_mix0 (c : Nat → UInt8) : unmix (mix c) 0 = c 0 := by
  have z : ∀ x : UInt8, mul 0 x = 0 := zero_mul
  simp only [unmix, mix, Nat.reduceAdd, Nat.reduceMod]
  rw [mul_add4, mul_add4, mul_add4, mul_add4]
  simp only [← mul_assoc]
  rw [show (mul (mul 14 2) (c 0) ^^^ mul (mul 14 3) (c 1) ^^^ mul 14 (c 2) ^^^ mul 14 (c 3) ^^^ (mul (mul 11 2) (c 1) ^^^ mul (mul 11 3) (c 2) ^^^ mul 11 (c 3) ^^^ mul 11 (c 0)) ^^^ (mul (mul 13 2) (c 2) ^^^ mul (mul 13 3) (c 3) ^^^ mul 13 (c 0) ^^^ mul 13 (c 1)) ^^^ (mul (mul 9 2) (c 3) ^^^ mul (mul 9 3) (c 0) ^^^ mul 9 (c 1) ^^^ mul 9 (c 2))) = (mul (mul 14 2) (c 0) ^^^ mul 11 (c 0) ^^^ mul 13 (c 0) ^^^ mul (mul 9 3) (c 0)) ^^^ (mul (mul 14 3) (c 1) ^^^ mul (mul 11 2) (c 1) ^^^ mul 13 (c 1) ^^^ mul 9 (c 1)) ^^^ (mul 14 (c 2) ^^^ mul (mul 11 3) (c 2) ^^^ mul (mul 13 2) (c 2) ^^^ mul 9 (c 2)) ^^^ (mul 14 (c 3) ^^^ mul 11 (c 3) ^^^ mul (mul 13 3) (c 3) ^^^ mul (mul 9 2) (c 3)) from by ac_rfl]
  rw [coef, coef, coef, coef, show mul 14 2 ^^^ 11 ^^^ 13 ^^^ mul 9 3 = 1 from by decide +kernel, show mul 14 3 ^^^ mul 11 2 ^^^ 13 ^^^ 9 = 0 from by decide +kernel, show 14 ^^^ mul 11 3 ^^^ mul 13 2 ^^^ 9 = 0 from by decide +kernel, show 14 ^^^ 11 ^^^ mul 13 3 ^^^ mul 9 2 = 0 from by decide +kernel]
  simp [z, one_mul]
theorem mix_unmix0 (c : Nat → UInt8) : mix (unmix c) 0 = c 0 := by
  have z : ∀ x : UInt8, mul 0 x = 0 := zero_mul
  have o : ∀ x : UInt8, x = mul 1 x := fun x => (one_mul x).symm
  simp only [unmix, mix, Nat.reduceAdd, Nat.reduceMod]
  rw [mul_add4, mul_add4]
  simp only [← mul_assoc]
  rw [show (mul (mul 2 14) (c 0) ^^^ mul (mul 2 11) (c 1) ^^^ mul (mul 2 13) (c 2) ^^^ mul (mul 2 9) (c 3) ^^^ (mul (mul 3 14) (c 1) ^^^ mul (mul 3 11) (c 2) ^^^ mul (mul 3 13) (c 3) ^^^ mul (mul 3 9) (c 0)) ^^^ (mul 14 (c 2) ^^^ mul 11 (c 3) ^^^ mul 13 (c 0) ^^^ mul 9 (c 1)) ^^^ (mul 14 (c 3) ^^^ mul 11 (c 0) ^^^ mul 13 (c 1) ^^^ mul 9 (c 2))) = (mul (mul 2 14) (c 0) ^^^ mul (mul 3 9) (c 0) ^^^ mul 13 (c 0) ^^^ mul 11 (c 0)) ^^^ (mul (mul 2 11) (c 1) ^^^ mul (mul 3 14) (c 1) ^^^ mul 9 (c 1) ^^^ mul 13 (c 1)) ^^^ (mul (mul 2 13) (c 2) ^^^ mul (mul 3 11) (c 2) ^^^ mul 14 (c 2) ^^^ mul 9 (c 2)) ^^^ (mul (mul 2 9) (c 3) ^^^ mul (mul 3 13) (c 3) ^^^ mul 11 (c 3) ^^^ mul 14 (c 3)) from by ac_rfl]
  rw [coef, coef, coef, coef, show mul 2 14 ^^^ mul 3 9 ^^^ 13 ^^^ 11 = 1 from by decide +kernel, show mul 2 11 ^^^ mul 3 14 ^^^ 9 ^^^ 13 = 0 from by decide +kernel, show mul 2 13 ^^^ mul 3 11 ^^^ 14 ^^^ 9 = 0 from by decide +kernel, show mul 2 9 ^^^ mul 3 13 ^^^ 11 ^^^ 14 = 0 from by decide +kernel]
  simp [z, one_mul]
theorem unmix_mix (c : Nat → UInt8) (i : Nat) (hi : i < 4) : unmix (mix c) i = c i := by
  have h := unmix_sh (mix c) i 0 hi (by decide)
  rw [Nat.zero_add, Nat.mod_eq_of_lt hi] at h
  rw [← h, unmix_congr (c := sh (mix c) i) (d := mix (sh c i)) (fun k hk => (mix_sh c i k hi hk).symm) 0 (by decide), unmix_mix0]
  show c ((0 + i) % 4) = c i
  rw [Nat.zero_add, Nat.mod_eq_of_lt hi]
theorem mix_unmix (c : Nat → UInt8) (i : Nat) (hi : i < 4) : mix (unmix c) i = c i := by
  have h := mix_sh (unmix c) i 0 hi (by decide)
  rw [Nat.zero_add, Nat.mod_eq_of_lt hi] at h
  rw [← h, mix_congr (c := sh (unmix c) i) (d := unmix (sh c i)) (fun k hk => (unmix_sh c i k hi hk).symm) 0 (by decide), mix_unmix0]
  show c ((0 + i) % 4) = c i
  rw [Nat.zero_add, Nat.mod_eq_of_lt hi]
theorem col_columns (m : (Nat → UInt8) → Nat → UInt8) (b : Nat → UInt8) (n : Nat) : ∀ k, k < 4 → col (columns m b) n k = m (col b n) k := fun k hk => by
  unfold col columns
  rw [show (4 * n + k) / 4 = n by omega, show (4 * n + k) % 4 = k by omega]; rfl
theorem columns_undo (m u : (Nat → UInt8) → Nat → UInt8) (hu : ∀ {c d : Nat → UInt8}, (∀ i, i < 4 → c i = d i) → ∀ i, i < 4 → u c i = u d i) (h : ∀ c i, i < 4 → u (m c) i = c i) (b : Nat → UInt8) : EqB (columns u (columns m b)) b := fun i _ => by
  show u (col (columns m b) (i / 4)) (i % 4) = b i
  have h4 : i % 4 < 4 := Nat.mod_lt _ (by decide)
  rw [hu (fun k hk => col_columns m b (i / 4) k hk) _ h4, h _ _ h4]
  show b (4 * (i / 4) + i % 4) = b i
  congr 1; omega

/-! ### what is put in secret is told again -/
theorem openTo_seal (r b : Nat → UInt8) : ∀ n, n ≤ 9 → EqB (openTo r (sealB r b) n) (turn (each box (sealTo r b (9 - n))))
  | 0, _ => by
    show EqB (xorB (xorB (turn (each box (sealTo r b 9))) (rd r 10)) (rd r 10)) _
    rw [xorB_cancel]; exact EqB.refl _
  | n + 1, hn => by
    have ih := openTo_seal r b n (by omega)
    show EqB (columns unmix (xorB (each unbox (unturn (openTo r (sealB r b) n))) (rd r (9 - n)))) _
    have e : 9 - n = (9 - (n + 1)) + 1 := by omega
    have h1 : EqB (each unbox (unturn (openTo r (sealB r b) n))) (sealTo r b (9 - n)) := by
      refine ((ih.unturn.trans (unturn_turn _)).each unbox).trans ?_
      rw [unbox_each]; exact EqB.refl _
    have h2 : EqB (xorB (each unbox (unturn (openTo r (sealB r b) n))) (rd r (9 - n))) (columns mix (turn (each box (sealTo r b (9 - (n + 1)))))) := by
      refine (h1.xor (EqB.refl (rd r (9 - n)))).trans ?_
      rw [e]
      show EqB (xorB (xorB (columns mix (turn (each box (sealTo r b (9 - (n + 1)))))) (rd r (9 - (n + 1) + 1))) (rd r (9 - (n + 1) + 1))) _
      rw [xorB_cancel]; exact EqB.refl _
    exact (EqB.columns unmix_congr h2).trans (columns_undo mix unmix unmix_congr unmix_mix _)
theorem open_seal (r b : Nat → UInt8) : EqB (openB r (sealB r b)) b := by
  show EqB (xorB (each unbox (unturn (openTo r (sealB r b) 9))) (rd r 0)) b
  have h := openTo_seal r b 9 (by omega)
  have h1 : EqB (each unbox (unturn (openTo r (sealB r b) 9))) (sealTo r b 0) := by
    refine ((h.unturn.trans (unturn_turn _)).each unbox).trans ?_
    rw [unbox_each]; exact EqB.refl _
  refine (h1.xor (EqB.refl (rd r 0))).trans ?_
  show EqB (xorB (xorB b (rd r 0)) (rd r 0)) b
  rw [xorB_cancel]; exact EqB.refl _
theorem sealTo_open (r b : Nat → UInt8) : ∀ n, n ≤ 9 → EqB (sealTo r (openB r b) n) (each unbox (unturn (openTo r b (9 - n))))
  | 0, _ => by
    show EqB (xorB (xorB (each unbox (unturn (openTo r b 9))) (rd r 0)) (rd r 0)) _
    rw [xorB_cancel]; exact EqB.refl _
  | n + 1, hn => by
    have ih := sealTo_open r b n (by omega)
    show EqB (xorB (columns mix (turn (each box (sealTo r (openB r b) n)))) (rd r (n + 1))) _
    have e : 9 - n = (9 - (n + 1)) + 1 := by omega
    have e2 : 9 - (9 - (n + 1)) = n + 1 := by omega
    have h1 : EqB (turn (each box (sealTo r (openB r b) n))) (openTo r b (9 - n)) := by
      refine (ih.each box).turn.trans ?_
      rw [box_each]; exact turn_unturn _
    have h2 : EqB (columns mix (turn (each box (sealTo r (openB r b) n)))) (xorB (each unbox (unturn (openTo r b (9 - (n + 1))))) (rd r (n + 1))) := by
      refine (EqB.columns mix_congr h1).trans ?_
      rw [e]
      show EqB (columns mix (columns unmix (xorB (each unbox (unturn (openTo r b (9 - (n + 1))))) (rd r (9 - (9 - (n + 1))))))) _
      rw [e2]
      exact columns_undo unmix mix mix_congr mix_unmix _
    refine (h2.xor (EqB.refl (rd r (n + 1)))).trans ?_
    rw [xorB_cancel]; exact EqB.refl _
theorem seal_open (r b : Nat → UInt8) : EqB (sealB r (openB r b)) b := by
  show EqB (xorB (turn (each box (sealTo r (openB r b) 9))) (rd r 10)) b
  have h := sealTo_open r b 9 (by omega)
  have h1 : EqB (turn (each box (sealTo r (openB r b) 9))) (openTo r b 0) := by
    refine (h.each box).turn.trans ?_
    rw [box_each]; exact turn_unturn _
  refine (h1.xor (EqB.refl (rd r 10))).trans ?_
  show EqB (xorB (xorB b (rd r 10)) (rd r 10)) b
  rw [xorB_cancel]; exact EqB.refl _
theorem sealTo_congr {r a b : Nat → UInt8} (h : EqB a b) : ∀ n, EqB (sealTo r a n) (sealTo r b n)
  | 0 => h.xor (EqB.refl _)
  | n + 1 => (EqB.columns mix_congr ((sealTo_congr h n).each box).turn).xor (EqB.refl _)
theorem seal_congr {r a b : Nat → UInt8} (h : EqB a b) : EqB (sealB r a) (sealB r b) := ((sealTo_congr h 9).each box).turn.xor (EqB.refl _)
theorem openTo_congr {r a b : Nat → UInt8} (h : EqB a b) : ∀ n, EqB (openTo r a n) (openTo r b n)
  | 0 => h.xor (EqB.refl _)
  | n + 1 => EqB.columns unmix_congr (((openTo_congr h n).unturn.each unbox).xor (EqB.refl _))
theorem open_congr {r a b : Nat → UInt8} (h : EqB a b) : EqB (openB r a) (openB r b) := ((openTo_congr h 9).unturn.each unbox).xor (EqB.refl _)
theorem seal_inj {r a b : Nat → UInt8} (h : EqB (sealB r a) (sealB r b)) : EqB a b := ((open_seal r a).symm.trans (open_congr h)).trans (open_seal r b)

end Go.Proofs.Ytinlcpenllfcpaa.Ci
end

section
namespace Go.Proofs.Ytinlcpenllfcpaa
open Go.RowKit
attribute [local go_sem] B_xor B_or B_and
attribute [local go_sem] blk_set blk_size blk_get blk_getE upd_same oneCells_blk paste_blk cut_blk szOf
attribute [local go_sem high] paste_all cut_head
attribute [local go_sem] rowAt_alloc rowAt_drew rowAt_drewN isRow_alloc isRow_drew isRow_drewN freeRow_alloc freeRow_end freeRow_drew freeRow_drewN
attribute [local go_sem] setRow_alloc setRow_drew setRow_drewN setCell_drewN alloc_drewN rowAt_put isRow_setRow freeRow_put
attribute [local go_sem ↓] loadS_in storeS_in indexS_in copyS_in
attribute [local go_sem] loadS_row loadS_one storeS_row storeS_one indexS_blk copyS_rows run_equalIn_blk same_refl arrayAt_row

theorem zero16 : (#[Value.int IntKind.u8 0, Value.int IntKind.u8 0, Value.int IntKind.u8 0, Value.int IntKind.u8 0, Value.int IntKind.u8 0, Value.int IntKind.u8 0, Value.int IntKind.u8 0, Value.int IntKind.u8 0, Value.int IntKind.u8 0, Value.int IntKind.u8 0, Value.int IntKind.u8 0, Value.int IntKind.u8 0, Value.int IntKind.u8 0, Value.int IntKind.u8 0, Value.int IntKind.u8 0, Value.int IntKind.u8 0] : Array Value) = blk 16 (fun _ => 0) := rfl

/-- of a row's bytes those below k turned -/
def upTo (f g : Nat → UInt8) (k : Nat) : Nat → UInt8 := fun i => if i < k then g i else f i
theorem upTo_zero (n : Nat) (f g : Nat → UInt8) : blk n (upTo f g 0) = blk n f := blk_congr fun i _ => by simp [upTo]
theorem upTo_all (n : Nat) (f g : Nat → UInt8) : blk n (upTo f g n) = blk n g := blk_congr fun i hi => by simp [upTo, hi]
theorem upTo_at (f g : Nat → UInt8) (k : Nat) : upTo f g k k = f k := by simp [upTo]
theorem upTo_next (n : Nat) (f g : Nat → UInt8) (k : Nat) : blk n (upd (upTo f g k) k (g k)) = blk n (upTo f g (k + 1)) := blk_congr fun i _ => by
  unfold upd upTo
  by_cases h : i = k
  · subst h; simp
  · by_cases h2 : i < k
    · rw [if_neg h, if_pos h2, if_pos (by omega)]
    · rw [if_neg h, if_neg h2, if_neg (by omega)]

theorem retBelow {B : Nat} {a w : World} (h : Below B a w) : Below B a w := h

/-- a function's number is called as it stands -/
def Enters (K : FuncId) : Prop := ∀ (args : Array Value) (w : World), Sem.run Try.prog (callFunc K args) w = Result.ok (Next.enter K args) w
/-- a place that a function of the program tells -/
def Places (K : FuncId) (g : Nat → Nat) : Prop := ∀ i : Nat, i < 16 → Pur Try.prog K #[.int .i64 (i : Int)] (.int .i64 (g i : Int)) ∧ g i < 16

theorem turnAt_int : ∀ i : Nat, i < 16 → ((i : Int) + 4 * ((i : Int) % 4)) % 16 = (Ci.turnAt i : Int) := by decide
theorem unturnAt_int : ∀ i : Nat, i < 16 → ((i : Int) + 12 * ((i : Int) % 4)) % 16 = (Ci.unturnAt i : Int) := by decide

/-- a text that holds the boxes -/
def tabled (s : ByteArray) : Bool := decide (s.size = 256) && (List.range 256).all fun n => s.data[n]? == some (Gf.boxTab.getD n 0)
theorem index_box {P : Program} (t : TypeId) (s : ByteArray) (a : UInt8) (w : World) (ht : P.underlying t = some .string) (hs : tabled s = true) :
    (indexS t (.string s) (.int .u8 (B a))).run P w = .ok (.int .u8 (B (Gf.box a))) w := by
  simp only [tabled, Bool.and_eq_true, decide_eq_true_eq, List.all_eq_true, List.mem_range, beq_iff_eq] at hs
  have h := hs.2 a.toNat a.toNat_lt
  have h0 : 0 ≤ B a := (B_bd a).1
  have h1 : (B a).toNat = a.toNat := by unfold B; exact Int.toNat_natCast _
  have hlt : a.toNat < s.size := by rw [hs.1]; exact a.toNat_lt
  have hg : s[a.toNat]? = some (Gf.boxTab.getD a.toNat 0) := by
    rw [getElem?_pos s a.toNat hlt]
    have h2 : a.toNat < s.data.size := hlt
    rw [Array.getElem?_eq_getElem h2] at h
    exact h
  simp only [indexS, Instr.index, asIntOf, Sem.run_bind, Sem.run_pure, Result.andThen_ok, run_underlying ht, h0, if_true, h1, hg]
  rw [Gf.box_tab]; rfl

/-- what a function of the program makes of a byte -/
def Makes (K : FuncId) (g : UInt8 → UInt8) : Prop := ∀ x : UInt8, Pur Try.prog K #[.int .u8 (B x)] (.int .u8 (B (g x)))

end Go.Proofs.Ytinlcpenllfcpaa
end

section
namespace Go.Proofs.Ytinlcpenllfcpaa
open Go.RowKit
attribute [local go_sem] B_xor B_or B_and
attribute [local go_sem] blk_set blk_size blk_get blk_getE upd_same oneCells_blk paste_blk cut_blk szOf
attribute [local go_sem high] paste_all cut_head
attribute [local go_sem] rowAt_alloc rowAt_drew rowAt_drewN isRow_alloc isRow_drew isRow_drewN freeRow_alloc freeRow_end freeRow_drew freeRow_drewN
attribute [local go_sem] setRow_alloc setRow_drew setRow_drewN setCell_drewN alloc_drewN rowAt_put isRow_setRow freeRow_put
attribute [local go_sem ↓] loadS_in storeS_in indexS_in copyS_in
attribute [local go_sem] loadS_row loadS_one storeS_row storeS_one indexS_blk copyS_rows run_equalIn_blk same_refl arrayAt_row

def cmix (c : Nat → UInt8) : Nat → UInt8 := fun i => c i ^^^ (c 0 ^^^ c 1 ^^^ c 2 ^^^ c 3) ^^^ Gf.dbl (c i ^^^ c (on4 i 1))
theorem cmix_mix (c : Nat → UInt8) : blk 4 (cmix c) = blk 4 (Gf.mix c) := blk_congr fun i hi => by
  have m2 : ∀ x, Gf.mul 2 x = Gf.dbl x := by apply Gf.all256; decide +kernel
  have h : ∀ a b c d : UInt8, a ^^^ (a ^^^ b ^^^ c ^^^ d) ^^^ (Gf.dbl a ^^^ Gf.dbl b) = Gf.dbl a ^^^ (Gf.dbl b ^^^ b) ^^^ c ^^^ d := fun a b c d => by
    rw [show a ^^^ (a ^^^ b ^^^ c ^^^ d) ^^^ (Gf.dbl a ^^^ Gf.dbl b) = (a ^^^ a) ^^^ (Gf.dbl a ^^^ (Gf.dbl b ^^^ b) ^^^ c ^^^ d) from by ac_rfl, UInt8.xor_self, UInt8.zero_xor]
  have hc := Ci.four_cases hi
  unfold cmix Gf.mix on4
  rw [m2, Gf.mul3, Gf.dbl_xor]
  rcases hc with rfl | rfl | rfl | rfl
  · exact h _ _ _ _
  · rw [← h]; simp only [Nat.reduceAdd, Nat.reduceMod]; ac_rfl
  · rw [← h]; simp only [Nat.reduceAdd, Nat.reduceMod]; ac_rfl
  · rw [← h]; simp only [Nat.reduceAdd, Nat.reduceMod]; ac_rfl

/-- what a function of the program makes of a column -/
def Turns (K : FuncId) (m : (Nat → UInt8) → Nat → UInt8) : Prop := ∀ (c : Nat → UInt8) (w : World), Calls Try.prog K #[.agg (blk 4 c)] w fun e w' => e = .returned (.agg (blk 4 (m c))) ∧ Below w.heap.size w w'
def Congr4 (m : (Nat → UInt8) → Nat → UInt8) : Prop := ∀ c d : Nat → UInt8, (∀ i, i < 4 → c i = d i) → ∀ i, i < 4 → m c i = m d i

theorem cols_next (m : (Nat → UInt8) → Nat → UInt8) (hm : Congr4 m) (b : Nat → UInt8) (k : Nat) :
    blk 16 (cpy (upTo b (Ci.columns m b) (4 * k)) (4 * k) (m fun j => upTo b (Ci.columns m b) (4 * k) (4 * k + j)) 0 4) = blk 16 (upTo b (Ci.columns m b) (4 * (k + 1))) := blk_congr fun i hi => by
  unfold cpy
  by_cases h : 4 * k ≤ i ∧ i < 4 * k + 4
  · rw [if_pos h, hm _ (Ci.col b (i / 4)) (fun j hj => by unfold upTo Ci.col; rw [if_neg (by omega)]; congr 1; omega) _ (by omega)]
    unfold upTo
    rw [if_pos (by omega)]
    unfold Ci.columns
    congr 1; omega
  · rw [if_neg h]
    unfold upTo
    by_cases h2 : i < 4 * k
    · rw [if_pos h2, if_pos (by omega)]
    · rw [if_neg h2, if_neg (by omega)]

def ColsAt (w : World) (m : (Nat → UInt8) → Nat → UInt8) (b : Nat → UInt8) (k : Nat) (wr : World) : Prop :=
  rowAt wr w.heap.size = blk 16 (upTo b (Ci.columns m b) (4 * k)) ∧ freeRow wr w.heap.size = true ∧ isRow wr w.heap.size = true ∧ rowAt wr (w.heap.size + 1) = blk 16 (fun _ => 0) ∧ freeRow wr (w.heap.size + 1) = true ∧ isRow wr (w.heap.size + 1) = true ∧
    w.heap.size + 2 ≤ wr.heap.size ∧ Below w.heap.size w wr

end Go.Proofs.Ytinlcpenllfcpaa
end

section
namespace Go.Proofs.Ytinlcpenllfcpaa
open Go.RowKit
attribute [local go_sem] B_xor B_or B_and
attribute [local go_sem] blk_set blk_size blk_get blk_getE upd_same oneCells_blk paste_blk cut_blk szOf
attribute [local go_sem high] paste_all cut_head
attribute [local go_sem] rowAt_alloc rowAt_drew rowAt_drewN isRow_alloc isRow_drew isRow_drewN freeRow_alloc freeRow_end freeRow_drew freeRow_drewN
attribute [local go_sem] setRow_alloc setRow_drew setRow_drewN setCell_drewN alloc_drewN rowAt_put isRow_setRow freeRow_put
attribute [local go_sem ↓] loadS_in storeS_in indexS_in copyS_in
attribute [local go_sem] loadS_row loadS_one storeS_row storeS_one indexS_blk copyS_rows run_equalIn_blk same_refl arrayAt_row

theorem setCell_row {w : World} (g i : Nat) (v : Value) (h : isRow w g = true) : w.setCell ⟨g, i, none⟩ v = w.setRow g ((rowAt w g).setIfInBounds i v) := by
  obtain ⟨cs, t, fr, hh, hr⟩ := isRow_cells h
  rw [hr]
  unfold World.setCell World.setRow
  congr 1
  apply Array.ext_getElem?
  intro n
  simp only [Array.getElem?_modify]
  by_cases hn : g = n
  · subst hn; simp [hh]
  · simp [hn]
theorem blk_ne (n : Nat) (f : Nat → UInt8) : (blk (n + 1) f = #[]) = False := by
  simp only [eq_iff_iff, iff_false]
  intro h
  have := congrArg Array.size h
  rw [blk_size] at this
  simp at this
attribute [local go_sem] cell_row frozen_row setCell_row blk_ne
def at4 (n i : Nat) : Nat := 4 * n + i
/-- the word that is put to the n-th -/
def lead (b : Nat → UInt8) (m : UInt8) : Nat → Nat → UInt8
  | 0 => Ci.first b m
  | n + 1 => fun i => Ci.nextAt b (Ci.first b m) n i
theorem next_at (b : Nat → UInt8) (m : UInt8) (n i : Nat) (hi : i < 4) : Ci.next b m (at4 n i) = b (at4 n i) ^^^ lead b m n i := by
  unfold Ci.next at4
  rw [show (4 * n + i) / 4 = n by omega, show (4 * n + i) % 4 = i by omega]
  cases n with
  | zero => simp [Ci.nextAt, lead]
  | succ n => rfl
theorem lead_next (b : Nat → UInt8) (m : UInt8) (n : Nat) : blk 4 (Ci.col (upTo b (Ci.next b m) (at4 n 4)) n) = blk 4 (lead b m (n + 1)) := blk_congr fun i hi => by
  unfold Ci.col upTo at4
  rw [if_pos (by omega)]
  unfold Ci.next
  rw [show (4 * n + i) / 4 = n by omega, show (4 * n + i) % 4 = i by omega]; rfl

def NextAt (w : World) (g : Nat) (b : Nat → UInt8) (m : UInt8) (n i : Nat) (wr : World) : Prop :=
  rowAt wr w.heap.size = blk 16 (upTo b (Ci.next b m) (at4 n i)) ∧ freeRow wr w.heap.size = true ∧ isRow wr w.heap.size = true ∧ rowAt wr (w.heap.size + 1) = blk 16 (fun _ => 0) ∧ freeRow wr (w.heap.size + 1) = true ∧ isRow wr (w.heap.size + 1) = true ∧
    rowAt wr g = blk 4 (lead b m n) ∧ freeRow wr g = true ∧ isRow wr g = true ∧ g < wr.heap.size ∧ w.heap.size + 2 ≤ g ∧ Below w.heap.size w wr

theorem upd_first (b : Nat → UInt8) (m : UInt8) : blk 4 (upd (upd (upd (upd (fun _ => 0) 0 (Gf.box (Ci.col b 3 1) ^^^ m)) 1 (Gf.box (Ci.col b 3 2))) 2 (Gf.box (Ci.col b 3 3))) 3 (Gf.box (Ci.col b 3 0))) = blk 4 (lead b m 0) := blk_congr fun i hi => by
  rcases Ci.four_cases hi with rfl | rfl | rfl | rfl <;> rfl

/-- a region's end, whatever order was drawn -/
def CutPost (A : Act) (W : World) : Exit → Act → World → Prop
  | .normal, a, w => a = A ∧ ∃ k, w = W.drewN k
  | _, _, _ => False
theorem region_cut {P : Program} {id : Nat} {ops : Array Oper} {b : Bool} {Q : Exit → Act → World → Prop} {a : Act} {w : World} (A : Act) (W : World) (h : (Code.region id ops b).wp P (CutPost A W) a w) (k : ∀ n, Q .normal A (W.drewN n)) : (Code.region id ops b).wp P Q a w :=
  Code.wp_mono (fun e a' w' (hh : CutPost A W e a' w') => by cases e with | normal => obtain ⟨rfl, n, rfl⟩ := hh; exact k n | _ => exact False.elim hh) h

end Go.Proofs.Ytinlcpenllfcpaa
end

section
namespace Go.Proofs.Ytinlcpenllfcpaa
open Go.RowKit
attribute [local go_sem] B_xor B_or B_and
attribute [local go_sem] blk_set blk_size blk_get blk_getE upd_same oneCells_blk paste_blk cut_blk szOf
attribute [local go_sem high] paste_all cut_head
attribute [local go_sem] rowAt_alloc rowAt_drew rowAt_drewN isRow_alloc isRow_drew isRow_drewN freeRow_alloc freeRow_end freeRow_drew freeRow_drewN
attribute [local go_sem] setRow_alloc setRow_drew setRow_drewN setCell_drewN alloc_drewN rowAt_put isRow_setRow freeRow_put
attribute [local go_sem ↓] loadS_in storeS_in indexS_in copyS_in
attribute [local go_sem] loadS_row loadS_one storeS_row storeS_one indexS_blk copyS_rows run_equalIn_blk same_refl arrayAt_row

theorem rounds_get (f key : Nat → UInt8) (k : Nat) : blk 16 (fun j => upTo f (Ci.rounds key) (16 * (k + 1)) (k * 16 + j)) = blk 16 (Ci.expand key k) := blk_congr fun i hi => by
  unfold upTo Ci.rounds
  rw [if_pos (by omega), show (k * 16 + i) / 16 = k by omega, show (k * 16 + i) % 16 = i by omega]
theorem rounds_put (f key : Nat → UInt8) (k : Nat) : blk 176 (cpy (upTo f (Ci.rounds key) (16 * (k + 1))) ((k + 1) * 16) (Ci.next (Ci.expand key k) (Ci.mark k)) 0 16) = blk 176 (upTo f (Ci.rounds key) (16 * (k + 1 + 1))) := blk_congr fun i hi => by
  unfold cpy upTo
  by_cases h : (k + 1) * 16 ≤ i ∧ i < (k + 1) * 16 + 16
  · rw [if_pos h, if_pos (by omega)]
    unfold Ci.rounds
    rw [show i / 16 = k + 1 by omega]
    show Ci.next (Ci.expand key k) (Ci.mark k) _ = Ci.next (Ci.expand key k) (Ci.mark k) _
    congr 1; omega
  · rw [if_neg h]
    by_cases h2 : i < 16 * (k + 1)
    · rw [if_pos h2, if_pos (by omega)]
    · rw [if_neg h2, if_neg (by omega)]

def ExpAt (w : World) (key : Nat → UInt8) (k : Nat) (wr : World) : Prop :=
  rowAt wr (w.heap.size + 1 + 1) = blk 176 (upTo (fun _ => 0) (Ci.rounds key) (16 * (k + 1))) ∧ freeRow wr (w.heap.size + 1 + 1) = true ∧ isRow wr (w.heap.size + 1 + 1) = true ∧ rowAt wr (w.heap.size + 1) = blk 176 (fun _ => 0) ∧ freeRow wr (w.heap.size + 1) = true ∧ isRow wr (w.heap.size + 1) = true ∧
    w.heap.size + 3 ≤ wr.heap.size ∧ Below w.heap.size w wr

theorem rounds_first (key : Nat → UInt8) : blk 176 (cpy (fun _ => 0) 0 key 0 16) = blk 176 (upTo (fun _ => 0) (Ci.rounds key) (16 * (0 + 1))) := blk_congr fun i hi => by
  unfold cpy upTo
  by_cases h : 0 ≤ i ∧ i < 0 + 16
  · rw [if_pos h, if_pos (by omega)]
    unfold Ci.rounds
    rw [show i / 16 = 0 by omega, show i % 16 = i by omega, show 0 + (i - 0) = i by omega]; rfl
  · rw [if_neg h, if_neg (by omega)]

end Go.Proofs.Ytinlcpenllfcpaa
end

section
namespace Go.Proofs.Ytinlcpenllfcpaa
open Go.RowKit
attribute [local go_sem] B_xor B_or B_and
attribute [local go_sem] blk_set blk_size blk_get blk_getE upd_same oneCells_blk paste_blk cut_blk szOf
attribute [local go_sem high] paste_all cut_head
attribute [local go_sem] rowAt_alloc rowAt_drew rowAt_drewN isRow_alloc isRow_drew isRow_drewN freeRow_alloc freeRow_end freeRow_drew freeRow_drewN
attribute [local go_sem] setRow_alloc setRow_drew setRow_drewN setCell_drewN alloc_drewN rowAt_put isRow_setRow freeRow_put
attribute [local go_sem ↓] loadS_in storeS_in indexS_in copyS_in
attribute [local go_sem] loadS_row loadS_one storeS_row storeS_one indexS_blk copyS_rows run_equalIn_blk same_refl arrayAt_row

theorem mix_congr4 : Congr4 Gf.mix := fun _ _ h i hi => Ci.mix_congr h i hi

/-- the rows of Seal's and Open's own -/
def SealAt (w : World) (r x : Nat → UInt8) (wr : World) : Prop :=
  rowAt wr w.heap.size = blk 176 r ∧ isRow wr w.heap.size = true ∧ rowAt wr (w.heap.size + 1) = blk 16 x ∧ freeRow wr (w.heap.size + 1) = true ∧ isRow wr (w.heap.size + 1) = true ∧
    rowAt wr (w.heap.size + 1 + 1) = blk 16 (fun _ => 0) ∧ freeRow wr (w.heap.size + 1 + 1) = true ∧ isRow wr (w.heap.size + 1 + 1) = true ∧ w.heap.size + 3 ≤ wr.heap.size ∧ Below w.heap.size w wr
theorem sealAt_call {w a b : World} {r x : Nat → UInt8} (h : SealAt w r x a) (hb : Below a.heap.size a b) : SealAt w r x b := by
  obtain ⟨r1, r2, r3, r4, r5, r6, r7, r8, r9, hB⟩ := h
  exact ⟨(below_rowAt hb (by omega)).trans r1, (below_isRow hb (by omega)).trans r2, (below_rowAt hb (by omega)).trans r3, (below_freeRow hb (by omega)).trans r4, (below_isRow hb (by omega)).trans r5,
    (below_rowAt hb (by omega)).trans r6, (below_freeRow hb (by omega)).trans r7, (below_isRow hb (by omega)).trans r8, Nat.le_trans r9 hb.size, hB.trans (hb.mono (by omega))⟩
theorem sealAt_drew {w a : World} {r x : Nat → UInt8} (h : SealAt w r x a) : SealAt w r x a.drew := by
  obtain ⟨r1, r2, r3, r4, r5, r6, r7, r8, r9, hB⟩ := h
  exact ⟨r1, r2, r3, r4, r5, r6, r7, r8, r9, hB.drew⟩

theorem sealAt_set {w a : World} {r x : Nat → UInt8} (y : Nat → UInt8) (h : SealAt w r x a) : SealAt w r y (a.setRow (w.heap.size + 1) (blk 16 y)) := by
  obtain ⟨r1, r2, r3, r4, r5, r6, r7, r8, r9, hB⟩ := h
  have m1 : (w.heap.size = w.heap.size + 1) = False := by simp
  have m2 : (w.heap.size + 1 + 1 = w.heap.size + 1) = False := by simp
  refine ⟨?_, ?_, ?_, ?_, ?_, ?_, ?_, ?_, ?_, ?_⟩
  all_goals first | (simp [go_sem, *]; done) | skip
  · exact below_setRow' hB (by omega) _
theorem rd_zero (r : Nat → UInt8) : blk 16 r = blk 16 (Ci.rd r 0) := blk_congr fun i _ => by unfold Ci.rd; congr 1; omega
theorem rd_at (r : Nat → UInt8) (n : Nat) : (fun j => r (n * 16 + j)) = Ci.rd r n := by funext i; unfold Ci.rd; congr 1; omega


end Go.Proofs.Ytinlcpenllfcpaa
end

section
namespace Go.Proofs.Ytinlcpenllfcpaa
open Go.RowKit
attribute [local go_sem] B_xor B_or B_and
attribute [local go_sem] blk_set blk_size blk_get blk_getE upd_same oneCells_blk paste_blk cut_blk szOf
attribute [local go_sem high] paste_all cut_head
attribute [local go_sem] rowAt_alloc rowAt_drew rowAt_drewN isRow_alloc isRow_drew isRow_drewN freeRow_alloc freeRow_end freeRow_drew freeRow_drewN
attribute [local go_sem] setRow_alloc setRow_drew setRow_drewN setCell_drewN alloc_drewN rowAt_put isRow_setRow freeRow_put
attribute [local go_sem ↓] loadS_in storeS_in indexS_in copyS_in
attribute [local go_sem] loadS_row loadS_one storeS_row storeS_one indexS_blk copyS_rows run_equalIn_blk same_refl arrayAt_row

theorem unmix_congr4 : Congr4 Gf.unmix := fun _ _ h i hi => Ci.unmix_congr h i hi


end Go.Proofs.Ytinlcpenllfcpaa
end

section
namespace Go.Proofs.Ytinlcpenllfcpaa
open Go.RowKit
attribute [local go_sem] B_xor B_or B_and
attribute [local go_sem] blk_set blk_size blk_get blk_getE upd_same oneCells_blk paste_blk cut_blk szOf
attribute [local go_sem high] paste_all cut_head
attribute [local go_sem] rowAt_alloc rowAt_drew rowAt_drewN isRow_alloc isRow_drew isRow_drewN freeRow_alloc freeRow_end freeRow_drew freeRow_drewN
attribute [local go_sem] setRow_alloc setRow_drew setRow_drewN setCell_drewN alloc_drewN rowAt_put isRow_setRow freeRow_put
attribute [local go_sem ↓] loadS_in storeS_in indexS_in copyS_in
attribute [local go_sem] loadS_row loadS_one storeS_row storeS_one indexS_blk copyS_rows run_equalIn_blk same_refl arrayAt_row
section
variable {P : Program} {w : World}
/-- the results of a function: one that lies in a row, and a slot -/
theorem results_pair {fn : Func} {p q : Tmp} {ty : TypeId} (h : fn.results = #[.cell p ty, .tmp q]) (tmps : Array Value) (g : Nat) (hp : tmps.getD p undef = .pointer (some ⟨g, 0, none⟩)) (cs : Array Value) (hc : rowAt w g = cs)
    (ha : (isAgg ty).run P w = .ok true w) (hs : (sizeOf ty).run P w = .ok cs.size w) (hr : isRow w g = true) (v : Value) (hq : tmps.getD q undef = v) :
    (results fn tmps).run P w = .ok (.tuple #[.agg cs, v]) w := by
  have hp' : tmps[p]?.getD undef = .pointer (some ⟨g, 0, none⟩) := by simpa using hp
  have hq' : tmps[q]?.getD undef = v := by simpa using hq
  have hl := run_loadCells_row (P := P) g 0 cs.size hr (by rw [hc]; omega)
  rw [hc] at hl
  simp only [Nat.zero_add, Array.extract_size] at hl
  simp [results, h, hp', hq', asAddr, loadVar, Sem.run_bind, ha, hs, hl]
end

/-- a text as a row -/
def ofText (s : ByteArray) : Nat → UInt8 := fun i => s.data.getD i 0
theorem text_cells (s : ByteArray) : ((s.extract 0 s.size).data.map fun b => Value.int .u8 (b.toNat : Int)) = blk s.size (ofText s) := by
  have he : s.extract 0 s.size = s := by simp
  rw [he]
  apply Array.ext
  · rw [blk_size]; simp
  · intro i h1 h2
    have hi : i < s.data.size := by simpa using h1
    have hb : (blk s.size (ofText s))[i]? = some (.int .u8 (B (ofText s i))) := blk_get _ _ _ hi
    rw [Array.getElem?_eq_getElem h2] at hb
    rw [Option.some.inj hb]
    simp [ofText, B, Array.getElem?_eq_getElem hi]
theorem copyS_text {P : Program} {w : World} (dT sT ty : TypeId) (g dCap n : Nat) (s : ByteArray) (hn : s.size = n) (hu : P.underlying dT = some (.slice (P.elem dT))) (hs : (sizeOf (P.elem dT)).run P w = .ok 1 w)
    (hr : freeRow w g = true) (hg : n ≤ (rowAt w g).size) :
    (copyS #[dT, sT] ty #[.slice (some ⟨g, 0, none⟩) n dCap, .string s]).run P w = .ok (goInt (n : Int)) (w.setRow g (paste (rowAt w g) 0 (blk n (ofText s)))) := by
  subst hn
  have hst := run_storeCells_row (P := P) g 0 (blk s.size (ofText s)) hr (by rw [blk_size]; omega) (oneCells_blk _ _)
  have hc := text_cells s
  have hm : Nat.min s.size s.size = s.size := Nat.min_self _
  simp only [copyS, Builtin.copy_, List.getElem?_toArray, List.getElem?_cons_zero, List.getElem?_cons_succ, Sem.run_bind, run_underlying hu, Result.andThen_ok, Builtin.lenOf, Sem.run_pure, hs, Builtin.firstCells, hm, hc, hst]

end Go.Proofs.Ytinlcpenllfcpaa
end
