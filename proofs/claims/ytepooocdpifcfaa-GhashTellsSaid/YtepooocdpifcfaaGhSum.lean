/- The sum of two texts and their lengths, as the program tells it; coefficients. Texts shorter than 2 to 40. -/
import Derived.Test.YtepooocdpifcfaaGhFeed
namespace Go.Proofs.Ytepooocdpifcfaa
open Go.RowKit
attribute [local go_sem] B_xor B_or B_and
attribute [local go_sem] blk_set blk_size blk_get blk_getE upd_same oneCells_blk paste_blk cut_blk szOf
attribute [local go_sem high] paste_all cut_head
attribute [local go_sem] rowAt_alloc rowAt_drew rowAt_drewN isRow_alloc isRow_drew isRow_drewN freeRow_alloc freeRow_end freeRow_drew freeRow_drewN
attribute [local go_sem] setRow_alloc setRow_drew setRow_drewN setCell_drewN alloc_drewN rowAt_put isRow_setRow freeRow_put
attribute [local go_sem ↓] loadS_in storeS_in indexS_in copyS_in
attribute [local go_sem] loadS_row loadS_one storeS_row storeS_one indexS_blk copyS_rows run_equalIn_blk same_refl arrayAt_row
attribute [local go_sem] cell_row frozen_row st_setCell st_blk_ne stepAt stepUpon
attribute [local go_sem high] run_eql_blk run_neq_blk
attribute [local go_sem] U_xor U_or U_and U_and1 U_tail U_neg U_half U_shr U_shl8 U_shl63 U_of U_to pr_size pr_get0 pr_get1 pr_getE0 pr_getE1 pr_set0 pr_set1 pr_ne oneCells_pr paste_pr cut_pr
attribute [local go_sem] wide_size wide_get0 wide_get1 wide_getE0 wide_getE1 wide_ne oneCells_wide paste_wide cut_wide
attribute [local go_sem] size_wide agg_wide wide_build build_run0 build_run2 run_size oneCells_run cut_run0 cut_run2 paste_run run_ne size_run agg_run

/-- the lengths of two texts, in bits, as a block -/
def lens (a b : ByteArray) : Nat := 8 * a.size * 2 ^ 64 + 8 * b.size
theorem lens_ok {a b : ByteArray} (ha : a.size < 2 ^ 40) (hb : b.size < 2 ^ 40) : Gh.Ok (lens a b) := by
  unfold Gh.Ok lens; omega
theorem lens_hi {a b : ByteArray} (ha : a.size < 2 ^ 40) (hb : b.size < 2 ^ 40) : IntKind.u64.wrap ((a.size : Int) * (8 : Int)) = U (hiU (lens a b)) := by
  rw [wrap64]
  unfold U
  rw [hi_nat (lens_ok ha hb), Nat.shiftRight_eq_div_pow]
  unfold lens
  omega
theorem lens_lo (a : ByteArray) {b : ByteArray} (_hb : b.size < 2 ^ 40) : IntKind.u64.wrap ((b.size : Int) * (8 : Int)) = U (loU (lens a b)) := by
  rw [wrap64]
  unfold U
  rw [lo_nat]
  unfold lens
  omega
def sumN (h : Nat) (a b : ByteArray) : Nat := Gh.fold h 0 (nums (txt a) ++ nums (txt b) ++ [lens a b])
def sumB (h : Nat → UInt8) (a b : ByteArray) : Nat → UInt8 := unum (sumN (num h) a b)
theorem sumN_eq (h : Nat) (a b : ByteArray) : Gh.mul (Gh.fold h (Gh.fold h 0 (nums (txt a))) (nums (txt b)) ^^^ lens a b) h = sumN h a b := by
  unfold sumN
  rw [Gh.fold_append, Gh.fold_append]; rfl
set_option maxRecDepth 100000 in
set_option maxHeartbeats 1000000 in
theorem ghSum_any (h : Nat → UInt8) (a b : ByteArray) (ha : a.size < 2 ^ 40) (hb : b.size < 2 ^ 40) (w : World) : Calls Try.prog 18 #[.agg (blk 16 h), .string a, .string b] w fun e w' => e = .returned (.agg (blk 16 (sumB h a b))) ∧ Below w.heap.size w w' := by
  have hz := zero16
  have hz2 := run_zero
  have hz3 := pr_zero
  have hlen := lens_ok ha hb
  have q1 := lens_hi ha hb
  have q2 := lens_lo a hb
  have a1 : (a.size : Int) ≤ 1099511627776 := by omega
  have a2 : (b.size : Int) ≤ 1099511627776 := by omega
  go_enter Try.func18, Try.ntmps18
  go_wp2_with fail
  have HC := Lib.hid (((St.nil w).pushA (blk 16 h) 23 rfl).pushA (blk 16 fun _ => 0) 23 (g := w.heap.size + 1) (by simp))
  refine (load_any _ _).mono ?_; rintro e w1 ⟨rfl, hw⟩
  have HC := Lib.hid (HC.out.call hw)
  clear hw
  have hC := HC.out
  (have HC := Lib.hid hC
   have sos := hC.below.os
   obtain ⟨⟨r1, f1, i1, b1, l1⟩, ⟨r2, f2, i2, b2, l2⟩, m12, m21⟩ := St.facts2 hC
   clear hC)
  go_wp2_with fail
  have HC := Lib.hid (HC.out.push (run 0 (num h)) 70)
  (clear r1 f1 i1 b1 l1 r2 f2 i2 b2 l2 m12 m21 sos)
  refine (feed_any w _ _ _ _ Gh.ok_zero (num_lt h) a (by unfold maxLen; omega) _ HC).mono ?_; rintro e w2 ⟨rfl, hC⟩
  have hok1 := fold_ok (num h) 0 (txt a) Gh.ok_zero
  clear HC
  have HC := Lib.hid hC
  have sos := hC.below.os
  clear hC
  go_wp2_with fail
  clear sos
  refine (feed_any w _ _ _ _ hok1 (num_lt h) b (by unfold maxLen; omega) _ HC).mono ?_; rintro e w3 ⟨rfl, hC⟩
  have hok2 := fold_ok (num h) _ (txt b) hok1
  clear HC
  (have HC := Lib.hid hC
   have sos := hC.below.os
   obtain ⟨⟨r1, f1, i1, b1, l1⟩, ⟨r2, f2, i2, b2, l2⟩, ⟨r3, f3, i3, b3, l3⟩, m12, m21, m13, m31, m23, m32⟩ := St.facts3 hC
   clear hC)
  go_wp2_with fail
  have HC := Lib.hid (HC.out.push (wide (lens a b)) 63)
  (clear r1 f1 i1 b1 l1 r2 f2 i2 b2 l2 r3 f3 i3 b3 l3 m12 m21 m13 m31 m23 m32 sos)
  refine St.region_tail 8 HC.out (by kernel_rfl) (by decide +kernel) ?_
  (simp only [List.take, List.drop])
  (first
     | (apply head_skip rfl)
     | (apply head_step_g rfl
        focus
          intro w0 hC
          (fail))
     | (apply head_step_g rfl
        focus
          intro w0 hC
          have hC' := Lib.hid hC
          obtain ⟨⟨r1, f1, i1, b1, l1⟩, ⟨r2, f2, i2, b2, l2⟩, ⟨r3, f3, i3, b3, l3⟩, ⟨r4, f4, i4, b4, l4⟩, m12, m21, m13, m31, m14, m41, m23, m32, m24, m42, m34, m43⟩ := St.facts4 hC
          clear hC
          go_simp
          have hC := hC'.out
          (first
             | with_reducible rfl
             | (skip
                (first
                   | refine (plus1_any _ _ hok2 hlen _).mono ?_
                   | refine (times_any _ _ (Gh.xor_lt hok2 hlen) (num_lt h) _).mono ?_)
                rintro e w' ⟨rfl, hw⟩
                exact ⟨rfl, St.call (by assumption) hw⟩)))
   try simp only [Act.put, List.setIfInBounds_toArray, List.set])
  (first
     | (apply head_skip rfl)
     | (apply head_step_g rfl
        focus
          intro w0 hC
          (fail))
     | (apply head_step_g rfl
        focus
          intro w0 hC
          have hC' := Lib.hid hC
          obtain ⟨⟨r1, f1, i1, b1, l1⟩, ⟨r2, f2, i2, b2, l2⟩, ⟨r3, f3, i3, b3, l3⟩, ⟨r4, f4, i4, b4, l4⟩, m12, m21, m13, m31, m14, m41, m23, m32, m24, m42, m34, m43⟩ := St.facts4 hC
          clear hC
          go_simp
          have hC := hC'.out
          (first
             | with_reducible rfl
             | (skip
                (first
                   | refine (plus1_any _ _ hok2 hlen _).mono ?_
                   | refine (times_any _ _ (Gh.xor_lt hok2 hlen) (num_lt h) _).mono ?_)
                rintro e w' ⟨rfl, hw⟩
                exact ⟨rfl, St.call (by assumption) hw⟩)))
   try simp only [Act.put, List.setIfInBounds_toArray, List.set])
  (first
     | (apply head_skip rfl)
     | (apply head_step_g rfl
        focus
          intro w0 hC
          (fail))
     | (apply head_step_g rfl
        focus
          intro w0 hC
          have hC' := Lib.hid hC
          obtain ⟨⟨r1, f1, i1, b1, l1⟩, ⟨r2, f2, i2, b2, l2⟩, ⟨r3, f3, i3, b3, l3⟩, ⟨r4, f4, i4, b4, l4⟩, m12, m21, m13, m31, m14, m41, m23, m32, m24, m42, m34, m43⟩ := St.facts4 hC
          clear hC
          go_simp
          have hC := hC'.out
          (first
             | with_reducible rfl
             | (skip
                (first
                   | refine (plus1_any _ _ hok2 hlen _).mono ?_
                   | refine (times_any _ _ (Gh.xor_lt hok2 hlen) (num_lt h) _).mono ?_)
                rintro e w' ⟨rfl, hw⟩
                exact ⟨rfl, St.call (by assumption) hw⟩)))
   try simp only [Act.put, List.setIfInBounds_toArray, List.set])
  (first
     | (apply head_skip rfl)
     | (apply head_step_g rfl
        focus
          intro w0 hC
          (fail))
     | (apply head_step_g rfl
        focus
          intro w0 hC
          have hC' := Lib.hid hC
          obtain ⟨⟨r1, f1, i1, b1, l1⟩, ⟨r2, f2, i2, b2, l2⟩, ⟨r3, f3, i3, b3, l3⟩, ⟨r4, f4, i4, b4, l4⟩, m12, m21, m13, m31, m14, m41, m23, m32, m24, m42, m34, m43⟩ := St.facts4 hC
          clear hC
          go_simp
          have hC := hC'.out
          (first
             | with_reducible rfl
             | (skip
                (first
                   | refine (plus1_any _ _ hok2 hlen _).mono ?_
                   | refine (times_any _ _ (Gh.xor_lt hok2 hlen) (num_lt h) _).mono ?_)
                rintro e w' ⟨rfl, hw⟩
                exact ⟨rfl, St.call (by assumption) hw⟩)))
   try simp only [Act.put, List.setIfInBounds_toArray, List.set])
  (first
     | (apply head_skip rfl)
     | (apply head_step_g rfl
        focus
          intro w0 hC
          (fail))
     | (apply head_step_g rfl
        focus
          intro w0 hC
          have hC' := Lib.hid hC
          obtain ⟨⟨r1, f1, i1, b1, l1⟩, ⟨r2, f2, i2, b2, l2⟩, ⟨r3, f3, i3, b3, l3⟩, ⟨r4, f4, i4, b4, l4⟩, m12, m21, m13, m31, m14, m41, m23, m32, m24, m42, m34, m43⟩ := St.facts4 hC
          clear hC
          go_simp
          have hC := hC'.out
          (first
             | with_reducible rfl
             | (skip
                (first
                   | refine (plus1_any _ _ hok2 hlen _).mono ?_
                   | refine (times_any _ _ (Gh.xor_lt hok2 hlen) (num_lt h) _).mono ?_)
                rintro e w' ⟨rfl, hw⟩
                exact ⟨rfl, St.call (by assumption) hw⟩)))
   try simp only [Act.put, List.setIfInBounds_toArray, List.set])
  (first
     | (apply head_skip rfl)
     | (apply head_step_g rfl
        focus
          intro w0 hC
          (fail))
     | (apply head_step_g rfl
        focus
          intro w0 hC
          have hC' := Lib.hid hC
          obtain ⟨⟨r1, f1, i1, b1, l1⟩, ⟨r2, f2, i2, b2, l2⟩, ⟨r3, f3, i3, b3, l3⟩, ⟨r4, f4, i4, b4, l4⟩, m12, m21, m13, m31, m14, m41, m23, m32, m24, m42, m34, m43⟩ := St.facts4 hC
          clear hC
          go_simp
          have hC := hC'.out
          (first
             | with_reducible rfl
             | (skip
                (first
                   | refine (plus1_any _ _ hok2 hlen _).mono ?_
                   | refine (times_any _ _ (Gh.xor_lt hok2 hlen) (num_lt h) _).mono ?_)
                rintro e w' ⟨rfl, hw⟩
                exact ⟨rfl, St.call (by assumption) hw⟩)))
   try simp only [Act.put, List.setIfInBounds_toArray, List.set])
  (first
     | (apply head_skip rfl)
     | (apply head_step_g rfl
        focus
          intro w0 hC
          (fail))
     | (apply head_step_g rfl
        focus
          intro w0 hC
          have hC' := Lib.hid hC
          obtain ⟨⟨r1, f1, i1, b1, l1⟩, ⟨r2, f2, i2, b2, l2⟩, ⟨r3, f3, i3, b3, l3⟩, ⟨r4, f4, i4, b4, l4⟩, m12, m21, m13, m31, m14, m41, m23, m32, m24, m42, m34, m43⟩ := St.facts4 hC
          clear hC
          go_simp
          have hC := hC'.out
          (first
             | with_reducible rfl
             | (skip
                (first
                   | refine (plus1_any _ _ hok2 hlen _).mono ?_
                   | refine (times_any _ _ (Gh.xor_lt hok2 hlen) (num_lt h) _).mono ?_)
                rintro e w' ⟨rfl, hw⟩
                exact ⟨rfl, St.call (by assumption) hw⟩)))
   try simp only [Act.put, List.setIfInBounds_toArray, List.set])
  (first
     | (apply head_skip rfl)
     | (apply head_step_g rfl
        focus
          intro w0 hC
          (fail))
     | (apply head_step_g rfl
        focus
          intro w0 hC
          have hC' := Lib.hid hC
          obtain ⟨⟨r1, f1, i1, b1, l1⟩, ⟨r2, f2, i2, b2, l2⟩, ⟨r3, f3, i3, b3, l3⟩, ⟨r4, f4, i4, b4, l4⟩, m12, m21, m13, m31, m14, m41, m23, m32, m24, m42, m34, m43⟩ := St.facts4 hC
          clear hC
          go_simp
          have hC := hC'.out
          (first
             | with_reducible rfl
             | (skip
                (first
                   | refine (plus1_any _ _ hok2 hlen _).mono ?_
                   | refine (times_any _ _ (Gh.xor_lt hok2 hlen) (num_lt h) _).mono ?_)
                rintro e w' ⟨rfl, hw⟩
                exact ⟨rfl, St.call (by assumption) hw⟩)))
   try simp only [Act.put, List.setIfInBounds_toArray, List.set])
  refine wpQuiet_nil ?_
  intro w4 hC
  have hs : Gh.Ok (sumN (num h) a b) := by rw [← sumN_eq]; exact Gh.mul_lt (Gh.xor_lt hok2 hlen) _
  have he := sumN_eq (num h) a b
  (have HC := Lib.hid hC
   have sos := hC.below.os
   obtain ⟨⟨r1, f1, i1, b1, l1⟩, ⟨r2, f2, i2, b2, l2⟩, ⟨r3, f3, i3, b3, l3⟩, ⟨r4, f4, i4, b4, l4⟩, m12, m21, m13, m31, m14, m41, m23, m32, m24, m42, m34, m43⟩ := St.facts4 hC
   clear hC)
  go_wp2_with fail
  have HC := Lib.hid ((HC.out.swap.set_head (run (sumN (num h) a b) (num h))).swap)
  (clear r1 f1 i1 b1 l1 r2 f2 i2 b2 l2 r3 f3 i3 b3 l3 r4 f4 i4 b4 l4 m12 m21 m13 m31 m14 m41 m23 m32 m24 m42 m34 m43 sos)
  refine (block_any _ hs _).mono ?_; rintro e w5 ⟨rfl, hw⟩
  have HC := Lib.hid (HC.out.call hw)
  clear hw
  have hC := HC.out
  (have HC := Lib.hid hC
   have sos := hC.below.os
   obtain ⟨⟨r1, f1, i1, b1, l1⟩, ⟨r2, f2, i2, b2, l2⟩, ⟨r3, f3, i3, b3, l3⟩, ⟨r4, f4, i4, b4, l4⟩, m12, m21, m13, m31, m14, m41, m23, m32, m24, m42, m34, m43⟩ := St.facts4 hC
   clear hC)
  go_wp2_with fail
  refine bodyPost_ret (results_row rfl _ (w.heap.size + 1) rfl (blk 16 (sumB h a b)) ?_ ?_ ?_ ?_) rfl ⟨rfl, ?_⟩
  · simp [go_sem, *]; rfl
  · simp [go_sem]
  · simp [go_sem]
  · simp [go_sem, *]
  · exact below_setRow' HC.out.below (by omega) _

/-! ### a coefficient -/
def bitB (b : Nat → UInt8) (i : Nat) : Bool := (num b).testBit (127 - i)
theorem byte_bit (b : Nat → UInt8) (q k : Nat) (hq : q < 16) (hk : k < 8) : (b q).toNat.testBit k = (num b).testBit (8 * (15 - q) + k) := by
  rw [← unum_num b q hq]
  unfold unum byteN
  rw [UInt8.toNat_ofNat', show 16 - 1 - q = 15 - q by omega, show (256 : Nat) = 2 ^ 8 from rfl, ← Nat.pow_mul, ← Nat.shiftRight_eq_div_pow, Nat.testBit_mod_two_pow, Nat.testBit_shiftRight]
  simp [hk]
theorem B_shr (x : UInt8) (k : Nat) (h : k < 8) : B x / (2 : Int) ^ k = B (x >>> UInt8.ofNat k) := by
  unfold B
  rw [UInt8.toNat_shiftRight, Nat.shiftRight_eq_div_pow, UInt8.toNat_ofNat_of_lt' (by have : UInt8.size = 256 := rfl; omega), Nat.mod_eq_of_lt h]
  simp
theorem B_and1 (x : UInt8) : bits BinOp.and IntKind.u8 (B x) 1 = B (x &&& 1) := B_and x 1
def quo8 (i : Nat) : Nat := i / 8
def rem8 (i : Nat) : Nat := i % 8
def sh7 (i : Nat) : Nat := 7 - i % 8
theorem bit_test (b : Nat → UInt8) (i : Nat) (hi : i < 128) : (B (b (quo8 i) >>> UInt8.ofNat (sh7 i) &&& 1) == 1) = bitB b i := by
  have h := byte_bit b (quo8 i) (sh7 i) (by unfold quo8; omega) (by unfold sh7; omega)
  rw [show 8 * (15 - quo8 i) + sh7 i = 127 - i by unfold quo8 sh7; omega] at h
  unfold bitB
  rw [← h]
  have e : B (b (quo8 i) >>> UInt8.ofNat (sh7 i) &&& 1) = (((b (quo8 i)).toNat / 2 ^ sh7 i % 2 : Nat) : Int) := by
    unfold B
    rw [UInt8.toNat_and, UInt8.toNat_shiftRight, UInt8.toNat_ofNat_of_lt' (by have : UInt8.size = 256 := rfl; unfold sh7; omega), show sh7 i % 8 = sh7 i by unfold sh7; omega, Nat.shiftRight_eq_div_pow]
    show ((_ &&& 1 : Nat) : Int) = _
    rw [Nat.and_one_is_mod]
  rw [e, Nat.testBit_eq_decide_div_mod_eq, Bool.eq_iff_iff]
  simp only [beq_iff_eq, decide_eq_true_eq]
  omega
attribute [local go_sem] B_shr B_and1
set_option maxRecDepth 100000 in
theorem ghBit_any (b : Nat → UInt8) (i : Nat) (hi : i < 128) (w : World) : Calls Try.prog 15 #[.agg (blk 16 b), .int .i64 (i : Int)] w fun e w' => e = .returned (.bool (bitB b i)) ∧ Below w.heap.size w w' := by
  have t1 : decide ((i : Int) < 0) = false := decide_eq_false (by omega)
  have t2 : decide ((128 : Int) ≤ (i : Int)) = false := decide_eq_false (by omega)
  have e1 : (i : Int) < 128 := by omega
  have v1 : (i : Int) / 8 = (quo8 i : Int) := by unfold quo8; omega
  have v2 : (i : Int) % 8 = (rem8 i : Int) := by unfold rem8; omega
  have v3 : IntKind.i64.wrap (7 - (rem8 i : Int)) = (sh7 i : Int) := by unfold rem8 sh7; rw [IntWalk.i64_in _ (by omega)]; omega
  have v4 : 7 - (rem8 i : Int) = (sh7 i : Int) := by unfold rem8 sh7; omega
  have v5 : IntKind.i64.wrap (quo8 i : Int) = (quo8 i : Int) := IntWalk.i64_in _ (by unfold quo8; omega)
  have e2 : quo8 i < 16 := by unfold quo8; omega
  have e3 : (quo8 i : Int) < 16 := by omega
  have e4 : sh7 i < 8 := by unfold sh7; omega
  have e5 : (sh7 i : Int) ≤ 8 := by omega
  have e6 := bit_test b i hi
  go_enter Try.func15, Try.ntmps15
  go_wp2_with fail
  go_ret
  exact ⟨rfl, (Below.refl _ _).alloc (Nat.le_refl _) _⟩
set_option maxRecDepth 100000 in
theorem ghBit_out (b : Nat → UInt8) (i : Int) (hi : i < 0 ∨ 128 ≤ i) (w : World) : Calls Try.prog 15 #[.agg (blk 16 b), .int .i64 i] w fun e w' => e = .returned (.bool false) ∧ Below w.heap.size w w' := by
  rcases hi with hi | hi
  · have t1 : decide (i < 0) = true := decide_eq_true hi
    go_enter Try.func15, Try.ntmps15
    go_wp2_with fail
    go_ret
    exact ⟨rfl, (Below.refl _ _).alloc (Nat.le_refl _) _⟩
  · have t1 : decide (i < 0) = false := decide_eq_false (by omega)
    have t2 : decide (128 ≤ i) = true := decide_eq_true hi
    go_enter Try.func15, Try.ntmps15
    go_wp2_with fail
    go_ret
    exact ⟨rfl, (Below.refl _ _).alloc (Nat.le_refl _) _⟩
end Go.Proofs.Ytepooocdpifcfaa
