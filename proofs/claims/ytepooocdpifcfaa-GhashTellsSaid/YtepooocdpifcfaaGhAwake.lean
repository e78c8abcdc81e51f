/- padlocklaw08.awake returns true. -/
import Derived.Test.YtepooocdpifcfaaGhSum
namespace Go.Proofs.Ytepooocdpifcfaa
open Go.RowKit
attribute [local go_sem] B_xor B_or B_and
attribute [local go_sem] blk_set blk_size blk_get blk_getE upd_same oneCells_blk paste_blk cut_blk szOf
attribute [local go_sem high] paste_all cut_head
attribute [local go_sem] rowAt_alloc rowAt_drew rowAt_drewN isRow_alloc isRow_drew isRow_drewN freeRow_alloc freeRow_end freeRow_drew freeRow_drewN
attribute [local go_sem] setRow_alloc setRow_drew setRow_drewN setCell_drewN alloc_drewN rowAt_put isRow_setRow freeRow_put
attribute [local go_sem ↓] loadS_in storeS_in indexS_in copyS_in
attribute [local go_sem] loadS_row loadS_one storeS_row storeS_one indexS_blk copyS_rows run_equalIn_blk same_refl arrayAt_row
attribute [local go_sem] cell_row frozen_row st_setCell st_blk_ne stepAt stepUpon
attribute [local go_sem high] run_eql_blk run_neq_blk
attribute [local go_sem] U_xor U_or U_and U_and1 U_tail U_neg U_half U_shr U_shl8 U_shl63 U_of U_to pr_size pr_get0 pr_get1 pr_getE0 pr_getE1 pr_set0 pr_set1 pr_ne oneCells_pr paste_pr cut_pr
attribute [local go_sem] wide_size wide_get0 wide_get1 wide_getE0 wide_getE1 wide_ne oneCells_wide paste_wide cut_wide

theorem pw_xx : ∀ n, Gh.pw Gh.xx n = Gh.dblN n Gh.one
  | 0 => rfl
  | n + 1 => by
    show Gh.mul (Gh.pw Gh.xx n) Gh.xx = Gh.dbl (Gh.dblN n Gh.one)
    rw [pw_xx n, Gh.mul_comm (Gh.dblN_lt Gh.ok_one n) Gh.ok_xx, Gh.xx_mul (Gh.dblN_lt Gh.ok_one n)]
theorem same_of {x y : Nat} (h : x = y) : same 16 (unum x) (unum y) = true := by subst h; exact same_refl _ _
theorem awake_facts : ∃ o X Y Z : Nat → UInt8, unum Gh.one = o ∧
    (blk 16 fun _ => 0).setIfInBounds 0 (.int .u8 128) = blk 16 o ∧ (blk 16 fun _ => 0).setIfInBounds 0 (.int .u8 64) = blk 16 X ∧ (blk 16 fun _ => 0).setIfInBounds 0 (.int .u8 32) = blk 16 Y ∧ (blk 16 fun _ => 0).setIfInBounds 0 (.int .u8 225) = blk 16 Z ∧
    same 16 (mulB X X) Y = true ∧ same 16 (mulB o Y) Y = true ∧ same 16 (sumB X ⟨#[]⟩ ⟨#[]⟩) (fun _ => 0) = true ∧ bitB o 0 = true ∧ bitB o 1 = false ∧ same 16 (powB X 128) Z = true := by
  have e64 : ((64 : UInt8).toNat * 2 ^ 120) = Gh.xx := by decide +kernel
  have nX : num (unum Gh.xx) = Gh.xx := num_unum Gh.ok_xx
  have nO : num (unum Gh.one) = Gh.one := num_unum Gh.ok_one
  have hY : Gh.Ok ((32 : UInt8).toNat * 2 ^ 120) := lead_ok 32
  refine ⟨unum Gh.one, unum Gh.xx, unum ((32 : UInt8).toNat * 2 ^ 120), unum ((225 : UInt8).toNat * 2 ^ 120), rfl, lead_lit 128 128 rfl, by rw [← e64]; exact lead_lit 64 64 rfl, lead_lit 32 32 rfl, lead_lit 225 225 rfl, ?_, ?_, ?_, ?_, ?_, ?_⟩
  · unfold mulB
    rw [nX]
    refine same_of ?_
    rw [Gh.xx_mul Gh.ok_xx]; decide +kernel
  · unfold mulB
    rw [nO, num_unum hY, Gh.one_mul hY]
    exact same_refl _ _
  · have h0 : sumN (num (unum Gh.xx)) ⟨#[]⟩ ⟨#[]⟩ = 0 := by
      rw [nX]
      show Gh.mul (0 ^^^ lens ⟨#[]⟩ ⟨#[]⟩) Gh.xx = 0
      have : lens ⟨#[]⟩ ⟨#[]⟩ = 0 := rfl
      rw [this]; exact Gh.zero_mul _
    unfold sumB
    rw [h0, same_iff]
    intro i _
    simp [unum, byteN]
  · unfold bitB; rw [nO]; decide +kernel
  · unfold bitB; rw [nO]; decide +kernel
  · unfold powB
    rw [nX, pw_xx]
    refine same_of ?_
    decide +kernel
theorem bit_at (b : Nat → UInt8) (i : Nat) (n : Int) (v : Bool) (hn : (i : Int) = n) (hi : i < 128) (h : bitB b i = v) (w : World) : Calls Try.prog 15 #[.agg (blk 16 b), .int .i64 n] w fun e w' => e = .returned (.bool v) ∧ Below w.heap.size w w' := by
  subst hn; subst h; exact ghBit_any b i hi w
theorem pow_at (b : Nat → UInt8) (i : Nat) (n : Int) (hn : (i : Int) = n) (hi : i ≤ 65536) (w : World) : Calls Try.prog 24 #[.agg (blk 16 b), .int .i64 n] w fun e w' => e = .returned (.agg (blk 16 (powB b i))) ∧ Below w.heap.size w w' := by
  subst hn; exact ghPow_any b i hi w
theorem one_at (o : Nat → UInt8) (h : unum Gh.one = o) (w : World) : Calls Try.prog 23 #[] w fun e w' => e = .returned (.agg (blk 16 o)) ∧ Below w.heap.size w w' := by
  subst h; exact one_any w
set_option maxRecDepth 100000 in
set_option maxHeartbeats 2000000 in
theorem awake08_any (w : World) : Calls Try.prog 17 #[] w fun e w' => e = .returned (.bool true) ∧ Below w.heap.size w w' := by
  have hz := zero16
  obtain ⟨o, X, Y, Z, ho, l1, l2, l3, l4, s2, s3, s4, b0, b1, s5⟩ := awake_facts
  go_enter Try.func17, Try.ntmps17
  go_wp2_with fail
  refine (one_at o ho _).mono ?_; rintro e w1 ⟨rfl, hw⟩
  have HC := Lib.hid ((St.nil w).call hw)
  have sos := HC.out.os
  clear hw ho
  go_wp2_with fail
  have HC := Lib.hid ((((HC.out.push (blk 16 o) 23).pushA (blk 16 X) 23 (g := w1.heap.size + 1) (by simp)).pushA (blk 16 Y) 23 (g := w1.heap.size + 1 + 1) (by simp)))
  clear l2 l3 sos
  have bit0 := fun w => bit_at o 0 0 true rfl (by decide) b0 w
  have bit1 := fun w => bit_at o 1 1 false rfl (by decide) b1 w
  have bitm := fun w => ghBit_out o (-1) (by decide) w
  clear b0 b1
  refine St.region HC.out (by kernel_rfl) (by kernel_rfl) ?_
  (first
     | (apply head_skip rfl)
     | (apply head_step_g rfl
        focus
          intro w0 hC
          (exact eql_quiet 23 rfl rfl rfl Try.eqGuardType23 Try.underlying23 (by simp [go_sem]) (by simp [go_sem]) (by first | assumption | exact same_refl _ _)))
     | (apply head_step_g rfl
        focus
          intro w0 hC
          have hC' := Lib.hid hC
          obtain ⟨⟨r1, f1, i1, b1, l1⟩, ⟨r2, f2, i2, b2, l2⟩, ⟨r3, f3, i3, b3, l3⟩, m12, m21, m13, m31, m23, m32⟩ := St.facts3 hC
          clear hC
          go_simp
          have hC := hC'.out
          (first
             | with_reducible rfl
             | (skip
                (first
                   | (go_at_call 13; refine (ghMul_any _ _ _).mono ?_)
                   | (go_at_call 18; refine (ghSum_any _ _ _ (by decide) (by decide) _).mono ?_)
                   | (go_at_call 24; refine (pow_at _ 128 _ rfl (by decide) _).mono ?_)
                   | (go_at_call 15; (first | (with_reducible refine (bit0 _).mono ?_) | (with_reducible refine (bit1 _).mono ?_) | (with_reducible refine (bitm _).mono ?_))))
                rintro e w' ⟨rfl, hw⟩
                exact ⟨rfl, St.call (by assumption) hw⟩)))
   try simp only [Act.put, List.setIfInBounds_toArray, List.set])
  (first
     | (apply head_skip rfl)
     | (apply head_step_g rfl
        focus
          intro w0 hC
          (exact eql_quiet 23 rfl rfl rfl Try.eqGuardType23 Try.underlying23 (by simp [go_sem]) (by simp [go_sem]) (by first | assumption | exact same_refl _ _)))
     | (apply head_step_g rfl
        focus
          intro w0 hC
          have hC' := Lib.hid hC
          obtain ⟨⟨r1, f1, i1, b1, l1⟩, ⟨r2, f2, i2, b2, l2⟩, ⟨r3, f3, i3, b3, l3⟩, m12, m21, m13, m31, m23, m32⟩ := St.facts3 hC
          clear hC
          go_simp
          have hC := hC'.out
          (first
             | with_reducible rfl
             | (skip
                (first
                   | (go_at_call 13; refine (ghMul_any _ _ _).mono ?_)
                   | (go_at_call 18; refine (ghSum_any _ _ _ (by decide) (by decide) _).mono ?_)
                   | (go_at_call 24; refine (pow_at _ 128 _ rfl (by decide) _).mono ?_)
                   | (go_at_call 15; (first | (with_reducible refine (bit0 _).mono ?_) | (with_reducible refine (bit1 _).mono ?_) | (with_reducible refine (bitm _).mono ?_))))
                rintro e w' ⟨rfl, hw⟩
                exact ⟨rfl, St.call (by assumption) hw⟩)))
   try simp only [Act.put, List.setIfInBounds_toArray, List.set])
  (first
     | (apply head_skip rfl)
     | (apply head_step_g rfl
        focus
          intro w0 hC
          (exact eql_quiet 23 rfl rfl rfl Try.eqGuardType23 Try.underlying23 (by simp [go_sem]) (by simp [go_sem]) (by first | assumption | exact same_refl _ _)))
     | (apply head_step_g rfl
        focus
          intro w0 hC
          have hC' := Lib.hid hC
          obtain ⟨⟨r1, f1, i1, b1, l1⟩, ⟨r2, f2, i2, b2, l2⟩, ⟨r3, f3, i3, b3, l3⟩, m12, m21, m13, m31, m23, m32⟩ := St.facts3 hC
          clear hC
          go_simp
          have hC := hC'.out
          (first
             | with_reducible rfl
             | (skip
                (first
                   | (go_at_call 13; refine (ghMul_any _ _ _).mono ?_)
                   | (go_at_call 18; refine (ghSum_any _ _ _ (by decide) (by decide) _).mono ?_)
                   | (go_at_call 24; refine (pow_at _ 128 _ rfl (by decide) _).mono ?_)
                   | (go_at_call 15; (first | (with_reducible refine (bit0 _).mono ?_) | (with_reducible refine (bit1 _).mono ?_) | (with_reducible refine (bitm _).mono ?_))))
                rintro e w' ⟨rfl, hw⟩
                exact ⟨rfl, St.call (by assumption) hw⟩)))
   try simp only [Act.put, List.setIfInBounds_toArray, List.set])
  (first
     | (apply head_skip rfl)
     | (apply head_step_g rfl
        focus
          intro w0 hC
          (exact eql_quiet 23 rfl rfl rfl Try.eqGuardType23 Try.underlying23 (by simp [go_sem]) (by simp [go_sem]) (by first | assumption | exact same_refl _ _)))
     | (apply head_step_g rfl
        focus
          intro w0 hC
          have hC' := Lib.hid hC
          obtain ⟨⟨r1, f1, i1, b1, l1⟩, ⟨r2, f2, i2, b2, l2⟩, ⟨r3, f3, i3, b3, l3⟩, m12, m21, m13, m31, m23, m32⟩ := St.facts3 hC
          clear hC
          go_simp
          have hC := hC'.out
          (first
             | with_reducible rfl
             | (skip
                (first
                   | (go_at_call 13; refine (ghMul_any _ _ _).mono ?_)
                   | (go_at_call 18; refine (ghSum_any _ _ _ (by decide) (by decide) _).mono ?_)
                   | (go_at_call 24; refine (pow_at _ 128 _ rfl (by decide) _).mono ?_)
                   | (go_at_call 15; (first | (with_reducible refine (bit0 _).mono ?_) | (with_reducible refine (bit1 _).mono ?_) | (with_reducible refine (bitm _).mono ?_))))
                rintro e w' ⟨rfl, hw⟩
                exact ⟨rfl, St.call (by assumption) hw⟩)))
   try simp only [Act.put, List.setIfInBounds_toArray, List.set])
  (first
     | (apply head_skip rfl)
     | (apply head_step_g rfl
        focus
          intro w0 hC
          (exact eql_quiet 23 rfl rfl rfl Try.eqGuardType23 Try.underlying23 (by simp [go_sem]) (by simp [go_sem]) (by first | assumption | exact same_refl _ _)))
     | (apply head_step_g rfl
        focus
          intro w0 hC
          have hC' := Lib.hid hC
          obtain ⟨⟨r1, f1, i1, b1, l1⟩, ⟨r2, f2, i2, b2, l2⟩, ⟨r3, f3, i3, b3, l3⟩, m12, m21, m13, m31, m23, m32⟩ := St.facts3 hC
          clear hC
          go_simp
          have hC := hC'.out
          (first
             | with_reducible rfl
             | (skip
                (first
                   | (go_at_call 13; refine (ghMul_any _ _ _).mono ?_)
                   | (go_at_call 18; refine (ghSum_any _ _ _ (by decide) (by decide) _).mono ?_)
                   | (go_at_call 24; refine (pow_at _ 128 _ rfl (by decide) _).mono ?_)
                   | (go_at_call 15; (first | (with_reducible refine (bit0 _).mono ?_) | (with_reducible refine (bit1 _).mono ?_) | (with_reducible refine (bitm _).mono ?_))))
                rintro e w' ⟨rfl, hw⟩
                exact ⟨rfl, St.call (by assumption) hw⟩)))
   try simp only [Act.put, List.setIfInBounds_toArray, List.set])
  (first
     | (apply head_skip rfl)
     | (apply head_step_g rfl
        focus
          intro w0 hC
          (exact eql_quiet 23 rfl rfl rfl Try.eqGuardType23 Try.underlying23 (by simp [go_sem]) (by simp [go_sem]) (by first | assumption | exact same_refl _ _)))
     | (apply head_step_g rfl
        focus
          intro w0 hC
          have hC' := Lib.hid hC
          obtain ⟨⟨r1, f1, i1, b1, l1⟩, ⟨r2, f2, i2, b2, l2⟩, ⟨r3, f3, i3, b3, l3⟩, m12, m21, m13, m31, m23, m32⟩ := St.facts3 hC
          clear hC
          go_simp
          have hC := hC'.out
          (first
             | with_reducible rfl
             | (skip
                (first
                   | (go_at_call 13; refine (ghMul_any _ _ _).mono ?_)
                   | (go_at_call 18; refine (ghSum_any _ _ _ (by decide) (by decide) _).mono ?_)
                   | (go_at_call 24; refine (pow_at _ 128 _ rfl (by decide) _).mono ?_)
                   | (go_at_call 15; (first | (with_reducible refine (bit0 _).mono ?_) | (with_reducible refine (bit1 _).mono ?_) | (with_reducible refine (bitm _).mono ?_))))
                rintro e w' ⟨rfl, hw⟩
                exact ⟨rfl, St.call (by assumption) hw⟩)))
   try simp only [Act.put, List.setIfInBounds_toArray, List.set])
  (first
     | (apply head_skip rfl)
     | (apply head_step_g rfl
        focus
          intro w0 hC
          (exact eql_quiet 23 rfl rfl rfl Try.eqGuardType23 Try.underlying23 (by simp [go_sem]) (by simp [go_sem]) (by first | assumption | exact same_refl _ _)))
     | (apply head_step_g rfl
        focus
          intro w0 hC
          have hC' := Lib.hid hC
          obtain ⟨⟨r1, f1, i1, b1, l1⟩, ⟨r2, f2, i2, b2, l2⟩, ⟨r3, f3, i3, b3, l3⟩, m12, m21, m13, m31, m23, m32⟩ := St.facts3 hC
          clear hC
          go_simp
          have hC := hC'.out
          (first
             | with_reducible rfl
             | (skip
                (first
                   | (go_at_call 13; refine (ghMul_any _ _ _).mono ?_)
                   | (go_at_call 18; refine (ghSum_any _ _ _ (by decide) (by decide) _).mono ?_)
                   | (go_at_call 24; refine (pow_at _ 128 _ rfl (by decide) _).mono ?_)
                   | (go_at_call 15; (first | (with_reducible refine (bit0 _).mono ?_) | (with_reducible refine (bit1 _).mono ?_) | (with_reducible refine (bitm _).mono ?_))))
                rintro e w' ⟨rfl, hw⟩
                exact ⟨rfl, St.call (by assumption) hw⟩)))
   try simp only [Act.put, List.setIfInBounds_toArray, List.set])
  (first
     | (apply head_skip rfl)
     | (apply head_step_g rfl
        focus
          intro w0 hC
          (exact eql_quiet 23 rfl rfl rfl Try.eqGuardType23 Try.underlying23 (by simp [go_sem]) (by simp [go_sem]) (by first | assumption | exact same_refl _ _)))
     | (apply head_step_g rfl
        focus
          intro w0 hC
          have hC' := Lib.hid hC
          obtain ⟨⟨r1, f1, i1, b1, l1⟩, ⟨r2, f2, i2, b2, l2⟩, ⟨r3, f3, i3, b3, l3⟩, m12, m21, m13, m31, m23, m32⟩ := St.facts3 hC
          clear hC
          go_simp
          have hC := hC'.out
          (first
             | with_reducible rfl
             | (skip
                (first
                   | (go_at_call 13; refine (ghMul_any _ _ _).mono ?_)
                   | (go_at_call 18; refine (ghSum_any _ _ _ (by decide) (by decide) _).mono ?_)
                   | (go_at_call 24; refine (pow_at _ 128 _ rfl (by decide) _).mono ?_)
                   | (go_at_call 15; (first | (with_reducible refine (bit0 _).mono ?_) | (with_reducible refine (bit1 _).mono ?_) | (with_reducible refine (bitm _).mono ?_))))
                rintro e w' ⟨rfl, hw⟩
                exact ⟨rfl, St.call (by assumption) hw⟩)))
   try simp only [Act.put, List.setIfInBounds_toArray, List.set])
  (first
     | (apply head_skip rfl)
     | (apply head_step_g rfl
        focus
          intro w0 hC
          (exact eql_quiet 23 rfl rfl rfl Try.eqGuardType23 Try.underlying23 (by simp [go_sem]) (by simp [go_sem]) (by first | assumption | exact same_refl _ _)))
     | (apply head_step_g rfl
        focus
          intro w0 hC
          have hC' := Lib.hid hC
          obtain ⟨⟨r1, f1, i1, b1, l1⟩, ⟨r2, f2, i2, b2, l2⟩, ⟨r3, f3, i3, b3, l3⟩, m12, m21, m13, m31, m23, m32⟩ := St.facts3 hC
          clear hC
          go_simp
          have hC := hC'.out
          (first
             | with_reducible rfl
             | (skip
                (first
                   | (go_at_call 13; refine (ghMul_any _ _ _).mono ?_)
                   | (go_at_call 18; refine (ghSum_any _ _ _ (by decide) (by decide) _).mono ?_)
                   | (go_at_call 24; refine (pow_at _ 128 _ rfl (by decide) _).mono ?_)
                   | (go_at_call 15; (first | (with_reducible refine (bit0 _).mono ?_) | (with_reducible refine (bit1 _).mono ?_) | (with_reducible refine (bitm _).mono ?_))))
                rintro e w' ⟨rfl, hw⟩
                exact ⟨rfl, St.call (by assumption) hw⟩)))
   try simp only [Act.put, List.setIfInBounds_toArray, List.set])
  (first
     | (apply head_skip rfl)
     | (apply head_step_g rfl
        focus
          intro w0 hC
          (exact eql_quiet 23 rfl rfl rfl Try.eqGuardType23 Try.underlying23 (by simp [go_sem]) (by simp [go_sem]) (by first | assumption | exact same_refl _ _)))
     | (apply head_step_g rfl
        focus
          intro w0 hC
          have hC' := Lib.hid hC
          obtain ⟨⟨r1, f1, i1, b1, l1⟩, ⟨r2, f2, i2, b2, l2⟩, ⟨r3, f3, i3, b3, l3⟩, m12, m21, m13, m31, m23, m32⟩ := St.facts3 hC
          clear hC
          go_simp
          have hC := hC'.out
          (first
             | with_reducible rfl
             | (skip
                (first
                   | (go_at_call 13; refine (ghMul_any _ _ _).mono ?_)
                   | (go_at_call 18; refine (ghSum_any _ _ _ (by decide) (by decide) _).mono ?_)
                   | (go_at_call 24; refine (pow_at _ 128 _ rfl (by decide) _).mono ?_)
                   | (go_at_call 15; (first | (with_reducible refine (bit0 _).mono ?_) | (with_reducible refine (bit1 _).mono ?_) | (with_reducible refine (bitm _).mono ?_))))
                rintro e w' ⟨rfl, hw⟩
                exact ⟨rfl, St.call (by assumption) hw⟩)))
   try simp only [Act.put, List.setIfInBounds_toArray, List.set])
  (first
     | (apply head_skip rfl)
     | (apply head_step_g rfl
        focus
          intro w0 hC
          (exact eql_quiet 23 rfl rfl rfl Try.eqGuardType23 Try.underlying23 (by simp [go_sem]) (by simp [go_sem]) (by first | assumption | exact same_refl _ _)))
     | (apply head_step_g rfl
        focus
          intro w0 hC
          have hC' := Lib.hid hC
          obtain ⟨⟨r1, f1, i1, b1, l1⟩, ⟨r2, f2, i2, b2, l2⟩, ⟨r3, f3, i3, b3, l3⟩, m12, m21, m13, m31, m23, m32⟩ := St.facts3 hC
          clear hC
          go_simp
          have hC := hC'.out
          (first
             | with_reducible rfl
             | (skip
                (first
                   | (go_at_call 13; refine (ghMul_any _ _ _).mono ?_)
                   | (go_at_call 18; refine (ghSum_any _ _ _ (by decide) (by decide) _).mono ?_)
                   | (go_at_call 24; refine (pow_at _ 128 _ rfl (by decide) _).mono ?_)
                   | (go_at_call 15; (first | (with_reducible refine (bit0 _).mono ?_) | (with_reducible refine (bit1 _).mono ?_) | (with_reducible refine (bitm _).mono ?_))))
                rintro e w' ⟨rfl, hw⟩
                exact ⟨rfl, St.call (by assumption) hw⟩)))
   try simp only [Act.put, List.setIfInBounds_toArray, List.set])
  (first
     | (apply head_skip rfl)
     | (apply head_step_g rfl
        focus
          intro w0 hC
          (exact eql_quiet 23 rfl rfl rfl Try.eqGuardType23 Try.underlying23 (by simp [go_sem]) (by simp [go_sem]) (by first | assumption | exact same_refl _ _)))
     | (apply head_step_g rfl
        focus
          intro w0 hC
          have hC' := Lib.hid hC
          obtain ⟨⟨r1, f1, i1, b1, l1⟩, ⟨r2, f2, i2, b2, l2⟩, ⟨r3, f3, i3, b3, l3⟩, m12, m21, m13, m31, m23, m32⟩ := St.facts3 hC
          clear hC
          go_simp
          have hC := hC'.out
          (first
             | with_reducible rfl
             | (skip
                (first
                   | (go_at_call 13; refine (ghMul_any _ _ _).mono ?_)
                   | (go_at_call 18; refine (ghSum_any _ _ _ (by decide) (by decide) _).mono ?_)
                   | (go_at_call 24; refine (pow_at _ 128 _ rfl (by decide) _).mono ?_)
                   | (go_at_call 15; (first | (with_reducible refine (bit0 _).mono ?_) | (with_reducible refine (bit1 _).mono ?_) | (with_reducible refine (bitm _).mono ?_))))
                rintro e w' ⟨rfl, hw⟩
                exact ⟨rfl, St.call (by assumption) hw⟩)))
   try simp only [Act.put, List.setIfInBounds_toArray, List.set])
  (first
     | (apply head_skip rfl)
     | (apply head_step_g rfl
        focus
          intro w0 hC
          (exact eql_quiet 23 rfl rfl rfl Try.eqGuardType23 Try.underlying23 (by simp [go_sem]) (by simp [go_sem]) (by first | assumption | exact same_refl _ _)))
     | (apply head_step_g rfl
        focus
          intro w0 hC
          have hC' := Lib.hid hC
          obtain ⟨⟨r1, f1, i1, b1, l1⟩, ⟨r2, f2, i2, b2, l2⟩, ⟨r3, f3, i3, b3, l3⟩, m12, m21, m13, m31, m23, m32⟩ := St.facts3 hC
          clear hC
          go_simp
          have hC := hC'.out
          (first
             | with_reducible rfl
             | (skip
                (first
                   | (go_at_call 13; refine (ghMul_any _ _ _).mono ?_)
                   | (go_at_call 18; refine (ghSum_any _ _ _ (by decide) (by decide) _).mono ?_)
                   | (go_at_call 24; refine (pow_at _ 128 _ rfl (by decide) _).mono ?_)
                   | (go_at_call 15; (first | (with_reducible refine (bit0 _).mono ?_) | (with_reducible refine (bit1 _).mono ?_) | (with_reducible refine (bitm _).mono ?_))))
                rintro e w' ⟨rfl, hw⟩
                exact ⟨rfl, St.call (by assumption) hw⟩)))
   try simp only [Act.put, List.setIfInBounds_toArray, List.set])
  (first
     | (apply head_skip rfl)
     | (apply head_step_g rfl
        focus
          intro w0 hC
          (exact eql_quiet 23 rfl rfl rfl Try.eqGuardType23 Try.underlying23 (by simp [go_sem]) (by simp [go_sem]) (by first | assumption | exact same_refl _ _)))
     | (apply head_step_g rfl
        focus
          intro w0 hC
          have hC' := Lib.hid hC
          obtain ⟨⟨r1, f1, i1, b1, l1⟩, ⟨r2, f2, i2, b2, l2⟩, ⟨r3, f3, i3, b3, l3⟩, m12, m21, m13, m31, m23, m32⟩ := St.facts3 hC
          clear hC
          go_simp
          have hC := hC'.out
          (first
             | with_reducible rfl
             | (skip
                (first
                   | (go_at_call 13; refine (ghMul_any _ _ _).mono ?_)
                   | (go_at_call 18; refine (ghSum_any _ _ _ (by decide) (by decide) _).mono ?_)
                   | (go_at_call 24; refine (pow_at _ 128 _ rfl (by decide) _).mono ?_)
                   | (go_at_call 15; (first | (with_reducible refine (bit0 _).mono ?_) | (with_reducible refine (bit1 _).mono ?_) | (with_reducible refine (bitm _).mono ?_))))
                rintro e w' ⟨rfl, hw⟩
                exact ⟨rfl, St.call (by assumption) hw⟩)))
   try simp only [Act.put, List.setIfInBounds_toArray, List.set])
  (first
     | (apply head_skip rfl)
     | (apply head_step_g rfl
        focus
          intro w0 hC
          (exact eql_quiet 23 rfl rfl rfl Try.eqGuardType23 Try.underlying23 (by simp [go_sem]) (by simp [go_sem]) (by first | assumption | exact same_refl _ _)))
     | (apply head_step_g rfl
        focus
          intro w0 hC
          have hC' := Lib.hid hC
          obtain ⟨⟨r1, f1, i1, b1, l1⟩, ⟨r2, f2, i2, b2, l2⟩, ⟨r3, f3, i3, b3, l3⟩, m12, m21, m13, m31, m23, m32⟩ := St.facts3 hC
          clear hC
          go_simp
          have hC := hC'.out
          (first
             | with_reducible rfl
             | (skip
                (first
                   | (go_at_call 13; refine (ghMul_any _ _ _).mono ?_)
                   | (go_at_call 18; refine (ghSum_any _ _ _ (by decide) (by decide) _).mono ?_)
                   | (go_at_call 24; refine (pow_at _ 128 _ rfl (by decide) _).mono ?_)
                   | (go_at_call 15; (first | (with_reducible refine (bit0 _).mono ?_) | (with_reducible refine (bit1 _).mono ?_) | (with_reducible refine (bitm _).mono ?_))))
                rintro e w' ⟨rfl, hw⟩
                exact ⟨rfl, St.call (by assumption) hw⟩)))
   try simp only [Act.put, List.setIfInBounds_toArray, List.set])
  (first
     | (apply head_skip rfl)
     | (apply head_step_g rfl
        focus
          intro w0 hC
          (exact eql_quiet 23 rfl rfl rfl Try.eqGuardType23 Try.underlying23 (by simp [go_sem]) (by simp [go_sem]) (by first | assumption | exact same_refl _ _)))
     | (apply head_step_g rfl
        focus
          intro w0 hC
          have hC' := Lib.hid hC
          obtain ⟨⟨r1, f1, i1, b1, l1⟩, ⟨r2, f2, i2, b2, l2⟩, ⟨r3, f3, i3, b3, l3⟩, m12, m21, m13, m31, m23, m32⟩ := St.facts3 hC
          clear hC
          go_simp
          have hC := hC'.out
          (first
             | with_reducible rfl
             | (skip
                (first
                   | (go_at_call 13; refine (ghMul_any _ _ _).mono ?_)
                   | (go_at_call 18; refine (ghSum_any _ _ _ (by decide) (by decide) _).mono ?_)
                   | (go_at_call 24; refine (pow_at _ 128 _ rfl (by decide) _).mono ?_)
                   | (go_at_call 15; (first | (with_reducible refine (bit0 _).mono ?_) | (with_reducible refine (bit1 _).mono ?_) | (with_reducible refine (bitm _).mono ?_))))
                rintro e w' ⟨rfl, hw⟩
                exact ⟨rfl, St.call (by assumption) hw⟩)))
   try simp only [Act.put, List.setIfInBounds_toArray, List.set])
  (first
     | (apply head_skip rfl)
     | (apply head_step_g rfl
        focus
          intro w0 hC
          (exact eql_quiet 23 rfl rfl rfl Try.eqGuardType23 Try.underlying23 (by simp [go_sem]) (by simp [go_sem]) (by first | assumption | exact same_refl _ _)))
     | (apply head_step_g rfl
        focus
          intro w0 hC
          have hC' := Lib.hid hC
          obtain ⟨⟨r1, f1, i1, b1, l1⟩, ⟨r2, f2, i2, b2, l2⟩, ⟨r3, f3, i3, b3, l3⟩, m12, m21, m13, m31, m23, m32⟩ := St.facts3 hC
          clear hC
          go_simp
          have hC := hC'.out
          (first
             | with_reducible rfl
             | (skip
                (first
                   | (go_at_call 13; refine (ghMul_any _ _ _).mono ?_)
                   | (go_at_call 18; refine (ghSum_any _ _ _ (by decide) (by decide) _).mono ?_)
                   | (go_at_call 24; refine (pow_at _ 128 _ rfl (by decide) _).mono ?_)
                   | (go_at_call 15; (first | (with_reducible refine (bit0 _).mono ?_) | (with_reducible refine (bit1 _).mono ?_) | (with_reducible refine (bitm _).mono ?_))))
                rintro e w' ⟨rfl, hw⟩
                exact ⟨rfl, St.call (by assumption) hw⟩)))
   try simp only [Act.put, List.setIfInBounds_toArray, List.set])
  (first
     | (apply head_skip rfl)
     | (apply head_step_g rfl
        focus
          intro w0 hC
          (exact eql_quiet 23 rfl rfl rfl Try.eqGuardType23 Try.underlying23 (by simp [go_sem]) (by simp [go_sem]) (by first | assumption | exact same_refl _ _)))
     | (apply head_step_g rfl
        focus
          intro w0 hC
          have hC' := Lib.hid hC
          obtain ⟨⟨r1, f1, i1, b1, l1⟩, ⟨r2, f2, i2, b2, l2⟩, ⟨r3, f3, i3, b3, l3⟩, m12, m21, m13, m31, m23, m32⟩ := St.facts3 hC
          clear hC
          go_simp
          have hC := hC'.out
          (first
             | with_reducible rfl
             | (skip
                (first
                   | (go_at_call 13; refine (ghMul_any _ _ _).mono ?_)
                   | (go_at_call 18; refine (ghSum_any _ _ _ (by decide) (by decide) _).mono ?_)
                   | (go_at_call 24; refine (pow_at _ 128 _ rfl (by decide) _).mono ?_)
                   | (go_at_call 15; (first | (with_reducible refine (bit0 _).mono ?_) | (with_reducible refine (bit1 _).mono ?_) | (with_reducible refine (bitm _).mono ?_))))
                rintro e w' ⟨rfl, hw⟩
                exact ⟨rfl, St.call (by assumption) hw⟩)))
   try simp only [Act.put, List.setIfInBounds_toArray, List.set])
  (first
     | (apply head_skip rfl)
     | (apply head_step_g rfl
        focus
          intro w0 hC
          (exact eql_quiet 23 rfl rfl rfl Try.eqGuardType23 Try.underlying23 (by simp [go_sem]) (by simp [go_sem]) (by first | assumption | exact same_refl _ _)))
     | (apply head_step_g rfl
        focus
          intro w0 hC
          have hC' := Lib.hid hC
          obtain ⟨⟨r1, f1, i1, b1, l1⟩, ⟨r2, f2, i2, b2, l2⟩, ⟨r3, f3, i3, b3, l3⟩, m12, m21, m13, m31, m23, m32⟩ := St.facts3 hC
          clear hC
          go_simp
          have hC := hC'.out
          (first
             | with_reducible rfl
             | (skip
                (first
                   | (go_at_call 13; refine (ghMul_any _ _ _).mono ?_)
                   | (go_at_call 18; refine (ghSum_any _ _ _ (by decide) (by decide) _).mono ?_)
                   | (go_at_call 24; refine (pow_at _ 128 _ rfl (by decide) _).mono ?_)
                   | (go_at_call 15; (first | (with_reducible refine (bit0 _).mono ?_) | (with_reducible refine (bit1 _).mono ?_) | (with_reducible refine (bitm _).mono ?_))))
                rintro e w' ⟨rfl, hw⟩
                exact ⟨rfl, St.call (by assumption) hw⟩)))
   try simp only [Act.put, List.setIfInBounds_toArray, List.set])
  (first
     | (apply head_skip rfl)
     | (apply head_step_g rfl
        focus
          intro w0 hC
          (exact eql_quiet 23 rfl rfl rfl Try.eqGuardType23 Try.underlying23 (by simp [go_sem]) (by simp [go_sem]) (by first | assumption | exact same_refl _ _)))
     | (apply head_step_g rfl
        focus
          intro w0 hC
          have hC' := Lib.hid hC
          obtain ⟨⟨r1, f1, i1, b1, l1⟩, ⟨r2, f2, i2, b2, l2⟩, ⟨r3, f3, i3, b3, l3⟩, m12, m21, m13, m31, m23, m32⟩ := St.facts3 hC
          clear hC
          go_simp
          have hC := hC'.out
          (first
             | with_reducible rfl
             | (skip
                (first
                   | (go_at_call 13; refine (ghMul_any _ _ _).mono ?_)
                   | (go_at_call 18; refine (ghSum_any _ _ _ (by decide) (by decide) _).mono ?_)
                   | (go_at_call 24; refine (pow_at _ 128 _ rfl (by decide) _).mono ?_)
                   | (go_at_call 15; (first | (with_reducible refine (bit0 _).mono ?_) | (with_reducible refine (bit1 _).mono ?_) | (with_reducible refine (bitm _).mono ?_))))
                rintro e w' ⟨rfl, hw⟩
                exact ⟨rfl, St.call (by assumption) hw⟩)))
   try simp only [Act.put, List.setIfInBounds_toArray, List.set])
  (first
     | (apply head_skip rfl)
     | (apply head_step_g rfl
        focus
          intro w0 hC
          (exact eql_quiet 23 rfl rfl rfl Try.eqGuardType23 Try.underlying23 (by simp [go_sem]) (by simp [go_sem]) (by first | assumption | exact same_refl _ _)))
     | (apply head_step_g rfl
        focus
          intro w0 hC
          have hC' := Lib.hid hC
          obtain ⟨⟨r1, f1, i1, b1, l1⟩, ⟨r2, f2, i2, b2, l2⟩, ⟨r3, f3, i3, b3, l3⟩, m12, m21, m13, m31, m23, m32⟩ := St.facts3 hC
          clear hC
          go_simp
          have hC := hC'.out
          (first
             | with_reducible rfl
             | (skip
                (first
                   | (go_at_call 13; refine (ghMul_any _ _ _).mono ?_)
                   | (go_at_call 18; refine (ghSum_any _ _ _ (by decide) (by decide) _).mono ?_)
                   | (go_at_call 24; refine (pow_at _ 128 _ rfl (by decide) _).mono ?_)
                   | (go_at_call 15; (first | (with_reducible refine (bit0 _).mono ?_) | (with_reducible refine (bit1 _).mono ?_) | (with_reducible refine (bitm _).mono ?_))))
                rintro e w' ⟨rfl, hw⟩
                exact ⟨rfl, St.call (by assumption) hw⟩)))
   try simp only [Act.put, List.setIfInBounds_toArray, List.set])
  (first
     | (apply head_skip rfl)
     | (apply head_step_g rfl
        focus
          intro w0 hC
          (exact eql_quiet 23 rfl rfl rfl Try.eqGuardType23 Try.underlying23 (by simp [go_sem]) (by simp [go_sem]) (by first | assumption | exact same_refl _ _)))
     | (apply head_step_g rfl
        focus
          intro w0 hC
          have hC' := Lib.hid hC
          obtain ⟨⟨r1, f1, i1, b1, l1⟩, ⟨r2, f2, i2, b2, l2⟩, ⟨r3, f3, i3, b3, l3⟩, m12, m21, m13, m31, m23, m32⟩ := St.facts3 hC
          clear hC
          go_simp
          have hC := hC'.out
          (first
             | with_reducible rfl
             | (skip
                (first
                   | (go_at_call 13; refine (ghMul_any _ _ _).mono ?_)
                   | (go_at_call 18; refine (ghSum_any _ _ _ (by decide) (by decide) _).mono ?_)
                   | (go_at_call 24; refine (pow_at _ 128 _ rfl (by decide) _).mono ?_)
                   | (go_at_call 15; (first | (with_reducible refine (bit0 _).mono ?_) | (with_reducible refine (bit1 _).mono ?_) | (with_reducible refine (bitm _).mono ?_))))
                rintro e w' ⟨rfl, hw⟩
                exact ⟨rfl, St.call (by assumption) hw⟩)))
   try simp only [Act.put, List.setIfInBounds_toArray, List.set])
  (first
     | (apply head_skip rfl)
     | (apply head_step_g rfl
        focus
          intro w0 hC
          (exact eql_quiet 23 rfl rfl rfl Try.eqGuardType23 Try.underlying23 (by simp [go_sem]) (by simp [go_sem]) (by first | assumption | exact same_refl _ _)))
     | (apply head_step_g rfl
        focus
          intro w0 hC
          have hC' := Lib.hid hC
          obtain ⟨⟨r1, f1, i1, b1, l1⟩, ⟨r2, f2, i2, b2, l2⟩, ⟨r3, f3, i3, b3, l3⟩, m12, m21, m13, m31, m23, m32⟩ := St.facts3 hC
          clear hC
          go_simp
          have hC := hC'.out
          (first
             | with_reducible rfl
             | (skip
                (first
                   | (go_at_call 13; refine (ghMul_any _ _ _).mono ?_)
                   | (go_at_call 18; refine (ghSum_any _ _ _ (by decide) (by decide) _).mono ?_)
                   | (go_at_call 24; refine (pow_at _ 128 _ rfl (by decide) _).mono ?_)
                   | (go_at_call 15; (first | (with_reducible refine (bit0 _).mono ?_) | (with_reducible refine (bit1 _).mono ?_) | (with_reducible refine (bitm _).mono ?_))))
                rintro e w' ⟨rfl, hw⟩
                exact ⟨rfl, St.call (by assumption) hw⟩)))
   try simp only [Act.put, List.setIfInBounds_toArray, List.set])
  (first
     | (apply head_skip rfl)
     | (apply head_step_g rfl
        focus
          intro w0 hC
          (exact eql_quiet 23 rfl rfl rfl Try.eqGuardType23 Try.underlying23 (by simp [go_sem]) (by simp [go_sem]) (by first | assumption | exact same_refl _ _)))
     | (apply head_step_g rfl
        focus
          intro w0 hC
          have hC' := Lib.hid hC
          obtain ⟨⟨r1, f1, i1, b1, l1⟩, ⟨r2, f2, i2, b2, l2⟩, ⟨r3, f3, i3, b3, l3⟩, m12, m21, m13, m31, m23, m32⟩ := St.facts3 hC
          clear hC
          go_simp
          have hC := hC'.out
          (first
             | with_reducible rfl
             | (skip
                (first
                   | (go_at_call 13; refine (ghMul_any _ _ _).mono ?_)
                   | (go_at_call 18; refine (ghSum_any _ _ _ (by decide) (by decide) _).mono ?_)
                   | (go_at_call 24; refine (pow_at _ 128 _ rfl (by decide) _).mono ?_)
                   | (go_at_call 15; (first | (with_reducible refine (bit0 _).mono ?_) | (with_reducible refine (bit1 _).mono ?_) | (with_reducible refine (bitm _).mono ?_))))
                rintro e w' ⟨rfl, hw⟩
                exact ⟨rfl, St.call (by assumption) hw⟩)))
   try simp only [Act.put, List.setIfInBounds_toArray, List.set])
  (first
     | (apply head_skip rfl)
     | (apply head_step_g rfl
        focus
          intro w0 hC
          (exact eql_quiet 23 rfl rfl rfl Try.eqGuardType23 Try.underlying23 (by simp [go_sem]) (by simp [go_sem]) (by first | assumption | exact same_refl _ _)))
     | (apply head_step_g rfl
        focus
          intro w0 hC
          have hC' := Lib.hid hC
          obtain ⟨⟨r1, f1, i1, b1, l1⟩, ⟨r2, f2, i2, b2, l2⟩, ⟨r3, f3, i3, b3, l3⟩, m12, m21, m13, m31, m23, m32⟩ := St.facts3 hC
          clear hC
          go_simp
          have hC := hC'.out
          (first
             | with_reducible rfl
             | (skip
                (first
                   | (go_at_call 13; refine (ghMul_any _ _ _).mono ?_)
                   | (go_at_call 18; refine (ghSum_any _ _ _ (by decide) (by decide) _).mono ?_)
                   | (go_at_call 24; refine (pow_at _ 128 _ rfl (by decide) _).mono ?_)
                   | (go_at_call 15; (first | (with_reducible refine (bit0 _).mono ?_) | (with_reducible refine (bit1 _).mono ?_) | (with_reducible refine (bitm _).mono ?_))))
                rintro e w' ⟨rfl, hw⟩
                exact ⟨rfl, St.call (by assumption) hw⟩)))
   try simp only [Act.put, List.setIfInBounds_toArray, List.set])
  (first
     | (apply head_skip rfl)
     | (apply head_step_g rfl
        focus
          intro w0 hC
          (exact eql_quiet 23 rfl rfl rfl Try.eqGuardType23 Try.underlying23 (by simp [go_sem]) (by simp [go_sem]) (by first | assumption | exact same_refl _ _)))
     | (apply head_step_g rfl
        focus
          intro w0 hC
          have hC' := Lib.hid hC
          obtain ⟨⟨r1, f1, i1, b1, l1⟩, ⟨r2, f2, i2, b2, l2⟩, ⟨r3, f3, i3, b3, l3⟩, m12, m21, m13, m31, m23, m32⟩ := St.facts3 hC
          clear hC
          go_simp
          have hC := hC'.out
          (first
             | with_reducible rfl
             | (skip
                (first
                   | (go_at_call 13; refine (ghMul_any _ _ _).mono ?_)
                   | (go_at_call 18; refine (ghSum_any _ _ _ (by decide) (by decide) _).mono ?_)
                   | (go_at_call 24; refine (pow_at _ 128 _ rfl (by decide) _).mono ?_)
                   | (go_at_call 15; (first | (with_reducible refine (bit0 _).mono ?_) | (with_reducible refine (bit1 _).mono ?_) | (with_reducible refine (bitm _).mono ?_))))
                rintro e w' ⟨rfl, hw⟩
                exact ⟨rfl, St.call (by assumption) hw⟩)))
   try simp only [Act.put, List.setIfInBounds_toArray, List.set])
  (first
     | (apply head_skip rfl)
     | (apply head_step_g rfl
        focus
          intro w0 hC
          (exact eql_quiet 23 rfl rfl rfl Try.eqGuardType23 Try.underlying23 (by simp [go_sem]) (by simp [go_sem]) (by first | assumption | exact same_refl _ _)))
     | (apply head_step_g rfl
        focus
          intro w0 hC
          have hC' := Lib.hid hC
          obtain ⟨⟨r1, f1, i1, b1, l1⟩, ⟨r2, f2, i2, b2, l2⟩, ⟨r3, f3, i3, b3, l3⟩, m12, m21, m13, m31, m23, m32⟩ := St.facts3 hC
          clear hC
          go_simp
          have hC := hC'.out
          (first
             | with_reducible rfl
             | (skip
                (first
                   | (go_at_call 13; refine (ghMul_any _ _ _).mono ?_)
                   | (go_at_call 18; refine (ghSum_any _ _ _ (by decide) (by decide) _).mono ?_)
                   | (go_at_call 24; refine (pow_at _ 128 _ rfl (by decide) _).mono ?_)
                   | (go_at_call 15; (first | (with_reducible refine (bit0 _).mono ?_) | (with_reducible refine (bit1 _).mono ?_) | (with_reducible refine (bitm _).mono ?_))))
                rintro e w' ⟨rfl, hw⟩
                exact ⟨rfl, St.call (by assumption) hw⟩)))
   try simp only [Act.put, List.setIfInBounds_toArray, List.set])
  (first
     | (apply head_skip rfl)
     | (apply head_step_g rfl
        focus
          intro w0 hC
          (exact eql_quiet 23 rfl rfl rfl Try.eqGuardType23 Try.underlying23 (by simp [go_sem]) (by simp [go_sem]) (by first | assumption | exact same_refl _ _)))
     | (apply head_step_g rfl
        focus
          intro w0 hC
          have hC' := Lib.hid hC
          obtain ⟨⟨r1, f1, i1, b1, l1⟩, ⟨r2, f2, i2, b2, l2⟩, ⟨r3, f3, i3, b3, l3⟩, m12, m21, m13, m31, m23, m32⟩ := St.facts3 hC
          clear hC
          go_simp
          have hC := hC'.out
          (first
             | with_reducible rfl
             | (skip
                (first
                   | (go_at_call 13; refine (ghMul_any _ _ _).mono ?_)
                   | (go_at_call 18; refine (ghSum_any _ _ _ (by decide) (by decide) _).mono ?_)
                   | (go_at_call 24; refine (pow_at _ 128 _ rfl (by decide) _).mono ?_)
                   | (go_at_call 15; (first | (with_reducible refine (bit0 _).mono ?_) | (with_reducible refine (bit1 _).mono ?_) | (with_reducible refine (bitm _).mono ?_))))
                rintro e w' ⟨rfl, hw⟩
                exact ⟨rfl, St.call (by assumption) hw⟩)))
   try simp only [Act.put, List.setIfInBounds_toArray, List.set])
  (first
     | (apply head_skip rfl)
     | (apply head_step_g rfl
        focus
          intro w0 hC
          (exact eql_quiet 23 rfl rfl rfl Try.eqGuardType23 Try.underlying23 (by simp [go_sem]) (by simp [go_sem]) (by first | assumption | exact same_refl _ _)))
     | (apply head_step_g rfl
        focus
          intro w0 hC
          have hC' := Lib.hid hC
          obtain ⟨⟨r1, f1, i1, b1, l1⟩, ⟨r2, f2, i2, b2, l2⟩, ⟨r3, f3, i3, b3, l3⟩, m12, m21, m13, m31, m23, m32⟩ := St.facts3 hC
          clear hC
          go_simp
          have hC := hC'.out
          (first
             | with_reducible rfl
             | (skip
                (first
                   | (go_at_call 13; refine (ghMul_any _ _ _).mono ?_)
                   | (go_at_call 18; refine (ghSum_any _ _ _ (by decide) (by decide) _).mono ?_)
                   | (go_at_call 24; refine (pow_at _ 128 _ rfl (by decide) _).mono ?_)
                   | (go_at_call 15; (first | (with_reducible refine (bit0 _).mono ?_) | (with_reducible refine (bit1 _).mono ?_) | (with_reducible refine (bitm _).mono ?_))))
                rintro e w' ⟨rfl, hw⟩
                exact ⟨rfl, St.call (by assumption) hw⟩)))
   try simp only [Act.put, List.setIfInBounds_toArray, List.set])
  (first
     | (apply head_skip rfl)
     | (apply head_step_g rfl
        focus
          intro w0 hC
          (exact eql_quiet 23 rfl rfl rfl Try.eqGuardType23 Try.underlying23 (by simp [go_sem]) (by simp [go_sem]) (by first | assumption | exact same_refl _ _)))
     | (apply head_step_g rfl
        focus
          intro w0 hC
          have hC' := Lib.hid hC
          obtain ⟨⟨r1, f1, i1, b1, l1⟩, ⟨r2, f2, i2, b2, l2⟩, ⟨r3, f3, i3, b3, l3⟩, m12, m21, m13, m31, m23, m32⟩ := St.facts3 hC
          clear hC
          go_simp
          have hC := hC'.out
          (first
             | with_reducible rfl
             | (skip
                (first
                   | (go_at_call 13; refine (ghMul_any _ _ _).mono ?_)
                   | (go_at_call 18; refine (ghSum_any _ _ _ (by decide) (by decide) _).mono ?_)
                   | (go_at_call 24; refine (pow_at _ 128 _ rfl (by decide) _).mono ?_)
                   | (go_at_call 15; (first | (with_reducible refine (bit0 _).mono ?_) | (with_reducible refine (bit1 _).mono ?_) | (with_reducible refine (bitm _).mono ?_))))
                rintro e w' ⟨rfl, hw⟩
                exact ⟨rfl, St.call (by assumption) hw⟩)))
   try simp only [Act.put, List.setIfInBounds_toArray, List.set])
  (first
     | (apply head_skip rfl)
     | (apply head_step_g rfl
        focus
          intro w0 hC
          (exact eql_quiet 23 rfl rfl rfl Try.eqGuardType23 Try.underlying23 (by simp [go_sem]) (by simp [go_sem]) (by first | assumption | exact same_refl _ _)))
     | (apply head_step_g rfl
        focus
          intro w0 hC
          have hC' := Lib.hid hC
          obtain ⟨⟨r1, f1, i1, b1, l1⟩, ⟨r2, f2, i2, b2, l2⟩, ⟨r3, f3, i3, b3, l3⟩, m12, m21, m13, m31, m23, m32⟩ := St.facts3 hC
          clear hC
          go_simp
          have hC := hC'.out
          (first
             | with_reducible rfl
             | (skip
                (first
                   | (go_at_call 13; refine (ghMul_any _ _ _).mono ?_)
                   | (go_at_call 18; refine (ghSum_any _ _ _ (by decide) (by decide) _).mono ?_)
                   | (go_at_call 24; refine (pow_at _ 128 _ rfl (by decide) _).mono ?_)
                   | (go_at_call 15; (first | (with_reducible refine (bit0 _).mono ?_) | (with_reducible refine (bit1 _).mono ?_) | (with_reducible refine (bitm _).mono ?_))))
                rintro e w' ⟨rfl, hw⟩
                exact ⟨rfl, St.call (by assumption) hw⟩)))
   try simp only [Act.put, List.setIfInBounds_toArray, List.set])
  (first
     | (apply head_skip rfl)
     | (apply head_step_g rfl
        focus
          intro w0 hC
          (exact eql_quiet 23 rfl rfl rfl Try.eqGuardType23 Try.underlying23 (by simp [go_sem]) (by simp [go_sem]) (by first | assumption | exact same_refl _ _)))
     | (apply head_step_g rfl
        focus
          intro w0 hC
          have hC' := Lib.hid hC
          obtain ⟨⟨r1, f1, i1, b1, l1⟩, ⟨r2, f2, i2, b2, l2⟩, ⟨r3, f3, i3, b3, l3⟩, m12, m21, m13, m31, m23, m32⟩ := St.facts3 hC
          clear hC
          go_simp
          have hC := hC'.out
          (first
             | with_reducible rfl
             | (skip
                (first
                   | (go_at_call 13; refine (ghMul_any _ _ _).mono ?_)
                   | (go_at_call 18; refine (ghSum_any _ _ _ (by decide) (by decide) _).mono ?_)
                   | (go_at_call 24; refine (pow_at _ 128 _ rfl (by decide) _).mono ?_)
                   | (go_at_call 15; (first | (with_reducible refine (bit0 _).mono ?_) | (with_reducible refine (bit1 _).mono ?_) | (with_reducible refine (bitm _).mono ?_))))
                rintro e w' ⟨rfl, hw⟩
                exact ⟨rfl, St.call (by assumption) hw⟩)))
   try simp only [Act.put, List.setIfInBounds_toArray, List.set])
  (first
     | (apply head_skip rfl)
     | (apply head_step_g rfl
        focus
          intro w0 hC
          (exact eql_quiet 23 rfl rfl rfl Try.eqGuardType23 Try.underlying23 (by simp [go_sem]) (by simp [go_sem]) (by first | assumption | exact same_refl _ _)))
     | (apply head_step_g rfl
        focus
          intro w0 hC
          have hC' := Lib.hid hC
          obtain ⟨⟨r1, f1, i1, b1, l1⟩, ⟨r2, f2, i2, b2, l2⟩, ⟨r3, f3, i3, b3, l3⟩, m12, m21, m13, m31, m23, m32⟩ := St.facts3 hC
          clear hC
          go_simp
          have hC := hC'.out
          (first
             | with_reducible rfl
             | (skip
                (first
                   | (go_at_call 13; refine (ghMul_any _ _ _).mono ?_)
                   | (go_at_call 18; refine (ghSum_any _ _ _ (by decide) (by decide) _).mono ?_)
                   | (go_at_call 24; refine (pow_at _ 128 _ rfl (by decide) _).mono ?_)
                   | (go_at_call 15; (first | (with_reducible refine (bit0 _).mono ?_) | (with_reducible refine (bit1 _).mono ?_) | (with_reducible refine (bitm _).mono ?_))))
                rintro e w' ⟨rfl, hw⟩
                exact ⟨rfl, St.call (by assumption) hw⟩)))
   try simp only [Act.put, List.setIfInBounds_toArray, List.set])
  (first
     | (apply head_skip rfl)
     | (apply head_step_g rfl
        focus
          intro w0 hC
          (exact eql_quiet 23 rfl rfl rfl Try.eqGuardType23 Try.underlying23 (by simp [go_sem]) (by simp [go_sem]) (by first | assumption | exact same_refl _ _)))
     | (apply head_step_g rfl
        focus
          intro w0 hC
          have hC' := Lib.hid hC
          obtain ⟨⟨r1, f1, i1, b1, l1⟩, ⟨r2, f2, i2, b2, l2⟩, ⟨r3, f3, i3, b3, l3⟩, m12, m21, m13, m31, m23, m32⟩ := St.facts3 hC
          clear hC
          go_simp
          have hC := hC'.out
          (first
             | with_reducible rfl
             | (skip
                (first
                   | (go_at_call 13; refine (ghMul_any _ _ _).mono ?_)
                   | (go_at_call 18; refine (ghSum_any _ _ _ (by decide) (by decide) _).mono ?_)
                   | (go_at_call 24; refine (pow_at _ 128 _ rfl (by decide) _).mono ?_)
                   | (go_at_call 15; (first | (with_reducible refine (bit0 _).mono ?_) | (with_reducible refine (bit1 _).mono ?_) | (with_reducible refine (bitm _).mono ?_))))
                rintro e w' ⟨rfl, hw⟩
                exact ⟨rfl, St.call (by assumption) hw⟩)))
   try simp only [Act.put, List.setIfInBounds_toArray, List.set])
  (first
     | (apply head_skip rfl)
     | (apply head_step_g rfl
        focus
          intro w0 hC
          (exact eql_quiet 23 rfl rfl rfl Try.eqGuardType23 Try.underlying23 (by simp [go_sem]) (by simp [go_sem]) (by first | assumption | exact same_refl _ _)))
     | (apply head_step_g rfl
        focus
          intro w0 hC
          have hC' := Lib.hid hC
          obtain ⟨⟨r1, f1, i1, b1, l1⟩, ⟨r2, f2, i2, b2, l2⟩, ⟨r3, f3, i3, b3, l3⟩, m12, m21, m13, m31, m23, m32⟩ := St.facts3 hC
          clear hC
          go_simp
          have hC := hC'.out
          (first
             | with_reducible rfl
             | (skip
                (first
                   | (go_at_call 13; refine (ghMul_any _ _ _).mono ?_)
                   | (go_at_call 18; refine (ghSum_any _ _ _ (by decide) (by decide) _).mono ?_)
                   | (go_at_call 24; refine (pow_at _ 128 _ rfl (by decide) _).mono ?_)
                   | (go_at_call 15; (first | (with_reducible refine (bit0 _).mono ?_) | (with_reducible refine (bit1 _).mono ?_) | (with_reducible refine (bitm _).mono ?_))))
                rintro e w' ⟨rfl, hw⟩
                exact ⟨rfl, St.call (by assumption) hw⟩)))
   try simp only [Act.put, List.setIfInBounds_toArray, List.set])
  (first
     | (apply head_skip rfl)
     | (apply head_step_g rfl
        focus
          intro w0 hC
          (exact eql_quiet 23 rfl rfl rfl Try.eqGuardType23 Try.underlying23 (by simp [go_sem]) (by simp [go_sem]) (by first | assumption | exact same_refl _ _)))
     | (apply head_step_g rfl
        focus
          intro w0 hC
          have hC' := Lib.hid hC
          obtain ⟨⟨r1, f1, i1, b1, l1⟩, ⟨r2, f2, i2, b2, l2⟩, ⟨r3, f3, i3, b3, l3⟩, m12, m21, m13, m31, m23, m32⟩ := St.facts3 hC
          clear hC
          go_simp
          have hC := hC'.out
          (first
             | with_reducible rfl
             | (skip
                (first
                   | (go_at_call 13; refine (ghMul_any _ _ _).mono ?_)
                   | (go_at_call 18; refine (ghSum_any _ _ _ (by decide) (by decide) _).mono ?_)
                   | (go_at_call 24; refine (pow_at _ 128 _ rfl (by decide) _).mono ?_)
                   | (go_at_call 15; (first | (with_reducible refine (bit0 _).mono ?_) | (with_reducible refine (bit1 _).mono ?_) | (with_reducible refine (bitm _).mono ?_))))
                rintro e w' ⟨rfl, hw⟩
                exact ⟨rfl, St.call (by assumption) hw⟩)))
   try simp only [Act.put, List.setIfInBounds_toArray, List.set])
  (first
     | (apply head_skip rfl)
     | (apply head_step_g rfl
        focus
          intro w0 hC
          (exact eql_quiet 23 rfl rfl rfl Try.eqGuardType23 Try.underlying23 (by simp [go_sem]) (by simp [go_sem]) (by first | assumption | exact same_refl _ _)))
     | (apply head_step_g rfl
        focus
          intro w0 hC
          have hC' := Lib.hid hC
          obtain ⟨⟨r1, f1, i1, b1, l1⟩, ⟨r2, f2, i2, b2, l2⟩, ⟨r3, f3, i3, b3, l3⟩, m12, m21, m13, m31, m23, m32⟩ := St.facts3 hC
          clear hC
          go_simp
          have hC := hC'.out
          (first
             | with_reducible rfl
             | (skip
                (first
                   | (go_at_call 13; refine (ghMul_any _ _ _).mono ?_)
                   | (go_at_call 18; refine (ghSum_any _ _ _ (by decide) (by decide) _).mono ?_)
                   | (go_at_call 24; refine (pow_at _ 128 _ rfl (by decide) _).mono ?_)
                   | (go_at_call 15; (first | (with_reducible refine (bit0 _).mono ?_) | (with_reducible refine (bit1 _).mono ?_) | (with_reducible refine (bitm _).mono ?_))))
                rintro e w' ⟨rfl, hw⟩
                exact ⟨rfl, St.call (by assumption) hw⟩)))
   try simp only [Act.put, List.setIfInBounds_toArray, List.set])
  (first
     | (apply head_skip rfl)
     | (apply head_step_g rfl
        focus
          intro w0 hC
          (exact eql_quiet 23 rfl rfl rfl Try.eqGuardType23 Try.underlying23 (by simp [go_sem]) (by simp [go_sem]) (by first | assumption | exact same_refl _ _)))
     | (apply head_step_g rfl
        focus
          intro w0 hC
          have hC' := Lib.hid hC
          obtain ⟨⟨r1, f1, i1, b1, l1⟩, ⟨r2, f2, i2, b2, l2⟩, ⟨r3, f3, i3, b3, l3⟩, m12, m21, m13, m31, m23, m32⟩ := St.facts3 hC
          clear hC
          go_simp
          have hC := hC'.out
          (first
             | with_reducible rfl
             | (skip
                (first
                   | (go_at_call 13; refine (ghMul_any _ _ _).mono ?_)
                   | (go_at_call 18; refine (ghSum_any _ _ _ (by decide) (by decide) _).mono ?_)
                   | (go_at_call 24; refine (pow_at _ 128 _ rfl (by decide) _).mono ?_)
                   | (go_at_call 15; (first | (with_reducible refine (bit0 _).mono ?_) | (with_reducible refine (bit1 _).mono ?_) | (with_reducible refine (bitm _).mono ?_))))
                rintro e w' ⟨rfl, hw⟩
                exact ⟨rfl, St.call (by assumption) hw⟩)))
   try simp only [Act.put, List.setIfInBounds_toArray, List.set])
  (first
     | (apply head_skip rfl)
     | (apply head_step_g rfl
        focus
          intro w0 hC
          (exact eql_quiet 23 rfl rfl rfl Try.eqGuardType23 Try.underlying23 (by simp [go_sem]) (by simp [go_sem]) (by first | assumption | exact same_refl _ _)))
     | (apply head_step_g rfl
        focus
          intro w0 hC
          have hC' := Lib.hid hC
          obtain ⟨⟨r1, f1, i1, b1, l1⟩, ⟨r2, f2, i2, b2, l2⟩, ⟨r3, f3, i3, b3, l3⟩, m12, m21, m13, m31, m23, m32⟩ := St.facts3 hC
          clear hC
          go_simp
          have hC := hC'.out
          (first
             | with_reducible rfl
             | (skip
                (first
                   | (go_at_call 13; refine (ghMul_any _ _ _).mono ?_)
                   | (go_at_call 18; refine (ghSum_any _ _ _ (by decide) (by decide) _).mono ?_)
                   | (go_at_call 24; refine (pow_at _ 128 _ rfl (by decide) _).mono ?_)
                   | (go_at_call 15; (first | (with_reducible refine (bit0 _).mono ?_) | (with_reducible refine (bit1 _).mono ?_) | (with_reducible refine (bitm _).mono ?_))))
                rintro e w' ⟨rfl, hw⟩
                exact ⟨rfl, St.call (by assumption) hw⟩)))
   try simp only [Act.put, List.setIfInBounds_toArray, List.set])
  (first
     | (apply head_skip rfl)
     | (apply head_step_g rfl
        focus
          intro w0 hC
          (exact eql_quiet 23 rfl rfl rfl Try.eqGuardType23 Try.underlying23 (by simp [go_sem]) (by simp [go_sem]) (by first | assumption | exact same_refl _ _)))
     | (apply head_step_g rfl
        focus
          intro w0 hC
          have hC' := Lib.hid hC
          obtain ⟨⟨r1, f1, i1, b1, l1⟩, ⟨r2, f2, i2, b2, l2⟩, ⟨r3, f3, i3, b3, l3⟩, m12, m21, m13, m31, m23, m32⟩ := St.facts3 hC
          clear hC
          go_simp
          have hC := hC'.out
          (first
             | with_reducible rfl
             | (skip
                (first
                   | (go_at_call 13; refine (ghMul_any _ _ _).mono ?_)
                   | (go_at_call 18; refine (ghSum_any _ _ _ (by decide) (by decide) _).mono ?_)
                   | (go_at_call 24; refine (pow_at _ 128 _ rfl (by decide) _).mono ?_)
                   | (go_at_call 15; (first | (with_reducible refine (bit0 _).mono ?_) | (with_reducible refine (bit1 _).mono ?_) | (with_reducible refine (bitm _).mono ?_))))
                rintro e w' ⟨rfl, hw⟩
                exact ⟨rfl, St.call (by assumption) hw⟩)))
   try simp only [Act.put, List.setIfInBounds_toArray, List.set])
  (first
     | (apply head_skip rfl)
     | (apply head_step_g rfl
        focus
          intro w0 hC
          (exact eql_quiet 23 rfl rfl rfl Try.eqGuardType23 Try.underlying23 (by simp [go_sem]) (by simp [go_sem]) (by first | assumption | exact same_refl _ _)))
     | (apply head_step_g rfl
        focus
          intro w0 hC
          have hC' := Lib.hid hC
          obtain ⟨⟨r1, f1, i1, b1, l1⟩, ⟨r2, f2, i2, b2, l2⟩, ⟨r3, f3, i3, b3, l3⟩, m12, m21, m13, m31, m23, m32⟩ := St.facts3 hC
          clear hC
          go_simp
          have hC := hC'.out
          (first
             | with_reducible rfl
             | (skip
                (first
                   | (go_at_call 13; refine (ghMul_any _ _ _).mono ?_)
                   | (go_at_call 18; refine (ghSum_any _ _ _ (by decide) (by decide) _).mono ?_)
                   | (go_at_call 24; refine (pow_at _ 128 _ rfl (by decide) _).mono ?_)
                   | (go_at_call 15; (first | (with_reducible refine (bit0 _).mono ?_) | (with_reducible refine (bit1 _).mono ?_) | (with_reducible refine (bitm _).mono ?_))))
                rintro e w' ⟨rfl, hw⟩
                exact ⟨rfl, St.call (by assumption) hw⟩)))
   try simp only [Act.put, List.setIfInBounds_toArray, List.set])
  (first
     | (apply head_skip rfl)
     | (apply head_step_g rfl
        focus
          intro w0 hC
          (exact eql_quiet 23 rfl rfl rfl Try.eqGuardType23 Try.underlying23 (by simp [go_sem]) (by simp [go_sem]) (by first | assumption | exact same_refl _ _)))
     | (apply head_step_g rfl
        focus
          intro w0 hC
          have hC' := Lib.hid hC
          obtain ⟨⟨r1, f1, i1, b1, l1⟩, ⟨r2, f2, i2, b2, l2⟩, ⟨r3, f3, i3, b3, l3⟩, m12, m21, m13, m31, m23, m32⟩ := St.facts3 hC
          clear hC
          go_simp
          have hC := hC'.out
          (first
             | with_reducible rfl
             | (skip
                (first
                   | (go_at_call 13; refine (ghMul_any _ _ _).mono ?_)
                   | (go_at_call 18; refine (ghSum_any _ _ _ (by decide) (by decide) _).mono ?_)
                   | (go_at_call 24; refine (pow_at _ 128 _ rfl (by decide) _).mono ?_)
                   | (go_at_call 15; (first | (with_reducible refine (bit0 _).mono ?_) | (with_reducible refine (bit1 _).mono ?_) | (with_reducible refine (bitm _).mono ?_))))
                rintro e w' ⟨rfl, hw⟩
                exact ⟨rfl, St.call (by assumption) hw⟩)))
   try simp only [Act.put, List.setIfInBounds_toArray, List.set])
  (first
     | (apply head_skip rfl)
     | (apply head_step_g rfl
        focus
          intro w0 hC
          (exact eql_quiet 23 rfl rfl rfl Try.eqGuardType23 Try.underlying23 (by simp [go_sem]) (by simp [go_sem]) (by first | assumption | exact same_refl _ _)))
     | (apply head_step_g rfl
        focus
          intro w0 hC
          have hC' := Lib.hid hC
          obtain ⟨⟨r1, f1, i1, b1, l1⟩, ⟨r2, f2, i2, b2, l2⟩, ⟨r3, f3, i3, b3, l3⟩, m12, m21, m13, m31, m23, m32⟩ := St.facts3 hC
          clear hC
          go_simp
          have hC := hC'.out
          (first
             | with_reducible rfl
             | (skip
                (first
                   | (go_at_call 13; refine (ghMul_any _ _ _).mono ?_)
                   | (go_at_call 18; refine (ghSum_any _ _ _ (by decide) (by decide) _).mono ?_)
                   | (go_at_call 24; refine (pow_at _ 128 _ rfl (by decide) _).mono ?_)
                   | (go_at_call 15; (first | (with_reducible refine (bit0 _).mono ?_) | (with_reducible refine (bit1 _).mono ?_) | (with_reducible refine (bitm _).mono ?_))))
                rintro e w' ⟨rfl, hw⟩
                exact ⟨rfl, St.call (by assumption) hw⟩)))
   try simp only [Act.put, List.setIfInBounds_toArray, List.set])
  (first
     | (apply head_skip rfl)
     | (apply head_step_g rfl
        focus
          intro w0 hC
          (exact eql_quiet 23 rfl rfl rfl Try.eqGuardType23 Try.underlying23 (by simp [go_sem]) (by simp [go_sem]) (by first | assumption | exact same_refl _ _)))
     | (apply head_step_g rfl
        focus
          intro w0 hC
          have hC' := Lib.hid hC
          obtain ⟨⟨r1, f1, i1, b1, l1⟩, ⟨r2, f2, i2, b2, l2⟩, ⟨r3, f3, i3, b3, l3⟩, m12, m21, m13, m31, m23, m32⟩ := St.facts3 hC
          clear hC
          go_simp
          have hC := hC'.out
          (first
             | with_reducible rfl
             | (skip
                (first
                   | (go_at_call 13; refine (ghMul_any _ _ _).mono ?_)
                   | (go_at_call 18; refine (ghSum_any _ _ _ (by decide) (by decide) _).mono ?_)
                   | (go_at_call 24; refine (pow_at _ 128 _ rfl (by decide) _).mono ?_)
                   | (go_at_call 15; (first | (with_reducible refine (bit0 _).mono ?_) | (with_reducible refine (bit1 _).mono ?_) | (with_reducible refine (bitm _).mono ?_))))
                rintro e w' ⟨rfl, hw⟩
                exact ⟨rfl, St.call (by assumption) hw⟩)))
   try simp only [Act.put, List.setIfInBounds_toArray, List.set])
  refine wpQuiet_nil ?_
  intro w4 hC
  clear bit0 bit1 bitm
  go_wp2_with fail
  go_ret
  exact ⟨rfl, hC.below⟩
end Go.Proofs.Ytepooocdpifcfaa
