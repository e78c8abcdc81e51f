/- CipherExpands returns true at every key, every block. No condition. -/
import Derived.Test.YtepooocdpifcfaaCiRef4
namespace Go.Proofs.Ytepooocdpifcfaa
open Go.RowKit
attribute [local go_sem] B_xor B_or B_and
attribute [local go_sem] blk_set blk_size blk_get blk_getE upd_same oneCells_blk paste_blk cut_blk szOf
attribute [local go_sem high] paste_all cut_head
attribute [local go_sem] rowAt_alloc rowAt_drew rowAt_drewN isRow_alloc isRow_drew isRow_drewN freeRow_alloc freeRow_drew freeRow_drewN
attribute [local go_sem] setRow_alloc setRow_drew setRow_drewN setCell_drewN alloc_drewN rowAt_setRow isRow_setRow freeRow_setRow
attribute [local go_sem ↓] loadS_in storeS_in indexS_in copyS_in
attribute [local go_sem] loadS_row loadS_one storeS_row storeS_one indexS_blk copyS_rows run_equalIn_blk same_refl arrayAt_row
attribute [local go_sem] cell_row frozen_row st_setCell st_blk_ne stepAt stepUpon
attribute [local go_sem high] run_eql_blk run_neq_blk


set_option maxRecDepth 100000 in
set_option maxHeartbeats 1000000 in
theorem cipherExpands_walk (a b : Nat → UInt8) (w : World) : Calls Try.prog 8 #[.agg (blk 16 a), .agg (blk 16 b)] w fun e w' => e = .returned (.bool true) ∧ Below w.heap.size w w' := by
  have hz2 : Try.zeroCells48 = blk 176 (fun _ => 0) := by kernel_rfl
  have hz3 := zero176
  have e1 := (same_iff 16 _ _).2 (Ci.unturn_turn b)
  go_enter Try.func8, Try.ntmps8
  go_wp2_with fail
  have HC := Lib.hid ((((St.nil w).pushA (blk 16 a) 22 rfl).pushA (blk 16 b) 22 (g := w.heap.size + 1) (by simp)))
  refine (expand_any _ _).mono ?_; rintro e w1 ⟨rfl, hw⟩
  have HC := Lib.hid (HC.out.call hw)
  clear hw
  have hC := HC.out
  (have HC := Lib.hid hC
   have sos := hC.below.os
   obtain ⟨⟨r1, f1, i1, b1, l1⟩, ⟨r2, f2, i2, b2, l2⟩, m12, m21⟩ := St.facts2 hC
   clear hC)
  go_wp2_with fail
  have HC := Lib.hid (HC.out.push (blk 176 (Ci.rounds a)) 46)
  (clear r1 f1 i1 b1 l1 r2 f2 i2 b2 l2 m12 m21 sos)
  refine (refExpand_any _ _).mono ?_; rintro e w2 ⟨rfl, hw⟩
  have HC := Lib.hid (HC.out.call hw)
  clear hw
  have hC := HC.out
  (have HC := Lib.hid hC
   have sos := hC.below.os
   obtain ⟨⟨r1, f1, i1, b1, l1⟩, ⟨r2, f2, i2, b2, l2⟩, ⟨r3, f3, i3, b3, l3⟩, m12, m21, m13, m31, m23, m32⟩ := St.facts3 hC
   clear hC)
  go_wp2_with fail
  have HC := Lib.hid (HC.out.push (blk 176 (Ci.rounds a)) 48)
  (clear r1 f1 i1 b1 l1 r2 f2 i2 b2 l2 r3 f3 i3 b3 l3 m12 m21 m13 m31 m23 m32 sos)
  refine St.region HC.out (by kernel_rfl) (by kernel_rfl) ?_
  (first
     | (apply head_skip rfl)
     | (apply head_step_g rfl
        focus
          intro w0 hC
          (first
             | exact eql_quiet 23 rfl rfl rfl Try.eqGuardType23 Try.underlying23 (by simp [go_sem]) (by simp [go_sem]) (by first | assumption | exact same_refl _ _ | rfl)
             | exact eql_quiet2 46 5 176 rfl rfl rfl (n := 11) (m := 16) rfl Try.eqGuardType46 Try.underlying46 (by simp [go_sem]) (by simp [go_sem]) Try.underlying23 (by simp [go_sem]) (by simp [go_sem]) Try.underlying5 (by exact same_refl _ _)))
     | (apply head_step_g rfl
        focus
          intro w0 hC
          have hC' := Lib.hid hC
          obtain ⟨⟨r1, f1, i1, b1, l1⟩, ⟨r2, f2, i2, b2, l2⟩, ⟨r3, f3, i3, b3, l3⟩, ⟨r4, f4, i4, b4, l4⟩, m12, m21, m13, m31, m14, m41, m23, m32, m24, m42, m34, m43⟩ := St.facts4 hC
          clear hC
          go_simp
          have hC := hC'.out
          (first
             | with_reducible rfl
             | (skip
                (first
                   | refine (own_any _ _).mono ?_
                   | refine (turn_any _ _).mono ?_
                   | refine (unturn_any _ _).mono ?_
                   | refine (refTurn_any _ _).mono ?_
                   | refine (xor_any _ _ _).mono ?_
                   | refine (refXor_any _ _ _).mono ?_
                   | refine (awake_any _).mono ?_)
                rintro e w' ⟨rfl, hw⟩
                exact ⟨rfl, St.call (by assumption) hw⟩)))
   try simp only [Act.put, List.setIfInBounds_toArray, List.set])
  (first
     | (apply head_skip rfl)
     | (apply head_step_g rfl
        focus
          intro w0 hC
          (first
             | exact eql_quiet 23 rfl rfl rfl Try.eqGuardType23 Try.underlying23 (by simp [go_sem]) (by simp [go_sem]) (by first | assumption | exact same_refl _ _ | rfl)
             | exact eql_quiet2 46 5 176 rfl rfl rfl (n := 11) (m := 16) rfl Try.eqGuardType46 Try.underlying46 (by simp [go_sem]) (by simp [go_sem]) Try.underlying23 (by simp [go_sem]) (by simp [go_sem]) Try.underlying5 (by exact same_refl _ _)))
     | (apply head_step_g rfl
        focus
          intro w0 hC
          have hC' := Lib.hid hC
          obtain ⟨⟨r1, f1, i1, b1, l1⟩, ⟨r2, f2, i2, b2, l2⟩, ⟨r3, f3, i3, b3, l3⟩, ⟨r4, f4, i4, b4, l4⟩, m12, m21, m13, m31, m14, m41, m23, m32, m24, m42, m34, m43⟩ := St.facts4 hC
          clear hC
          go_simp
          have hC := hC'.out
          (first
             | with_reducible rfl
             | (skip
                (first
                   | refine (own_any _ _).mono ?_
                   | refine (turn_any _ _).mono ?_
                   | refine (unturn_any _ _).mono ?_
                   | refine (refTurn_any _ _).mono ?_
                   | refine (xor_any _ _ _).mono ?_
                   | refine (refXor_any _ _ _).mono ?_
                   | refine (awake_any _).mono ?_)
                rintro e w' ⟨rfl, hw⟩
                exact ⟨rfl, St.call (by assumption) hw⟩)))
   try simp only [Act.put, List.setIfInBounds_toArray, List.set])
  (first
     | (apply head_skip rfl)
     | (apply head_step_g rfl
        focus
          intro w0 hC
          (first
             | exact eql_quiet 23 rfl rfl rfl Try.eqGuardType23 Try.underlying23 (by simp [go_sem]) (by simp [go_sem]) (by first | assumption | exact same_refl _ _ | rfl)
             | exact eql_quiet2 46 5 176 rfl rfl rfl (n := 11) (m := 16) rfl Try.eqGuardType46 Try.underlying46 (by simp [go_sem]) (by simp [go_sem]) Try.underlying23 (by simp [go_sem]) (by simp [go_sem]) Try.underlying5 (by exact same_refl _ _)))
     | (apply head_step_g rfl
        focus
          intro w0 hC
          have hC' := Lib.hid hC
          obtain ⟨⟨r1, f1, i1, b1, l1⟩, ⟨r2, f2, i2, b2, l2⟩, ⟨r3, f3, i3, b3, l3⟩, ⟨r4, f4, i4, b4, l4⟩, m12, m21, m13, m31, m14, m41, m23, m32, m24, m42, m34, m43⟩ := St.facts4 hC
          clear hC
          go_simp
          have hC := hC'.out
          (first
             | with_reducible rfl
             | (skip
                (first
                   | refine (own_any _ _).mono ?_
                   | refine (turn_any _ _).mono ?_
                   | refine (unturn_any _ _).mono ?_
                   | refine (refTurn_any _ _).mono ?_
                   | refine (xor_any _ _ _).mono ?_
                   | refine (refXor_any _ _ _).mono ?_
                   | refine (awake_any _).mono ?_)
                rintro e w' ⟨rfl, hw⟩
                exact ⟨rfl, St.call (by assumption) hw⟩)))
   try simp only [Act.put, List.setIfInBounds_toArray, List.set])
  (first
     | (apply head_skip rfl)
     | (apply head_step_g rfl
        focus
          intro w0 hC
          (first
             | exact eql_quiet 23 rfl rfl rfl Try.eqGuardType23 Try.underlying23 (by simp [go_sem]) (by simp [go_sem]) (by first | assumption | exact same_refl _ _ | rfl)
             | exact eql_quiet2 46 5 176 rfl rfl rfl (n := 11) (m := 16) rfl Try.eqGuardType46 Try.underlying46 (by simp [go_sem]) (by simp [go_sem]) Try.underlying23 (by simp [go_sem]) (by simp [go_sem]) Try.underlying5 (by exact same_refl _ _)))
     | (apply head_step_g rfl
        focus
          intro w0 hC
          have hC' := Lib.hid hC
          obtain ⟨⟨r1, f1, i1, b1, l1⟩, ⟨r2, f2, i2, b2, l2⟩, ⟨r3, f3, i3, b3, l3⟩, ⟨r4, f4, i4, b4, l4⟩, m12, m21, m13, m31, m14, m41, m23, m32, m24, m42, m34, m43⟩ := St.facts4 hC
          clear hC
          go_simp
          have hC := hC'.out
          (first
             | with_reducible rfl
             | (skip
                (first
                   | refine (own_any _ _).mono ?_
                   | refine (turn_any _ _).mono ?_
                   | refine (unturn_any _ _).mono ?_
                   | refine (refTurn_any _ _).mono ?_
                   | refine (xor_any _ _ _).mono ?_
                   | refine (refXor_any _ _ _).mono ?_
                   | refine (awake_any _).mono ?_)
                rintro e w' ⟨rfl, hw⟩
                exact ⟨rfl, St.call (by assumption) hw⟩)))
   try simp only [Act.put, List.setIfInBounds_toArray, List.set])
  (first
     | (apply head_skip rfl)
     | (apply head_step_g rfl
        focus
          intro w0 hC
          (first
             | exact eql_quiet 23 rfl rfl rfl Try.eqGuardType23 Try.underlying23 (by simp [go_sem]) (by simp [go_sem]) (by first | assumption | exact same_refl _ _ | rfl)
             | exact eql_quiet2 46 5 176 rfl rfl rfl (n := 11) (m := 16) rfl Try.eqGuardType46 Try.underlying46 (by simp [go_sem]) (by simp [go_sem]) Try.underlying23 (by simp [go_sem]) (by simp [go_sem]) Try.underlying5 (by exact same_refl _ _)))
     | (apply head_step_g rfl
        focus
          intro w0 hC
          have hC' := Lib.hid hC
          obtain ⟨⟨r1, f1, i1, b1, l1⟩, ⟨r2, f2, i2, b2, l2⟩, ⟨r3, f3, i3, b3, l3⟩, ⟨r4, f4, i4, b4, l4⟩, m12, m21, m13, m31, m14, m41, m23, m32, m24, m42, m34, m43⟩ := St.facts4 hC
          clear hC
          go_simp
          have hC := hC'.out
          (first
             | with_reducible rfl
             | (skip
                (first
                   | refine (own_any _ _).mono ?_
                   | refine (turn_any _ _).mono ?_
                   | refine (unturn_any _ _).mono ?_
                   | refine (refTurn_any _ _).mono ?_
                   | refine (xor_any _ _ _).mono ?_
                   | refine (refXor_any _ _ _).mono ?_
                   | refine (awake_any _).mono ?_)
                rintro e w' ⟨rfl, hw⟩
                exact ⟨rfl, St.call (by assumption) hw⟩)))
   try simp only [Act.put, List.setIfInBounds_toArray, List.set])
  (first
     | (apply head_skip rfl)
     | (apply head_step_g rfl
        focus
          intro w0 hC
          (first
             | exact eql_quiet 23 rfl rfl rfl Try.eqGuardType23 Try.underlying23 (by simp [go_sem]) (by simp [go_sem]) (by first | assumption | exact same_refl _ _ | rfl)
             | exact eql_quiet2 46 5 176 rfl rfl rfl (n := 11) (m := 16) rfl Try.eqGuardType46 Try.underlying46 (by simp [go_sem]) (by simp [go_sem]) Try.underlying23 (by simp [go_sem]) (by simp [go_sem]) Try.underlying5 (by exact same_refl _ _)))
     | (apply head_step_g rfl
        focus
          intro w0 hC
          have hC' := Lib.hid hC
          obtain ⟨⟨r1, f1, i1, b1, l1⟩, ⟨r2, f2, i2, b2, l2⟩, ⟨r3, f3, i3, b3, l3⟩, ⟨r4, f4, i4, b4, l4⟩, m12, m21, m13, m31, m14, m41, m23, m32, m24, m42, m34, m43⟩ := St.facts4 hC
          clear hC
          go_simp
          have hC := hC'.out
          (first
             | with_reducible rfl
             | (skip
                (first
                   | refine (own_any _ _).mono ?_
                   | refine (turn_any _ _).mono ?_
                   | refine (unturn_any _ _).mono ?_
                   | refine (refTurn_any _ _).mono ?_
                   | refine (xor_any _ _ _).mono ?_
                   | refine (refXor_any _ _ _).mono ?_
                   | refine (awake_any _).mono ?_)
                rintro e w' ⟨rfl, hw⟩
                exact ⟨rfl, St.call (by assumption) hw⟩)))
   try simp only [Act.put, List.setIfInBounds_toArray, List.set])
  (first
     | (apply head_skip rfl)
     | (apply head_step_g rfl
        focus
          intro w0 hC
          (first
             | exact eql_quiet 23 rfl rfl rfl Try.eqGuardType23 Try.underlying23 (by simp [go_sem]) (by simp [go_sem]) (by first | assumption | exact same_refl _ _ | rfl)
             | exact eql_quiet2 46 5 176 rfl rfl rfl (n := 11) (m := 16) rfl Try.eqGuardType46 Try.underlying46 (by simp [go_sem]) (by simp [go_sem]) Try.underlying23 (by simp [go_sem]) (by simp [go_sem]) Try.underlying5 (by exact same_refl _ _)))
     | (apply head_step_g rfl
        focus
          intro w0 hC
          have hC' := Lib.hid hC
          obtain ⟨⟨r1, f1, i1, b1, l1⟩, ⟨r2, f2, i2, b2, l2⟩, ⟨r3, f3, i3, b3, l3⟩, ⟨r4, f4, i4, b4, l4⟩, m12, m21, m13, m31, m14, m41, m23, m32, m24, m42, m34, m43⟩ := St.facts4 hC
          clear hC
          go_simp
          have hC := hC'.out
          (first
             | with_reducible rfl
             | (skip
                (first
                   | refine (own_any _ _).mono ?_
                   | refine (turn_any _ _).mono ?_
                   | refine (unturn_any _ _).mono ?_
                   | refine (refTurn_any _ _).mono ?_
                   | refine (xor_any _ _ _).mono ?_
                   | refine (refXor_any _ _ _).mono ?_
                   | refine (awake_any _).mono ?_)
                rintro e w' ⟨rfl, hw⟩
                exact ⟨rfl, St.call (by assumption) hw⟩)))
   try simp only [Act.put, List.setIfInBounds_toArray, List.set])
  (first
     | (apply head_skip rfl)
     | (apply head_step_g rfl
        focus
          intro w0 hC
          (first
             | exact eql_quiet 23 rfl rfl rfl Try.eqGuardType23 Try.underlying23 (by simp [go_sem]) (by simp [go_sem]) (by first | assumption | exact same_refl _ _ | rfl)
             | exact eql_quiet2 46 5 176 rfl rfl rfl (n := 11) (m := 16) rfl Try.eqGuardType46 Try.underlying46 (by simp [go_sem]) (by simp [go_sem]) Try.underlying23 (by simp [go_sem]) (by simp [go_sem]) Try.underlying5 (by exact same_refl _ _)))
     | (apply head_step_g rfl
        focus
          intro w0 hC
          have hC' := Lib.hid hC
          obtain ⟨⟨r1, f1, i1, b1, l1⟩, ⟨r2, f2, i2, b2, l2⟩, ⟨r3, f3, i3, b3, l3⟩, ⟨r4, f4, i4, b4, l4⟩, m12, m21, m13, m31, m14, m41, m23, m32, m24, m42, m34, m43⟩ := St.facts4 hC
          clear hC
          go_simp
          have hC := hC'.out
          (first
             | with_reducible rfl
             | (skip
                (first
                   | refine (own_any _ _).mono ?_
                   | refine (turn_any _ _).mono ?_
                   | refine (unturn_any _ _).mono ?_
                   | refine (refTurn_any _ _).mono ?_
                   | refine (xor_any _ _ _).mono ?_
                   | refine (refXor_any _ _ _).mono ?_
                   | refine (awake_any _).mono ?_)
                rintro e w' ⟨rfl, hw⟩
                exact ⟨rfl, St.call (by assumption) hw⟩)))
   try simp only [Act.put, List.setIfInBounds_toArray, List.set])
  (first
     | (apply head_skip rfl)
     | (apply head_step_g rfl
        focus
          intro w0 hC
          (first
             | exact eql_quiet 23 rfl rfl rfl Try.eqGuardType23 Try.underlying23 (by simp [go_sem]) (by simp [go_sem]) (by first | assumption | exact same_refl _ _ | rfl)
             | exact eql_quiet2 46 5 176 rfl rfl rfl (n := 11) (m := 16) rfl Try.eqGuardType46 Try.underlying46 (by simp [go_sem]) (by simp [go_sem]) Try.underlying23 (by simp [go_sem]) (by simp [go_sem]) Try.underlying5 (by exact same_refl _ _)))
     | (apply head_step_g rfl
        focus
          intro w0 hC
          have hC' := Lib.hid hC
          obtain ⟨⟨r1, f1, i1, b1, l1⟩, ⟨r2, f2, i2, b2, l2⟩, ⟨r3, f3, i3, b3, l3⟩, ⟨r4, f4, i4, b4, l4⟩, m12, m21, m13, m31, m14, m41, m23, m32, m24, m42, m34, m43⟩ := St.facts4 hC
          clear hC
          go_simp
          have hC := hC'.out
          (first
             | with_reducible rfl
             | (skip
                (first
                   | refine (own_any _ _).mono ?_
                   | refine (turn_any _ _).mono ?_
                   | refine (unturn_any _ _).mono ?_
                   | refine (refTurn_any _ _).mono ?_
                   | refine (xor_any _ _ _).mono ?_
                   | refine (refXor_any _ _ _).mono ?_
                   | refine (awake_any _).mono ?_)
                rintro e w' ⟨rfl, hw⟩
                exact ⟨rfl, St.call (by assumption) hw⟩)))
   try simp only [Act.put, List.setIfInBounds_toArray, List.set])
  (first
     | (apply head_skip rfl)
     | (apply head_step_g rfl
        focus
          intro w0 hC
          (first
             | exact eql_quiet 23 rfl rfl rfl Try.eqGuardType23 Try.underlying23 (by simp [go_sem]) (by simp [go_sem]) (by first | assumption | exact same_refl _ _ | rfl)
             | exact eql_quiet2 46 5 176 rfl rfl rfl (n := 11) (m := 16) rfl Try.eqGuardType46 Try.underlying46 (by simp [go_sem]) (by simp [go_sem]) Try.underlying23 (by simp [go_sem]) (by simp [go_sem]) Try.underlying5 (by exact same_refl _ _)))
     | (apply head_step_g rfl
        focus
          intro w0 hC
          have hC' := Lib.hid hC
          obtain ⟨⟨r1, f1, i1, b1, l1⟩, ⟨r2, f2, i2, b2, l2⟩, ⟨r3, f3, i3, b3, l3⟩, ⟨r4, f4, i4, b4, l4⟩, m12, m21, m13, m31, m14, m41, m23, m32, m24, m42, m34, m43⟩ := St.facts4 hC
          clear hC
          go_simp
          have hC := hC'.out
          (first
             | with_reducible rfl
             | (skip
                (first
                   | refine (own_any _ _).mono ?_
                   | refine (turn_any _ _).mono ?_
                   | refine (unturn_any _ _).mono ?_
                   | refine (refTurn_any _ _).mono ?_
                   | refine (xor_any _ _ _).mono ?_
                   | refine (refXor_any _ _ _).mono ?_
                   | refine (awake_any _).mono ?_)
                rintro e w' ⟨rfl, hw⟩
                exact ⟨rfl, St.call (by assumption) hw⟩)))
   try simp only [Act.put, List.setIfInBounds_toArray, List.set])
  (first
     | (apply head_skip rfl)
     | (apply head_step_g rfl
        focus
          intro w0 hC
          (first
             | exact eql_quiet 23 rfl rfl rfl Try.eqGuardType23 Try.underlying23 (by simp [go_sem]) (by simp [go_sem]) (by first | assumption | exact same_refl _ _ | rfl)
             | exact eql_quiet2 46 5 176 rfl rfl rfl (n := 11) (m := 16) rfl Try.eqGuardType46 Try.underlying46 (by simp [go_sem]) (by simp [go_sem]) Try.underlying23 (by simp [go_sem]) (by simp [go_sem]) Try.underlying5 (by exact same_refl _ _)))
     | (apply head_step_g rfl
        focus
          intro w0 hC
          have hC' := Lib.hid hC
          obtain ⟨⟨r1, f1, i1, b1, l1⟩, ⟨r2, f2, i2, b2, l2⟩, ⟨r3, f3, i3, b3, l3⟩, ⟨r4, f4, i4, b4, l4⟩, m12, m21, m13, m31, m14, m41, m23, m32, m24, m42, m34, m43⟩ := St.facts4 hC
          clear hC
          go_simp
          have hC := hC'.out
          (first
             | with_reducible rfl
             | (skip
                (first
                   | refine (own_any _ _).mono ?_
                   | refine (turn_any _ _).mono ?_
                   | refine (unturn_any _ _).mono ?_
                   | refine (refTurn_any _ _).mono ?_
                   | refine (xor_any _ _ _).mono ?_
                   | refine (refXor_any _ _ _).mono ?_
                   | refine (awake_any _).mono ?_)
                rintro e w' ⟨rfl, hw⟩
                exact ⟨rfl, St.call (by assumption) hw⟩)))
   try simp only [Act.put, List.setIfInBounds_toArray, List.set])
  (first
     | (apply head_skip rfl)
     | (apply head_step_g rfl
        focus
          intro w0 hC
          (first
             | exact eql_quiet 23 rfl rfl rfl Try.eqGuardType23 Try.underlying23 (by simp [go_sem]) (by simp [go_sem]) (by first | assumption | exact same_refl _ _ | rfl)
             | exact eql_quiet2 46 5 176 rfl rfl rfl (n := 11) (m := 16) rfl Try.eqGuardType46 Try.underlying46 (by simp [go_sem]) (by simp [go_sem]) Try.underlying23 (by simp [go_sem]) (by simp [go_sem]) Try.underlying5 (by exact same_refl _ _)))
     | (apply head_step_g rfl
        focus
          intro w0 hC
          have hC' := Lib.hid hC
          obtain ⟨⟨r1, f1, i1, b1, l1⟩, ⟨r2, f2, i2, b2, l2⟩, ⟨r3, f3, i3, b3, l3⟩, ⟨r4, f4, i4, b4, l4⟩, m12, m21, m13, m31, m14, m41, m23, m32, m24, m42, m34, m43⟩ := St.facts4 hC
          clear hC
          go_simp
          have hC := hC'.out
          (first
             | with_reducible rfl
             | (skip
                (first
                   | refine (own_any _ _).mono ?_
                   | refine (turn_any _ _).mono ?_
                   | refine (unturn_any _ _).mono ?_
                   | refine (refTurn_any _ _).mono ?_
                   | refine (xor_any _ _ _).mono ?_
                   | refine (refXor_any _ _ _).mono ?_
                   | refine (awake_any _).mono ?_)
                rintro e w' ⟨rfl, hw⟩
                exact ⟨rfl, St.call (by assumption) hw⟩)))
   try simp only [Act.put, List.setIfInBounds_toArray, List.set])
  (first
     | (apply head_skip rfl)
     | (apply head_step_g rfl
        focus
          intro w0 hC
          (first
             | exact eql_quiet 23 rfl rfl rfl Try.eqGuardType23 Try.underlying23 (by simp [go_sem]) (by simp [go_sem]) (by first | assumption | exact same_refl _ _ | rfl)
             | exact eql_quiet2 46 5 176 rfl rfl rfl (n := 11) (m := 16) rfl Try.eqGuardType46 Try.underlying46 (by simp [go_sem]) (by simp [go_sem]) Try.underlying23 (by simp [go_sem]) (by simp [go_sem]) Try.underlying5 (by exact same_refl _ _)))
     | (apply head_step_g rfl
        focus
          intro w0 hC
          have hC' := Lib.hid hC
          obtain ⟨⟨r1, f1, i1, b1, l1⟩, ⟨r2, f2, i2, b2, l2⟩, ⟨r3, f3, i3, b3, l3⟩, ⟨r4, f4, i4, b4, l4⟩, m12, m21, m13, m31, m14, m41, m23, m32, m24, m42, m34, m43⟩ := St.facts4 hC
          clear hC
          go_simp
          have hC := hC'.out
          (first
             | with_reducible rfl
             | (skip
                (first
                   | refine (own_any _ _).mono ?_
                   | refine (turn_any _ _).mono ?_
                   | refine (unturn_any _ _).mono ?_
                   | refine (refTurn_any _ _).mono ?_
                   | refine (xor_any _ _ _).mono ?_
                   | refine (refXor_any _ _ _).mono ?_
                   | refine (awake_any _).mono ?_)
                rintro e w' ⟨rfl, hw⟩
                exact ⟨rfl, St.call (by assumption) hw⟩)))
   try simp only [Act.put, List.setIfInBounds_toArray, List.set])
  (first
     | (apply head_skip rfl)
     | (apply head_step_g rfl
        focus
          intro w0 hC
          (first
             | exact eql_quiet 23 rfl rfl rfl Try.eqGuardType23 Try.underlying23 (by simp [go_sem]) (by simp [go_sem]) (by first | assumption | exact same_refl _ _ | rfl)
             | exact eql_quiet2 46 5 176 rfl rfl rfl (n := 11) (m := 16) rfl Try.eqGuardType46 Try.underlying46 (by simp [go_sem]) (by simp [go_sem]) Try.underlying23 (by simp [go_sem]) (by simp [go_sem]) Try.underlying5 (by exact same_refl _ _)))
     | (apply head_step_g rfl
        focus
          intro w0 hC
          have hC' := Lib.hid hC
          obtain ⟨⟨r1, f1, i1, b1, l1⟩, ⟨r2, f2, i2, b2, l2⟩, ⟨r3, f3, i3, b3, l3⟩, ⟨r4, f4, i4, b4, l4⟩, m12, m21, m13, m31, m14, m41, m23, m32, m24, m42, m34, m43⟩ := St.facts4 hC
          clear hC
          go_simp
          have hC := hC'.out
          (first
             | with_reducible rfl
             | (skip
                (first
                   | refine (own_any _ _).mono ?_
                   | refine (turn_any _ _).mono ?_
                   | refine (unturn_any _ _).mono ?_
                   | refine (refTurn_any _ _).mono ?_
                   | refine (xor_any _ _ _).mono ?_
                   | refine (refXor_any _ _ _).mono ?_
                   | refine (awake_any _).mono ?_)
                rintro e w' ⟨rfl, hw⟩
                exact ⟨rfl, St.call (by assumption) hw⟩)))
   try simp only [Act.put, List.setIfInBounds_toArray, List.set])
  (first
     | (apply head_skip rfl)
     | (apply head_step_g rfl
        focus
          intro w0 hC
          (first
             | exact eql_quiet 23 rfl rfl rfl Try.eqGuardType23 Try.underlying23 (by simp [go_sem]) (by simp [go_sem]) (by first | assumption | exact same_refl _ _ | rfl)
             | exact eql_quiet2 46 5 176 rfl rfl rfl (n := 11) (m := 16) rfl Try.eqGuardType46 Try.underlying46 (by simp [go_sem]) (by simp [go_sem]) Try.underlying23 (by simp [go_sem]) (by simp [go_sem]) Try.underlying5 (by exact same_refl _ _)))
     | (apply head_step_g rfl
        focus
          intro w0 hC
          have hC' := Lib.hid hC
          obtain ⟨⟨r1, f1, i1, b1, l1⟩, ⟨r2, f2, i2, b2, l2⟩, ⟨r3, f3, i3, b3, l3⟩, ⟨r4, f4, i4, b4, l4⟩, m12, m21, m13, m31, m14, m41, m23, m32, m24, m42, m34, m43⟩ := St.facts4 hC
          clear hC
          go_simp
          have hC := hC'.out
          (first
             | with_reducible rfl
             | (skip
                (first
                   | refine (own_any _ _).mono ?_
                   | refine (turn_any _ _).mono ?_
                   | refine (unturn_any _ _).mono ?_
                   | refine (refTurn_any _ _).mono ?_
                   | refine (xor_any _ _ _).mono ?_
                   | refine (refXor_any _ _ _).mono ?_
                   | refine (awake_any _).mono ?_)
                rintro e w' ⟨rfl, hw⟩
                exact ⟨rfl, St.call (by assumption) hw⟩)))
   try simp only [Act.put, List.setIfInBounds_toArray, List.set])
  (first
     | (apply head_skip rfl)
     | (apply head_step_g rfl
        focus
          intro w0 hC
          (first
             | exact eql_quiet 23 rfl rfl rfl Try.eqGuardType23 Try.underlying23 (by simp [go_sem]) (by simp [go_sem]) (by first | assumption | exact same_refl _ _ | rfl)
             | exact eql_quiet2 46 5 176 rfl rfl rfl (n := 11) (m := 16) rfl Try.eqGuardType46 Try.underlying46 (by simp [go_sem]) (by simp [go_sem]) Try.underlying23 (by simp [go_sem]) (by simp [go_sem]) Try.underlying5 (by exact same_refl _ _)))
     | (apply head_step_g rfl
        focus
          intro w0 hC
          have hC' := Lib.hid hC
          obtain ⟨⟨r1, f1, i1, b1, l1⟩, ⟨r2, f2, i2, b2, l2⟩, ⟨r3, f3, i3, b3, l3⟩, ⟨r4, f4, i4, b4, l4⟩, m12, m21, m13, m31, m14, m41, m23, m32, m24, m42, m34, m43⟩ := St.facts4 hC
          clear hC
          go_simp
          have hC := hC'.out
          (first
             | with_reducible rfl
             | (skip
                (first
                   | refine (own_any _ _).mono ?_
                   | refine (turn_any _ _).mono ?_
                   | refine (unturn_any _ _).mono ?_
                   | refine (refTurn_any _ _).mono ?_
                   | refine (xor_any _ _ _).mono ?_
                   | refine (refXor_any _ _ _).mono ?_
                   | refine (awake_any _).mono ?_)
                rintro e w' ⟨rfl, hw⟩
                exact ⟨rfl, St.call (by assumption) hw⟩)))
   try simp only [Act.put, List.setIfInBounds_toArray, List.set])
  (first
     | (apply head_skip rfl)
     | (apply head_step_g rfl
        focus
          intro w0 hC
          (first
             | exact eql_quiet 23 rfl rfl rfl Try.eqGuardType23 Try.underlying23 (by simp [go_sem]) (by simp [go_sem]) (by first | assumption | exact same_refl _ _ | rfl)
             | exact eql_quiet2 46 5 176 rfl rfl rfl (n := 11) (m := 16) rfl Try.eqGuardType46 Try.underlying46 (by simp [go_sem]) (by simp [go_sem]) Try.underlying23 (by simp [go_sem]) (by simp [go_sem]) Try.underlying5 (by exact same_refl _ _)))
     | (apply head_step_g rfl
        focus
          intro w0 hC
          have hC' := Lib.hid hC
          obtain ⟨⟨r1, f1, i1, b1, l1⟩, ⟨r2, f2, i2, b2, l2⟩, ⟨r3, f3, i3, b3, l3⟩, ⟨r4, f4, i4, b4, l4⟩, m12, m21, m13, m31, m14, m41, m23, m32, m24, m42, m34, m43⟩ := St.facts4 hC
          clear hC
          go_simp
          have hC := hC'.out
          (first
             | with_reducible rfl
             | (skip
                (first
                   | refine (own_any _ _).mono ?_
                   | refine (turn_any _ _).mono ?_
                   | refine (unturn_any _ _).mono ?_
                   | refine (refTurn_any _ _).mono ?_
                   | refine (xor_any _ _ _).mono ?_
                   | refine (refXor_any _ _ _).mono ?_
                   | refine (awake_any _).mono ?_)
                rintro e w' ⟨rfl, hw⟩
                exact ⟨rfl, St.call (by assumption) hw⟩)))
   try simp only [Act.put, List.setIfInBounds_toArray, List.set])
  (first
     | (apply head_skip rfl)
     | (apply head_step_g rfl
        focus
          intro w0 hC
          (first
             | exact eql_quiet 23 rfl rfl rfl Try.eqGuardType23 Try.underlying23 (by simp [go_sem]) (by simp [go_sem]) (by first | assumption | exact same_refl _ _ | rfl)
             | exact eql_quiet2 46 5 176 rfl rfl rfl (n := 11) (m := 16) rfl Try.eqGuardType46 Try.underlying46 (by simp [go_sem]) (by simp [go_sem]) Try.underlying23 (by simp [go_sem]) (by simp [go_sem]) Try.underlying5 (by exact same_refl _ _)))
     | (apply head_step_g rfl
        focus
          intro w0 hC
          have hC' := Lib.hid hC
          obtain ⟨⟨r1, f1, i1, b1, l1⟩, ⟨r2, f2, i2, b2, l2⟩, ⟨r3, f3, i3, b3, l3⟩, ⟨r4, f4, i4, b4, l4⟩, m12, m21, m13, m31, m14, m41, m23, m32, m24, m42, m34, m43⟩ := St.facts4 hC
          clear hC
          go_simp
          have hC := hC'.out
          (first
             | with_reducible rfl
             | (skip
                (first
                   | refine (own_any _ _).mono ?_
                   | refine (turn_any _ _).mono ?_
                   | refine (unturn_any _ _).mono ?_
                   | refine (refTurn_any _ _).mono ?_
                   | refine (xor_any _ _ _).mono ?_
                   | refine (refXor_any _ _ _).mono ?_
                   | refine (awake_any _).mono ?_)
                rintro e w' ⟨rfl, hw⟩
                exact ⟨rfl, St.call (by assumption) hw⟩)))
   try simp only [Act.put, List.setIfInBounds_toArray, List.set])
  (first
     | (apply head_skip rfl)
     | (apply head_step_g rfl
        focus
          intro w0 hC
          (first
             | exact eql_quiet 23 rfl rfl rfl Try.eqGuardType23 Try.underlying23 (by simp [go_sem]) (by simp [go_sem]) (by first | assumption | exact same_refl _ _ | rfl)
             | exact eql_quiet2 46 5 176 rfl rfl rfl (n := 11) (m := 16) rfl Try.eqGuardType46 Try.underlying46 (by simp [go_sem]) (by simp [go_sem]) Try.underlying23 (by simp [go_sem]) (by simp [go_sem]) Try.underlying5 (by exact same_refl _ _)))
     | (apply head_step_g rfl
        focus
          intro w0 hC
          have hC' := Lib.hid hC
          obtain ⟨⟨r1, f1, i1, b1, l1⟩, ⟨r2, f2, i2, b2, l2⟩, ⟨r3, f3, i3, b3, l3⟩, ⟨r4, f4, i4, b4, l4⟩, m12, m21, m13, m31, m14, m41, m23, m32, m24, m42, m34, m43⟩ := St.facts4 hC
          clear hC
          go_simp
          have hC := hC'.out
          (first
             | with_reducible rfl
             | (skip
                (first
                   | refine (own_any _ _).mono ?_
                   | refine (turn_any _ _).mono ?_
                   | refine (unturn_any _ _).mono ?_
                   | refine (refTurn_any _ _).mono ?_
                   | refine (xor_any _ _ _).mono ?_
                   | refine (refXor_any _ _ _).mono ?_
                   | refine (awake_any _).mono ?_)
                rintro e w' ⟨rfl, hw⟩
                exact ⟨rfl, St.call (by assumption) hw⟩)))
   try simp only [Act.put, List.setIfInBounds_toArray, List.set])
  (first
     | (apply head_skip rfl)
     | (apply head_step_g rfl
        focus
          intro w0 hC
          (first
             | exact eql_quiet 23 rfl rfl rfl Try.eqGuardType23 Try.underlying23 (by simp [go_sem]) (by simp [go_sem]) (by first | assumption | exact same_refl _ _ | rfl)
             | exact eql_quiet2 46 5 176 rfl rfl rfl (n := 11) (m := 16) rfl Try.eqGuardType46 Try.underlying46 (by simp [go_sem]) (by simp [go_sem]) Try.underlying23 (by simp [go_sem]) (by simp [go_sem]) Try.underlying5 (by exact same_refl _ _)))
     | (apply head_step_g rfl
        focus
          intro w0 hC
          have hC' := Lib.hid hC
          obtain ⟨⟨r1, f1, i1, b1, l1⟩, ⟨r2, f2, i2, b2, l2⟩, ⟨r3, f3, i3, b3, l3⟩, ⟨r4, f4, i4, b4, l4⟩, m12, m21, m13, m31, m14, m41, m23, m32, m24, m42, m34, m43⟩ := St.facts4 hC
          clear hC
          go_simp
          have hC := hC'.out
          (first
             | with_reducible rfl
             | (skip
                (first
                   | refine (own_any _ _).mono ?_
                   | refine (turn_any _ _).mono ?_
                   | refine (unturn_any _ _).mono ?_
                   | refine (refTurn_any _ _).mono ?_
                   | refine (xor_any _ _ _).mono ?_
                   | refine (refXor_any _ _ _).mono ?_
                   | refine (awake_any _).mono ?_)
                rintro e w' ⟨rfl, hw⟩
                exact ⟨rfl, St.call (by assumption) hw⟩)))
   try simp only [Act.put, List.setIfInBounds_toArray, List.set])
  (first
     | (apply head_skip rfl)
     | (apply head_step_g rfl
        focus
          intro w0 hC
          (first
             | exact eql_quiet 23 rfl rfl rfl Try.eqGuardType23 Try.underlying23 (by simp [go_sem]) (by simp [go_sem]) (by first | assumption | exact same_refl _ _ | rfl)
             | exact eql_quiet2 46 5 176 rfl rfl rfl (n := 11) (m := 16) rfl Try.eqGuardType46 Try.underlying46 (by simp [go_sem]) (by simp [go_sem]) Try.underlying23 (by simp [go_sem]) (by simp [go_sem]) Try.underlying5 (by exact same_refl _ _)))
     | (apply head_step_g rfl
        focus
          intro w0 hC
          have hC' := Lib.hid hC
          obtain ⟨⟨r1, f1, i1, b1, l1⟩, ⟨r2, f2, i2, b2, l2⟩, ⟨r3, f3, i3, b3, l3⟩, ⟨r4, f4, i4, b4, l4⟩, m12, m21, m13, m31, m14, m41, m23, m32, m24, m42, m34, m43⟩ := St.facts4 hC
          clear hC
          go_simp
          have hC := hC'.out
          (first
             | with_reducible rfl
             | (skip
                (first
                   | refine (own_any _ _).mono ?_
                   | refine (turn_any _ _).mono ?_
                   | refine (unturn_any _ _).mono ?_
                   | refine (refTurn_any _ _).mono ?_
                   | refine (xor_any _ _ _).mono ?_
                   | refine (refXor_any _ _ _).mono ?_
                   | refine (awake_any _).mono ?_)
                rintro e w' ⟨rfl, hw⟩
                exact ⟨rfl, St.call (by assumption) hw⟩)))
   try simp only [Act.put, List.setIfInBounds_toArray, List.set])
  (first
     | (apply head_skip rfl)
     | (apply head_step_g rfl
        focus
          intro w0 hC
          (first
             | exact eql_quiet 23 rfl rfl rfl Try.eqGuardType23 Try.underlying23 (by simp [go_sem]) (by simp [go_sem]) (by first | assumption | exact same_refl _ _ | rfl)
             | exact eql_quiet2 46 5 176 rfl rfl rfl (n := 11) (m := 16) rfl Try.eqGuardType46 Try.underlying46 (by simp [go_sem]) (by simp [go_sem]) Try.underlying23 (by simp [go_sem]) (by simp [go_sem]) Try.underlying5 (by exact same_refl _ _)))
     | (apply head_step_g rfl
        focus
          intro w0 hC
          have hC' := Lib.hid hC
          obtain ⟨⟨r1, f1, i1, b1, l1⟩, ⟨r2, f2, i2, b2, l2⟩, ⟨r3, f3, i3, b3, l3⟩, ⟨r4, f4, i4, b4, l4⟩, m12, m21, m13, m31, m14, m41, m23, m32, m24, m42, m34, m43⟩ := St.facts4 hC
          clear hC
          go_simp
          have hC := hC'.out
          (first
             | with_reducible rfl
             | (skip
                (first
                   | refine (own_any _ _).mono ?_
                   | refine (turn_any _ _).mono ?_
                   | refine (unturn_any _ _).mono ?_
                   | refine (refTurn_any _ _).mono ?_
                   | refine (xor_any _ _ _).mono ?_
                   | refine (refXor_any _ _ _).mono ?_
                   | refine (awake_any _).mono ?_)
                rintro e w' ⟨rfl, hw⟩
                exact ⟨rfl, St.call (by assumption) hw⟩)))
   try simp only [Act.put, List.setIfInBounds_toArray, List.set])
  (first
     | (apply head_skip rfl)
     | (apply head_step_g rfl
        focus
          intro w0 hC
          (first
             | exact eql_quiet 23 rfl rfl rfl Try.eqGuardType23 Try.underlying23 (by simp [go_sem]) (by simp [go_sem]) (by first | assumption | exact same_refl _ _ | rfl)
             | exact eql_quiet2 46 5 176 rfl rfl rfl (n := 11) (m := 16) rfl Try.eqGuardType46 Try.underlying46 (by simp [go_sem]) (by simp [go_sem]) Try.underlying23 (by simp [go_sem]) (by simp [go_sem]) Try.underlying5 (by exact same_refl _ _)))
     | (apply head_step_g rfl
        focus
          intro w0 hC
          have hC' := Lib.hid hC
          obtain ⟨⟨r1, f1, i1, b1, l1⟩, ⟨r2, f2, i2, b2, l2⟩, ⟨r3, f3, i3, b3, l3⟩, ⟨r4, f4, i4, b4, l4⟩, m12, m21, m13, m31, m14, m41, m23, m32, m24, m42, m34, m43⟩ := St.facts4 hC
          clear hC
          go_simp
          have hC := hC'.out
          (first
             | with_reducible rfl
             | (skip
                (first
                   | refine (own_any _ _).mono ?_
                   | refine (turn_any _ _).mono ?_
                   | refine (unturn_any _ _).mono ?_
                   | refine (refTurn_any _ _).mono ?_
                   | refine (xor_any _ _ _).mono ?_
                   | refine (refXor_any _ _ _).mono ?_
                   | refine (awake_any _).mono ?_)
                rintro e w' ⟨rfl, hw⟩
                exact ⟨rfl, St.call (by assumption) hw⟩)))
   try simp only [Act.put, List.setIfInBounds_toArray, List.set])
  (first
     | (apply head_skip rfl)
     | (apply head_step_g rfl
        focus
          intro w0 hC
          (first
             | exact eql_quiet 23 rfl rfl rfl Try.eqGuardType23 Try.underlying23 (by simp [go_sem]) (by simp [go_sem]) (by first | assumption | exact same_refl _ _ | rfl)
             | exact eql_quiet2 46 5 176 rfl rfl rfl (n := 11) (m := 16) rfl Try.eqGuardType46 Try.underlying46 (by simp [go_sem]) (by simp [go_sem]) Try.underlying23 (by simp [go_sem]) (by simp [go_sem]) Try.underlying5 (by exact same_refl _ _)))
     | (apply head_step_g rfl
        focus
          intro w0 hC
          have hC' := Lib.hid hC
          obtain ⟨⟨r1, f1, i1, b1, l1⟩, ⟨r2, f2, i2, b2, l2⟩, ⟨r3, f3, i3, b3, l3⟩, ⟨r4, f4, i4, b4, l4⟩, m12, m21, m13, m31, m14, m41, m23, m32, m24, m42, m34, m43⟩ := St.facts4 hC
          clear hC
          go_simp
          have hC := hC'.out
          (first
             | with_reducible rfl
             | (skip
                (first
                   | refine (own_any _ _).mono ?_
                   | refine (turn_any _ _).mono ?_
                   | refine (unturn_any _ _).mono ?_
                   | refine (refTurn_any _ _).mono ?_
                   | refine (xor_any _ _ _).mono ?_
                   | refine (refXor_any _ _ _).mono ?_
                   | refine (awake_any _).mono ?_)
                rintro e w' ⟨rfl, hw⟩
                exact ⟨rfl, St.call (by assumption) hw⟩)))
   try simp only [Act.put, List.setIfInBounds_toArray, List.set])
  (first
     | (apply head_skip rfl)
     | (apply head_step_g rfl
        focus
          intro w0 hC
          (first
             | exact eql_quiet 23 rfl rfl rfl Try.eqGuardType23 Try.underlying23 (by simp [go_sem]) (by simp [go_sem]) (by first | assumption | exact same_refl _ _ | rfl)
             | exact eql_quiet2 46 5 176 rfl rfl rfl (n := 11) (m := 16) rfl Try.eqGuardType46 Try.underlying46 (by simp [go_sem]) (by simp [go_sem]) Try.underlying23 (by simp [go_sem]) (by simp [go_sem]) Try.underlying5 (by exact same_refl _ _)))
     | (apply head_step_g rfl
        focus
          intro w0 hC
          have hC' := Lib.hid hC
          obtain ⟨⟨r1, f1, i1, b1, l1⟩, ⟨r2, f2, i2, b2, l2⟩, ⟨r3, f3, i3, b3, l3⟩, ⟨r4, f4, i4, b4, l4⟩, m12, m21, m13, m31, m14, m41, m23, m32, m24, m42, m34, m43⟩ := St.facts4 hC
          clear hC
          go_simp
          have hC := hC'.out
          (first
             | with_reducible rfl
             | (skip
                (first
                   | refine (own_any _ _).mono ?_
                   | refine (turn_any _ _).mono ?_
                   | refine (unturn_any _ _).mono ?_
                   | refine (refTurn_any _ _).mono ?_
                   | refine (xor_any _ _ _).mono ?_
                   | refine (refXor_any _ _ _).mono ?_
                   | refine (awake_any _).mono ?_)
                rintro e w' ⟨rfl, hw⟩
                exact ⟨rfl, St.call (by assumption) hw⟩)))
   try simp only [Act.put, List.setIfInBounds_toArray, List.set])
  (first
     | (apply head_skip rfl)
     | (apply head_step_g rfl
        focus
          intro w0 hC
          (first
             | exact eql_quiet 23 rfl rfl rfl Try.eqGuardType23 Try.underlying23 (by simp [go_sem]) (by simp [go_sem]) (by first | assumption | exact same_refl _ _ | rfl)
             | exact eql_quiet2 46 5 176 rfl rfl rfl (n := 11) (m := 16) rfl Try.eqGuardType46 Try.underlying46 (by simp [go_sem]) (by simp [go_sem]) Try.underlying23 (by simp [go_sem]) (by simp [go_sem]) Try.underlying5 (by exact same_refl _ _)))
     | (apply head_step_g rfl
        focus
          intro w0 hC
          have hC' := Lib.hid hC
          obtain ⟨⟨r1, f1, i1, b1, l1⟩, ⟨r2, f2, i2, b2, l2⟩, ⟨r3, f3, i3, b3, l3⟩, ⟨r4, f4, i4, b4, l4⟩, m12, m21, m13, m31, m14, m41, m23, m32, m24, m42, m34, m43⟩ := St.facts4 hC
          clear hC
          go_simp
          have hC := hC'.out
          (first
             | with_reducible rfl
             | (skip
                (first
                   | refine (own_any _ _).mono ?_
                   | refine (turn_any _ _).mono ?_
                   | refine (unturn_any _ _).mono ?_
                   | refine (refTurn_any _ _).mono ?_
                   | refine (xor_any _ _ _).mono ?_
                   | refine (refXor_any _ _ _).mono ?_
                   | refine (awake_any _).mono ?_)
                rintro e w' ⟨rfl, hw⟩
                exact ⟨rfl, St.call (by assumption) hw⟩)))
   try simp only [Act.put, List.setIfInBounds_toArray, List.set])
  (first
     | (apply head_skip rfl)
     | (apply head_step_g rfl
        focus
          intro w0 hC
          (first
             | exact eql_quiet 23 rfl rfl rfl Try.eqGuardType23 Try.underlying23 (by simp [go_sem]) (by simp [go_sem]) (by first | assumption | exact same_refl _ _ | rfl)
             | exact eql_quiet2 46 5 176 rfl rfl rfl (n := 11) (m := 16) rfl Try.eqGuardType46 Try.underlying46 (by simp [go_sem]) (by simp [go_sem]) Try.underlying23 (by simp [go_sem]) (by simp [go_sem]) Try.underlying5 (by exact same_refl _ _)))
     | (apply head_step_g rfl
        focus
          intro w0 hC
          have hC' := Lib.hid hC
          obtain ⟨⟨r1, f1, i1, b1, l1⟩, ⟨r2, f2, i2, b2, l2⟩, ⟨r3, f3, i3, b3, l3⟩, ⟨r4, f4, i4, b4, l4⟩, m12, m21, m13, m31, m14, m41, m23, m32, m24, m42, m34, m43⟩ := St.facts4 hC
          clear hC
          go_simp
          have hC := hC'.out
          (first
             | with_reducible rfl
             | (skip
                (first
                   | refine (own_any _ _).mono ?_
                   | refine (turn_any _ _).mono ?_
                   | refine (unturn_any _ _).mono ?_
                   | refine (refTurn_any _ _).mono ?_
                   | refine (xor_any _ _ _).mono ?_
                   | refine (refXor_any _ _ _).mono ?_
                   | refine (awake_any _).mono ?_)
                rintro e w' ⟨rfl, hw⟩
                exact ⟨rfl, St.call (by assumption) hw⟩)))
   try simp only [Act.put, List.setIfInBounds_toArray, List.set])
  (first
     | (apply head_skip rfl)
     | (apply head_step_g rfl
        focus
          intro w0 hC
          (first
             | exact eql_quiet 23 rfl rfl rfl Try.eqGuardType23 Try.underlying23 (by simp [go_sem]) (by simp [go_sem]) (by first | assumption | exact same_refl _ _ | rfl)
             | exact eql_quiet2 46 5 176 rfl rfl rfl (n := 11) (m := 16) rfl Try.eqGuardType46 Try.underlying46 (by simp [go_sem]) (by simp [go_sem]) Try.underlying23 (by simp [go_sem]) (by simp [go_sem]) Try.underlying5 (by exact same_refl _ _)))
     | (apply head_step_g rfl
        focus
          intro w0 hC
          have hC' := Lib.hid hC
          obtain ⟨⟨r1, f1, i1, b1, l1⟩, ⟨r2, f2, i2, b2, l2⟩, ⟨r3, f3, i3, b3, l3⟩, ⟨r4, f4, i4, b4, l4⟩, m12, m21, m13, m31, m14, m41, m23, m32, m24, m42, m34, m43⟩ := St.facts4 hC
          clear hC
          go_simp
          have hC := hC'.out
          (first
             | with_reducible rfl
             | (skip
                (first
                   | refine (own_any _ _).mono ?_
                   | refine (turn_any _ _).mono ?_
                   | refine (unturn_any _ _).mono ?_
                   | refine (refTurn_any _ _).mono ?_
                   | refine (xor_any _ _ _).mono ?_
                   | refine (refXor_any _ _ _).mono ?_
                   | refine (awake_any _).mono ?_)
                rintro e w' ⟨rfl, hw⟩
                exact ⟨rfl, St.call (by assumption) hw⟩)))
   try simp only [Act.put, List.setIfInBounds_toArray, List.set])
  (first
     | (apply head_skip rfl)
     | (apply head_step_g rfl
        focus
          intro w0 hC
          (first
             | exact eql_quiet 23 rfl rfl rfl Try.eqGuardType23 Try.underlying23 (by simp [go_sem]) (by simp [go_sem]) (by first | assumption | exact same_refl _ _ | rfl)
             | exact eql_quiet2 46 5 176 rfl rfl rfl (n := 11) (m := 16) rfl Try.eqGuardType46 Try.underlying46 (by simp [go_sem]) (by simp [go_sem]) Try.underlying23 (by simp [go_sem]) (by simp [go_sem]) Try.underlying5 (by exact same_refl _ _)))
     | (apply head_step_g rfl
        focus
          intro w0 hC
          have hC' := Lib.hid hC
          obtain ⟨⟨r1, f1, i1, b1, l1⟩, ⟨r2, f2, i2, b2, l2⟩, ⟨r3, f3, i3, b3, l3⟩, ⟨r4, f4, i4, b4, l4⟩, m12, m21, m13, m31, m14, m41, m23, m32, m24, m42, m34, m43⟩ := St.facts4 hC
          clear hC
          go_simp
          have hC := hC'.out
          (first
             | with_reducible rfl
             | (skip
                (first
                   | refine (own_any _ _).mono ?_
                   | refine (turn_any _ _).mono ?_
                   | refine (unturn_any _ _).mono ?_
                   | refine (refTurn_any _ _).mono ?_
                   | refine (xor_any _ _ _).mono ?_
                   | refine (refXor_any _ _ _).mono ?_
                   | refine (awake_any _).mono ?_)
                rintro e w' ⟨rfl, hw⟩
                exact ⟨rfl, St.call (by assumption) hw⟩)))
   try simp only [Act.put, List.setIfInBounds_toArray, List.set])
  (first
     | (apply head_skip rfl)
     | (apply head_step_g rfl
        focus
          intro w0 hC
          (first
             | exact eql_quiet 23 rfl rfl rfl Try.eqGuardType23 Try.underlying23 (by simp [go_sem]) (by simp [go_sem]) (by first | assumption | exact same_refl _ _ | rfl)
             | exact eql_quiet2 46 5 176 rfl rfl rfl (n := 11) (m := 16) rfl Try.eqGuardType46 Try.underlying46 (by simp [go_sem]) (by simp [go_sem]) Try.underlying23 (by simp [go_sem]) (by simp [go_sem]) Try.underlying5 (by exact same_refl _ _)))
     | (apply head_step_g rfl
        focus
          intro w0 hC
          have hC' := Lib.hid hC
          obtain ⟨⟨r1, f1, i1, b1, l1⟩, ⟨r2, f2, i2, b2, l2⟩, ⟨r3, f3, i3, b3, l3⟩, ⟨r4, f4, i4, b4, l4⟩, m12, m21, m13, m31, m14, m41, m23, m32, m24, m42, m34, m43⟩ := St.facts4 hC
          clear hC
          go_simp
          have hC := hC'.out
          (first
             | with_reducible rfl
             | (skip
                (first
                   | refine (own_any _ _).mono ?_
                   | refine (turn_any _ _).mono ?_
                   | refine (unturn_any _ _).mono ?_
                   | refine (refTurn_any _ _).mono ?_
                   | refine (xor_any _ _ _).mono ?_
                   | refine (refXor_any _ _ _).mono ?_
                   | refine (awake_any _).mono ?_)
                rintro e w' ⟨rfl, hw⟩
                exact ⟨rfl, St.call (by assumption) hw⟩)))
   try simp only [Act.put, List.setIfInBounds_toArray, List.set])
  (first
     | (apply head_skip rfl)
     | (apply head_step_g rfl
        focus
          intro w0 hC
          (first
             | exact eql_quiet 23 rfl rfl rfl Try.eqGuardType23 Try.underlying23 (by simp [go_sem]) (by simp [go_sem]) (by first | assumption | exact same_refl _ _ | rfl)
             | exact eql_quiet2 46 5 176 rfl rfl rfl (n := 11) (m := 16) rfl Try.eqGuardType46 Try.underlying46 (by simp [go_sem]) (by simp [go_sem]) Try.underlying23 (by simp [go_sem]) (by simp [go_sem]) Try.underlying5 (by exact same_refl _ _)))
     | (apply head_step_g rfl
        focus
          intro w0 hC
          have hC' := Lib.hid hC
          obtain ⟨⟨r1, f1, i1, b1, l1⟩, ⟨r2, f2, i2, b2, l2⟩, ⟨r3, f3, i3, b3, l3⟩, ⟨r4, f4, i4, b4, l4⟩, m12, m21, m13, m31, m14, m41, m23, m32, m24, m42, m34, m43⟩ := St.facts4 hC
          clear hC
          go_simp
          have hC := hC'.out
          (first
             | with_reducible rfl
             | (skip
                (first
                   | refine (own_any _ _).mono ?_
                   | refine (turn_any _ _).mono ?_
                   | refine (unturn_any _ _).mono ?_
                   | refine (refTurn_any _ _).mono ?_
                   | refine (xor_any _ _ _).mono ?_
                   | refine (refXor_any _ _ _).mono ?_
                   | refine (awake_any _).mono ?_)
                rintro e w' ⟨rfl, hw⟩
                exact ⟨rfl, St.call (by assumption) hw⟩)))
   try simp only [Act.put, List.setIfInBounds_toArray, List.set])
  refine wpQuiet_nil ?_
  intro w4 hC
  go_wp2_with fail
  go_ret
  exact ⟨rfl, hC.below⟩
end Go.Proofs.Ytepooocdpifcfaa
