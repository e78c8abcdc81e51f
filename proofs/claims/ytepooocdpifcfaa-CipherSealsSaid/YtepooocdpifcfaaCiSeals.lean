/- CipherSeals returns true at all rounds, every block, every text. No condition. -/
import Derived.Test.YtepooocdpifcfaaCiKeys
import Derived.Test.YtepooocdpifcfaaStr
namespace Go.Proofs.Ytepooocdpifcfaa
open Go.RowKit
attribute [local go_sem] B_xor B_or B_and
attribute [local go_sem] blk_set blk_size blk_get blk_getE upd_same oneCells_blk paste_blk cut_blk szOf
attribute [local go_sem high] paste_all cut_head
attribute [local go_sem] rowAt_alloc rowAt_drew rowAt_drewN isRow_alloc isRow_drew isRow_drewN freeRow_alloc freeRow_drew freeRow_drewN
attribute [local go_sem] setRow_alloc setRow_drew setRow_drewN setCell_drewN alloc_drewN rowAt_setRow isRow_setRow freeRow_setRow
attribute [local go_sem ↓] loadS_in storeS_in indexS_in copyS_in
attribute [local go_sem] loadS_row loadS_one storeS_row storeS_one indexS_blk copyS_rows run_equalIn_blk same_refl arrayAt_row
attribute [local go_sem] cell_row frozen_row st_setCell st_blk_ne stepAt stepUpon
attribute [local go_sem high] run_eql_blk run_neq_blk
attribute [local go_sem ↓] convBS_in
attribute [local go_sem] convBS_row convBS_nil allBytes_blk bytesOf_blk


set_option maxRecDepth 100000 in
set_option maxHeartbeats 1000000 in
theorem cipherSeals_walk (r b : Nat → UInt8) (s : ByteArray) (w : World) : Calls Try.prog 9 #[.agg (blk 176 r), .agg (blk 16 b), .string s] w fun e w' => e = .returned (.bool true) ∧ Below w.heap.size w w' := by
  have hz := zero16
  have HC := Lib.hid ((((St.nil w).pushA (blk 176 r) 48 rfl).pushA (blk 16 b) 22 (g := w.heap.size + 1) (by simp)))
  by_cases h40 : 40 < s.size
  · have t1 : decide ((40 : Int) < (s.size : Int)) = true := by simp; omega
    go_enter Try.func9, Try.ntmps9
    go_wp2_with fail
    refine (awake_any _).mono ?_; rintro e w5 ⟨rfl, hw⟩
    have HC := Lib.hid (HC.out.call hw)
    clear hw
    have sos := HC.out.os
    go_wp2_with fail
    go_ret
    exact ⟨rfl, HC.out.below⟩
  · have t1 : decide ((40 : Int) < (s.size : Int)) = false := by simp; omega
    by_cases h16 : s.size = 16
    · have t2 : (((s.size : Int)) != 16) = false := by simp; omega
      have hso := strOf_ofText s 16 h16
      go_enter Try.func9, Try.ntmps9
      go_wp2_with fail
      refine (of_any s h16 _).mono ?_; rintro e w5 ⟨rfl, hw⟩
      have HC := Lib.hid (HC.out.call hw)
      clear hw
      have sos := HC.out.os
      go_wp2_with fail
      have HC := Lib.hid (HC.out.push (blk 16 (ofText s)) 23)
      refine St.region HC.out (by kernel_rfl) (by kernel_rfl) ?_
      (first
         | (apply head_skip rfl)
         | (apply head_step_g rfl
            focus
              intro w0 hC
              (exact eql_quiet 23 rfl rfl rfl Try.eqGuardType23 Try.underlying23 (by simp [go_sem]) (by simp [go_sem]) (by first | assumption | rfl)))
         | (apply head_step_g rfl
            focus
              intro w0 hC
              have hC' := Lib.hid hC
              obtain ⟨⟨r1, f1, i1, b1, l1⟩, ⟨r2, f2, i2, b2, l2⟩, ⟨r3, f3, i3, b3, l3⟩, m12, m21, m13, m31, m23, m32⟩ := St.facts3 hC
              clear hC
              go_simp
              have hC := hC'.out
              (first
                 | with_reducible rfl
                 | (skip
                    (first
                       | refine (own_any _ _).mono ?_
                       | refine (seal_any _ _ _).mono ?_
                       | refine (refSeal_any _ _ _).mono ?_
                       | refine (awake_any _).mono ?_)
                    rintro e w' ⟨rfl, hw⟩
                    exact ⟨rfl, St.call (by assumption) hw⟩)))
       try simp only [Act.put, List.setIfInBounds_toArray, List.set])
      (first
         | (apply head_skip rfl)
         | (apply head_step_g rfl
            focus
              intro w0 hC
              (exact eql_quiet 23 rfl rfl rfl Try.eqGuardType23 Try.underlying23 (by simp [go_sem]) (by simp [go_sem]) (by first | assumption | rfl)))
         | (apply head_step_g rfl
            focus
              intro w0 hC
              have hC' := Lib.hid hC
              obtain ⟨⟨r1, f1, i1, b1, l1⟩, ⟨r2, f2, i2, b2, l2⟩, ⟨r3, f3, i3, b3, l3⟩, m12, m21, m13, m31, m23, m32⟩ := St.facts3 hC
              clear hC
              go_simp
              have hC := hC'.out
              (first
                 | with_reducible rfl
                 | (skip
                    (first
                       | refine (own_any _ _).mono ?_
                       | refine (seal_any _ _ _).mono ?_
                       | refine (refSeal_any _ _ _).mono ?_
                       | refine (awake_any _).mono ?_)
                    rintro e w' ⟨rfl, hw⟩
                    exact ⟨rfl, St.call (by assumption) hw⟩)))
       try simp only [Act.put, List.setIfInBounds_toArray, List.set])
      (first
         | (apply head_skip rfl)
         | (apply head_step_g rfl
            focus
              intro w0 hC
              (exact eql_quiet 23 rfl rfl rfl Try.eqGuardType23 Try.underlying23 (by simp [go_sem]) (by simp [go_sem]) (by first | assumption | rfl)))
         | (apply head_step_g rfl
            focus
              intro w0 hC
              have hC' := Lib.hid hC
              obtain ⟨⟨r1, f1, i1, b1, l1⟩, ⟨r2, f2, i2, b2, l2⟩, ⟨r3, f3, i3, b3, l3⟩, m12, m21, m13, m31, m23, m32⟩ := St.facts3 hC
              clear hC
              go_simp
              have hC := hC'.out
              (first
                 | with_reducible rfl
                 | (skip
                    (first
                       | refine (own_any _ _).mono ?_
                       | refine (seal_any _ _ _).mono ?_
                       | refine (refSeal_any _ _ _).mono ?_
                       | refine (awake_any _).mono ?_)
                    rintro e w' ⟨rfl, hw⟩
                    exact ⟨rfl, St.call (by assumption) hw⟩)))
       try simp only [Act.put, List.setIfInBounds_toArray, List.set])
      (first
         | (apply head_skip rfl)
         | (apply head_step_g rfl
            focus
              intro w0 hC
              (exact eql_quiet 23 rfl rfl rfl Try.eqGuardType23 Try.underlying23 (by simp [go_sem]) (by simp [go_sem]) (by first | assumption | rfl)))
         | (apply head_step_g rfl
            focus
              intro w0 hC
              have hC' := Lib.hid hC
              obtain ⟨⟨r1, f1, i1, b1, l1⟩, ⟨r2, f2, i2, b2, l2⟩, ⟨r3, f3, i3, b3, l3⟩, m12, m21, m13, m31, m23, m32⟩ := St.facts3 hC
              clear hC
              go_simp
              have hC := hC'.out
              (first
                 | with_reducible rfl
                 | (skip
                    (first
                       | refine (own_any _ _).mono ?_
                       | refine (seal_any _ _ _).mono ?_
                       | refine (refSeal_any _ _ _).mono ?_
                       | refine (awake_any _).mono ?_)
                    rintro e w' ⟨rfl, hw⟩
                    exact ⟨rfl, St.call (by assumption) hw⟩)))
       try simp only [Act.put, List.setIfInBounds_toArray, List.set])
      (first
         | (apply head_skip rfl)
         | (apply head_step_g rfl
            focus
              intro w0 hC
              (exact eql_quiet 23 rfl rfl rfl Try.eqGuardType23 Try.underlying23 (by simp [go_sem]) (by simp [go_sem]) (by first | assumption | rfl)))
         | (apply head_step_g rfl
            focus
              intro w0 hC
              have hC' := Lib.hid hC
              obtain ⟨⟨r1, f1, i1, b1, l1⟩, ⟨r2, f2, i2, b2, l2⟩, ⟨r3, f3, i3, b3, l3⟩, m12, m21, m13, m31, m23, m32⟩ := St.facts3 hC
              clear hC
              go_simp
              have hC := hC'.out
              (first
                 | with_reducible rfl
                 | (skip
                    (first
                       | refine (own_any _ _).mono ?_
                       | refine (seal_any _ _ _).mono ?_
                       | refine (refSeal_any _ _ _).mono ?_
                       | refine (awake_any _).mono ?_)
                    rintro e w' ⟨rfl, hw⟩
                    exact ⟨rfl, St.call (by assumption) hw⟩)))
       try simp only [Act.put, List.setIfInBounds_toArray, List.set])
      (first
         | (apply head_skip rfl)
         | (apply head_step_g rfl
            focus
              intro w0 hC
              (exact eql_quiet 23 rfl rfl rfl Try.eqGuardType23 Try.underlying23 (by simp [go_sem]) (by simp [go_sem]) (by first | assumption | rfl)))
         | (apply head_step_g rfl
            focus
              intro w0 hC
              have hC' := Lib.hid hC
              obtain ⟨⟨r1, f1, i1, b1, l1⟩, ⟨r2, f2, i2, b2, l2⟩, ⟨r3, f3, i3, b3, l3⟩, m12, m21, m13, m31, m23, m32⟩ := St.facts3 hC
              clear hC
              go_simp
              have hC := hC'.out
              (first
                 | with_reducible rfl
                 | (skip
                    (first
                       | refine (own_any _ _).mono ?_
                       | refine (seal_any _ _ _).mono ?_
                       | refine (refSeal_any _ _ _).mono ?_
                       | refine (awake_any _).mono ?_)
                    rintro e w' ⟨rfl, hw⟩
                    exact ⟨rfl, St.call (by assumption) hw⟩)))
       try simp only [Act.put, List.setIfInBounds_toArray, List.set])
      (first
         | (apply head_skip rfl)
         | (apply head_step_g rfl
            focus
              intro w0 hC
              (exact eql_quiet 23 rfl rfl rfl Try.eqGuardType23 Try.underlying23 (by simp [go_sem]) (by simp [go_sem]) (by first | assumption | rfl)))
         | (apply head_step_g rfl
            focus
              intro w0 hC
              have hC' := Lib.hid hC
              obtain ⟨⟨r1, f1, i1, b1, l1⟩, ⟨r2, f2, i2, b2, l2⟩, ⟨r3, f3, i3, b3, l3⟩, m12, m21, m13, m31, m23, m32⟩ := St.facts3 hC
              clear hC
              go_simp
              have hC := hC'.out
              (first
                 | with_reducible rfl
                 | (skip
                    (first
                       | refine (own_any _ _).mono ?_
                       | refine (seal_any _ _ _).mono ?_
                       | refine (refSeal_any _ _ _).mono ?_
                       | refine (awake_any _).mono ?_)
                    rintro e w' ⟨rfl, hw⟩
                    exact ⟨rfl, St.call (by assumption) hw⟩)))
       try simp only [Act.put, List.setIfInBounds_toArray, List.set])
      (first
         | (apply head_skip rfl)
         | (apply head_step_g rfl
            focus
              intro w0 hC
              (exact eql_quiet 23 rfl rfl rfl Try.eqGuardType23 Try.underlying23 (by simp [go_sem]) (by simp [go_sem]) (by first | assumption | rfl)))
         | (apply head_step_g rfl
            focus
              intro w0 hC
              have hC' := Lib.hid hC
              obtain ⟨⟨r1, f1, i1, b1, l1⟩, ⟨r2, f2, i2, b2, l2⟩, ⟨r3, f3, i3, b3, l3⟩, m12, m21, m13, m31, m23, m32⟩ := St.facts3 hC
              clear hC
              go_simp
              have hC := hC'.out
              (first
                 | with_reducible rfl
                 | (skip
                    (first
                       | refine (own_any _ _).mono ?_
                       | refine (seal_any _ _ _).mono ?_
                       | refine (refSeal_any _ _ _).mono ?_
                       | refine (awake_any _).mono ?_)
                    rintro e w' ⟨rfl, hw⟩
                    exact ⟨rfl, St.call (by assumption) hw⟩)))
       try simp only [Act.put, List.setIfInBounds_toArray, List.set])
      (first
         | (apply head_skip rfl)
         | (apply head_step_g rfl
            focus
              intro w0 hC
              (exact eql_quiet 23 rfl rfl rfl Try.eqGuardType23 Try.underlying23 (by simp [go_sem]) (by simp [go_sem]) (by first | assumption | rfl)))
         | (apply head_step_g rfl
            focus
              intro w0 hC
              have hC' := Lib.hid hC
              obtain ⟨⟨r1, f1, i1, b1, l1⟩, ⟨r2, f2, i2, b2, l2⟩, ⟨r3, f3, i3, b3, l3⟩, m12, m21, m13, m31, m23, m32⟩ := St.facts3 hC
              clear hC
              go_simp
              have hC := hC'.out
              (first
                 | with_reducible rfl
                 | (skip
                    (first
                       | refine (own_any _ _).mono ?_
                       | refine (seal_any _ _ _).mono ?_
                       | refine (refSeal_any _ _ _).mono ?_
                       | refine (awake_any _).mono ?_)
                    rintro e w' ⟨rfl, hw⟩
                    exact ⟨rfl, St.call (by assumption) hw⟩)))
       try simp only [Act.put, List.setIfInBounds_toArray, List.set])
      (first
         | (apply head_skip rfl)
         | (apply head_step_g rfl
            focus
              intro w0 hC
              (exact eql_quiet 23 rfl rfl rfl Try.eqGuardType23 Try.underlying23 (by simp [go_sem]) (by simp [go_sem]) (by first | assumption | rfl)))
         | (apply head_step_g rfl
            focus
              intro w0 hC
              have hC' := Lib.hid hC
              obtain ⟨⟨r1, f1, i1, b1, l1⟩, ⟨r2, f2, i2, b2, l2⟩, ⟨r3, f3, i3, b3, l3⟩, m12, m21, m13, m31, m23, m32⟩ := St.facts3 hC
              clear hC
              go_simp
              have hC := hC'.out
              (first
                 | with_reducible rfl
                 | (skip
                    (first
                       | refine (own_any _ _).mono ?_
                       | refine (seal_any _ _ _).mono ?_
                       | refine (refSeal_any _ _ _).mono ?_
                       | refine (awake_any _).mono ?_)
                    rintro e w' ⟨rfl, hw⟩
                    exact ⟨rfl, St.call (by assumption) hw⟩)))
       try simp only [Act.put, List.setIfInBounds_toArray, List.set])
      (first
         | (apply head_skip rfl)
         | (apply head_step_g rfl
            focus
              intro w0 hC
              (exact eql_quiet 23 rfl rfl rfl Try.eqGuardType23 Try.underlying23 (by simp [go_sem]) (by simp [go_sem]) (by first | assumption | rfl)))
         | (apply head_step_g rfl
            focus
              intro w0 hC
              have hC' := Lib.hid hC
              obtain ⟨⟨r1, f1, i1, b1, l1⟩, ⟨r2, f2, i2, b2, l2⟩, ⟨r3, f3, i3, b3, l3⟩, m12, m21, m13, m31, m23, m32⟩ := St.facts3 hC
              clear hC
              go_simp
              have hC := hC'.out
              (first
                 | with_reducible rfl
                 | (skip
                    (first
                       | refine (own_any _ _).mono ?_
                       | refine (seal_any _ _ _).mono ?_
                       | refine (refSeal_any _ _ _).mono ?_
                       | refine (awake_any _).mono ?_)
                    rintro e w' ⟨rfl, hw⟩
                    exact ⟨rfl, St.call (by assumption) hw⟩)))
       try simp only [Act.put, List.setIfInBounds_toArray, List.set])
      (first
         | (apply head_skip rfl)
         | (apply head_step_g rfl
            focus
              intro w0 hC
              (exact eql_quiet 23 rfl rfl rfl Try.eqGuardType23 Try.underlying23 (by simp [go_sem]) (by simp [go_sem]) (by first | assumption | rfl)))
         | (apply head_step_g rfl
            focus
              intro w0 hC
              have hC' := Lib.hid hC
              obtain ⟨⟨r1, f1, i1, b1, l1⟩, ⟨r2, f2, i2, b2, l2⟩, ⟨r3, f3, i3, b3, l3⟩, m12, m21, m13, m31, m23, m32⟩ := St.facts3 hC
              clear hC
              go_simp
              have hC := hC'.out
              (first
                 | with_reducible rfl
                 | (skip
                    (first
                       | refine (own_any _ _).mono ?_
                       | refine (seal_any _ _ _).mono ?_
                       | refine (refSeal_any _ _ _).mono ?_
                       | refine (awake_any _).mono ?_)
                    rintro e w' ⟨rfl, hw⟩
                    exact ⟨rfl, St.call (by assumption) hw⟩)))
       try simp only [Act.put, List.setIfInBounds_toArray, List.set])
      (first
         | (apply head_skip rfl)
         | (apply head_step_g rfl
            focus
              intro w0 hC
              (exact eql_quiet 23 rfl rfl rfl Try.eqGuardType23 Try.underlying23 (by simp [go_sem]) (by simp [go_sem]) (by first | assumption | rfl)))
         | (apply head_step_g rfl
            focus
              intro w0 hC
              have hC' := Lib.hid hC
              obtain ⟨⟨r1, f1, i1, b1, l1⟩, ⟨r2, f2, i2, b2, l2⟩, ⟨r3, f3, i3, b3, l3⟩, m12, m21, m13, m31, m23, m32⟩ := St.facts3 hC
              clear hC
              go_simp
              have hC := hC'.out
              (first
                 | with_reducible rfl
                 | (skip
                    (first
                       | refine (own_any _ _).mono ?_
                       | refine (seal_any _ _ _).mono ?_
                       | refine (refSeal_any _ _ _).mono ?_
                       | refine (awake_any _).mono ?_)
                    rintro e w' ⟨rfl, hw⟩
                    exact ⟨rfl, St.call (by assumption) hw⟩)))
       try simp only [Act.put, List.setIfInBounds_toArray, List.set])
      (first
         | (apply head_skip rfl)
         | (apply head_step_g rfl
            focus
              intro w0 hC
              (exact eql_quiet 23 rfl rfl rfl Try.eqGuardType23 Try.underlying23 (by simp [go_sem]) (by simp [go_sem]) (by first | assumption | rfl)))
         | (apply head_step_g rfl
            focus
              intro w0 hC
              have hC' := Lib.hid hC
              obtain ⟨⟨r1, f1, i1, b1, l1⟩, ⟨r2, f2, i2, b2, l2⟩, ⟨r3, f3, i3, b3, l3⟩, m12, m21, m13, m31, m23, m32⟩ := St.facts3 hC
              clear hC
              go_simp
              have hC := hC'.out
              (first
                 | with_reducible rfl
                 | (skip
                    (first
                       | refine (own_any _ _).mono ?_
                       | refine (seal_any _ _ _).mono ?_
                       | refine (refSeal_any _ _ _).mono ?_
                       | refine (awake_any _).mono ?_)
                    rintro e w' ⟨rfl, hw⟩
                    exact ⟨rfl, St.call (by assumption) hw⟩)))
       try simp only [Act.put, List.setIfInBounds_toArray, List.set])
      (first
         | (apply head_skip rfl)
         | (apply head_step_g rfl
            focus
              intro w0 hC
              (exact eql_quiet 23 rfl rfl rfl Try.eqGuardType23 Try.underlying23 (by simp [go_sem]) (by simp [go_sem]) (by first | assumption | rfl)))
         | (apply head_step_g rfl
            focus
              intro w0 hC
              have hC' := Lib.hid hC
              obtain ⟨⟨r1, f1, i1, b1, l1⟩, ⟨r2, f2, i2, b2, l2⟩, ⟨r3, f3, i3, b3, l3⟩, m12, m21, m13, m31, m23, m32⟩ := St.facts3 hC
              clear hC
              go_simp
              have hC := hC'.out
              (first
                 | with_reducible rfl
                 | (skip
                    (first
                       | refine (own_any _ _).mono ?_
                       | refine (seal_any _ _ _).mono ?_
                       | refine (refSeal_any _ _ _).mono ?_
                       | refine (awake_any _).mono ?_)
                    rintro e w' ⟨rfl, hw⟩
                    exact ⟨rfl, St.call (by assumption) hw⟩)))
       try simp only [Act.put, List.setIfInBounds_toArray, List.set])
      (first
         | (apply head_skip rfl)
         | (apply head_step_g rfl
            focus
              intro w0 hC
              (exact eql_quiet 23 rfl rfl rfl Try.eqGuardType23 Try.underlying23 (by simp [go_sem]) (by simp [go_sem]) (by first | assumption | rfl)))
         | (apply head_step_g rfl
            focus
              intro w0 hC
              have hC' := Lib.hid hC
              obtain ⟨⟨r1, f1, i1, b1, l1⟩, ⟨r2, f2, i2, b2, l2⟩, ⟨r3, f3, i3, b3, l3⟩, m12, m21, m13, m31, m23, m32⟩ := St.facts3 hC
              clear hC
              go_simp
              have hC := hC'.out
              (first
                 | with_reducible rfl
                 | (skip
                    (first
                       | refine (own_any _ _).mono ?_
                       | refine (seal_any _ _ _).mono ?_
                       | refine (refSeal_any _ _ _).mono ?_
                       | refine (awake_any _).mono ?_)
                    rintro e w' ⟨rfl, hw⟩
                    exact ⟨rfl, St.call (by assumption) hw⟩)))
       try simp only [Act.put, List.setIfInBounds_toArray, List.set])
      (first
         | (apply head_skip rfl)
         | (apply head_step_g rfl
            focus
              intro w0 hC
              (exact eql_quiet 23 rfl rfl rfl Try.eqGuardType23 Try.underlying23 (by simp [go_sem]) (by simp [go_sem]) (by first | assumption | rfl)))
         | (apply head_step_g rfl
            focus
              intro w0 hC
              have hC' := Lib.hid hC
              obtain ⟨⟨r1, f1, i1, b1, l1⟩, ⟨r2, f2, i2, b2, l2⟩, ⟨r3, f3, i3, b3, l3⟩, m12, m21, m13, m31, m23, m32⟩ := St.facts3 hC
              clear hC
              go_simp
              have hC := hC'.out
              (first
                 | with_reducible rfl
                 | (skip
                    (first
                       | refine (own_any _ _).mono ?_
                       | refine (seal_any _ _ _).mono ?_
                       | refine (refSeal_any _ _ _).mono ?_
                       | refine (awake_any _).mono ?_)
                    rintro e w' ⟨rfl, hw⟩
                    exact ⟨rfl, St.call (by assumption) hw⟩)))
       try simp only [Act.put, List.setIfInBounds_toArray, List.set])
      (first
         | (apply head_skip rfl)
         | (apply head_step_g rfl
            focus
              intro w0 hC
              (exact eql_quiet 23 rfl rfl rfl Try.eqGuardType23 Try.underlying23 (by simp [go_sem]) (by simp [go_sem]) (by first | assumption | rfl)))
         | (apply head_step_g rfl
            focus
              intro w0 hC
              have hC' := Lib.hid hC
              obtain ⟨⟨r1, f1, i1, b1, l1⟩, ⟨r2, f2, i2, b2, l2⟩, ⟨r3, f3, i3, b3, l3⟩, m12, m21, m13, m31, m23, m32⟩ := St.facts3 hC
              clear hC
              go_simp
              have hC := hC'.out
              (first
                 | with_reducible rfl
                 | (skip
                    (first
                       | refine (own_any _ _).mono ?_
                       | refine (seal_any _ _ _).mono ?_
                       | refine (refSeal_any _ _ _).mono ?_
                       | refine (awake_any _).mono ?_)
                    rintro e w' ⟨rfl, hw⟩
                    exact ⟨rfl, St.call (by assumption) hw⟩)))
       try simp only [Act.put, List.setIfInBounds_toArray, List.set])
      (first
         | (apply head_skip rfl)
         | (apply head_step_g rfl
            focus
              intro w0 hC
              (exact eql_quiet 23 rfl rfl rfl Try.eqGuardType23 Try.underlying23 (by simp [go_sem]) (by simp [go_sem]) (by first | assumption | rfl)))
         | (apply head_step_g rfl
            focus
              intro w0 hC
              have hC' := Lib.hid hC
              obtain ⟨⟨r1, f1, i1, b1, l1⟩, ⟨r2, f2, i2, b2, l2⟩, ⟨r3, f3, i3, b3, l3⟩, m12, m21, m13, m31, m23, m32⟩ := St.facts3 hC
              clear hC
              go_simp
              have hC := hC'.out
              (first
                 | with_reducible rfl
                 | (skip
                    (first
                       | refine (own_any _ _).mono ?_
                       | refine (seal_any _ _ _).mono ?_
                       | refine (refSeal_any _ _ _).mono ?_
                       | refine (awake_any _).mono ?_)
                    rintro e w' ⟨rfl, hw⟩
                    exact ⟨rfl, St.call (by assumption) hw⟩)))
       try simp only [Act.put, List.setIfInBounds_toArray, List.set])
      (first
         | (apply head_skip rfl)
         | (apply head_step_g rfl
            focus
              intro w0 hC
              (exact eql_quiet 23 rfl rfl rfl Try.eqGuardType23 Try.underlying23 (by simp [go_sem]) (by simp [go_sem]) (by first | assumption | rfl)))
         | (apply head_step_g rfl
            focus
              intro w0 hC
              have hC' := Lib.hid hC
              obtain ⟨⟨r1, f1, i1, b1, l1⟩, ⟨r2, f2, i2, b2, l2⟩, ⟨r3, f3, i3, b3, l3⟩, m12, m21, m13, m31, m23, m32⟩ := St.facts3 hC
              clear hC
              go_simp
              have hC := hC'.out
              (first
                 | with_reducible rfl
                 | (skip
                    (first
                       | refine (own_any _ _).mono ?_
                       | refine (seal_any _ _ _).mono ?_
                       | refine (refSeal_any _ _ _).mono ?_
                       | refine (awake_any _).mono ?_)
                    rintro e w' ⟨rfl, hw⟩
                    exact ⟨rfl, St.call (by assumption) hw⟩)))
       try simp only [Act.put, List.setIfInBounds_toArray, List.set])
      (first
         | (apply head_skip rfl)
         | (apply head_step_g rfl
            focus
              intro w0 hC
              (exact eql_quiet 23 rfl rfl rfl Try.eqGuardType23 Try.underlying23 (by simp [go_sem]) (by simp [go_sem]) (by first | assumption | rfl)))
         | (apply head_step_g rfl
            focus
              intro w0 hC
              have hC' := Lib.hid hC
              obtain ⟨⟨r1, f1, i1, b1, l1⟩, ⟨r2, f2, i2, b2, l2⟩, ⟨r3, f3, i3, b3, l3⟩, m12, m21, m13, m31, m23, m32⟩ := St.facts3 hC
              clear hC
              go_simp
              have hC := hC'.out
              (first
                 | with_reducible rfl
                 | (skip
                    (first
                       | refine (own_any _ _).mono ?_
                       | refine (seal_any _ _ _).mono ?_
                       | refine (refSeal_any _ _ _).mono ?_
                       | refine (awake_any _).mono ?_)
                    rintro e w' ⟨rfl, hw⟩
                    exact ⟨rfl, St.call (by assumption) hw⟩)))
       try simp only [Act.put, List.setIfInBounds_toArray, List.set])
      (first
         | (apply head_skip rfl)
         | (apply head_step_g rfl
            focus
              intro w0 hC
              (exact eql_quiet 23 rfl rfl rfl Try.eqGuardType23 Try.underlying23 (by simp [go_sem]) (by simp [go_sem]) (by first | assumption | rfl)))
         | (apply head_step_g rfl
            focus
              intro w0 hC
              have hC' := Lib.hid hC
              obtain ⟨⟨r1, f1, i1, b1, l1⟩, ⟨r2, f2, i2, b2, l2⟩, ⟨r3, f3, i3, b3, l3⟩, m12, m21, m13, m31, m23, m32⟩ := St.facts3 hC
              clear hC
              go_simp
              have hC := hC'.out
              (first
                 | with_reducible rfl
                 | (skip
                    (first
                       | refine (own_any _ _).mono ?_
                       | refine (seal_any _ _ _).mono ?_
                       | refine (refSeal_any _ _ _).mono ?_
                       | refine (awake_any _).mono ?_)
                    rintro e w' ⟨rfl, hw⟩
                    exact ⟨rfl, St.call (by assumption) hw⟩)))
       try simp only [Act.put, List.setIfInBounds_toArray, List.set])
      refine wpQuiet_nil ?_
      intro w6 hC
      go_wp2_with fail
      go_ret
      exact ⟨rfl, hC.below⟩
    · have t2 : (((s.size : Int)) != 16) = true := by simp; omega
      go_enter Try.func9, Try.ntmps9
      go_wp2_with fail
      refine (of_short s h16 _).mono ?_; rintro e w5 ⟨rfl, hw⟩
      have HC := Lib.hid (HC.out.call hw)
      clear hw
      have sos := HC.out.os
      go_wp2_with fail
      refine (awake_any _).mono ?_; rintro e w6 ⟨rfl, hw⟩
      have HC := Lib.hid ((HC.out.skip _).call hw)
      clear hw
      have sos := HC.out.os
      go_wp2_with fail
      go_ret
      exact ⟨rfl, HC.out.below⟩
end Go.Proofs.Ytepooocdpifcfaa
