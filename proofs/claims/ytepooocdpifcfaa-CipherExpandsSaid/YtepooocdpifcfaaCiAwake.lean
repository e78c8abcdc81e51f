/- padlocklaw07.awake returns true. -/
import Derived.Test.YtepooocdpifcfaaCiRef3
import Derived.Test.YtepooocdpifcfaaCiLit
import Derived.Test.YtepooocdpifcfaaSt
namespace Go.Proofs.Ytepooocdpifcfaa
open Go.RowKit
attribute [local go_sem] B_xor B_or B_and
attribute [local go_sem] blk_set blk_size blk_get blk_getE upd_same oneCells_blk paste_blk cut_blk szOf
attribute [local go_sem high] paste_all cut_head
attribute [local go_sem] rowAt_alloc rowAt_drew rowAt_drewN isRow_alloc isRow_drew isRow_drewN freeRow_alloc freeRow_drew freeRow_drewN
attribute [local go_sem] setRow_alloc setRow_drew setRow_drewN setCell_drewN alloc_drewN rowAt_setRow isRow_setRow freeRow_setRow
attribute [local go_sem ↓] loadS_in storeS_in indexS_in copyS_in
attribute [local go_sem] loadS_row loadS_one storeS_row storeS_one indexS_blk copyS_rows run_equalIn_blk same_refl arrayAt_row
attribute [local go_sem] cell_row frozen_row st_setCell st_blk_ne stepAt stepUpon
attribute [local go_sem high] run_eql_blk run_neq_blk

theorem testKey_B (k : Nat) (h : k < 16) : B (Ci.testKey k) = (k : Int) := by
  have : ∀ k < 16, B (Ci.testKey k) = (k : Int) := by decide
  exact this k h
theorem testBlock_B (k : Nat) (h : k < 16) : B (Ci.testBlock k) = 17 * (k : Int) := by
  have : ∀ k < 16, B (Ci.testBlock k) = 17 * (k : Int) := by decide
  exact this k h

def digits : ByteArray := { data := #[48, 49, 50, 51, 52, 53, 54, 55, 56, 57, 97, 98, 99, 100, 101, 102] }

set_option maxRecDepth 100000 in
set_option maxHeartbeats 1000000 in
theorem awake_any (w : World) : Calls Try.prog 32 #[] w fun e w' => e = .returned (.bool true) ∧ Below w.heap.size w w' := by
  have hz := zero16
  go_enter Try.func32, Try.ntmps32
  go_wp2_with fail
  go_loopw [3] (fun i wr => ∃ k : Nat, k ≤ 16 ∧ i = .int .i64 (k : Int) ∧ wr = (w.alloc (.cells (blk 16 (upTo (fun _ => 0) Ci.testKey k)) 23)).alloc (.cells (blk 16 (upTo (fun _ => 0) Ci.testBlock k)) 23)) (fun i _ => 16 - (intOf i).toNat)
  case atStart => exact ⟨0, by omega, rfl, by rw [upTo_zero, upTo_zero]⟩
  case round =>
    obtain ⟨k, hk, rfl, rfl⟩ := hrel
    by_cases hlt : k < 16
    · have h1 := testKey_B k hlt
      have h2 := testBlock_B k hlt
      have v1 : IntKind.i64.wrap (17 * (k : Int)) = 17 * (k : Int) := IntWalk.i64_in _ (by omega)
      have v2 : IntKind.u8.wrap (17 * (k : Int)) = 17 * (k : Int) := by simp [IntKind.wrap, IntKind.bits, IntKind.signed]; omega
      have v3 : IntKind.u8.wrap (k : Int) = (k : Int) := by simp [IntKind.wrap, IntKind.bits]; omega
      have e1 : (blk 16 (upTo (fun _ => 0) Ci.testKey k)).setIfInBounds k (.int .u8 (k : Int)) = blk 16 (upTo (fun _ => 0) Ci.testKey (k + 1)) := by rw [← testKey_B k hlt, blk_set, upTo_next]
      have e2 : (blk 16 (upTo (fun _ => 0) Ci.testBlock k)).setIfInBounds k (.int .u8 (17 * (k : Int))) = blk 16 (upTo (fun _ => 0) Ci.testBlock (k + 1)) := by rw [← testBlock_B k hlt, blk_set, upTo_next]
      clear h1 h2
      go_wp2_with fail
      exact ⟨⟨k + 1, by omega, by go_num, rfl⟩, by simp [intOf]; omega⟩
    · obtain rfl : k = 16 := by omega
      rw [upTo_all, upTo_all]
      go_wp2_with fail
      refine St.region_float (w0 := w) (L := [(w.heap.size + 1, blk 16 Ci.testBlock), (w.heap.size, blk 16 Ci.testKey)]) 4 4 (blk 16 fun _ => 0) 23 ?_ _ (by kernel_rfl) (by kernel_rfl) rfl (fun w a => by simp [go_sem, ptrTo, hz]) ?_
      · exact ((St.nil w).pushA _ _ rfl).pushA _ _ (by simp)
      (simp only [List.take, List.drop])
      (apply walkB_step
       focus
         intro w0 hC
         have hC' := Lib.hid hC
         obtain ⟨⟨r1, f1, i1, b1, l1⟩, ⟨r2, f2, i2, b2, l2⟩, m12, m21⟩ := St.facts2 hC
         clear hC
         go_simp
         (first
            | with_reducible rfl
            | exact expand_any _ _
            | exact seal_any _ _ _
            | exact open_any _ _ _)
       try simp only [Act.put, List.setIfInBounds_toArray, List.set])
      (apply walkB_step
       focus
         intro w0 hC
         have hC' := Lib.hid hC
         obtain ⟨⟨r1, f1, i1, b1, l1⟩, ⟨r2, f2, i2, b2, l2⟩, m12, m21⟩ := St.facts2 hC
         clear hC
         go_simp
         (first
            | with_reducible rfl
            | exact expand_any _ _
            | exact seal_any _ _ _
            | exact open_any _ _ _)
       try simp only [Act.put, List.setIfInBounds_toArray, List.set])
      (apply walkB_step
       focus
         intro w0 hC
         have hC' := Lib.hid hC
         obtain ⟨⟨r1, f1, i1, b1, l1⟩, ⟨r2, f2, i2, b2, l2⟩, m12, m21⟩ := St.facts2 hC
         clear hC
         go_simp
         (first
            | with_reducible rfl
            | exact expand_any _ _
            | exact seal_any _ _ _
            | exact open_any _ _ _)
       try simp only [Act.put, List.setIfInBounds_toArray, List.set])
      (apply walkB_step
       focus
         intro w0 hC
         have hC' := Lib.hid hC
         obtain ⟨⟨r1, f1, i1, b1, l1⟩, ⟨r2, f2, i2, b2, l2⟩, m12, m21⟩ := St.facts2 hC
         clear hC
         go_simp
         (first
            | with_reducible rfl
            | exact expand_any _ _
            | exact seal_any _ _ _
            | exact open_any _ _ _)
       try simp only [Act.put, List.setIfInBounds_toArray, List.set])
      refine walkB_nil ?_
      intro w1 g hC
      unfold ptrTo
      (have HC := Lib.hid hC
       have sos := hC.below.os
       obtain ⟨⟨r1, f1, i1, b1, l1⟩, ⟨r2, f2, i2, b2, l2⟩, ⟨r3, f3, i3, b3, l3⟩, m12, m21, m13, m31, m23, m32⟩ := St.facts3 hC
       clear hC)
      go_wp2_with fail
      have HC := Lib.hid (HC.out.set_head (blk 16 (Ci.sealB (Ci.rounds Ci.testKey) Ci.testBlock)))
      generalize w1.setRow g (blk 16 (Ci.sealB (Ci.rounds Ci.testKey) Ci.testBlock)) = w3 at HC ⊢
      clear r1 f1 i1 b1 l1 r2 f2 i2 b2 l2 r3 f3 i3 b3 l3 m12 m21 m13 m31 m23 m32 sos
      refine (of_short _ (by decide) _).mono ?_; rintro e w4 ⟨rfl, hw⟩
      have HC := Lib.hid (HC.out.call hw)
      have sos := HC.out.os
      clear hw
      go_wp2_with fail
      refine (of_any _ (by decide) _).mono ?_; rintro e w5 ⟨rfl, hw⟩
      have HC := Lib.hid ((HC.out.skip (.cells (blk 16 fun _ => 0) 23)).call hw)
      have HC := Lib.hid (HC.out.push (blk 16 (ofText digits)) 23)
      have hdg : ({ data := #[48, 49, 50, 51, 52, 53, 54, 55, 56, 57, 97, 98, 99, 100, 101, 102] } : ByteArray) = digits := rfl
      rw [hdg]
      clear hw sos hdg
      go_wp2_with fail
      have k0 : B (Ci.sealB (Ci.rounds Ci.testKey) Ci.testBlock 0) = 105 := by rw [Ci.test_seal 0 (by decide)]; rfl
      have k1 : B (Ci.sealB (Ci.rounds Ci.testKey) Ci.testBlock 15) = 90 := by rw [Ci.test_seal 15 (by decide)]; rfl
      have k2 : B (ofText digits 10) = 97 := rfl
      have k3 : same 16 (Ci.openB (Ci.rounds Ci.testKey) (Ci.sealB (Ci.rounds Ci.testKey) Ci.testBlock)) Ci.testBlock = true := (same_iff _ _ _).2 (Ci.open_seal _ _)
      generalize Ci.testBlock = tb at k0 k1 k3 HC ⊢
      generalize Ci.testKey = tk at k0 k1 k3 HC ⊢
      refine St.region HC.out (by kernel_rfl) (by kernel_rfl) ?_
      (first
         | (apply head_skip rfl)
         | (apply head_step_g rfl
            focus
              intro w0 hC
              (fail))
         | (apply head_step_g rfl
            focus
              intro w0 hC
              have hC' := Lib.hid hC
              obtain ⟨⟨r1, f1, i1, b1, l1⟩, ⟨r2, f2, i2, b2, l2⟩, ⟨r3, f3, i3, b3, l3⟩, ⟨r4, f4, i4, b4, l4⟩, m12, m21, m13, m31, m14, m41, m23, m32, m24, m42, m34, m43⟩ := St.facts4 hC
              clear hC
              go_simp
              have hC := hC'.out
              (first
                 | with_reducible rfl
                 | (skip
                    (first
                       | (go_at_call 25; refine (expand_any _ _).mono ?_)
                       | (go_at_call 36; refine (open_any _ _ _).mono ?_))
                    rintro e w' ⟨rfl, hw⟩
                    exact ⟨rfl, St.call (by assumption) hw⟩)))
       try simp only [Act.put, List.setIfInBounds_toArray, List.set])
      (first
         | (apply head_skip rfl)
         | (apply head_step_g rfl
            focus
              intro w0 hC
              (fail))
         | (apply head_step_g rfl
            focus
              intro w0 hC
              have hC' := Lib.hid hC
              obtain ⟨⟨r1, f1, i1, b1, l1⟩, ⟨r2, f2, i2, b2, l2⟩, ⟨r3, f3, i3, b3, l3⟩, ⟨r4, f4, i4, b4, l4⟩, m12, m21, m13, m31, m14, m41, m23, m32, m24, m42, m34, m43⟩ := St.facts4 hC
              clear hC
              go_simp
              have hC := hC'.out
              (first
                 | with_reducible rfl
                 | (skip
                    (first
                       | (go_at_call 25; refine (expand_any _ _).mono ?_)
                       | (go_at_call 36; refine (open_any _ _ _).mono ?_))
                    rintro e w' ⟨rfl, hw⟩
                    exact ⟨rfl, St.call (by assumption) hw⟩)))
       try simp only [Act.put, List.setIfInBounds_toArray, List.set])
      (first
         | (apply head_skip rfl)
         | (apply head_step_g rfl
            focus
              intro w0 hC
              (fail))
         | (apply head_step_g rfl
            focus
              intro w0 hC
              have hC' := Lib.hid hC
              obtain ⟨⟨r1, f1, i1, b1, l1⟩, ⟨r2, f2, i2, b2, l2⟩, ⟨r3, f3, i3, b3, l3⟩, ⟨r4, f4, i4, b4, l4⟩, m12, m21, m13, m31, m14, m41, m23, m32, m24, m42, m34, m43⟩ := St.facts4 hC
              clear hC
              go_simp
              have hC := hC'.out
              (first
                 | with_reducible rfl
                 | (skip
                    (first
                       | (go_at_call 25; refine (expand_any _ _).mono ?_)
                       | (go_at_call 36; refine (open_any _ _ _).mono ?_))
                    rintro e w' ⟨rfl, hw⟩
                    exact ⟨rfl, St.call (by assumption) hw⟩)))
       try simp only [Act.put, List.setIfInBounds_toArray, List.set])
      (first
         | (apply head_skip rfl)
         | (apply head_step_g rfl
            focus
              intro w0 hC
              (fail))
         | (apply head_step_g rfl
            focus
              intro w0 hC
              have hC' := Lib.hid hC
              obtain ⟨⟨r1, f1, i1, b1, l1⟩, ⟨r2, f2, i2, b2, l2⟩, ⟨r3, f3, i3, b3, l3⟩, ⟨r4, f4, i4, b4, l4⟩, m12, m21, m13, m31, m14, m41, m23, m32, m24, m42, m34, m43⟩ := St.facts4 hC
              clear hC
              go_simp
              have hC := hC'.out
              (first
                 | with_reducible rfl
                 | (skip
                    (first
                       | (go_at_call 25; refine (expand_any _ _).mono ?_)
                       | (go_at_call 36; refine (open_any _ _ _).mono ?_))
                    rintro e w' ⟨rfl, hw⟩
                    exact ⟨rfl, St.call (by assumption) hw⟩)))
       try simp only [Act.put, List.setIfInBounds_toArray, List.set])
      (first
         | (apply head_skip rfl)
         | (apply head_step_g rfl
            focus
              intro w0 hC
              (fail))
         | (apply head_step_g rfl
            focus
              intro w0 hC
              have hC' := Lib.hid hC
              obtain ⟨⟨r1, f1, i1, b1, l1⟩, ⟨r2, f2, i2, b2, l2⟩, ⟨r3, f3, i3, b3, l3⟩, ⟨r4, f4, i4, b4, l4⟩, m12, m21, m13, m31, m14, m41, m23, m32, m24, m42, m34, m43⟩ := St.facts4 hC
              clear hC
              go_simp
              have hC := hC'.out
              (first
                 | with_reducible rfl
                 | (skip
                    (first
                       | (go_at_call 25; refine (expand_any _ _).mono ?_)
                       | (go_at_call 36; refine (open_any _ _ _).mono ?_))
                    rintro e w' ⟨rfl, hw⟩
                    exact ⟨rfl, St.call (by assumption) hw⟩)))
       try simp only [Act.put, List.setIfInBounds_toArray, List.set])
      (first
         | (apply head_skip rfl)
         | (apply head_step_g rfl
            focus
              intro w0 hC
              (fail))
         | (apply head_step_g rfl
            focus
              intro w0 hC
              have hC' := Lib.hid hC
              obtain ⟨⟨r1, f1, i1, b1, l1⟩, ⟨r2, f2, i2, b2, l2⟩, ⟨r3, f3, i3, b3, l3⟩, ⟨r4, f4, i4, b4, l4⟩, m12, m21, m13, m31, m14, m41, m23, m32, m24, m42, m34, m43⟩ := St.facts4 hC
              clear hC
              go_simp
              have hC := hC'.out
              (first
                 | with_reducible rfl
                 | (skip
                    (first
                       | (go_at_call 25; refine (expand_any _ _).mono ?_)
                       | (go_at_call 36; refine (open_any _ _ _).mono ?_))
                    rintro e w' ⟨rfl, hw⟩
                    exact ⟨rfl, St.call (by assumption) hw⟩)))
       try simp only [Act.put, List.setIfInBounds_toArray, List.set])
      (first
         | (apply head_skip rfl)
         | (apply head_step_g rfl
            focus
              intro w0 hC
              (fail))
         | (apply head_step_g rfl
            focus
              intro w0 hC
              have hC' := Lib.hid hC
              obtain ⟨⟨r1, f1, i1, b1, l1⟩, ⟨r2, f2, i2, b2, l2⟩, ⟨r3, f3, i3, b3, l3⟩, ⟨r4, f4, i4, b4, l4⟩, m12, m21, m13, m31, m14, m41, m23, m32, m24, m42, m34, m43⟩ := St.facts4 hC
              clear hC
              go_simp
              have hC := hC'.out
              (first
                 | with_reducible rfl
                 | (skip
                    (first
                       | (go_at_call 25; refine (expand_any _ _).mono ?_)
                       | (go_at_call 36; refine (open_any _ _ _).mono ?_))
                    rintro e w' ⟨rfl, hw⟩
                    exact ⟨rfl, St.call (by assumption) hw⟩)))
       try simp only [Act.put, List.setIfInBounds_toArray, List.set])
      (first
         | (apply head_skip rfl)
         | (apply head_step_g rfl
            focus
              intro w0 hC
              (fail))
         | (apply head_step_g rfl
            focus
              intro w0 hC
              have hC' := Lib.hid hC
              obtain ⟨⟨r1, f1, i1, b1, l1⟩, ⟨r2, f2, i2, b2, l2⟩, ⟨r3, f3, i3, b3, l3⟩, ⟨r4, f4, i4, b4, l4⟩, m12, m21, m13, m31, m14, m41, m23, m32, m24, m42, m34, m43⟩ := St.facts4 hC
              clear hC
              go_simp
              have hC := hC'.out
              (first
                 | with_reducible rfl
                 | (skip
                    (first
                       | (go_at_call 25; refine (expand_any _ _).mono ?_)
                       | (go_at_call 36; refine (open_any _ _ _).mono ?_))
                    rintro e w' ⟨rfl, hw⟩
                    exact ⟨rfl, St.call (by assumption) hw⟩)))
       try simp only [Act.put, List.setIfInBounds_toArray, List.set])
      (first
         | (apply head_skip rfl)
         | (apply head_step_g rfl
            focus
              intro w0 hC
              (fail))
         | (apply head_step_g rfl
            focus
              intro w0 hC
              have hC' := Lib.hid hC
              obtain ⟨⟨r1, f1, i1, b1, l1⟩, ⟨r2, f2, i2, b2, l2⟩, ⟨r3, f3, i3, b3, l3⟩, ⟨r4, f4, i4, b4, l4⟩, m12, m21, m13, m31, m14, m41, m23, m32, m24, m42, m34, m43⟩ := St.facts4 hC
              clear hC
              go_simp
              have hC := hC'.out
              (first
                 | with_reducible rfl
                 | (skip
                    (first
                       | (go_at_call 25; refine (expand_any _ _).mono ?_)
                       | (go_at_call 36; refine (open_any _ _ _).mono ?_))
                    rintro e w' ⟨rfl, hw⟩
                    exact ⟨rfl, St.call (by assumption) hw⟩)))
       try simp only [Act.put, List.setIfInBounds_toArray, List.set])
      (first
         | (apply head_skip rfl)
         | (apply head_step_g rfl
            focus
              intro w0 hC
              (fail))
         | (apply head_step_g rfl
            focus
              intro w0 hC
              have hC' := Lib.hid hC
              obtain ⟨⟨r1, f1, i1, b1, l1⟩, ⟨r2, f2, i2, b2, l2⟩, ⟨r3, f3, i3, b3, l3⟩, ⟨r4, f4, i4, b4, l4⟩, m12, m21, m13, m31, m14, m41, m23, m32, m24, m42, m34, m43⟩ := St.facts4 hC
              clear hC
              go_simp
              have hC := hC'.out
              (first
                 | with_reducible rfl
                 | (skip
                    (first
                       | (go_at_call 25; refine (expand_any _ _).mono ?_)
                       | (go_at_call 36; refine (open_any _ _ _).mono ?_))
                    rintro e w' ⟨rfl, hw⟩
                    exact ⟨rfl, St.call (by assumption) hw⟩)))
       try simp only [Act.put, List.setIfInBounds_toArray, List.set])
      (first
         | (apply head_skip rfl)
         | (apply head_step_g rfl
            focus
              intro w0 hC
              (fail))
         | (apply head_step_g rfl
            focus
              intro w0 hC
              have hC' := Lib.hid hC
              obtain ⟨⟨r1, f1, i1, b1, l1⟩, ⟨r2, f2, i2, b2, l2⟩, ⟨r3, f3, i3, b3, l3⟩, ⟨r4, f4, i4, b4, l4⟩, m12, m21, m13, m31, m14, m41, m23, m32, m24, m42, m34, m43⟩ := St.facts4 hC
              clear hC
              go_simp
              have hC := hC'.out
              (first
                 | with_reducible rfl
                 | (skip
                    (first
                       | (go_at_call 25; refine (expand_any _ _).mono ?_)
                       | (go_at_call 36; refine (open_any _ _ _).mono ?_))
                    rintro e w' ⟨rfl, hw⟩
                    exact ⟨rfl, St.call (by assumption) hw⟩)))
       try simp only [Act.put, List.setIfInBounds_toArray, List.set])
      (first
         | (apply head_skip rfl)
         | (apply head_step_g rfl
            focus
              intro w0 hC
              (fail))
         | (apply head_step_g rfl
            focus
              intro w0 hC
              have hC' := Lib.hid hC
              obtain ⟨⟨r1, f1, i1, b1, l1⟩, ⟨r2, f2, i2, b2, l2⟩, ⟨r3, f3, i3, b3, l3⟩, ⟨r4, f4, i4, b4, l4⟩, m12, m21, m13, m31, m14, m41, m23, m32, m24, m42, m34, m43⟩ := St.facts4 hC
              clear hC
              go_simp
              have hC := hC'.out
              (first
                 | with_reducible rfl
                 | (skip
                    (first
                       | (go_at_call 25; refine (expand_any _ _).mono ?_)
                       | (go_at_call 36; refine (open_any _ _ _).mono ?_))
                    rintro e w' ⟨rfl, hw⟩
                    exact ⟨rfl, St.call (by assumption) hw⟩)))
       try simp only [Act.put, List.setIfInBounds_toArray, List.set])
      (first
         | (apply head_skip rfl)
         | (apply head_step_g rfl
            focus
              intro w0 hC
              (fail))
         | (apply head_step_g rfl
            focus
              intro w0 hC
              have hC' := Lib.hid hC
              obtain ⟨⟨r1, f1, i1, b1, l1⟩, ⟨r2, f2, i2, b2, l2⟩, ⟨r3, f3, i3, b3, l3⟩, ⟨r4, f4, i4, b4, l4⟩, m12, m21, m13, m31, m14, m41, m23, m32, m24, m42, m34, m43⟩ := St.facts4 hC
              clear hC
              go_simp
              have hC := hC'.out
              (first
                 | with_reducible rfl
                 | (skip
                    (first
                       | (go_at_call 25; refine (expand_any _ _).mono ?_)
                       | (go_at_call 36; refine (open_any _ _ _).mono ?_))
                    rintro e w' ⟨rfl, hw⟩
                    exact ⟨rfl, St.call (by assumption) hw⟩)))
       try simp only [Act.put, List.setIfInBounds_toArray, List.set])
      (first
         | (apply head_skip rfl)
         | (apply head_step_g rfl
            focus
              intro w0 hC
              (fail))
         | (apply head_step_g rfl
            focus
              intro w0 hC
              have hC' := Lib.hid hC
              obtain ⟨⟨r1, f1, i1, b1, l1⟩, ⟨r2, f2, i2, b2, l2⟩, ⟨r3, f3, i3, b3, l3⟩, ⟨r4, f4, i4, b4, l4⟩, m12, m21, m13, m31, m14, m41, m23, m32, m24, m42, m34, m43⟩ := St.facts4 hC
              clear hC
              go_simp
              have hC := hC'.out
              (first
                 | with_reducible rfl
                 | (skip
                    (first
                       | (go_at_call 25; refine (expand_any _ _).mono ?_)
                       | (go_at_call 36; refine (open_any _ _ _).mono ?_))
                    rintro e w' ⟨rfl, hw⟩
                    exact ⟨rfl, St.call (by assumption) hw⟩)))
       try simp only [Act.put, List.setIfInBounds_toArray, List.set])
      (first
         | (apply head_skip rfl)
         | (apply head_step_g rfl
            focus
              intro w0 hC
              (fail))
         | (apply head_step_g rfl
            focus
              intro w0 hC
              have hC' := Lib.hid hC
              obtain ⟨⟨r1, f1, i1, b1, l1⟩, ⟨r2, f2, i2, b2, l2⟩, ⟨r3, f3, i3, b3, l3⟩, ⟨r4, f4, i4, b4, l4⟩, m12, m21, m13, m31, m14, m41, m23, m32, m24, m42, m34, m43⟩ := St.facts4 hC
              clear hC
              go_simp
              have hC := hC'.out
              (first
                 | with_reducible rfl
                 | (skip
                    (first
                       | (go_at_call 25; refine (expand_any _ _).mono ?_)
                       | (go_at_call 36; refine (open_any _ _ _).mono ?_))
                    rintro e w' ⟨rfl, hw⟩
                    exact ⟨rfl, St.call (by assumption) hw⟩)))
       try simp only [Act.put, List.setIfInBounds_toArray, List.set])
      (first
         | (apply head_skip rfl)
         | (apply head_step_g rfl
            focus
              intro w0 hC
              (fail))
         | (apply head_step_g rfl
            focus
              intro w0 hC
              have hC' := Lib.hid hC
              obtain ⟨⟨r1, f1, i1, b1, l1⟩, ⟨r2, f2, i2, b2, l2⟩, ⟨r3, f3, i3, b3, l3⟩, ⟨r4, f4, i4, b4, l4⟩, m12, m21, m13, m31, m14, m41, m23, m32, m24, m42, m34, m43⟩ := St.facts4 hC
              clear hC
              go_simp
              have hC := hC'.out
              (first
                 | with_reducible rfl
                 | (skip
                    (first
                       | (go_at_call 25; refine (expand_any _ _).mono ?_)
                       | (go_at_call 36; refine (open_any _ _ _).mono ?_))
                    rintro e w' ⟨rfl, hw⟩
                    exact ⟨rfl, St.call (by assumption) hw⟩)))
       try simp only [Act.put, List.setIfInBounds_toArray, List.set])
      (first
         | (apply head_skip rfl)
         | (apply head_step_g rfl
            focus
              intro w0 hC
              (fail))
         | (apply head_step_g rfl
            focus
              intro w0 hC
              have hC' := Lib.hid hC
              obtain ⟨⟨r1, f1, i1, b1, l1⟩, ⟨r2, f2, i2, b2, l2⟩, ⟨r3, f3, i3, b3, l3⟩, ⟨r4, f4, i4, b4, l4⟩, m12, m21, m13, m31, m14, m41, m23, m32, m24, m42, m34, m43⟩ := St.facts4 hC
              clear hC
              go_simp
              have hC := hC'.out
              (first
                 | with_reducible rfl
                 | (skip
                    (first
                       | (go_at_call 25; refine (expand_any _ _).mono ?_)
                       | (go_at_call 36; refine (open_any _ _ _).mono ?_))
                    rintro e w' ⟨rfl, hw⟩
                    exact ⟨rfl, St.call (by assumption) hw⟩)))
       try simp only [Act.put, List.setIfInBounds_toArray, List.set])
      (first
         | (apply head_skip rfl)
         | (apply head_step_g rfl
            focus
              intro w0 hC
              (fail))
         | (apply head_step_g rfl
            focus
              intro w0 hC
              have hC' := Lib.hid hC
              obtain ⟨⟨r1, f1, i1, b1, l1⟩, ⟨r2, f2, i2, b2, l2⟩, ⟨r3, f3, i3, b3, l3⟩, ⟨r4, f4, i4, b4, l4⟩, m12, m21, m13, m31, m14, m41, m23, m32, m24, m42, m34, m43⟩ := St.facts4 hC
              clear hC
              go_simp
              have hC := hC'.out
              (first
                 | with_reducible rfl
                 | (skip
                    (first
                       | (go_at_call 25; refine (expand_any _ _).mono ?_)
                       | (go_at_call 36; refine (open_any _ _ _).mono ?_))
                    rintro e w' ⟨rfl, hw⟩
                    exact ⟨rfl, St.call (by assumption) hw⟩)))
       try simp only [Act.put, List.setIfInBounds_toArray, List.set])
      (first
         | (apply head_skip rfl)
         | (apply head_step_g rfl
            focus
              intro w0 hC
              (fail))
         | (apply head_step_g rfl
            focus
              intro w0 hC
              have hC' := Lib.hid hC
              obtain ⟨⟨r1, f1, i1, b1, l1⟩, ⟨r2, f2, i2, b2, l2⟩, ⟨r3, f3, i3, b3, l3⟩, ⟨r4, f4, i4, b4, l4⟩, m12, m21, m13, m31, m14, m41, m23, m32, m24, m42, m34, m43⟩ := St.facts4 hC
              clear hC
              go_simp
              have hC := hC'.out
              (first
                 | with_reducible rfl
                 | (skip
                    (first
                       | (go_at_call 25; refine (expand_any _ _).mono ?_)
                       | (go_at_call 36; refine (open_any _ _ _).mono ?_))
                    rintro e w' ⟨rfl, hw⟩
                    exact ⟨rfl, St.call (by assumption) hw⟩)))
       try simp only [Act.put, List.setIfInBounds_toArray, List.set])
      (first
         | (apply head_skip rfl)
         | (apply head_step_g rfl
            focus
              intro w0 hC
              (fail))
         | (apply head_step_g rfl
            focus
              intro w0 hC
              have hC' := Lib.hid hC
              obtain ⟨⟨r1, f1, i1, b1, l1⟩, ⟨r2, f2, i2, b2, l2⟩, ⟨r3, f3, i3, b3, l3⟩, ⟨r4, f4, i4, b4, l4⟩, m12, m21, m13, m31, m14, m41, m23, m32, m24, m42, m34, m43⟩ := St.facts4 hC
              clear hC
              go_simp
              have hC := hC'.out
              (first
                 | with_reducible rfl
                 | (skip
                    (first
                       | (go_at_call 25; refine (expand_any _ _).mono ?_)
                       | (go_at_call 36; refine (open_any _ _ _).mono ?_))
                    rintro e w' ⟨rfl, hw⟩
                    exact ⟨rfl, St.call (by assumption) hw⟩)))
       try simp only [Act.put, List.setIfInBounds_toArray, List.set])
      (first
         | (apply head_skip rfl)
         | (apply head_step_g rfl
            focus
              intro w0 hC
              (fail))
         | (apply head_step_g rfl
            focus
              intro w0 hC
              have hC' := Lib.hid hC
              obtain ⟨⟨r1, f1, i1, b1, l1⟩, ⟨r2, f2, i2, b2, l2⟩, ⟨r3, f3, i3, b3, l3⟩, ⟨r4, f4, i4, b4, l4⟩, m12, m21, m13, m31, m14, m41, m23, m32, m24, m42, m34, m43⟩ := St.facts4 hC
              clear hC
              go_simp
              have hC := hC'.out
              (first
                 | with_reducible rfl
                 | (skip
                    (first
                       | (go_at_call 25; refine (expand_any _ _).mono ?_)
                       | (go_at_call 36; refine (open_any _ _ _).mono ?_))
                    rintro e w' ⟨rfl, hw⟩
                    exact ⟨rfl, St.call (by assumption) hw⟩)))
       try simp only [Act.put, List.setIfInBounds_toArray, List.set])
      (first
         | (apply head_skip rfl)
         | (apply head_step_g rfl
            focus
              intro w0 hC
              (fail))
         | (apply head_step_g rfl
            focus
              intro w0 hC
              have hC' := Lib.hid hC
              obtain ⟨⟨r1, f1, i1, b1, l1⟩, ⟨r2, f2, i2, b2, l2⟩, ⟨r3, f3, i3, b3, l3⟩, ⟨r4, f4, i4, b4, l4⟩, m12, m21, m13, m31, m14, m41, m23, m32, m24, m42, m34, m43⟩ := St.facts4 hC
              clear hC
              go_simp
              have hC := hC'.out
              (first
                 | with_reducible rfl
                 | (skip
                    (first
                       | (go_at_call 25; refine (expand_any _ _).mono ?_)
                       | (go_at_call 36; refine (open_any _ _ _).mono ?_))
                    rintro e w' ⟨rfl, hw⟩
                    exact ⟨rfl, St.call (by assumption) hw⟩)))
       try simp only [Act.put, List.setIfInBounds_toArray, List.set])
      (first
         | (apply head_skip rfl)
         | (apply head_step_g rfl
            focus
              intro w0 hC
              (fail))
         | (apply head_step_g rfl
            focus
              intro w0 hC
              have hC' := Lib.hid hC
              obtain ⟨⟨r1, f1, i1, b1, l1⟩, ⟨r2, f2, i2, b2, l2⟩, ⟨r3, f3, i3, b3, l3⟩, ⟨r4, f4, i4, b4, l4⟩, m12, m21, m13, m31, m14, m41, m23, m32, m24, m42, m34, m43⟩ := St.facts4 hC
              clear hC
              go_simp
              have hC := hC'.out
              (first
                 | with_reducible rfl
                 | (skip
                    (first
                       | (go_at_call 25; refine (expand_any _ _).mono ?_)
                       | (go_at_call 36; refine (open_any _ _ _).mono ?_))
                    rintro e w' ⟨rfl, hw⟩
                    exact ⟨rfl, St.call (by assumption) hw⟩)))
       try simp only [Act.put, List.setIfInBounds_toArray, List.set])
      (first
         | (apply head_skip rfl)
         | (apply head_step_g rfl
            focus
              intro w0 hC
              (fail))
         | (apply head_step_g rfl
            focus
              intro w0 hC
              have hC' := Lib.hid hC
              obtain ⟨⟨r1, f1, i1, b1, l1⟩, ⟨r2, f2, i2, b2, l2⟩, ⟨r3, f3, i3, b3, l3⟩, ⟨r4, f4, i4, b4, l4⟩, m12, m21, m13, m31, m14, m41, m23, m32, m24, m42, m34, m43⟩ := St.facts4 hC
              clear hC
              go_simp
              have hC := hC'.out
              (first
                 | with_reducible rfl
                 | (skip
                    (first
                       | (go_at_call 25; refine (expand_any _ _).mono ?_)
                       | (go_at_call 36; refine (open_any _ _ _).mono ?_))
                    rintro e w' ⟨rfl, hw⟩
                    exact ⟨rfl, St.call (by assumption) hw⟩)))
       try simp only [Act.put, List.setIfInBounds_toArray, List.set])
      (first
         | (apply head_skip rfl)
         | (apply head_step_g rfl
            focus
              intro w0 hC
              (fail))
         | (apply head_step_g rfl
            focus
              intro w0 hC
              have hC' := Lib.hid hC
              obtain ⟨⟨r1, f1, i1, b1, l1⟩, ⟨r2, f2, i2, b2, l2⟩, ⟨r3, f3, i3, b3, l3⟩, ⟨r4, f4, i4, b4, l4⟩, m12, m21, m13, m31, m14, m41, m23, m32, m24, m42, m34, m43⟩ := St.facts4 hC
              clear hC
              go_simp
              have hC := hC'.out
              (first
                 | with_reducible rfl
                 | (skip
                    (first
                       | (go_at_call 25; refine (expand_any _ _).mono ?_)
                       | (go_at_call 36; refine (open_any _ _ _).mono ?_))
                    rintro e w' ⟨rfl, hw⟩
                    exact ⟨rfl, St.call (by assumption) hw⟩)))
       try simp only [Act.put, List.setIfInBounds_toArray, List.set])
      (first
         | (apply head_skip rfl)
         | (apply head_step_g rfl
            focus
              intro w0 hC
              (fail))
         | (apply head_step_g rfl
            focus
              intro w0 hC
              have hC' := Lib.hid hC
              obtain ⟨⟨r1, f1, i1, b1, l1⟩, ⟨r2, f2, i2, b2, l2⟩, ⟨r3, f3, i3, b3, l3⟩, ⟨r4, f4, i4, b4, l4⟩, m12, m21, m13, m31, m14, m41, m23, m32, m24, m42, m34, m43⟩ := St.facts4 hC
              clear hC
              go_simp
              have hC := hC'.out
              (first
                 | with_reducible rfl
                 | (skip
                    (first
                       | (go_at_call 25; refine (expand_any _ _).mono ?_)
                       | (go_at_call 36; refine (open_any _ _ _).mono ?_))
                    rintro e w' ⟨rfl, hw⟩
                    exact ⟨rfl, St.call (by assumption) hw⟩)))
       try simp only [Act.put, List.setIfInBounds_toArray, List.set])
      (first
         | (apply head_skip rfl)
         | (apply head_step_g rfl
            focus
              intro w0 hC
              (fail))
         | (apply head_step_g rfl
            focus
              intro w0 hC
              have hC' := Lib.hid hC
              obtain ⟨⟨r1, f1, i1, b1, l1⟩, ⟨r2, f2, i2, b2, l2⟩, ⟨r3, f3, i3, b3, l3⟩, ⟨r4, f4, i4, b4, l4⟩, m12, m21, m13, m31, m14, m41, m23, m32, m24, m42, m34, m43⟩ := St.facts4 hC
              clear hC
              go_simp
              have hC := hC'.out
              (first
                 | with_reducible rfl
                 | (skip
                    (first
                       | (go_at_call 25; refine (expand_any _ _).mono ?_)
                       | (go_at_call 36; refine (open_any _ _ _).mono ?_))
                    rintro e w' ⟨rfl, hw⟩
                    exact ⟨rfl, St.call (by assumption) hw⟩)))
       try simp only [Act.put, List.setIfInBounds_toArray, List.set])
      apply head_step_g rfl
      focus
        intro w0 _
        exact eql_quiet 23 rfl rfl rfl Try.eqGuardType23 Try.underlying23 (by simp [go_sem]) (by simp [go_sem]) k3
      try simp only [Act.put, List.setIfInBounds_toArray, List.set]
      (first
         | (apply head_skip rfl)
         | (apply head_step_g rfl
            focus
              intro w0 hC
              (fail))
         | (apply head_step_g rfl
            focus
              intro w0 hC
              have hC' := Lib.hid hC
              obtain ⟨⟨r1, f1, i1, b1, l1⟩, ⟨r2, f2, i2, b2, l2⟩, ⟨r3, f3, i3, b3, l3⟩, ⟨r4, f4, i4, b4, l4⟩, m12, m21, m13, m31, m14, m41, m23, m32, m24, m42, m34, m43⟩ := St.facts4 hC
              clear hC
              go_simp
              have hC := hC'.out
              (first
                 | with_reducible rfl
                 | (skip
                    (first
                       | (go_at_call 25; refine (expand_any _ _).mono ?_)
                       | (go_at_call 36; refine (open_any _ _ _).mono ?_))
                    rintro e w' ⟨rfl, hw⟩
                    exact ⟨rfl, St.call (by assumption) hw⟩)))
       try simp only [Act.put, List.setIfInBounds_toArray, List.set])
      (first
         | (apply head_skip rfl)
         | (apply head_step_g rfl
            focus
              intro w0 hC
              (fail))
         | (apply head_step_g rfl
            focus
              intro w0 hC
              have hC' := Lib.hid hC
              obtain ⟨⟨r1, f1, i1, b1, l1⟩, ⟨r2, f2, i2, b2, l2⟩, ⟨r3, f3, i3, b3, l3⟩, ⟨r4, f4, i4, b4, l4⟩, m12, m21, m13, m31, m14, m41, m23, m32, m24, m42, m34, m43⟩ := St.facts4 hC
              clear hC
              go_simp
              have hC := hC'.out
              (first
                 | with_reducible rfl
                 | (skip
                    (first
                       | (go_at_call 25; refine (expand_any _ _).mono ?_)
                       | (go_at_call 36; refine (open_any _ _ _).mono ?_))
                    rintro e w' ⟨rfl, hw⟩
                    exact ⟨rfl, St.call (by assumption) hw⟩)))
       try simp only [Act.put, List.setIfInBounds_toArray, List.set])
      refine wpQuiet_nil ?_
      intro w6 hC
      go_wp2_with fail
      go_ret
      exact ⟨rfl, hC.below⟩
end Go.Proofs.Ytepooocdpifcfaa
