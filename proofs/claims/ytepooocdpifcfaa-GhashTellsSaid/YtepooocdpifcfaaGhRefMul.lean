/- The reference's product of two blocks. No condition. -/
import Derived.Test.YtepooocdpifcfaaGhRefs
namespace Go.Proofs.Ytepooocdpifcfaa
open Go.RowKit
attribute [local go_sem] B_xor B_or B_and
attribute [local go_sem] blk_set blk_size blk_get blk_getE upd_same oneCells_blk paste_blk cut_blk szOf
attribute [local go_sem high] paste_all cut_head
attribute [local go_sem] rowAt_alloc rowAt_drew rowAt_drewN isRow_alloc isRow_drew isRow_drewN freeRow_alloc freeRow_end freeRow_drew freeRow_drewN
attribute [local go_sem] setRow_alloc setRow_drew setRow_drewN setCell_drewN alloc_drewN rowAt_put isRow_setRow freeRow_put
attribute [local go_sem ↓] loadS_in storeS_in indexS_in copyS_in
attribute [local go_sem] loadS_row loadS_one storeS_row storeS_one indexS_blk copyS_rows run_equalIn_blk same_refl arrayAt_row
attribute [local go_sem] cell_row frozen_row st_setCell st_blk_ne stepAt stepUpon
attribute [local go_sem high] run_eql_blk run_neq_blk
attribute [local go_sem] blkB_size blkB_get blkB_getE blkB_set oneCells_blkB blkB_ne
attribute [local go_sem high] paste_allB cut_headB

theorem flip_def (q : Nat → Bool) (j : Nat) : updB q j (!q j) = flip q j := by simp [flip]
attribute [local go_sem] flip_def
def dn (n : Nat) : Nat := 254 - n
theorem red_yes (p : Nat → Bool) (n : Nat) (h : red p n (dn n) = true) : flip (flip (flip (flip (red p n) (dn n - 128)) (dn n - 127)) (dn n - 126)) (dn n - 121) = red p (n + 1) := by
  show flip4 (red p n) (254 - n) = redOne (red p n) (254 - n)
  unfold redOne
  exact (if_pos h).symm
theorem red_no (p : Nat → Bool) (n : Nat) (h : red p n (dn n) = false) : red p n = red p (n + 1) := by
  show red p n = redOne (red p n) (254 - n)
  unfold redOne
  exact (if_neg (show ¬ red p n (dn n) = true by rw [h]; decide)).symm
set_option maxRecDepth 100000 in
set_option maxHeartbeats 4000000 in
theorem refMul08_any (a b : Nat → UInt8) (w : World) : Calls Try.prog 14 #[.agg (blk 16 a), .agg (blk 16 b)] w fun e w' => e = .returned (.agg (blk 16 (mulB a b))) ∧ Below w.heap.size w w' := by
  have hz := zero16
  have hz1 := zero128
  have hz2 := zero255
  go_enter Try.func14, Try.ntmps14
  go_wp2_with fail
  have HC := Lib.hid ((((St.nil w).pushA (blk 16 a) 22 rfl).pushA (blk 16 b) 22 (g := w.heap.size + 1) (by simp)).pushA (blk 16 fun _ => 0) 22 (g := w.heap.size + 1 + 1) (by simp))
  refine St.region_store2 (w0 := w) 4 5 6 14 16 (blkB 128 fun _ => false) (blkB 128 fun _ => false) (blkB 128 (bitB a)) (blkB 128 (bitB b)) (.agg (blkB 128 (bitB a))) (.agg (blkB 128 (bitB b))) 66 66 HC.out (by kernel_rfl) (by decide +kernel) _ _ _ _ rfl rfl rfl rfl
    (fun w a => by simp [go_sem, ptrTo, hz1]) (fun w a => by simp [go_sem, ptrTo, hz1]) (stores_whole 66 (blkB 128 fun _ => false) (blkB 128 (bitB a)) (by simp [blkB_size]) (fun w => by simp [go_sem]) (oneCells_blkB _ _) rfl) (stores_whole 66 (blkB 128 fun _ => false) (blkB 128 (bitB b)) (by simp [blkB_size]) (fun w => by simp [go_sem]) (oneCells_blkB _ _) rfl) (by simp) ?_
  (simp only [List.take])
  (apply walkB_step
   focus
     intro w0 hC
     have hC' := Lib.hid hC
     obtain ⟨⟨r1, f1, i1, b1, l1⟩, ⟨r2, f2, i2, b2, l2⟩, ⟨r3, f3, i3, b3, l3⟩, m12, m21, m13, m31, m23, m32⟩ := St.facts3 hC
     clear hC
     go_simp
     (first
        | with_reducible rfl
        | exact poly_any _ _)
   try simp only [Act.put, List.setIfInBounds_toArray, List.set])
  (apply walkB_step
   focus
     intro w0 hC
     have hC' := Lib.hid hC
     obtain ⟨⟨r1, f1, i1, b1, l1⟩, ⟨r2, f2, i2, b2, l2⟩, ⟨r3, f3, i3, b3, l3⟩, m12, m21, m13, m31, m23, m32⟩ := St.facts3 hC
     clear hC
     go_simp
     (first
        | with_reducible rfl
        | exact poly_any _ _)
   try simp only [Act.put, List.setIfInBounds_toArray, List.set])
  (apply walkB_step
   focus
     intro w0 hC
     have hC' := Lib.hid hC
     obtain ⟨⟨r1, f1, i1, b1, l1⟩, ⟨r2, f2, i2, b2, l2⟩, ⟨r3, f3, i3, b3, l3⟩, m12, m21, m13, m31, m23, m32⟩ := St.facts3 hC
     clear hC
     go_simp
     (first
        | with_reducible rfl
        | exact poly_any _ _)
   try simp only [Act.put, List.setIfInBounds_toArray, List.set])
  (apply walkB_step
   focus
     intro w0 hC
     have hC' := Lib.hid hC
     obtain ⟨⟨r1, f1, i1, b1, l1⟩, ⟨r2, f2, i2, b2, l2⟩, ⟨r3, f3, i3, b3, l3⟩, m12, m21, m13, m31, m23, m32⟩ := St.facts3 hC
     clear hC
     go_simp
     (first
        | with_reducible rfl
        | exact poly_any _ _)
   try simp only [Act.put, List.setIfInBounds_toArray, List.set])
  refine walkB_nil ⟨⟨rfl, rfl⟩, ?_⟩
  intro w1 g1 g2 hC
  unfold ptrTo
  clear HC
  have HC := Lib.hid (hC.weaken (L' := [(g2, blkB 128 (bitB b)), (g1, blkB 128 (bitB a)), (w.heap.size + 1 + 1, blk 16 fun _ => 0)]) (by have := hC.ne; simp only [List.map_cons, List.map_nil, List.nodup_cons, List.mem_cons, List.not_mem_nil, or_false, not_or] at this ⊢; simp; omega) (by simp))
  clear hC
  go_wp2_with fail
  have HC := Lib.hid (HC.out.push (blkB 255 (pA (bitB a) (bitB b) 0)) 68)
  generalize w1.heap.size = g3 at HC ⊢
  go_loopw [8] (fun v wr => ∃ i : Nat, i ≤ 128 ∧ v = .int .i64 (i : Int) ∧ Hid (St w [(g3, blkB 255 (pA (bitB a) (bitB b) i)), (g2, blkB 128 (bitB b)), (g1, blkB 128 (bitB a)), (w.heap.size + 1 + 1, blk 16 fun _ => 0)] wr)) (fun v _ => 128 - (intOf v).toNat)
  case atStart => exact ⟨0, by omega, rfl, HC⟩
  case round =>
    clear HC
    obtain ⟨i, hi, rfl, HR⟩ := hrel
    have hC := HR.out
    by_cases hlt : i < 128
    · have a1 : (i : Int) < 128 := by omega
      cases hx : bitB a i with
      | false =>
        have hs := pA_skip (bitB a) (bitB b) i hx
        (have HC := Lib.hid hC
         have sos := hC.below.os
         obtain ⟨⟨r1, f1, i1, b1, l1⟩, ⟨r2, f2, i2, b2, l2⟩, ⟨r3, f3, i3, b3, l3⟩, ⟨r4, f4, i4, b4, l4⟩, m12, m21, m13, m31, m14, m41, m23, m32, m24, m42, m34, m43⟩ := St.facts4 hC
         clear hC)
        go_wp2_with fail
        exact ⟨⟨i + 1, by omega, by go_num, by rw [hs]; exact HR⟩, by simp [intOf]; omega⟩
      | true =>
        (have HC := Lib.hid hC
         have sos := hC.below.os
         obtain ⟨⟨r1, f1, i1, b1, l1⟩, ⟨r2, f2, i2, b2, l2⟩, ⟨r3, f3, i3, b3, l3⟩, ⟨r4, f4, i4, b4, l4⟩, m12, m21, m13, m31, m14, m41, m23, m32, m24, m42, m34, m43⟩ := St.facts4 hC
         clear hC)
        go_wp2_with fail
        (clear r1 f1 i1 b1 l1 r2 f2 i2 b2 l2 r3 f3 i3 b3 l3 r4 f4 i4 b4 l4 m12 m21 m13 m31 m14 m41 m23 m32 m24 m42 m34 m43 sos)
        go_loopw [9] (fun v wr => ∃ k : Nat, k ≤ 128 ∧ v = .int .i64 (k : Int) ∧ Hid (St w [(g3, blkB 255 (pI (bitB a) (bitB b) i k)), (g2, blkB 128 (bitB b)), (g1, blkB 128 (bitB a)), (w.heap.size + 1 + 1, blk 16 fun _ => 0)] wr)) (fun v _ => 128 - (intOf v).toNat)
        case atStart => exact ⟨0, by omega, rfl, by rw [pI_zero]; exact HR⟩
        case round =>
          clear HR HC
          obtain ⟨k, hk, rfl, HJ⟩ := hrel
          by_cases hkt : k < 128
          · have b1 : (k : Int) < 128 := by omega
            have v1 : IntKind.i64.wrap ((i : Int) + (k : Int)) = ((i + k : Nat) : Int) := by rw [IntWalk.i64_in _ (by omega)]; omega
            have b2 : i + k < 255 := by omega
            have b3 : ((i + k : Nat) : Int) < 255 := by omega
            have hne : ∀ x y : Bool, (x ^^ y) = !(x == y) := fun x y => by cases x <;> cases y <;> rfl
            have hst := pI_step (bitB a) (bitB b) i k
            rw [hne] at hst
            clear hne
            generalize hq : i + k = q at v1 b2 b3 hst
            clear hq
            go_wp2_with fail
            refine St.region_tail 13 HJ.out (by kernel_rfl) (by decide +kernel) ?_
            (simp only [List.take, List.drop])
            (first
               | (apply head_skip rfl)
               | (apply head_step_g rfl
                  focus
                    intro w0 hC
                    (fail))
               | (apply head_step_g rfl
                  focus
                    intro w0 hC
                    have hC' := Lib.hid hC
                    obtain ⟨⟨r1, f1, i1, b1, l1⟩, ⟨r2, f2, i2, b2, l2⟩, ⟨r3, f3, i3, b3, l3⟩, ⟨r4, f4, i4, b4, l4⟩, m12, m21, m13, m31, m14, m41, m23, m32, m24, m42, m34, m43⟩ := St.facts4 hC
                    clear hC
                    go_simp
                    have hC := hC'.out
                    (first
                       | with_reducible rfl
                       | (skip
                          (fail)
                          rintro e w' ⟨rfl, hw⟩
                          exact ⟨rfl, St.call (by assumption) hw⟩)))
             try simp only [Act.put, List.setIfInBounds_toArray, List.set])
            (first
               | (apply head_skip rfl)
               | (apply head_step_g rfl
                  focus
                    intro w0 hC
                    (fail))
               | (apply head_step_g rfl
                  focus
                    intro w0 hC
                    have hC' := Lib.hid hC
                    obtain ⟨⟨r1, f1, i1, b1, l1⟩, ⟨r2, f2, i2, b2, l2⟩, ⟨r3, f3, i3, b3, l3⟩, ⟨r4, f4, i4, b4, l4⟩, m12, m21, m13, m31, m14, m41, m23, m32, m24, m42, m34, m43⟩ := St.facts4 hC
                    clear hC
                    go_simp
                    have hC := hC'.out
                    (first
                       | with_reducible rfl
                       | (skip
                          (fail)
                          rintro e w' ⟨rfl, hw⟩
                          exact ⟨rfl, St.call (by assumption) hw⟩)))
             try simp only [Act.put, List.setIfInBounds_toArray, List.set])
            (first
               | (apply head_skip rfl)
               | (apply head_step_g rfl
                  focus
                    intro w0 hC
                    (fail))
               | (apply head_step_g rfl
                  focus
                    intro w0 hC
                    have hC' := Lib.hid hC
                    obtain ⟨⟨r1, f1, i1, b1, l1⟩, ⟨r2, f2, i2, b2, l2⟩, ⟨r3, f3, i3, b3, l3⟩, ⟨r4, f4, i4, b4, l4⟩, m12, m21, m13, m31, m14, m41, m23, m32, m24, m42, m34, m43⟩ := St.facts4 hC
                    clear hC
                    go_simp
                    have hC := hC'.out
                    (first
                       | with_reducible rfl
                       | (skip
                          (fail)
                          rintro e w' ⟨rfl, hw⟩
                          exact ⟨rfl, St.call (by assumption) hw⟩)))
             try simp only [Act.put, List.setIfInBounds_toArray, List.set])
            (first
               | (apply head_skip rfl)
               | (apply head_step_g rfl
                  focus
                    intro w0 hC
                    (fail))
               | (apply head_step_g rfl
                  focus
                    intro w0 hC
                    have hC' := Lib.hid hC
                    obtain ⟨⟨r1, f1, i1, b1, l1⟩, ⟨r2, f2, i2, b2, l2⟩, ⟨r3, f3, i3, b3, l3⟩, ⟨r4, f4, i4, b4, l4⟩, m12, m21, m13, m31, m14, m41, m23, m32, m24, m42, m34, m43⟩ := St.facts4 hC
                    clear hC
                    go_simp
                    have hC := hC'.out
                    (first
                       | with_reducible rfl
                       | (skip
                          (fail)
                          rintro e w' ⟨rfl, hw⟩
                          exact ⟨rfl, St.call (by assumption) hw⟩)))
             try simp only [Act.put, List.setIfInBounds_toArray, List.set])
            (first
               | (apply head_skip rfl)
               | (apply head_step_g rfl
                  focus
                    intro w0 hC
                    (fail))
               | (apply head_step_g rfl
                  focus
                    intro w0 hC
                    have hC' := Lib.hid hC
                    obtain ⟨⟨r1, f1, i1, b1, l1⟩, ⟨r2, f2, i2, b2, l2⟩, ⟨r3, f3, i3, b3, l3⟩, ⟨r4, f4, i4, b4, l4⟩, m12, m21, m13, m31, m14, m41, m23, m32, m24, m42, m34, m43⟩ := St.facts4 hC
                    clear hC
                    go_simp
                    have hC := hC'.out
                    (first
                       | with_reducible rfl
                       | (skip
                          (fail)
                          rintro e w' ⟨rfl, hw⟩
                          exact ⟨rfl, St.call (by assumption) hw⟩)))
             try simp only [Act.put, List.setIfInBounds_toArray, List.set])
            (first
               | (apply head_skip rfl)
               | (apply head_step_g rfl
                  focus
                    intro w0 hC
                    (fail))
               | (apply head_step_g rfl
                  focus
                    intro w0 hC
                    have hC' := Lib.hid hC
                    obtain ⟨⟨r1, f1, i1, b1, l1⟩, ⟨r2, f2, i2, b2, l2⟩, ⟨r3, f3, i3, b3, l3⟩, ⟨r4, f4, i4, b4, l4⟩, m12, m21, m13, m31, m14, m41, m23, m32, m24, m42, m34, m43⟩ := St.facts4 hC
                    clear hC
                    go_simp
                    have hC := hC'.out
                    (first
                       | with_reducible rfl
                       | (skip
                          (fail)
                          rintro e w' ⟨rfl, hw⟩
                          exact ⟨rfl, St.call (by assumption) hw⟩)))
             try simp only [Act.put, List.setIfInBounds_toArray, List.set])
            (first
               | (apply head_skip rfl)
               | (apply head_step_g rfl
                  focus
                    intro w0 hC
                    (fail))
               | (apply head_step_g rfl
                  focus
                    intro w0 hC
                    have hC' := Lib.hid hC
                    obtain ⟨⟨r1, f1, i1, b1, l1⟩, ⟨r2, f2, i2, b2, l2⟩, ⟨r3, f3, i3, b3, l3⟩, ⟨r4, f4, i4, b4, l4⟩, m12, m21, m13, m31, m14, m41, m23, m32, m24, m42, m34, m43⟩ := St.facts4 hC
                    clear hC
                    go_simp
                    have hC := hC'.out
                    (first
                       | with_reducible rfl
                       | (skip
                          (fail)
                          rintro e w' ⟨rfl, hw⟩
                          exact ⟨rfl, St.call (by assumption) hw⟩)))
             try simp only [Act.put, List.setIfInBounds_toArray, List.set])
            (first
               | (apply head_skip rfl)
               | (apply head_step_g rfl
                  focus
                    intro w0 hC
                    (fail))
               | (apply head_step_g rfl
                  focus
                    intro w0 hC
                    have hC' := Lib.hid hC
                    obtain ⟨⟨r1, f1, i1, b1, l1⟩, ⟨r2, f2, i2, b2, l2⟩, ⟨r3, f3, i3, b3, l3⟩, ⟨r4, f4, i4, b4, l4⟩, m12, m21, m13, m31, m14, m41, m23, m32, m24, m42, m34, m43⟩ := St.facts4 hC
                    clear hC
                    go_simp
                    have hC := hC'.out
                    (first
                       | with_reducible rfl
                       | (skip
                          (fail)
                          rintro e w' ⟨rfl, hw⟩
                          exact ⟨rfl, St.call (by assumption) hw⟩)))
             try simp only [Act.put, List.setIfInBounds_toArray, List.set])
            (first
               | (apply head_skip rfl)
               | (apply head_step_g rfl
                  focus
                    intro w0 hC
                    (fail))
               | (apply head_step_g rfl
                  focus
                    intro w0 hC
                    have hC' := Lib.hid hC
                    obtain ⟨⟨r1, f1, i1, b1, l1⟩, ⟨r2, f2, i2, b2, l2⟩, ⟨r3, f3, i3, b3, l3⟩, ⟨r4, f4, i4, b4, l4⟩, m12, m21, m13, m31, m14, m41, m23, m32, m24, m42, m34, m43⟩ := St.facts4 hC
                    clear hC
                    go_simp
                    have hC := hC'.out
                    (first
                       | with_reducible rfl
                       | (skip
                          (fail)
                          rintro e w' ⟨rfl, hw⟩
                          exact ⟨rfl, St.call (by assumption) hw⟩)))
             try simp only [Act.put, List.setIfInBounds_toArray, List.set])
            (first
               | (apply head_skip rfl)
               | (apply head_step_g rfl
                  focus
                    intro w0 hC
                    (fail))
               | (apply head_step_g rfl
                  focus
                    intro w0 hC
                    have hC' := Lib.hid hC
                    obtain ⟨⟨r1, f1, i1, b1, l1⟩, ⟨r2, f2, i2, b2, l2⟩, ⟨r3, f3, i3, b3, l3⟩, ⟨r4, f4, i4, b4, l4⟩, m12, m21, m13, m31, m14, m41, m23, m32, m24, m42, m34, m43⟩ := St.facts4 hC
                    clear hC
                    go_simp
                    have hC := hC'.out
                    (first
                       | with_reducible rfl
                       | (skip
                          (fail)
                          rintro e w' ⟨rfl, hw⟩
                          exact ⟨rfl, St.call (by assumption) hw⟩)))
             try simp only [Act.put, List.setIfInBounds_toArray, List.set])
            (first
               | (apply head_skip rfl)
               | (apply head_step_g rfl
                  focus
                    intro w0 hC
                    (fail))
               | (apply head_step_g rfl
                  focus
                    intro w0 hC
                    have hC' := Lib.hid hC
                    obtain ⟨⟨r1, f1, i1, b1, l1⟩, ⟨r2, f2, i2, b2, l2⟩, ⟨r3, f3, i3, b3, l3⟩, ⟨r4, f4, i4, b4, l4⟩, m12, m21, m13, m31, m14, m41, m23, m32, m24, m42, m34, m43⟩ := St.facts4 hC
                    clear hC
                    go_simp
                    have hC := hC'.out
                    (first
                       | with_reducible rfl
                       | (skip
                          (fail)
                          rintro e w' ⟨rfl, hw⟩
                          exact ⟨rfl, St.call (by assumption) hw⟩)))
             try simp only [Act.put, List.setIfInBounds_toArray, List.set])
            (first
               | (apply head_skip rfl)
               | (apply head_step_g rfl
                  focus
                    intro w0 hC
                    (fail))
               | (apply head_step_g rfl
                  focus
                    intro w0 hC
                    have hC' := Lib.hid hC
                    obtain ⟨⟨r1, f1, i1, b1, l1⟩, ⟨r2, f2, i2, b2, l2⟩, ⟨r3, f3, i3, b3, l3⟩, ⟨r4, f4, i4, b4, l4⟩, m12, m21, m13, m31, m14, m41, m23, m32, m24, m42, m34, m43⟩ := St.facts4 hC
                    clear hC
                    go_simp
                    have hC := hC'.out
                    (first
                       | with_reducible rfl
                       | (skip
                          (fail)
                          rintro e w' ⟨rfl, hw⟩
                          exact ⟨rfl, St.call (by assumption) hw⟩)))
             try simp only [Act.put, List.setIfInBounds_toArray, List.set])
            (first
               | (apply head_skip rfl)
               | (apply head_step_g rfl
                  focus
                    intro w0 hC
                    (fail))
               | (apply head_step_g rfl
                  focus
                    intro w0 hC
                    have hC' := Lib.hid hC
                    obtain ⟨⟨r1, f1, i1, b1, l1⟩, ⟨r2, f2, i2, b2, l2⟩, ⟨r3, f3, i3, b3, l3⟩, ⟨r4, f4, i4, b4, l4⟩, m12, m21, m13, m31, m14, m41, m23, m32, m24, m42, m34, m43⟩ := St.facts4 hC
                    clear hC
                    go_simp
                    have hC := hC'.out
                    (first
                       | with_reducible rfl
                       | (skip
                          (fail)
                          rintro e w' ⟨rfl, hw⟩
                          exact ⟨rfl, St.call (by assumption) hw⟩)))
             try simp only [Act.put, List.setIfInBounds_toArray, List.set])
            refine wpQuiet_nil ?_
            intro w2 hC
            (have HC := Lib.hid hC
             have sos := hC.below.os
             obtain ⟨⟨r1, f1, i1, b1, l1⟩, ⟨r2, f2, i2, b2, l2⟩, ⟨r3, f3, i3, b3, l3⟩, ⟨r4, f4, i4, b4, l4⟩, m12, m21, m13, m31, m14, m41, m23, m32, m24, m42, m34, m43⟩ := St.facts4 hC
             clear hC)
            go_wp2_with fail
            have HC := Lib.hid (HC.out.set_head (blkB 255 (pI (bitB a) (bitB b) i (k + 1))))
            exact ⟨⟨k + 1, by omega, by go_num, HC⟩, by simp [intOf]; omega⟩
          · obtain rfl : k = 128 := by omega
            have hal := pI_all (bitB a) (bitB b) i hx
            go_wp2_with fail
            exact ⟨⟨i + 1, by omega, by go_num, by rw [← hal]; exact HJ⟩, by simp [intOf]; omega⟩
    · obtain rfl : i = 128 := by omega
      go_wp2_with fail
      have HR := Lib.hid (hC.weaken (L' := [(g3, blkB 255 (red (pA (bitB a) (bitB b) 128) 0)), (w.heap.size + 1 + 1, blk 16 fun _ => 0)]) (by have := hC.ne; simp only [List.map_cons, List.map_nil, List.nodup_cons, List.mem_cons, List.not_mem_nil, or_false, not_or] at this ⊢; simp; omega) (by simp [red]))
      clear hC
      have hprod := ref_product a b
      generalize pA (bitB a) (bitB b) 128 = P at HR hprod
      go_loopw [10] (fun v wr => ∃ n : Nat, n ≤ 127 ∧ v = .int .i64 (dn n : Int) ∧ Hid (St w [(g3, blkB 255 (red P n)), (w.heap.size + 1 + 1, blk 16 fun _ => 0)] wr)) (fun v _ => (intOf v).toNat)
      case atStart => exact ⟨0, by omega, rfl, HR⟩
      case round =>
        clear HR
        obtain ⟨n, hn, rfl, HJ⟩ := hrel
        have hC := HJ.out
        by_cases hlt : n < 127
        · have a1 : (128 : Int) ≤ (dn n : Int) := by unfold dn; omega
          have a2 : (dn n : Int) < 255 := by unfold dn; omega
          have a3 : dn n < 255 := by unfold dn; omega
          have v9 : IntKind.i64.wrap ((dn n : Int) - 1) = (dn (n + 1) : Int) := by unfold dn; rw [IntWalk.i64_in _ (by omega)]; omega
          have hms : dn (n + 1) < dn n := by unfold dn; omega
          cases hb : red P n (dn n) with
          | false =>
            have hr := Lib.hid (red_no P n hb)
            (have HC := Lib.hid hC
             have sos := hC.below.os
             obtain ⟨⟨r1, f1, i1, b1, l1⟩, ⟨r2, f2, i2, b2, l2⟩, m12, m21⟩ := St.facts2 hC
             clear hC)
            go_wp2_with fail
            exact ⟨⟨n + 1, by omega, rfl, by rw [← hr.out]; exact HJ⟩, by simp [intOf]; omega⟩
          | true =>
            have hr := red_yes P n hb
            have v1 : IntKind.i64.wrap ((dn n : Int) - 128) = ((dn n - 128 : Nat) : Int) := by rw [IntWalk.i64_in _ (by omega)]; omega
            have v2 : IntKind.i64.wrap ((dn n : Int) - 127) = ((dn n - 127 : Nat) : Int) := by rw [IntWalk.i64_in _ (by omega)]; omega
            have v3 : IntKind.i64.wrap ((dn n : Int) - 126) = ((dn n - 126 : Nat) : Int) := by rw [IntWalk.i64_in _ (by omega)]; omega
            have v4 : IntKind.i64.wrap ((dn n : Int) - 121) = ((dn n - 121 : Nat) : Int) := by rw [IntWalk.i64_in _ (by omega)]; omega
            have w1' : (dn n : Int) - 128 = ((dn n - 128 : Nat) : Int) := by omega
            have w2' : (dn n : Int) - 127 = ((dn n - 127 : Nat) : Int) := by omega
            have w3' : (dn n : Int) - 126 = ((dn n - 126 : Nat) : Int) := by omega
            have w4' : (dn n : Int) - 121 = ((dn n - 121 : Nat) : Int) := by omega
            have c1 : dn n - 128 < 255 := by omega
            have c2 : dn n - 127 < 255 := by omega
            have c3 : dn n - 126 < 255 := by omega
            have c4 : dn n - 121 < 255 := by omega
            generalize dn n - 128 = j1 at v1 w1' c1 hr
            generalize dn n - 127 = j2 at v2 w2' c2 hr
            generalize dn n - 126 = j3 at v3 w3' c3 hr
            generalize dn n - 121 = j4 at v4 w4' c4 hr
            have d1 : (j1 : Int) < 255 := by omega
            have d2 : (j2 : Int) < 255 := by omega
            have d3 : (j3 : Int) < 255 := by omega
            have d4 : (j4 : Int) < 255 := by omega
            (have HC := Lib.hid hC
             have sos := hC.below.os
             obtain ⟨⟨r1, f1, i1, b1, l1⟩, ⟨r2, f2, i2, b2, l2⟩, m12, m21⟩ := St.facts2 hC
             clear hC)
            go_wp2_with fail
            have HC := Lib.hid ((((HC.out.set_head (blkB 255 (flip (red P n) j1))).set_head (blkB 255 (flip (flip (red P n) j1) j2))).set_head (blkB 255 (flip (flip (flip (red P n) j1) j2) j3))).set_head (blkB 255 (red P (n + 1))))
            exact ⟨⟨n + 1, by omega, rfl, HC⟩, by simp [intOf]; omega⟩
        · obtain rfl : n = 127 := by omega
          have a1 : ¬ (128 : Int) ≤ (dn 127 : Int) := by unfold dn; omega
          go_wp2_with fail
          have HC := Lib.hid (hC.push (blk 16 fun _ => 0) 22)
          clear hC HJ
          generalize red P 127 = R at HC hprod
          generalize wr.heap.size = g4 at HC ⊢
          go_loopw [12] (fun v wr => ∃ i : Nat, i ≤ 128 ∧ v = .int .i64 (i : Int) ∧ Hid (St w [(g4, blk 16 (outF R i)), (g3, blkB 255 R), (w.heap.size + 1 + 1, blk 16 fun _ => 0)] wr)) (fun v _ => 128 - (intOf v).toNat)
          case atStart => exact ⟨0, by omega, rfl, by rw [outF_zero]; exact HC⟩
          case round =>
            clear HC
            obtain ⟨i, hi, rfl, HJ⟩ := hrel
            have hC := HJ.out
            by_cases hit : i < 128
            · have a1 : (i : Int) < 128 := by omega
              have a2 : (i : Int) < 255 := by omega
              have a3 : i < 255 := by omega
              have v1 : (i : Int) / (8 : Int) = (quo8 i : Int) := by unfold quo8; omega
              have v5 : IntKind.i64.wrap (quo8 i : Int) = (quo8 i : Int) := IntWalk.i64_in _ (by unfold quo8; omega)
              have e2 : quo8 i < 16 := by unfold quo8; omega
              have e3 : (quo8 i : Int) < 16 := by omega
              have f1' := outD_wrap R i
              have f2' := outD_one R i
              cases hb : R i with
              | false =>
                have hno := outF_no R i hb
                (have HC := Lib.hid hC
                 have sos := hC.below.os
                 obtain ⟨⟨r1, f1, i1, b1, l1⟩, ⟨r2, f2, i2, b2, l2⟩, ⟨r3, f3, i3, b3, l3⟩, m12, m21, m13, m31, m23, m32⟩ := St.facts3 hC
                 clear hC)
                go_wp2_with fail
                have HC := Lib.hid (HC.out.set_head (blk 16 (outF R (i + 1))))
                exact ⟨⟨i + 1, by omega, by go_num, HC⟩, by simp [intOf]; omega⟩
              | true =>
                have hyes := outF_yes R i hb
                (have HC := Lib.hid hC
                 have sos := hC.below.os
                 obtain ⟨⟨r1, f1, i1, b1, l1⟩, ⟨r2, f2, i2, b2, l2⟩, ⟨r3, f3, i3, b3, l3⟩, m12, m21, m13, m31, m23, m32⟩ := St.facts3 hC
                 clear hC)
                go_wp2_with fail
                have HC := Lib.hid ((HC.out.set_head (blk 16 (upd (outF R i) (quo8 i) (outD R i)))).set_head (blk 16 (outF R (i + 1))))
                exact ⟨⟨i + 1, by omega, by go_num, HC⟩, by simp [intOf]; omega⟩
            · obtain rfl : i = 128 := by omega
              rw [hprod] at hC
              (have HC := Lib.hid hC
               have sos := hC.below.os
               obtain ⟨⟨r1, f1, i1, b1, l1⟩, ⟨r2, f2, i2, b2, l2⟩, ⟨r3, f3, i3, b3, l3⟩, m12, m21, m13, m31, m23, m32⟩ := St.facts3 hC
               clear hC)
              go_wp2_with fail
              refine bodyPost_ret (results_row rfl _ (w.heap.size + 1 + 1) rfl (blk 16 (mulB a b)) ?_ ?_ ?_ ?_) rfl ⟨rfl, ?_⟩
              · simp [go_sem, *]
              · simp [go_sem]
              · simp [go_sem]
              · simp [go_sem, *]
              · exact below_setRow' HC.out.below (by omega) _
end Go.Proofs.Ytepooocdpifcfaa
