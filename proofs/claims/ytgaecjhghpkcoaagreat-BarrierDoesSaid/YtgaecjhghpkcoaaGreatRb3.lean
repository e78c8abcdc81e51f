/- The reference's barrier: Lock. -/
import Derived.Test.YtgaecjhghpkcoaaGreatRb2
namespace Go.Proofs.YtgaecjhghpkcoaaGreat
open Go.RowKit
attribute [local go_sem] B_xor B_or B_and
attribute [local go_sem] blk_set blk_size blk_get blk_getE upd_same oneCells_blk paste_blk cut_blk szOf
attribute [local go_sem high] paste_all cut_head
attribute [local go_sem] rowAt_alloc rowAt_drew rowAt_drewN isRow_alloc isRow_drew isRow_drewN freeRow_alloc freeRow_end freeRow_drew freeRow_drewN
attribute [local go_sem] setRow_alloc setRow_drew setRow_drewN setCell_drewN alloc_drewN rowAt_put isRow_setRow freeRow_put
attribute [local go_sem ↓] loadS_in storeS_in indexS_in copyS_in
attribute [local go_sem] loadS_row loadS_one storeS_row storeS_one indexS_blk copyS_rows run_equalIn_blk same_refl arrayAt_row
attribute [local go_sem] cell_row frozen_row st_setCell st_blk_ne stepAt stepUpon
attribute [local go_sem high] run_eql_blk run_neq_blk
attribute [local go_sem ↓] convBS_in
attribute [local go_sem] convBS_row convBS_nil allBytes_blk bytesOf_blk
attribute [local go_sem] size_c19 agg_c19 cn_size cn_get0 cn_get1 cn_getE0 cn_getE1 cn_set0 cn_set1 cn_ne cn_one cn_cut cn_paste
attribute [local go_sem] rb_size rb_get0 rb_get1 rb_get2 rb_get3 rb_get4 rb_getE0 rb_getE1 rb_getE2 rb_getE3 rb_getE4 rb_ne rb_one rb_cut rb_count rb_paste rb_set0 rb_set1 rb_set3 rb_set4 rb_build size_rb agg_rb

def lockNS (n : Nat) (f : Nat → UInt8) (e c : Nat) (m : Nat → UInt8) : ByteArray := if takeN n e c = 0 then headS 0 (nonceS e c) ++ sealedR m n f e c else ⟨#[]⟩
theorem refSealRing_at (m : Nat → UInt8) (n : Nat) (f : Nat → UInt8) (e c : Nat) (h6 : n ≤ 6) (w : World) : Calls Tryz.prog 57 #[.agg (blk 16 m), .string (nonceS e c), .string ⟨#[114, 105, 110, 103]⟩, .string (ringT n f)] w fun e' w' => e' = .returned (.tuple #[.string (sealedR m n f e c), .int .i64 0]) ∧ Below w.heap.size w w' :=
  refSeal09_any m (nonceS e c) ⟨#[114, 105, 110, 103]⟩ (ringT n f) (by show 4 < 2 ^ 40; omega) (by rw [ringT_size]; omega) (nonceS_size _ _) w
set_option maxRecDepth 100000 in
set_option maxHeartbeats 2000000 in
theorem refLock21 (r : Rb) (f m : Nat → UInt8) (h6 : r.kn ≤ 6) (w : World) (hv : Keys16 w (.slice r.ka r.kn r.kc) r.kn f) : Calls Tryz.prog 21 #[.agg (rbC r), .agg (blk 16 m)] w fun x w' => x = .returned (.tuple #[.string (lockNS r.kn f r.e r.c m), .agg (rbC r.took), .int .i64 ((takeN r.kn r.e r.c : Nat) : Int)]) ∧ Below w.heap.size w w' := by
  have hz := rb_zero
  have HC := Lib.hid ((((St.nil w).pushA (rbC r) 38 rfl).pushA (blk 16 m) 22 (g := w.heap.size + 1) (by simp)).pushA (rbC rbZero) 38 (g := w.heap.size + 1 + 1) (by simp))
  have T1 := Lib.hid (refTake21 r)
  have HV := Lib.hid hv
  clear hv
  unfold lockNS
  by_cases hE : takeN r.kn r.e r.c = 0
  · have e1 : takeNS r.kn r.e r.c = nonceS r.e r.c := by unfold takeNS; rw [if_pos hE]
    have e2 : r.took = { r with c := r.c + 1 } := by unfold Rb.took; rw [if_pos hE]
    rw [e1, e2, hE] at T1
    rw [e2, hE, if_pos rfl]
    have T2 := Lib.hid (refSealRing_at m r.kn f r.e r.c h6)
    have T3 := Lib.hid (fun w => refHead_any 0 (by omega) (nonceS r.e r.c) (by rw [nonceS_size]; omega) w)
    obtain ⟨SR, hSR⟩ : ∃ SR, sealedR m r.kn f r.e r.c = SR := ⟨_, rfl⟩
    have hsr : SR.size ≤ 200 := by rw [← hSR]; unfold sealedR; rw [sealS_size, ringT_size]; omega
    obtain ⟨HS, hHS⟩ : ∃ HS, headS 0 (nonceS r.e r.c) = HS := ⟨_, rfl⟩
    have hhs : HS.size = 16 := by rw [← hHS]; unfold headS; rw [ByteArray.size_append, strOf_size, nonceS_size]
    have hsz : HS.size + SR.size ≤ 9223372036854775807 := by omega
    rw [hSR] at T2 ⊢
    rw [hHS] at T3 ⊢
    have h6 := Lib.hid h6
    clear hSR hHS hsr hhs hE e1 e2
    go_enter Tryz.func21, Tryz.ntmps21
    (obtain ⟨⟨r1, f1, i1, b1, l1⟩, ⟨r2, f2, i2, b2, l2⟩, ⟨r3, f3, i3, b3, l3⟩, m12, m21, m13, m31, m23, m32⟩ := St.facts3 (HC.out.pick [0, 1, 2] (by decide) rfl))
    go_wp2_with fail
    (clear r1 f1 i1 b1 l1 r2 f2 i2 b2 l2 r3 f3 i3 b3 l3 m12 m21 m13 m31 m23 m32)
    refine (T1.out _).mono ?_; rintro e w1 ⟨rfl, hw⟩
    have HC := Lib.hid (HC.out.call hw)
    clear hw
    (obtain ⟨⟨r1, f1, i1, b1, l1⟩, ⟨r2, f2, i2, b2, l2⟩, ⟨r3, f3, i3, b3, l3⟩, m12, m21, m13, m31, m23, m32⟩ := St.facts3 (HC.out.pick [0, 1, 2] (by decide) rfl))
    go_upto_region 4 with fail
    (clear r1 f1 i1 b1 l1 r2 f2 i2 b2 l2 r3 f3 i3 b3 l3 m12 m21 m13 m31 m23 m32)
    have HC := Lib.hid (HC.out.push (rbC { r with c := r.c + 1 }) 38)
    generalize w1.alloc (Obj.cells (rbC { r with c := r.c + 1 }) 38) = w2 at HC ⊢
    generalize w1.heap.size = q at HC ⊢
    refine St.region HC.out (by kernel_rfl) (by decide +kernel) ?_
    (first
       | (apply head_skip rfl)
       | (apply head_step_g rfl
          focus
            intro w0 hC
            (fail))
       | (apply head_step_g rfl
          focus
            intro w0 hC
            have hC' := Lib.hid hC
            obtain ⟨⟨r1, f1, i1, b1, l1⟩, ⟨r2, f2, i2, b2, l2⟩, ⟨r3, f3, i3, b3, l3⟩, ⟨r4, f4, i4, b4, l4⟩, m12, m21, m13, m31, m14, m41, m23, m32, m24, m42, m34, m43⟩ := St.facts4 hC
            clear hC
            go_simp
            have hC := hC'.out
            (first
               | with_reducible rfl
               | (skip
                  (first
                     | (go_at_call 58; refine (refText_any _ _ f h6.out _ (HV.out.call hC.below)).mono ?_)
                     | (go_at_call 57; refine (T2.out _).mono ?_)
                     | (go_at_call 59; refine (T3.out _).mono ?_))
                  rintro e w' ⟨rfl, hw⟩
                  exact ⟨rfl, St.call (by assumption) hw⟩)))
     try simp only [Act.put, List.setIfInBounds_toArray, List.set])
    (first
       | (apply head_skip rfl)
       | (apply head_step_g rfl
          focus
            intro w0 hC
            (fail))
       | (apply head_step_g rfl
          focus
            intro w0 hC
            have hC' := Lib.hid hC
            obtain ⟨⟨r1, f1, i1, b1, l1⟩, ⟨r2, f2, i2, b2, l2⟩, ⟨r3, f3, i3, b3, l3⟩, ⟨r4, f4, i4, b4, l4⟩, m12, m21, m13, m31, m14, m41, m23, m32, m24, m42, m34, m43⟩ := St.facts4 hC
            clear hC
            go_simp
            have hC := hC'.out
            (first
               | with_reducible rfl
               | (skip
                  (first
                     | (go_at_call 58; refine (refText_any _ _ f h6.out _ (HV.out.call hC.below)).mono ?_)
                     | (go_at_call 57; refine (T2.out _).mono ?_)
                     | (go_at_call 59; refine (T3.out _).mono ?_))
                  rintro e w' ⟨rfl, hw⟩
                  exact ⟨rfl, St.call (by assumption) hw⟩)))
     try simp only [Act.put, List.setIfInBounds_toArray, List.set])
    (first
       | (apply head_skip rfl)
       | (apply head_step_g rfl
          focus
            intro w0 hC
            (fail))
       | (apply head_step_g rfl
          focus
            intro w0 hC
            have hC' := Lib.hid hC
            obtain ⟨⟨r1, f1, i1, b1, l1⟩, ⟨r2, f2, i2, b2, l2⟩, ⟨r3, f3, i3, b3, l3⟩, ⟨r4, f4, i4, b4, l4⟩, m12, m21, m13, m31, m14, m41, m23, m32, m24, m42, m34, m43⟩ := St.facts4 hC
            clear hC
            go_simp
            have hC := hC'.out
            (first
               | with_reducible rfl
               | (skip
                  (first
                     | (go_at_call 58; refine (refText_any _ _ f h6.out _ (HV.out.call hC.below)).mono ?_)
                     | (go_at_call 57; refine (T2.out _).mono ?_)
                     | (go_at_call 59; refine (T3.out _).mono ?_))
                  rintro e w' ⟨rfl, hw⟩
                  exact ⟨rfl, St.call (by assumption) hw⟩)))
     try simp only [Act.put, List.setIfInBounds_toArray, List.set])
    (first
       | (apply head_skip rfl)
       | (apply head_step_g rfl
          focus
            intro w0 hC
            (fail))
       | (apply head_step_g rfl
          focus
            intro w0 hC
            have hC' := Lib.hid hC
            obtain ⟨⟨r1, f1, i1, b1, l1⟩, ⟨r2, f2, i2, b2, l2⟩, ⟨r3, f3, i3, b3, l3⟩, ⟨r4, f4, i4, b4, l4⟩, m12, m21, m13, m31, m14, m41, m23, m32, m24, m42, m34, m43⟩ := St.facts4 hC
            clear hC
            go_simp
            have hC := hC'.out
            (first
               | with_reducible rfl
               | (skip
                  (first
                     | (go_at_call 58; refine (refText_any _ _ f h6.out _ (HV.out.call hC.below)).mono ?_)
                     | (go_at_call 57; refine (T2.out _).mono ?_)
                     | (go_at_call 59; refine (T3.out _).mono ?_))
                  rintro e w' ⟨rfl, hw⟩
                  exact ⟨rfl, St.call (by assumption) hw⟩)))
     try simp only [Act.put, List.setIfInBounds_toArray, List.set])
    (first
       | (apply head_skip rfl)
       | (apply head_step_g rfl
          focus
            intro w0 hC
            (fail))
       | (apply head_step_g rfl
          focus
            intro w0 hC
            have hC' := Lib.hid hC
            obtain ⟨⟨r1, f1, i1, b1, l1⟩, ⟨r2, f2, i2, b2, l2⟩, ⟨r3, f3, i3, b3, l3⟩, ⟨r4, f4, i4, b4, l4⟩, m12, m21, m13, m31, m14, m41, m23, m32, m24, m42, m34, m43⟩ := St.facts4 hC
            clear hC
            go_simp
            have hC := hC'.out
            (first
               | with_reducible rfl
               | (skip
                  (first
                     | (go_at_call 58; refine (refText_any _ _ f h6.out _ (HV.out.call hC.below)).mono ?_)
                     | (go_at_call 57; refine (T2.out _).mono ?_)
                     | (go_at_call 59; refine (T3.out _).mono ?_))
                  rintro e w' ⟨rfl, hw⟩
                  exact ⟨rfl, St.call (by assumption) hw⟩)))
     try simp only [Act.put, List.setIfInBounds_toArray, List.set])
    (first
       | (apply head_skip rfl)
       | (apply head_step_g rfl
          focus
            intro w0 hC
            (fail))
       | (apply head_step_g rfl
          focus
            intro w0 hC
            have hC' := Lib.hid hC
            obtain ⟨⟨r1, f1, i1, b1, l1⟩, ⟨r2, f2, i2, b2, l2⟩, ⟨r3, f3, i3, b3, l3⟩, ⟨r4, f4, i4, b4, l4⟩, m12, m21, m13, m31, m14, m41, m23, m32, m24, m42, m34, m43⟩ := St.facts4 hC
            clear hC
            go_simp
            have hC := hC'.out
            (first
               | with_reducible rfl
               | (skip
                  (first
                     | (go_at_call 58; refine (refText_any _ _ f h6.out _ (HV.out.call hC.below)).mono ?_)
                     | (go_at_call 57; refine (T2.out _).mono ?_)
                     | (go_at_call 59; refine (T3.out _).mono ?_))
                  rintro e w' ⟨rfl, hw⟩
                  exact ⟨rfl, St.call (by assumption) hw⟩)))
     try simp only [Act.put, List.setIfInBounds_toArray, List.set])
    (first
       | (apply head_skip rfl)
       | (apply head_step_g rfl
          focus
            intro w0 hC
            (fail))
       | (apply head_step_g rfl
          focus
            intro w0 hC
            have hC' := Lib.hid hC
            obtain ⟨⟨r1, f1, i1, b1, l1⟩, ⟨r2, f2, i2, b2, l2⟩, ⟨r3, f3, i3, b3, l3⟩, ⟨r4, f4, i4, b4, l4⟩, m12, m21, m13, m31, m14, m41, m23, m32, m24, m42, m34, m43⟩ := St.facts4 hC
            clear hC
            go_simp
            have hC := hC'.out
            (first
               | with_reducible rfl
               | (skip
                  (first
                     | (go_at_call 58; refine (refText_any _ _ f h6.out _ (HV.out.call hC.below)).mono ?_)
                     | (go_at_call 57; refine (T2.out _).mono ?_)
                     | (go_at_call 59; refine (T3.out _).mono ?_))
                  rintro e w' ⟨rfl, hw⟩
                  exact ⟨rfl, St.call (by assumption) hw⟩)))
     try simp only [Act.put, List.setIfInBounds_toArray, List.set])
    (first
       | (apply head_skip rfl)
       | (apply head_step_g rfl
          focus
            intro w0 hC
            (fail))
       | (apply head_step_g rfl
          focus
            intro w0 hC
            have hC' := Lib.hid hC
            obtain ⟨⟨r1, f1, i1, b1, l1⟩, ⟨r2, f2, i2, b2, l2⟩, ⟨r3, f3, i3, b3, l3⟩, ⟨r4, f4, i4, b4, l4⟩, m12, m21, m13, m31, m14, m41, m23, m32, m24, m42, m34, m43⟩ := St.facts4 hC
            clear hC
            go_simp
            have hC := hC'.out
            (first
               | with_reducible rfl
               | (skip
                  (first
                     | (go_at_call 58; refine (refText_any _ _ f h6.out _ (HV.out.call hC.below)).mono ?_)
                     | (go_at_call 57; refine (T2.out _).mono ?_)
                     | (go_at_call 59; refine (T3.out _).mono ?_))
                  rintro e w' ⟨rfl, hw⟩
                  exact ⟨rfl, St.call (by assumption) hw⟩)))
     try simp only [Act.put, List.setIfInBounds_toArray, List.set])
    (first
       | (apply head_skip rfl)
       | (apply head_step_g rfl
          focus
            intro w0 hC
            (fail))
       | (apply head_step_g rfl
          focus
            intro w0 hC
            have hC' := Lib.hid hC
            obtain ⟨⟨r1, f1, i1, b1, l1⟩, ⟨r2, f2, i2, b2, l2⟩, ⟨r3, f3, i3, b3, l3⟩, ⟨r4, f4, i4, b4, l4⟩, m12, m21, m13, m31, m14, m41, m23, m32, m24, m42, m34, m43⟩ := St.facts4 hC
            clear hC
            go_simp
            have hC := hC'.out
            (first
               | with_reducible rfl
               | (skip
                  (first
                     | (go_at_call 58; refine (refText_any _ _ f h6.out _ (HV.out.call hC.below)).mono ?_)
                     | (go_at_call 57; refine (T2.out _).mono ?_)
                     | (go_at_call 59; refine (T3.out _).mono ?_))
                  rintro e w' ⟨rfl, hw⟩
                  exact ⟨rfl, St.call (by assumption) hw⟩)))
     try simp only [Act.put, List.setIfInBounds_toArray, List.set])
    (first
       | (apply head_skip rfl)
       | (apply head_step_g rfl
          focus
            intro w0 hC
            (fail))
       | (apply head_step_g rfl
          focus
            intro w0 hC
            have hC' := Lib.hid hC
            obtain ⟨⟨r1, f1, i1, b1, l1⟩, ⟨r2, f2, i2, b2, l2⟩, ⟨r3, f3, i3, b3, l3⟩, ⟨r4, f4, i4, b4, l4⟩, m12, m21, m13, m31, m14, m41, m23, m32, m24, m42, m34, m43⟩ := St.facts4 hC
            clear hC
            go_simp
            have hC := hC'.out
            (first
               | with_reducible rfl
               | (skip
                  (first
                     | (go_at_call 58; refine (refText_any _ _ f h6.out _ (HV.out.call hC.below)).mono ?_)
                     | (go_at_call 57; refine (T2.out _).mono ?_)
                     | (go_at_call 59; refine (T3.out _).mono ?_))
                  rintro e w' ⟨rfl, hw⟩
                  exact ⟨rfl, St.call (by assumption) hw⟩)))
     try simp only [Act.put, List.setIfInBounds_toArray, List.set])
    (first
       | (apply head_skip rfl)
       | (apply head_step_g rfl
          focus
            intro w0 hC
            (fail))
       | (apply head_step_g rfl
          focus
            intro w0 hC
            have hC' := Lib.hid hC
            obtain ⟨⟨r1, f1, i1, b1, l1⟩, ⟨r2, f2, i2, b2, l2⟩, ⟨r3, f3, i3, b3, l3⟩, ⟨r4, f4, i4, b4, l4⟩, m12, m21, m13, m31, m14, m41, m23, m32, m24, m42, m34, m43⟩ := St.facts4 hC
            clear hC
            go_simp
            have hC := hC'.out
            (first
               | with_reducible rfl
               | (skip
                  (first
                     | (go_at_call 58; refine (refText_any _ _ f h6.out _ (HV.out.call hC.below)).mono ?_)
                     | (go_at_call 57; refine (T2.out _).mono ?_)
                     | (go_at_call 59; refine (T3.out _).mono ?_))
                  rintro e w' ⟨rfl, hw⟩
                  exact ⟨rfl, St.call (by assumption) hw⟩)))
     try simp only [Act.put, List.setIfInBounds_toArray, List.set])
    refine wpQuiet_nil ?_
    intro w3 hC
    have HC := Lib.hid hC
    clear hC
    go_upto_region 5 with fail
    (obtain ⟨⟨r1, f1, i1, b1, l1⟩, ⟨r2, f2, i2, b2, l2⟩, ⟨r3, f3, i3, b3, l3⟩, ⟨r4, f4, i4, b4, l4⟩, m12, m21, m13, m31, m14, m41, m23, m32, m24, m42, m34, m43⟩ := St.facts4 (HC.out.pick [0, 1, 2, 3] (by decide) rfl))
    go_region_with (go_at_call 59; refine (T3.out _).mono ?_; rintro e w4 ⟨rfl, hw⟩; have hD : St w [(q, rbC { r with c := r.c + 1 }), (w.heap.size + 1 + 1, rbC rbZero), (w.heap.size + 1, blk 16 m), (w.heap.size, rbC r)] w4 := St.call (by repeat (first | exact HC.out | apply St.drew | apply St.drewN)) hw; have HC := Lib.hid hD; clear hw; obtain ⟨⟨r1, f1, i1, b1, l1⟩, ⟨r2, f2, i2, b2, l2⟩, ⟨r3, f3, i3, b3, l3⟩, ⟨r4, f4, i4, b4, l4⟩, m12, m21, m13, m31, m14, m41, m23, m32, m24, m42, m34, m43⟩ := St.facts4 hD; clear hD)
    all_goals
      go_wp2_with fail
      refine bodyPost_ret (results_qpr rfl _ (w.heap.size + 1 + 1) rfl (rbC { r with c := r.c + 1 }) ?_ ?_ ?_ ?_ (.string (HS ++ SR)) (.int .i64 0) rfl rfl) rfl ⟨rfl, ?_⟩
      (· simp [go_sem, *]
       · simp [go_sem]
       · simp [go_sem]
       · simp [go_sem, *]
       · repeat
           first
             | (with_reducible exact HC.out.below)
             | (with_reducible refine Below.drew ?_)
             | (with_reducible exact Below.refl _ _)
             | (with_reducible refine Below.alloc ?_ (by first | exact Nat.le_refl _ | (simp; done) | omega | (simp; omega)) _)
             | (with_reducible refine below_setRow' ?_ (by omega) _))
  · have e1 : takeNS r.kn r.e r.c = ⟨#[]⟩ := by unfold takeNS; rw [if_neg hE]
    have e2 : r.took = r := by unfold Rb.took; rw [if_neg hE]
    rw [e1, e2] at T1
    rw [e2, if_neg hE]
    have hd : (((takeN r.kn r.e r.c : Nat) : Int) != 0) = true := by rw [bne_iff_ne]; omega
    obtain ⟨E, hEE⟩ : ∃ E, takeN r.kn r.e r.c = E := ⟨_, rfl⟩
    rw [hEE] at T1 hd ⊢
    clear hE e1 e2 hEE
    go_enter Tryz.func21, Tryz.ntmps21
    (obtain ⟨⟨r1, f1, i1, b1, l1⟩, ⟨r2, f2, i2, b2, l2⟩, ⟨r3, f3, i3, b3, l3⟩, m12, m21, m13, m31, m23, m32⟩ := St.facts3 (HC.out.pick [0, 1, 2] (by decide) rfl))
    go_wp2_with fail
    (clear r1 f1 i1 b1 l1 r2 f2 i2 b2 l2 r3 f3 i3 b3 l3 m12 m21 m13 m31 m23 m32)
    refine (T1.out _).mono ?_; rintro e w1 ⟨rfl, hw⟩
    have HC := Lib.hid (HC.out.call hw)
    clear hw
    (obtain ⟨⟨r1, f1, i1, b1, l1⟩, ⟨r2, f2, i2, b2, l2⟩, ⟨r3, f3, i3, b3, l3⟩, m12, m21, m13, m31, m23, m32⟩ := St.facts3 (HC.out.pick [0, 1, 2] (by decide) rfl))
    have hs1 := HC.out.below.size
    go_upto_region 3 with fail
    go_region
    all_goals
      go_wp2_with fail
      refine bodyPost_ret (results_qpr rfl _ (w.heap.size + 1 + 1) rfl (rbC r) ?_ ?_ ?_ ?_ (.string ⟨#[]⟩) (.int .i64 (E : Int)) rfl rfl) rfl ⟨rfl, ?_⟩
      (· simp [go_sem, *]
       · simp [go_sem]
       · simp [go_sem]
       · simp [go_sem, *]
       · repeat
           first
             | (with_reducible exact HC.out.below)
             | (with_reducible refine Below.drew ?_)
             | (with_reducible exact Below.refl _ _)
             | (with_reducible refine Below.alloc ?_ (by first | exact Nat.le_refl _ | (simp; done) | omega | (simp; omega)) _)
             | (with_reducible refine below_setRow' ?_ (by omega) _))
end Go.Proofs.YtgaecjhghpkcoaaGreat
