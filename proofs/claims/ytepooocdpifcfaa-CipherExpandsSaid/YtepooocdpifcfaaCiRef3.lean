/- The reference's block in secret. No condition on bytes. -/
import Derived.Test.YtepooocdpifcfaaCiRef2
namespace Go.Proofs.Ytepooocdpifcfaa
open Go.RowKit
attribute [local go_sem] B_xor B_or B_and
attribute [local go_sem] blk_set blk_size blk_get blk_getE upd_same oneCells_blk paste_blk cut_blk szOf
attribute [local go_sem high] paste_all cut_head
attribute [local go_sem] rowAt_alloc rowAt_drew rowAt_drewN isRow_alloc isRow_drew isRow_drewN freeRow_alloc freeRow_drew freeRow_drewN
attribute [local go_sem] setRow_alloc setRow_drew setRow_drewN setCell_drewN alloc_drewN rowAt_setRow isRow_setRow freeRow_setRow
attribute [local go_sem ↓] loadS_in storeS_in indexS_in copyS_in
attribute [local go_sem] loadS_row loadS_one storeS_row storeS_one indexS_blk copyS_rows run_equalIn_blk same_refl arrayAt_row

def refTo (r b : Nat → UInt8) (k : Nat) : Nat → UInt8 := if k ≤ 9 then Ci.sealTo r b k else Ci.sealB r b
theorem refTo_le (r b : Nat → UInt8) (k : Nat) (h : k ≤ 9) : refTo r b k = Ci.sealTo r b k := by unfold refTo; rw [if_pos h]


set_option maxRecDepth 100000 in
set_option maxHeartbeats 1000000 in
theorem refSeal_any (r b : Nat → UInt8) (w : World) : Calls Try.prog 35 #[.agg (blk 176 r), .agg (blk 16 b)] w fun e w' => e = .returned (.agg (blk 16 (Ci.sealB r b))) ∧ Below w.heap.size w w' := by
  have hz := zero16
  have hr0 := rd_zero r
  go_enter Try.func35, Try.ntmps35
  go_wp2_with fail
  have hst : SealAt w r b (((w.alloc (.cells (blk 176 r) 48)).alloc (.cells (blk 16 b) 22)).alloc (.cells (blk 16 fun _ => 0) 22)) := by
    refine ⟨?_, ?_, ?_, ?_, ?_, ?_, ?_, ?_, ?_, ?_⟩
    all_goals first | exact (((Below.refl _ _).alloc (Nat.le_refl _) _).alloc (by simp) _).alloc (by simp; omega) _ | (simp [go_sem]; done) | (simp [go_sem]; omega)
  refine (refXor_any _ _ _).mono ?_; rintro e w1 ⟨rfl, hw⟩
  have hs := sealAt_call hst hw
  have HS := Lib.hid hs
  have s1 := hw.1
  obtain ⟨r1, r2, r3, r4, r5, r6, r7, r8, r9, hB⟩ := hs
  clear hst hw hB
  go_wp2_with fail
  have HS := Lib.hid (sealAt_set (refTo r b 0) HS.out)
  clear r1 r2 r3 r4 r5 r6 r7 r8 s1
  go_loopw [5] (fun i wr => ∃ k : Nat, k ≤ 10 ∧ i = .int .i64 ((k : Int) + 1) ∧ Hid (SealAt w r (refTo r b k) wr)) (fun i _ => 11 - (intOf i).toNat)
  case atStart => exact ⟨0, by omega, rfl, HS⟩
  case round =>
    clear HS hr0
    obtain ⟨k, hk, rfl, HR⟩ := hrel
    by_cases hlt : k < 10
    · have v2 : IntKind.i64.wrap ((k : Int) + 1 + 1) = ((k : Int) + 1 + 1) := IntWalk.i64_in _ (by omega)
      have hd : ((k : Int) + 1 ≤ 10) := by omega
      have hd2 : ((k : Int) + 1 < 11) := by omega
      have hd3 : (0 ≤ (k : Int) + 1) := by omega
      have b2 : (k + 1) * 16 + 16 ≤ 176 := by omega
      have hrd := rd_at r (k + 1)
      rw [refTo_le r b k (by omega)] at HR
      have hC := HR.out
      have s1 := hC.2.2.2.2.2.2.2.2.2.os
      obtain ⟨r1, r2, r3, r4, r5, r6, r7, r8, r9, hB⟩ := hC
      clear hB
      go_wp2_with fail
      refine (refBoxes_any _ _).mono ?_; rintro e w3 ⟨rfl, hw⟩
      have h3 := sealAt_call HR.out hw
      clear r1 r2 r3 r4 r5 r6 r7 r8 r9 s1 hw
      have H3 := Lib.hid h3
      have s1 := h3.2.2.2.2.2.2.2.2.2.os
      obtain ⟨r1, r2, r3, r4, r5, r6, r7, r8, r9, hB⟩ := h3
      clear hB
      go_wp2_with fail
      refine (refTurn_any _ _).mono ?_; rintro e w4 ⟨rfl, hw⟩
      have h4 := sealAt_call H3.out hw
      clear r1 r2 r3 r4 r5 r6 r7 r8 r9 s1 hw
      have H4 := Lib.hid (sealAt_set (Ci.turn (Ci.each Gf.box (Ci.sealTo r b k))) h4)
      have s1 := h4.2.2.2.2.2.2.2.2.2.os
      obtain ⟨r1, r2, r3, r4, r5, r6, r7, r8, r9, hB⟩ := h4
      clear hB H3
      by_cases h9 : k < 9
      · have hd4 : ((k : Int) + 1 < 10) := by omega
        go_wp2_with fail
        refine (refMixes_any _ _).mono ?_; rintro e w5 ⟨rfl, hw⟩
        have h5 := sealAt_call H4.out hw
        clear r1 r2 r3 r4 r5 r6 r7 r8 r9 s1 hw
        have H5 := Lib.hid (sealAt_set (Ci.columns Gf.mix (Ci.turn (Ci.each Gf.box (Ci.sealTo r b k)))) h5)
        have s1 := h5.2.2.2.2.2.2.2.2.2.os
        obtain ⟨r1, r2, r3, r4, r5, r6, r7, r8, r9, hB⟩ := h5
        clear hB H4
        go_wp2_with fail
        refine wp_region_tail (C := SealAt w r (Ci.columns Gf.mix (Ci.turn (Ci.each Gf.box (Ci.sealTo r b k))))) 5 (by kernel_rfl) (by kernel_rfl) (sealAt_drew H5.out) ?_
        simp only [List.take_succ_cons, List.take_zero, List.drop_succ_cons, List.drop_zero]
        clear r1 r2 r3 r4 r5 r6 r7 r8 r9 s1
        (apply head_step rfl
         focus
           intro w0 hC
           have hC' := Lib.hid hC
           obtain ⟨r1, r2, r3, r4, r5, r6, r7, r8, r9, hB⟩ := hC
           have HB := Lib.hid hB; clear hB
           go_simp
           have hC := hC'.out
           first
             | with_reducible rfl
             | (refine (refXor_any _ _ _).mono ?_
                rintro e w' ⟨rfl, hw⟩
                exact ⟨rfl, sealAt_call (by assumption) hw⟩)
         try simp only [Act.put, List.setIfInBounds_toArray, List.set_cons_zero, List.set_cons_succ])
        (apply head_step rfl
         focus
           intro w0 hC
           have hC' := Lib.hid hC
           obtain ⟨r1, r2, r3, r4, r5, r6, r7, r8, r9, hB⟩ := hC
           have HB := Lib.hid hB; clear hB
           go_simp
           have hC := hC'.out
           first
             | with_reducible rfl
             | (refine (refXor_any _ _ _).mono ?_
                rintro e w' ⟨rfl, hw⟩
                exact ⟨rfl, sealAt_call (by assumption) hw⟩)
         try simp only [Act.put, List.setIfInBounds_toArray, List.set_cons_zero, List.set_cons_succ])
        (apply head_step rfl
         focus
           intro w0 hC
           have hC' := Lib.hid hC
           obtain ⟨r1, r2, r3, r4, r5, r6, r7, r8, r9, hB⟩ := hC
           have HB := Lib.hid hB; clear hB
           go_simp
           have hC := hC'.out
           first
             | with_reducible rfl
             | (refine (refXor_any _ _ _).mono ?_
                rintro e w' ⟨rfl, hw⟩
                exact ⟨rfl, sealAt_call (by assumption) hw⟩)
         try simp only [Act.put, List.setIfInBounds_toArray, List.set_cons_zero, List.set_cons_succ])
        (apply head_step rfl
         focus
           intro w0 hC
           have hC' := Lib.hid hC
           obtain ⟨r1, r2, r3, r4, r5, r6, r7, r8, r9, hB⟩ := hC
           have HB := Lib.hid hB; clear hB
           go_simp
           have hC := hC'.out
           first
             | with_reducible rfl
             | (refine (refXor_any _ _ _).mono ?_
                rintro e w' ⟨rfl, hw⟩
                exact ⟨rfl, sealAt_call (by assumption) hw⟩)
         try simp only [Act.put, List.setIfInBounds_toArray, List.set_cons_zero, List.set_cons_succ])
        (apply head_step rfl
         focus
           intro w0 hC
           have hC' := Lib.hid hC
           obtain ⟨r1, r2, r3, r4, r5, r6, r7, r8, r9, hB⟩ := hC
           have HB := Lib.hid hB; clear hB
           go_simp
           have hC := hC'.out
           first
             | with_reducible rfl
             | (refine (refXor_any _ _ _).mono ?_
                rintro e w' ⟨rfl, hw⟩
                exact ⟨rfl, sealAt_call (by assumption) hw⟩)
         try simp only [Act.put, List.setIfInBounds_toArray, List.set_cons_zero, List.set_cons_succ])
        refine wpQuiet_nil ?_
        intro w6 hC
        have HC := Lib.hid hC
        have s1 := hC.2.2.2.2.2.2.2.2.2.os
        obtain ⟨r1, r2, r3, r4, r5, r6, r7, r8, r9, hB⟩ := hC
        clear hB
        go_wp2_with fail
        refine ⟨⟨k + 1, by omega, by go_num, Lib.hid ?_⟩, by simp [intOf]; omega⟩
        rw [refTo_le r b (k + 1) (by omega)]
        exact sealAt_set _ HC.out
      · obtain rfl : k = 9 := by omega
        go_wp2_with fail
        refine wp_region_tail (C := SealAt w r (Ci.turn (Ci.each Gf.box (Ci.sealTo r b 9)))) 5 (by kernel_rfl) (by kernel_rfl) (sealAt_drew H4.out) ?_
        simp only [List.take_succ_cons, List.take_zero, List.drop_succ_cons, List.drop_zero]
        clear r1 r2 r3 r4 r5 r6 r7 r8 r9 s1
        (apply head_step rfl
         focus
           intro w0 hC
           have hC' := Lib.hid hC
           obtain ⟨r1, r2, r3, r4, r5, r6, r7, r8, r9, hB⟩ := hC
           have HB := Lib.hid hB; clear hB
           go_simp
           have hC := hC'.out
           first
             | with_reducible rfl
             | (refine (refXor_any _ _ _).mono ?_
                rintro e w' ⟨rfl, hw⟩
                exact ⟨rfl, sealAt_call (by assumption) hw⟩)
         try simp only [Act.put, List.setIfInBounds_toArray, List.set_cons_zero, List.set_cons_succ])
        (apply head_step rfl
         focus
           intro w0 hC
           have hC' := Lib.hid hC
           obtain ⟨r1, r2, r3, r4, r5, r6, r7, r8, r9, hB⟩ := hC
           have HB := Lib.hid hB; clear hB
           go_simp
           have hC := hC'.out
           first
             | with_reducible rfl
             | (refine (refXor_any _ _ _).mono ?_
                rintro e w' ⟨rfl, hw⟩
                exact ⟨rfl, sealAt_call (by assumption) hw⟩)
         try simp only [Act.put, List.setIfInBounds_toArray, List.set_cons_zero, List.set_cons_succ])
        (apply head_step rfl
         focus
           intro w0 hC
           have hC' := Lib.hid hC
           obtain ⟨r1, r2, r3, r4, r5, r6, r7, r8, r9, hB⟩ := hC
           have HB := Lib.hid hB; clear hB
           go_simp
           have hC := hC'.out
           first
             | with_reducible rfl
             | (refine (refXor_any _ _ _).mono ?_
                rintro e w' ⟨rfl, hw⟩
                exact ⟨rfl, sealAt_call (by assumption) hw⟩)
         try simp only [Act.put, List.setIfInBounds_toArray, List.set_cons_zero, List.set_cons_succ])
        (apply head_step rfl
         focus
           intro w0 hC
           have hC' := Lib.hid hC
           obtain ⟨r1, r2, r3, r4, r5, r6, r7, r8, r9, hB⟩ := hC
           have HB := Lib.hid hB; clear hB
           go_simp
           have hC := hC'.out
           first
             | with_reducible rfl
             | (refine (refXor_any _ _ _).mono ?_
                rintro e w' ⟨rfl, hw⟩
                exact ⟨rfl, sealAt_call (by assumption) hw⟩)
         try simp only [Act.put, List.setIfInBounds_toArray, List.set_cons_zero, List.set_cons_succ])
        (apply head_step rfl
         focus
           intro w0 hC
           have hC' := Lib.hid hC
           obtain ⟨r1, r2, r3, r4, r5, r6, r7, r8, r9, hB⟩ := hC
           have HB := Lib.hid hB; clear hB
           go_simp
           have hC := hC'.out
           first
             | with_reducible rfl
             | (refine (refXor_any _ _ _).mono ?_
                rintro e w' ⟨rfl, hw⟩
                exact ⟨rfl, sealAt_call (by assumption) hw⟩)
         try simp only [Act.put, List.setIfInBounds_toArray, List.set_cons_zero, List.set_cons_succ])
        refine wpQuiet_nil ?_
        intro w6 hC
        have HC := Lib.hid hC
        have s1 := hC.2.2.2.2.2.2.2.2.2.os
        obtain ⟨r1, r2, r3, r4, r5, r6, r7, r8, r9, hB⟩ := hC
        clear hB
        go_wp2_with fail
        refine ⟨⟨10, by omega, by go_num, Lib.hid ?_⟩, by simp [intOf]⟩
        exact sealAt_set _ HC.out
    · obtain rfl : k = 10 := by omega
      have hC := HR.out
      have s1 := hC.2.2.2.2.2.2.2.2.2.os
      obtain ⟨r1, r2, r3, r4, r5, r6, r7, r8, r9, hB⟩ := hC
      have HB := Lib.hid hB; clear hB
      have ha : refTo r b 10 = Ci.sealB r b := rfl
      rw [ha] at r3
      go_wp2_with fail
      refine bodyPost_ret (results_row rfl _ (w.heap.size + 1 + 1) rfl (blk 16 (Ci.sealB r b)) ?_ ?_ ?_ ?_) rfl ⟨rfl, ?_⟩
      · simp [go_sem, r8]
      · simp [go_sem]
      · simp [go_sem]
      · simp [go_sem, r8]
      · exact below_setRow' HB.out (by omega) _
end Go.Proofs.Ytepooocdpifcfaa
