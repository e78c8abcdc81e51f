/- A block told again, and a text as a block, as the program does it. No condition on bytes. -/
import Derived.Test.YtepooocdpifcfaaCiSeal
namespace Go.Proofs.Ytepooocdpifcfaa
open Go.RowKit
attribute [local go_sem] B_xor B_or B_and
attribute [local go_sem] blk_set blk_size blk_get blk_getE upd_same oneCells_blk paste_blk cut_blk szOf
attribute [local go_sem high] paste_all cut_head
attribute [local go_sem] rowAt_alloc rowAt_drew rowAt_drewN isRow_alloc isRow_drew isRow_drewN freeRow_alloc freeRow_end freeRow_drew freeRow_drewN
attribute [local go_sem] setRow_alloc setRow_drew setRow_drewN setCell_drewN alloc_drewN rowAt_put isRow_setRow freeRow_put
attribute [local go_sem ↓] loadS_in storeS_in indexS_in copyS_in
attribute [local go_sem] loadS_row loadS_one storeS_row storeS_one indexS_blk copyS_rows run_equalIn_blk same_refl arrayAt_row

theorem unmix_turns : Turns 58 Gf.unmix := unmix_any
theorem unmix_enters : Enters 58 := fun args w => by simp [go_sem]
theorem unbox_enters : Enters 57 := fun args w => by simp [go_sem]
theorem unmix_congr4 : Congr4 Gf.unmix := fun _ _ h i hi => Ci.unmix_congr h i hi


set_option maxRecDepth 100000 in
set_option maxHeartbeats 1000000 in
theorem open_any (r b : Nat → UInt8) (w : World) : Calls Try.prog 36 #[.agg (blk 176 r), .agg (blk 16 b)] w fun e w' => e = .returned (.agg (blk 16 (Ci.openB r b))) ∧ Below w.heap.size w w' := by
  have hz := zero16
  have hr0 := rd_zero r
  have hr10 := rd_at r 10
  go_enter Try.func36, Try.ntmps36
  go_wp2_with fail
  have hst : SealAt w r b (((w.alloc (.cells (blk 176 r) 46)).alloc (.cells (blk 16 b) 23)).alloc (.cells (blk 16 fun _ => 0) 23)) := by
    refine ⟨?_, ?_, ?_, ?_, ?_, ?_, ?_, ?_, ?_, ?_⟩
    all_goals first | exact (((Below.refl _ _).alloc (Nat.le_refl _) _).alloc (by simp) _).alloc (by simp; omega) _ | (simp [go_sem]; done) | (simp [go_sem]; omega)
  refine (xor_any _ _ _).mono ?_; rintro e w1 ⟨rfl, hw⟩
  have hs := sealAt_call hst hw
  have HS := Lib.hid hs
  have s1 := hw.1
  obtain ⟨r1, r2, r3, r4, r5, r6, r7, r8, r9, hB⟩ := hs
  clear hst hw hB
  go_wp2_with fail
  have HS := Lib.hid (sealAt_set (Ci.openTo r b 0) HS.out)
  clear r1 r2 r3 r4 r5 r6 r7 r8 s1
  go_loopw [5] (fun i wr => ∃ n k : Nat, n + k = 9 ∧ i = .int .i64 (n : Int) ∧ Hid (SealAt w r (Ci.openTo r b k) wr)) (fun i _ => (intOf i).toNat)
  case atStart => exact ⟨9, 0, by omega, rfl, HS⟩
  case round =>
    clear HS hr10
    obtain ⟨n, k, hk, rfl, HR⟩ := hrel
    by_cases hlt : 0 < n
    · obtain ⟨m, rfl⟩ : ∃ m, n = m + 1 := ⟨n - 1, by omega⟩
      have v1 : IntKind.i64.wrap ((m : Int) + 1 - 1) = (m : Int) := by rw [IntWalk.i64_in _ (by omega)]; omega
      have hd : ((m : Int) + 1 > 0) := by omega
      have hd2 : ((m : Int) + 1 < 11) := by omega
      have hd3 : (0 ≤ (m : Int) + 1) := by omega
      have b2 : (m + 1) * 16 + 16 ≤ 176 := by omega
      have hrd := rd_at r (m + 1)
      clear hr0
      go_wp2_with fail
      refine wp_region_tail (C := SealAt w r (Ci.openTo r b k)) 8 (by kernel_rfl) (by kernel_rfl) (sealAt_drew HR.out) ?_
      simp only [List.take_succ_cons, List.take_zero, List.drop_succ_cons, List.drop_zero]
      (apply head_step rfl
       focus
         intro w0 hC
         have hC' := Lib.hid hC
         obtain ⟨r1, r2, r3, r4, r5, r6, r7, r8, r9, hB⟩ := hC
         have HB := Lib.hid hB; clear hB
         go_simp
         have hC := hC'.out
         (first
            | with_reducible rfl
            | ((first
                | refine (unturn_any _ _).mono ?_
                | refine (each_any _ _ _ unbox_enters unbox_pur _).mono ?_
                | refine (columns_any _ _ _ unmix_congr4 unmix_enters unmix_turns _).mono ?_
                | refine (xor_any _ _ _).mono ?_)
               rintro e w' ⟨rfl, hw⟩
               exact ⟨rfl, sealAt_call (by assumption) hw⟩))
       try simp only [Act.put, List.setIfInBounds_toArray, List.set])
      (apply head_step rfl
       focus
         intro w0 hC
         have hC' := Lib.hid hC
         obtain ⟨r1, r2, r3, r4, r5, r6, r7, r8, r9, hB⟩ := hC
         have HB := Lib.hid hB; clear hB
         go_simp
         have hC := hC'.out
         (first
            | with_reducible rfl
            | ((first
                | refine (unturn_any _ _).mono ?_
                | refine (each_any _ _ _ unbox_enters unbox_pur _).mono ?_
                | refine (columns_any _ _ _ unmix_congr4 unmix_enters unmix_turns _).mono ?_
                | refine (xor_any _ _ _).mono ?_)
               rintro e w' ⟨rfl, hw⟩
               exact ⟨rfl, sealAt_call (by assumption) hw⟩))
       try simp only [Act.put, List.setIfInBounds_toArray, List.set])
      (apply head_step rfl
       focus
         intro w0 hC
         have hC' := Lib.hid hC
         obtain ⟨r1, r2, r3, r4, r5, r6, r7, r8, r9, hB⟩ := hC
         have HB := Lib.hid hB; clear hB
         go_simp
         have hC := hC'.out
         (first
            | with_reducible rfl
            | ((first
                | refine (unturn_any _ _).mono ?_
                | refine (each_any _ _ _ unbox_enters unbox_pur _).mono ?_
                | refine (columns_any _ _ _ unmix_congr4 unmix_enters unmix_turns _).mono ?_
                | refine (xor_any _ _ _).mono ?_)
               rintro e w' ⟨rfl, hw⟩
               exact ⟨rfl, sealAt_call (by assumption) hw⟩))
       try simp only [Act.put, List.setIfInBounds_toArray, List.set])
      (apply head_step rfl
       focus
         intro w0 hC
         have hC' := Lib.hid hC
         obtain ⟨r1, r2, r3, r4, r5, r6, r7, r8, r9, hB⟩ := hC
         have HB := Lib.hid hB; clear hB
         go_simp
         have hC := hC'.out
         (first
            | with_reducible rfl
            | ((first
                | refine (unturn_any _ _).mono ?_
                | refine (each_any _ _ _ unbox_enters unbox_pur _).mono ?_
                | refine (columns_any _ _ _ unmix_congr4 unmix_enters unmix_turns _).mono ?_
                | refine (xor_any _ _ _).mono ?_)
               rintro e w' ⟨rfl, hw⟩
               exact ⟨rfl, sealAt_call (by assumption) hw⟩))
       try simp only [Act.put, List.setIfInBounds_toArray, List.set])
      (apply head_step rfl
       focus
         intro w0 hC
         have hC' := Lib.hid hC
         obtain ⟨r1, r2, r3, r4, r5, r6, r7, r8, r9, hB⟩ := hC
         have HB := Lib.hid hB; clear hB
         go_simp
         have hC := hC'.out
         (first
            | with_reducible rfl
            | ((first
                | refine (unturn_any _ _).mono ?_
                | refine (each_any _ _ _ unbox_enters unbox_pur _).mono ?_
                | refine (columns_any _ _ _ unmix_congr4 unmix_enters unmix_turns _).mono ?_
                | refine (xor_any _ _ _).mono ?_)
               rintro e w' ⟨rfl, hw⟩
               exact ⟨rfl, sealAt_call (by assumption) hw⟩))
       try simp only [Act.put, List.setIfInBounds_toArray, List.set])
      (apply head_step rfl
       focus
         intro w0 hC
         have hC' := Lib.hid hC
         obtain ⟨r1, r2, r3, r4, r5, r6, r7, r8, r9, hB⟩ := hC
         have HB := Lib.hid hB; clear hB
         go_simp
         have hC := hC'.out
         (first
            | with_reducible rfl
            | ((first
                | refine (unturn_any _ _).mono ?_
                | refine (each_any _ _ _ unbox_enters unbox_pur _).mono ?_
                | refine (columns_any _ _ _ unmix_congr4 unmix_enters unmix_turns _).mono ?_
                | refine (xor_any _ _ _).mono ?_)
               rintro e w' ⟨rfl, hw⟩
               exact ⟨rfl, sealAt_call (by assumption) hw⟩))
       try simp only [Act.put, List.setIfInBounds_toArray, List.set])
      (apply head_step rfl
       focus
         intro w0 hC
         have hC' := Lib.hid hC
         obtain ⟨r1, r2, r3, r4, r5, r6, r7, r8, r9, hB⟩ := hC
         have HB := Lib.hid hB; clear hB
         go_simp
         have hC := hC'.out
         (first
            | with_reducible rfl
            | ((first
                | refine (unturn_any _ _).mono ?_
                | refine (each_any _ _ _ unbox_enters unbox_pur _).mono ?_
                | refine (columns_any _ _ _ unmix_congr4 unmix_enters unmix_turns _).mono ?_
                | refine (xor_any _ _ _).mono ?_)
               rintro e w' ⟨rfl, hw⟩
               exact ⟨rfl, sealAt_call (by assumption) hw⟩))
       try simp only [Act.put, List.setIfInBounds_toArray, List.set])
      (apply head_step rfl
       focus
         intro w0 hC
         have hC' := Lib.hid hC
         obtain ⟨r1, r2, r3, r4, r5, r6, r7, r8, r9, hB⟩ := hC
         have HB := Lib.hid hB; clear hB
         go_simp
         have hC := hC'.out
         (first
            | with_reducible rfl
            | ((first
                | refine (unturn_any _ _).mono ?_
                | refine (each_any _ _ _ unbox_enters unbox_pur _).mono ?_
                | refine (columns_any _ _ _ unmix_congr4 unmix_enters unmix_turns _).mono ?_
                | refine (xor_any _ _ _).mono ?_)
               rintro e w' ⟨rfl, hw⟩
               exact ⟨rfl, sealAt_call (by assumption) hw⟩))
       try simp only [Act.put, List.setIfInBounds_toArray, List.set])
      refine wpQuiet_nil ?_
      intro w3 hC
      have HC := Lib.hid hC
      have s1 := hC.2.2.2.2.2.2.2.2.2.os
      obtain ⟨r1, r2, r3, r4, r5, r6, r7, r8, r9, hB⟩ := hC
      clear hB
      go_wp2_with fail
      have e9 : Ci.columns Gf.unmix (Ci.xorB (Ci.each Gf.unbox (Ci.unturn (Ci.openTo r b k))) (Ci.rd r (m + 1))) = Ci.openTo r b (k + 1) := by
        show _ = Ci.columns Gf.unmix (Ci.xorB (Ci.each Gf.unbox (Ci.unturn (Ci.openTo r b k))) (Ci.rd r (9 - k)))
        rw [show 9 - k = m + 1 by omega]
      rw [e9]
      exact ⟨⟨m, k + 1, by omega, rfl, Lib.hid (sealAt_set _ HC.out)⟩, by simp [intOf]⟩
    · obtain rfl : n = 0 := by omega
      obtain rfl : k = 9 := by omega
      have hC := HR.out
      have s1 := hC.2.2.2.2.2.2.2.2.2.os
      obtain ⟨r1, r2, r3, r4, r5, r6, r7, r8, r9, hB⟩ := hC
      clear hB
      go_wp2_with fail
      refine (unturn_any _ _).mono ?_; rintro e w4 ⟨rfl, hw⟩
      have hs := sealAt_call HR.out hw
      have HS := Lib.hid (sealAt_set (Ci.unturn (Ci.openTo r b 9)) hs)
      clear r1 r2 r3 r4 r5 r6 r7 r8 r9 s1
      have s1 := hs.2.2.2.2.2.2.2.2.2.os
      obtain ⟨r1, r2, r3, r4, r5, r6, r7, r8, r9, hB⟩ := hs
      clear hB hw
      go_wp2_with fail
      refine wp_region_tail (C := SealAt w r (Ci.unturn (Ci.openTo r b 9))) 5 (by kernel_rfl) (by kernel_rfl) (sealAt_drew HS.out) ?_
      simp only [List.take_succ_cons, List.take_zero, List.drop_succ_cons, List.drop_zero]
      clear r1 r2 r3 r4 r5 r6 r7 r8 r9 s1
      (apply head_step rfl
       focus
         intro w0 hC
         have hC' := Lib.hid hC
         obtain ⟨r1, r2, r3, r4, r5, r6, r7, r8, r9, hB⟩ := hC
         have HB := Lib.hid hB; clear hB
         go_simp
         have hC := hC'.out
         (first
            | with_reducible rfl
            | ((first
                | refine (unturn_any _ _).mono ?_
                | refine (each_any _ _ _ unbox_enters unbox_pur _).mono ?_
                | refine (columns_any _ _ _ unmix_congr4 unmix_enters unmix_turns _).mono ?_
                | refine (xor_any _ _ _).mono ?_)
               rintro e w' ⟨rfl, hw⟩
               exact ⟨rfl, sealAt_call (by assumption) hw⟩))
       try simp only [Act.put, List.setIfInBounds_toArray, List.set])
      (apply head_step rfl
       focus
         intro w0 hC
         have hC' := Lib.hid hC
         obtain ⟨r1, r2, r3, r4, r5, r6, r7, r8, r9, hB⟩ := hC
         have HB := Lib.hid hB; clear hB
         go_simp
         have hC := hC'.out
         (first
            | with_reducible rfl
            | ((first
                | refine (unturn_any _ _).mono ?_
                | refine (each_any _ _ _ unbox_enters unbox_pur _).mono ?_
                | refine (columns_any _ _ _ unmix_congr4 unmix_enters unmix_turns _).mono ?_
                | refine (xor_any _ _ _).mono ?_)
               rintro e w' ⟨rfl, hw⟩
               exact ⟨rfl, sealAt_call (by assumption) hw⟩))
       try simp only [Act.put, List.setIfInBounds_toArray, List.set])
      (apply head_step rfl
       focus
         intro w0 hC
         have hC' := Lib.hid hC
         obtain ⟨r1, r2, r3, r4, r5, r6, r7, r8, r9, hB⟩ := hC
         have HB := Lib.hid hB; clear hB
         go_simp
         have hC := hC'.out
         (first
            | with_reducible rfl
            | ((first
                | refine (unturn_any _ _).mono ?_
                | refine (each_any _ _ _ unbox_enters unbox_pur _).mono ?_
                | refine (columns_any _ _ _ unmix_congr4 unmix_enters unmix_turns _).mono ?_
                | refine (xor_any _ _ _).mono ?_)
               rintro e w' ⟨rfl, hw⟩
               exact ⟨rfl, sealAt_call (by assumption) hw⟩))
       try simp only [Act.put, List.setIfInBounds_toArray, List.set])
      (apply head_step rfl
       focus
         intro w0 hC
         have hC' := Lib.hid hC
         obtain ⟨r1, r2, r3, r4, r5, r6, r7, r8, r9, hB⟩ := hC
         have HB := Lib.hid hB; clear hB
         go_simp
         have hC := hC'.out
         (first
            | with_reducible rfl
            | ((first
                | refine (unturn_any _ _).mono ?_
                | refine (each_any _ _ _ unbox_enters unbox_pur _).mono ?_
                | refine (columns_any _ _ _ unmix_congr4 unmix_enters unmix_turns _).mono ?_
                | refine (xor_any _ _ _).mono ?_)
               rintro e w' ⟨rfl, hw⟩
               exact ⟨rfl, sealAt_call (by assumption) hw⟩))
       try simp only [Act.put, List.setIfInBounds_toArray, List.set])
      (apply head_step rfl
       focus
         intro w0 hC
         have hC' := Lib.hid hC
         obtain ⟨r1, r2, r3, r4, r5, r6, r7, r8, r9, hB⟩ := hC
         have HB := Lib.hid hB; clear hB
         go_simp
         have hC := hC'.out
         (first
            | with_reducible rfl
            | ((first
                | refine (unturn_any _ _).mono ?_
                | refine (each_any _ _ _ unbox_enters unbox_pur _).mono ?_
                | refine (columns_any _ _ _ unmix_congr4 unmix_enters unmix_turns _).mono ?_
                | refine (xor_any _ _ _).mono ?_)
               rintro e w' ⟨rfl, hw⟩
               exact ⟨rfl, sealAt_call (by assumption) hw⟩))
       try simp only [Act.put, List.setIfInBounds_toArray, List.set])
      refine wpQuiet_nil ?_
      intro w3 hC
      have HC := Lib.hid hC
      have s1 := hC.2.2.2.2.2.2.2.2.2.os
      obtain ⟨r1, r2, r3, r4, r5, r6, r7, r8, r9, hB⟩ := hC
      clear hB
      go_wp2_with fail
      refine bodyPost_ret (results_row rfl _ (w.heap.size + 1 + 1) rfl (blk 16 (Ci.openB r b)) ?_ ?_ ?_ ?_) rfl ⟨rfl, ?_⟩
      · simp [go_sem, r8]; rfl
      · simp [go_sem]
      · simp [go_sem]
      · simp [go_sem, r8]
      · exact below_setRow' HC.out.2.2.2.2.2.2.2.2.2 (by omega) _

end Go.Proofs.Ytepooocdpifcfaa
