/- A block in secret, as the program puts it. No condition on bytes. -/
import Derived.Test.YtepooocdpifcfaaCiExp
namespace Go.Proofs.Ytepooocdpifcfaa
open Go.RowKit
attribute [local go_sem] B_xor B_or B_and
attribute [local go_sem] blk_set blk_size blk_get blk_getE upd_same oneCells_blk paste_blk cut_blk szOf
attribute [local go_sem high] paste_all cut_head
attribute [local go_sem] rowAt_alloc rowAt_drew rowAt_drewN isRow_alloc isRow_drew isRow_drewN freeRow_alloc freeRow_end freeRow_drew freeRow_drewN
attribute [local go_sem] setRow_alloc setRow_drew setRow_drewN setCell_drewN alloc_drewN rowAt_put isRow_setRow freeRow_put
attribute [local go_sem ↓] loadS_in storeS_in indexS_in copyS_in
attribute [local go_sem] loadS_row loadS_one storeS_row storeS_one indexS_blk copyS_rows run_equalIn_blk same_refl arrayAt_row

theorem cmix_turns : Turns 54 Gf.mix := cipherMix_any
theorem cmix_enters : Enters 54 := fun args w => by simp [go_sem]
theorem cbox_enters : Enters 52 := fun args w => by simp [go_sem]
theorem mix_congr4 : Congr4 Gf.mix := fun _ _ h i hi => Ci.mix_congr h i hi

/-- the rows of Seal's and Open's own -/
def SealAt (w : World) (r x : Nat → UInt8) (wr : World) : Prop :=
  rowAt wr w.heap.size = blk 176 r ∧ isRow wr w.heap.size = true ∧ rowAt wr (w.heap.size + 1) = blk 16 x ∧ freeRow wr (w.heap.size + 1) = true ∧ isRow wr (w.heap.size + 1) = true ∧
    rowAt wr (w.heap.size + 1 + 1) = blk 16 (fun _ => 0) ∧ freeRow wr (w.heap.size + 1 + 1) = true ∧ isRow wr (w.heap.size + 1 + 1) = true ∧ w.heap.size + 3 ≤ wr.heap.size ∧ Below w.heap.size w wr
theorem sealAt_call {w a b : World} {r x : Nat → UInt8} (h : SealAt w r x a) (hb : Below a.heap.size a b) : SealAt w r x b := by
  obtain ⟨r1, r2, r3, r4, r5, r6, r7, r8, r9, hB⟩ := h
  exact ⟨(below_rowAt hb (by omega)).trans r1, (below_isRow hb (by omega)).trans r2, (below_rowAt hb (by omega)).trans r3, (below_freeRow hb (by omega)).trans r4, (below_isRow hb (by omega)).trans r5,
    (below_rowAt hb (by omega)).trans r6, (below_freeRow hb (by omega)).trans r7, (below_isRow hb (by omega)).trans r8, Nat.le_trans r9 hb.size, hB.trans (hb.mono (by omega))⟩
theorem sealAt_drew {w a : World} {r x : Nat → UInt8} (h : SealAt w r x a) : SealAt w r x a.drew := by
  obtain ⟨r1, r2, r3, r4, r5, r6, r7, r8, r9, hB⟩ := h
  exact ⟨r1, r2, r3, r4, r5, r6, r7, r8, r9, hB.drew⟩

theorem sealAt_set {w a : World} {r x : Nat → UInt8} (y : Nat → UInt8) (h : SealAt w r x a) : SealAt w r y (a.setRow (w.heap.size + 1) (blk 16 y)) := by
  obtain ⟨r1, r2, r3, r4, r5, r6, r7, r8, r9, hB⟩ := h
  have m1 : (w.heap.size = w.heap.size + 1) = False := by simp
  have m2 : (w.heap.size + 1 + 1 = w.heap.size + 1) = False := by simp
  refine ⟨?_, ?_, ?_, ?_, ?_, ?_, ?_, ?_, ?_, ?_⟩
  all_goals first | (simp [go_sem, *]; done) | skip
  · exact below_setRow' hB (by omega) _
theorem rd_zero (r : Nat → UInt8) : blk 16 r = blk 16 (Ci.rd r 0) := blk_congr fun i _ => by unfold Ci.rd; congr 1; omega
theorem rd_at (r : Nat → UInt8) (n : Nat) : (fun j => r (n * 16 + j)) = Ci.rd r n := by funext i; unfold Ci.rd; congr 1; omega


set_option maxRecDepth 100000 in
set_option maxHeartbeats 1000000 in
theorem seal_any (r b : Nat → UInt8) (w : World) : Calls Try.prog 34 #[.agg (blk 176 r), .agg (blk 16 b)] w fun e w' => e = .returned (.agg (blk 16 (Ci.sealB r b))) ∧ Below w.heap.size w w' := by
  have hz := zero16
  have hr0 := rd_zero r
  go_enter Try.func34, Try.ntmps34
  go_wp2_with fail
  have hst : SealAt w r b (((w.alloc (.cells (blk 176 r) 46)).alloc (.cells (blk 16 b) 23)).alloc (.cells (blk 16 fun _ => 0) 23)) := by
    refine ⟨?_, ?_, ?_, ?_, ?_, ?_, ?_, ?_, ?_, ?_⟩
    all_goals first | exact (((Below.refl _ _).alloc (Nat.le_refl _) _).alloc (by simp) _).alloc (by simp; omega) _ | (simp [go_sem]; done) | (simp [go_sem]; omega)
  refine (xor_any _ _ _).mono ?_; rintro e w1 ⟨rfl, hw⟩
  have hs := sealAt_call hst hw
  have HS := Lib.hid hs
  have s1 := hw.1
  obtain ⟨r1, r2, r3, r4, r5, r6, r7, r8, r9, hB⟩ := hs
  clear hst hw hB
  go_wp2_with fail
  have HS := Lib.hid (sealAt_set (Ci.sealTo r b 0) HS.out)
  clear r1 r2 r3 r4 r5 r6 r7 r8 s1
  go_loopw [5] (fun i wr => ∃ k : Nat, k ≤ 9 ∧ i = .int .i64 ((k : Int) + 1) ∧ Hid (SealAt w r (Ci.sealTo r b k) wr)) (fun i _ => 10 - (intOf i).toNat)
  case atStart => exact ⟨0, by omega, rfl, HS⟩
  case round =>
    clear HS hr0
    obtain ⟨k, hk, rfl, HR⟩ := hrel
    by_cases hlt : k < 9
    · have v2 : IntKind.i64.wrap ((k : Int) + 1 + 1) = ((k : Int) + 1 + 1) := IntWalk.i64_in _ (by omega)
      have hd : ((k : Int) + 1 < 10) := by omega
      have hd2 : ((k : Int) + 1 < 11) := by omega
      have hd3 : (0 ≤ (k : Int) + 1) := by omega
      have b2 : (k + 1) * 16 + 16 ≤ 176 := by omega
      have hrd := rd_at r (k + 1)
      go_wp2_with fail
      refine wp_region_tail (C := SealAt w r (Ci.sealTo r b k)) 8 (by kernel_rfl) (by kernel_rfl) (sealAt_drew HR.out) ?_
      simp only [List.take_succ_cons, List.take_zero, List.drop_succ_cons, List.drop_zero]
      (apply head_step rfl
       focus
         intro w0 hC
         have hC' := Lib.hid hC
         obtain ⟨r1, r2, r3, r4, r5, r6, r7, r8, r9, hB⟩ := hC
         have HB := Lib.hid hB; clear hB
         go_simp
         have hC := hC'.out
         (first
            | with_reducible rfl
            | ((first
                | refine (each_any _ _ _ cbox_enters cbox_pur _).mono ?_
                | refine (turn_any _ _).mono ?_
                | refine (columns_any _ _ _ mix_congr4 cmix_enters cmix_turns _).mono ?_
                | refine (xor_any _ _ _).mono ?_)
               rintro e w' ⟨rfl, hw⟩
               exact ⟨rfl, sealAt_call (by assumption) hw⟩))
       try simp only [Act.put, List.setIfInBounds_toArray, List.set])
      (apply head_step rfl
       focus
         intro w0 hC
         have hC' := Lib.hid hC
         obtain ⟨r1, r2, r3, r4, r5, r6, r7, r8, r9, hB⟩ := hC
         have HB := Lib.hid hB; clear hB
         go_simp
         have hC := hC'.out
         (first
            | with_reducible rfl
            | ((first
                | refine (each_any _ _ _ cbox_enters cbox_pur _).mono ?_
                | refine (turn_any _ _).mono ?_
                | refine (columns_any _ _ _ mix_congr4 cmix_enters cmix_turns _).mono ?_
                | refine (xor_any _ _ _).mono ?_)
               rintro e w' ⟨rfl, hw⟩
               exact ⟨rfl, sealAt_call (by assumption) hw⟩))
       try simp only [Act.put, List.setIfInBounds_toArray, List.set])
      (apply head_step rfl
       focus
         intro w0 hC
         have hC' := Lib.hid hC
         obtain ⟨r1, r2, r3, r4, r5, r6, r7, r8, r9, hB⟩ := hC
         have HB := Lib.hid hB; clear hB
         go_simp
         have hC := hC'.out
         (first
            | with_reducible rfl
            | ((first
                | refine (each_any _ _ _ cbox_enters cbox_pur _).mono ?_
                | refine (turn_any _ _).mono ?_
                | refine (columns_any _ _ _ mix_congr4 cmix_enters cmix_turns _).mono ?_
                | refine (xor_any _ _ _).mono ?_)
               rintro e w' ⟨rfl, hw⟩
               exact ⟨rfl, sealAt_call (by assumption) hw⟩))
       try simp only [Act.put, List.setIfInBounds_toArray, List.set])
      (apply head_step rfl
       focus
         intro w0 hC
         have hC' := Lib.hid hC
         obtain ⟨r1, r2, r3, r4, r5, r6, r7, r8, r9, hB⟩ := hC
         have HB := Lib.hid hB; clear hB
         go_simp
         have hC := hC'.out
         (first
            | with_reducible rfl
            | ((first
                | refine (each_any _ _ _ cbox_enters cbox_pur _).mono ?_
                | refine (turn_any _ _).mono ?_
                | refine (columns_any _ _ _ mix_congr4 cmix_enters cmix_turns _).mono ?_
                | refine (xor_any _ _ _).mono ?_)
               rintro e w' ⟨rfl, hw⟩
               exact ⟨rfl, sealAt_call (by assumption) hw⟩))
       try simp only [Act.put, List.setIfInBounds_toArray, List.set])
      (apply head_step rfl
       focus
         intro w0 hC
         have hC' := Lib.hid hC
         obtain ⟨r1, r2, r3, r4, r5, r6, r7, r8, r9, hB⟩ := hC
         have HB := Lib.hid hB; clear hB
         go_simp
         have hC := hC'.out
         (first
            | with_reducible rfl
            | ((first
                | refine (each_any _ _ _ cbox_enters cbox_pur _).mono ?_
                | refine (turn_any _ _).mono ?_
                | refine (columns_any _ _ _ mix_congr4 cmix_enters cmix_turns _).mono ?_
                | refine (xor_any _ _ _).mono ?_)
               rintro e w' ⟨rfl, hw⟩
               exact ⟨rfl, sealAt_call (by assumption) hw⟩))
       try simp only [Act.put, List.setIfInBounds_toArray, List.set])
      (apply head_step rfl
       focus
         intro w0 hC
         have hC' := Lib.hid hC
         obtain ⟨r1, r2, r3, r4, r5, r6, r7, r8, r9, hB⟩ := hC
         have HB := Lib.hid hB; clear hB
         go_simp
         have hC := hC'.out
         (first
            | with_reducible rfl
            | ((first
                | refine (each_any _ _ _ cbox_enters cbox_pur _).mono ?_
                | refine (turn_any _ _).mono ?_
                | refine (columns_any _ _ _ mix_congr4 cmix_enters cmix_turns _).mono ?_
                | refine (xor_any _ _ _).mono ?_)
               rintro e w' ⟨rfl, hw⟩
               exact ⟨rfl, sealAt_call (by assumption) hw⟩))
       try simp only [Act.put, List.setIfInBounds_toArray, List.set])
      (apply head_step rfl
       focus
         intro w0 hC
         have hC' := Lib.hid hC
         obtain ⟨r1, r2, r3, r4, r5, r6, r7, r8, r9, hB⟩ := hC
         have HB := Lib.hid hB; clear hB
         go_simp
         have hC := hC'.out
         (first
            | with_reducible rfl
            | ((first
                | refine (each_any _ _ _ cbox_enters cbox_pur _).mono ?_
                | refine (turn_any _ _).mono ?_
                | refine (columns_any _ _ _ mix_congr4 cmix_enters cmix_turns _).mono ?_
                | refine (xor_any _ _ _).mono ?_)
               rintro e w' ⟨rfl, hw⟩
               exact ⟨rfl, sealAt_call (by assumption) hw⟩))
       try simp only [Act.put, List.setIfInBounds_toArray, List.set])
      (apply head_step rfl
       focus
         intro w0 hC
         have hC' := Lib.hid hC
         obtain ⟨r1, r2, r3, r4, r5, r6, r7, r8, r9, hB⟩ := hC
         have HB := Lib.hid hB; clear hB
         go_simp
         have hC := hC'.out
         (first
            | with_reducible rfl
            | ((first
                | refine (each_any _ _ _ cbox_enters cbox_pur _).mono ?_
                | refine (turn_any _ _).mono ?_
                | refine (columns_any _ _ _ mix_congr4 cmix_enters cmix_turns _).mono ?_
                | refine (xor_any _ _ _).mono ?_)
               rintro e w' ⟨rfl, hw⟩
               exact ⟨rfl, sealAt_call (by assumption) hw⟩))
       try simp only [Act.put, List.setIfInBounds_toArray, List.set])
      refine wpQuiet_nil ?_
      intro w3 hC
      have HC := Lib.hid hC
      have s1 := hC.2.2.2.2.2.2.2.2.2.os
      obtain ⟨r1, r2, r3, r4, r5, r6, r7, r8, r9, hB⟩ := hC
      clear hB
      go_wp2_with fail
      exact ⟨⟨k + 1, by omega, by go_num, Lib.hid (sealAt_set _ HC.out)⟩, by simp [intOf]; omega⟩
    · obtain rfl : k = 9 := by omega
      have hC := HR.out
      obtain ⟨r1, r2, r3, r4, r5, r6, r7, r8, r9, hB⟩ := hC
      clear hB
      have hrd := rd_at r 10
      go_wp2_with fail
      refine wp_region_tail (C := SealAt w r (Ci.sealTo r b 9)) 6 (by kernel_rfl) (by kernel_rfl) (sealAt_drew HR.out) ?_
      simp only [List.take_succ_cons, List.take_zero, List.drop_succ_cons, List.drop_zero]
      clear r1 r2 r3 r4 r5 r6 r7 r8 r9
      (apply head_step rfl
       focus
         intro w0 hC
         have hC' := Lib.hid hC
         obtain ⟨r1, r2, r3, r4, r5, r6, r7, r8, r9, hB⟩ := hC
         have HB := Lib.hid hB; clear hB
         go_simp
         have hC := hC'.out
         (first
            | with_reducible rfl
            | ((first
                | refine (each_any _ _ _ cbox_enters cbox_pur _).mono ?_
                | refine (turn_any _ _).mono ?_
                | refine (columns_any _ _ _ mix_congr4 cmix_enters cmix_turns _).mono ?_
                | refine (xor_any _ _ _).mono ?_)
               rintro e w' ⟨rfl, hw⟩
               exact ⟨rfl, sealAt_call (by assumption) hw⟩))
       try simp only [Act.put, List.setIfInBounds_toArray, List.set])
      (apply head_step rfl
       focus
         intro w0 hC
         have hC' := Lib.hid hC
         obtain ⟨r1, r2, r3, r4, r5, r6, r7, r8, r9, hB⟩ := hC
         have HB := Lib.hid hB; clear hB
         go_simp
         have hC := hC'.out
         (first
            | with_reducible rfl
            | ((first
                | refine (each_any _ _ _ cbox_enters cbox_pur _).mono ?_
                | refine (turn_any _ _).mono ?_
                | refine (columns_any _ _ _ mix_congr4 cmix_enters cmix_turns _).mono ?_
                | refine (xor_any _ _ _).mono ?_)
               rintro e w' ⟨rfl, hw⟩
               exact ⟨rfl, sealAt_call (by assumption) hw⟩))
       try simp only [Act.put, List.setIfInBounds_toArray, List.set])
      (apply head_step rfl
       focus
         intro w0 hC
         have hC' := Lib.hid hC
         obtain ⟨r1, r2, r3, r4, r5, r6, r7, r8, r9, hB⟩ := hC
         have HB := Lib.hid hB; clear hB
         go_simp
         have hC := hC'.out
         (first
            | with_reducible rfl
            | ((first
                | refine (each_any _ _ _ cbox_enters cbox_pur _).mono ?_
                | refine (turn_any _ _).mono ?_
                | refine (columns_any _ _ _ mix_congr4 cmix_enters cmix_turns _).mono ?_
                | refine (xor_any _ _ _).mono ?_)
               rintro e w' ⟨rfl, hw⟩
               exact ⟨rfl, sealAt_call (by assumption) hw⟩))
       try simp only [Act.put, List.setIfInBounds_toArray, List.set])
      (apply head_step rfl
       focus
         intro w0 hC
         have hC' := Lib.hid hC
         obtain ⟨r1, r2, r3, r4, r5, r6, r7, r8, r9, hB⟩ := hC
         have HB := Lib.hid hB; clear hB
         go_simp
         have hC := hC'.out
         (first
            | with_reducible rfl
            | ((first
                | refine (each_any _ _ _ cbox_enters cbox_pur _).mono ?_
                | refine (turn_any _ _).mono ?_
                | refine (columns_any _ _ _ mix_congr4 cmix_enters cmix_turns _).mono ?_
                | refine (xor_any _ _ _).mono ?_)
               rintro e w' ⟨rfl, hw⟩
               exact ⟨rfl, sealAt_call (by assumption) hw⟩))
       try simp only [Act.put, List.setIfInBounds_toArray, List.set])
      (apply head_step rfl
       focus
         intro w0 hC
         have hC' := Lib.hid hC
         obtain ⟨r1, r2, r3, r4, r5, r6, r7, r8, r9, hB⟩ := hC
         have HB := Lib.hid hB; clear hB
         go_simp
         have hC := hC'.out
         (first
            | with_reducible rfl
            | ((first
                | refine (each_any _ _ _ cbox_enters cbox_pur _).mono ?_
                | refine (turn_any _ _).mono ?_
                | refine (columns_any _ _ _ mix_congr4 cmix_enters cmix_turns _).mono ?_
                | refine (xor_any _ _ _).mono ?_)
               rintro e w' ⟨rfl, hw⟩
               exact ⟨rfl, sealAt_call (by assumption) hw⟩))
       try simp only [Act.put, List.setIfInBounds_toArray, List.set])
      (apply head_step rfl
       focus
         intro w0 hC
         have hC' := Lib.hid hC
         obtain ⟨r1, r2, r3, r4, r5, r6, r7, r8, r9, hB⟩ := hC
         have HB := Lib.hid hB; clear hB
         go_simp
         have hC := hC'.out
         (first
            | with_reducible rfl
            | ((first
                | refine (each_any _ _ _ cbox_enters cbox_pur _).mono ?_
                | refine (turn_any _ _).mono ?_
                | refine (columns_any _ _ _ mix_congr4 cmix_enters cmix_turns _).mono ?_
                | refine (xor_any _ _ _).mono ?_)
               rintro e w' ⟨rfl, hw⟩
               exact ⟨rfl, sealAt_call (by assumption) hw⟩))
       try simp only [Act.put, List.setIfInBounds_toArray, List.set])
      refine wpQuiet_nil ?_
      intro w3 hC
      have HC := Lib.hid hC
      have s1 := hC.2.2.2.2.2.2.2.2.2.os
      obtain ⟨r1, r2, r3, r4, r5, r6, r7, r8, r9, hB⟩ := hC
      clear hB
      go_wp2_with fail
      refine bodyPost_ret (results_row rfl _ (w.heap.size + 1 + 1) rfl (blk 16 (Ci.sealB r b)) ?_ ?_ ?_ ?_) rfl ⟨rfl, ?_⟩
      · simp [go_sem, r8]; rfl
      · simp [go_sem]
      · simp [go_sem]
      · simp [go_sem, r8]
      · exact below_setRow' HC.out.2.2.2.2.2.2.2.2.2 (by omega) _
end Go.Proofs.Ytepooocdpifcfaa
