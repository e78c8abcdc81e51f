/- The reference's Hash, Counter, Stream. Texts shorter than 2 to 40. * The reference's Stream, Tag, Seal, Open. Texts shorter than 2 to 40. * The reference's Tag, Seal, Open. Texts shorter than 2 to 40. * padlocklaw09.awake returns true; padlocklaw09.over. -/
import Derived.Test.YtgaecjhghpkcoaaGreatMGcm
import Derived.Test.YtgaecjhghpkcoaaGreatMCipRef
import Derived.Test.YtgaecjhghpkcoaaGreatMGhaRef
section
namespace Go.Proofs.YtgaecjhghpkcoaaGreat
open Go.RowKit
attribute [local go_sem] B_xor B_or B_and
attribute [local go_sem] blk_set blk_size blk_get blk_getE upd_same oneCells_blk paste_blk cut_blk szOf
attribute [local go_sem high] paste_all cut_head
attribute [local go_sem] rowAt_alloc rowAt_drew rowAt_drewN isRow_alloc isRow_drew isRow_drewN freeRow_alloc freeRow_end freeRow_drew freeRow_drewN
attribute [local go_sem] setRow_alloc setRow_drew setRow_drewN setCell_drewN alloc_drewN rowAt_put isRow_setRow freeRow_put
attribute [local go_sem ↓] loadS_in storeS_in indexS_in copyS_in
attribute [local go_sem] loadS_row loadS_one storeS_row storeS_one indexS_blk copyS_rows run_equalIn_blk same_refl arrayAt_row
attribute [local go_sem] cell_row frozen_row st_setCell st_blk_ne stepAt stepUpon
attribute [local go_sem high] run_eql_blk run_neq_blk
attribute [local go_sem ↓] convBS_in
attribute [local go_sem] convBS_row convBS_nil allBytes_blk bytesOf_blk
attribute [local go_sem ↓] convSB_in
attribute [local go_sem] convSB_row freeRow_endB indexS_text

theorem refZero176 : Tryz.zeroCells155 = blk 176 (fun _ => 0) := by kernel_rfl
set_option maxRecDepth 100000 in
set_option maxHeartbeats 1000000 in
theorem refHash_any (k : Nat → UInt8) (w : World) : Calls Tryz.prog 104 #[.agg (blk 16 k)] w fun e w' => e = .returned (.agg (blk 16 (hashB (Ci.rounds k)))) ∧ Below w.heap.size w w' := by
  have hz := zero16
  have HC := Lib.hid ((((St.nil w).pushA (blk 16 k) 22 rfl).pushA (blk 16 fun _ => 0) 22 (g := w.heap.size + 1) (by simp)).pushA (blk 16 fun _ => 0) 22 (g := w.heap.size + 1 + 1) (by simp))
  go_enter Tryz.func104, Tryz.ntmps104
  go_wp2_with fail
  refine St.region_tail 4 HC.out (by kernel_rfl) (by decide +kernel) ?_
  (simp only [List.take, List.drop])
  (first
     | (apply head_skip rfl)
     | (apply head_step_g rfl
        focus
          intro w0 hC
          (fail))
     | (apply head_step_g rfl
        focus
          intro w0 hC
          have hC' := Lib.hid hC
          obtain ⟨⟨r1, f1, i1, b1, l1⟩, ⟨r2, f2, i2, b2, l2⟩, ⟨r3, f3, i3, b3, l3⟩, m12, m21, m13, m31, m23, m32⟩ := St.facts3 hC
          clear hC
          go_simp
          have hC := hC'.out
          (first
             | with_reducible rfl
             | (skip
                (first
                   | (go_at_call 92; refine (refExpand_any _ _).mono ?_)
                   | (go_at_call 91; refine (refSeal_any _ _ _).mono ?_))
                rintro e w' ⟨rfl, hw⟩
                exact ⟨rfl, St.call (by assumption) hw⟩)))
   try simp only [Act.put, List.setIfInBounds_toArray, List.set])
  (first
     | (apply head_skip rfl)
     | (apply head_step_g rfl
        focus
          intro w0 hC
          (fail))
     | (apply head_step_g rfl
        focus
          intro w0 hC
          have hC' := Lib.hid hC
          obtain ⟨⟨r1, f1, i1, b1, l1⟩, ⟨r2, f2, i2, b2, l2⟩, ⟨r3, f3, i3, b3, l3⟩, m12, m21, m13, m31, m23, m32⟩ := St.facts3 hC
          clear hC
          go_simp
          have hC := hC'.out
          (first
             | with_reducible rfl
             | (skip
                (first
                   | (go_at_call 92; refine (refExpand_any _ _).mono ?_)
                   | (go_at_call 91; refine (refSeal_any _ _ _).mono ?_))
                rintro e w' ⟨rfl, hw⟩
                exact ⟨rfl, St.call (by assumption) hw⟩)))
   try simp only [Act.put, List.setIfInBounds_toArray, List.set])
  (first
     | (apply head_skip rfl)
     | (apply head_step_g rfl
        focus
          intro w0 hC
          (fail))
     | (apply head_step_g rfl
        focus
          intro w0 hC
          have hC' := Lib.hid hC
          obtain ⟨⟨r1, f1, i1, b1, l1⟩, ⟨r2, f2, i2, b2, l2⟩, ⟨r3, f3, i3, b3, l3⟩, m12, m21, m13, m31, m23, m32⟩ := St.facts3 hC
          clear hC
          go_simp
          have hC := hC'.out
          (first
             | with_reducible rfl
             | (skip
                (first
                   | (go_at_call 92; refine (refExpand_any _ _).mono ?_)
                   | (go_at_call 91; refine (refSeal_any _ _ _).mono ?_))
                rintro e w' ⟨rfl, hw⟩
                exact ⟨rfl, St.call (by assumption) hw⟩)))
   try simp only [Act.put, List.setIfInBounds_toArray, List.set])
  (first
     | (apply head_skip rfl)
     | (apply head_step_g rfl
        focus
          intro w0 hC
          (fail))
     | (apply head_step_g rfl
        focus
          intro w0 hC
          have hC' := Lib.hid hC
          obtain ⟨⟨r1, f1, i1, b1, l1⟩, ⟨r2, f2, i2, b2, l2⟩, ⟨r3, f3, i3, b3, l3⟩, m12, m21, m13, m31, m23, m32⟩ := St.facts3 hC
          clear hC
          go_simp
          have hC := hC'.out
          (first
             | with_reducible rfl
             | (skip
                (first
                   | (go_at_call 92; refine (refExpand_any _ _).mono ?_)
                   | (go_at_call 91; refine (refSeal_any _ _ _).mono ?_))
                rintro e w' ⟨rfl, hw⟩
                exact ⟨rfl, St.call (by assumption) hw⟩)))
   try simp only [Act.put, List.setIfInBounds_toArray, List.set])
  refine wpQuiet_nil ?_
  intro w2 hC
  clear HC
  (have HC := Lib.hid hC
   have sos := hC.below.os
   obtain ⟨⟨r1, f1, i1, b1, l1⟩, ⟨r2, f2, i2, b2, l2⟩, ⟨r3, f3, i3, b3, l3⟩, m12, m21, m13, m31, m23, m32⟩ := St.facts3 hC
   clear hC)
  go_wp2_with fail
  refine bodyPost_ret (results_row rfl _ (w.heap.size + 1) rfl (blk 16 (hashB (Ci.rounds k))) ?_ ?_ ?_ ?_) rfl ⟨rfl, ?_⟩
  · simp [go_sem, *]; rfl
  · simp [go_sem]
  · simp [go_sem]
  · simp [go_sem, *]
  · exact below_setRow' HC.out.below (by omega) _

theorem byte_mod (n : Nat) : IntKind.u8.wrap ((n : Int) % 256) = B (UInt8.ofNat n) := by
  rw [← byte_of]
  simp [IntKind.wrap, IntKind.signed, IntKind.bits]
theorem iv_all (s : ByteArray) (h : s.size = 12) : blk 16 (upTo (fun _ => 0) (ofText s) 12) = blk 16 (ofText s) := blk_congr fun i _ => by
  unfold upTo
  by_cases hi : i < 12
  · rw [if_pos hi]
  · rw [if_neg hi, ofText_out s i (by omega)]
set_option maxRecDepth 100000 in
set_option maxHeartbeats 1000000 in
theorem counter_any (s : ByteArray) (h : s.size = 12) (n : Nat) (hn : n < 4294967296) (w : World) : Calls Tryz.prog 106 #[.string s, .int .u32 (n : Int)] w fun e w' => e = .returned (.agg (blk 16 (ctr (ofText s) n))) ∧ Below w.heap.size w w' := by
  have hz := zero16
  have H := Lib.hid h
  clear h
  have HC := Lib.hid (((St.nil w).pushA (blk 16 fun _ => 0) 22 rfl).pushA (blk 16 fun _ => 0) 22 (g := w.heap.size + 1) (by simp))
  go_enter Tryz.func106, Tryz.ntmps106
  go_wp2_with fail
  go_loopw [6] (fun i wr => ∃ k : Nat, k ≤ 12 ∧ i = .int .i64 (k : Int) ∧ Hid (St w [(w.heap.size + 1, blk 16 (upTo (fun _ => 0) (ofText s) k)), (w.heap.size, blk 16 fun _ => 0)] wr)) (fun i _ => 12 - (intOf i).toNat)
  case atStart => exact ⟨0, by omega, rfl, by rw [upTo_zero]; exact HC⟩
  case round =>
    clear HC
    obtain ⟨k, hk, rfl, HR⟩ := hrel
    have hC := HR.out
    by_cases hlt : k < 12
    · have d1 : (k : Int) < 16 := by omega
      have d2 : k < s.size := by have := H.out; omega
      have d3 : k < 16 := by omega
      have e1 := upTo_next 16 (fun _ => 0) (ofText s) k
      (have HC := Lib.hid hC
       have sos := hC.below.os
       obtain ⟨⟨r1, f1, i1, b1, l1⟩, ⟨r2, f2, i2, b2, l2⟩, m12, m21⟩ := St.facts2 hC
       clear hC)
      go_wp2_with fail
      have HC := Lib.hid (HR.out.set_head (blk 16 (upTo (fun _ => 0) (ofText s) (k + 1))))
      exact ⟨⟨k + 1, by omega, by go_num, HC⟩, by simp [intOf]; omega⟩
    · obtain rfl : k = 12 := by omega
      rw [iv_all s H.out] at HR
      have sos := HR.out.os
      clear hC
      go_wp2_with fail
      clear sos
      go_loopw [1, 7] (fun a i wr => ∃ k : Nat, k ≤ 4 ∧ a = .int .u32 (shN n k : Int) ∧ i = .int .i64 (dn15 k : Int) ∧ Hid (St w [(w.heap.size + 1, blk 16 (ctrTo (ofText s) n k)), (w.heap.size, blk 16 fun _ => 0)] wr)) (fun _ i _ => (intOf i).toNat)
      case atStart => exact ⟨0, by omega, by simp [shN], rfl, by rw [ctrTo_zero]; exact HR⟩
      case round =>
        clear HR
        obtain ⟨k, hk, rfl, rfl, HR⟩ := hrel
        have hC := HR.out
        have hs := shN_lt hn k
        by_cases hlt : k < 4
        · have d1 : (12 : Int) ≤ (dn15 k : Int) := by unfold dn15; omega
          have d2 : (dn15 k : Int) < 16 := by unfold dn15; omega
          have d4 : dn15 k < 16 := by unfold dn15; omega
          have v1 : IntKind.i64.wrap ((dn15 k : Int) - 1) = (dn15 (k + 1) : Int) := by unfold dn15; rw [IntWalk.i64_in _ (by omega)]; omega
          have v2 : (dn15 k : Int) - 1 = (dn15 (k + 1) : Int) := by unfold dn15; omega
          have v3 := byte_mod (shN n k)
          have v4 : (shN n k : Int) / 256 = (shN n (k + 1) : Int) := by rw [← shN_next]; omega
          have e1 : blk 16 (upd (ctrTo (ofText s) n k) (dn15 k) (UInt8.ofNat (shN n k))) = blk 16 (ctrTo (ofText s) n (k + 1)) := by
            unfold dn15 shN; rw [ctrTo_next _ _ _ (by omega)]
          have hms : dn15 (k + 1) < dn15 k := by unfold dn15; omega
          (have HC := Lib.hid hC
           have sos := hC.below.os
           obtain ⟨⟨r1, f1, i1, b1, l1⟩, ⟨r2, f2, i2, b2, l2⟩, m12, m21⟩ := St.facts2 hC
           clear hC)
          go_wp2_with fail
          have HC := Lib.hid (HR.out.set_head (blk 16 (ctrTo (ofText s) n (k + 1))))
          exact ⟨⟨k + 1, by omega, rfl, rfl, HC⟩, by simp [intOf]; omega⟩
        · obtain rfl : k = 4 := by omega
          have d1 : decide ((12 : Int) ≤ (dn15 4 : Int)) = false := by unfold dn15; rfl
          (have HC := Lib.hid hC
           have sos := hC.below.os
           obtain ⟨⟨r1, f1, i1, b1, l1⟩, ⟨r2, f2, i2, b2, l2⟩, m12, m21⟩ := St.facts2 hC
           clear hC)
          go_wp2_with fail
          refine bodyPost_ret (results_row rfl _ w.heap.size rfl (blk 16 (ctr (ofText s) n)) ?_ ?_ ?_ ?_) rfl ⟨rfl, ?_⟩
          · simp [go_sem, *]; rfl
          · simp [go_sem]
          · simp [go_sem]
          · simp [go_sem, *]
          · exact below_setRow' HC.out.below (by omega) _
end Go.Proofs.YtgaecjhghpkcoaaGreat
end

section
namespace Go.Proofs.YtgaecjhghpkcoaaGreat
open Go.RowKit
attribute [local go_sem] B_xor B_or B_and
attribute [local go_sem] blk_set blk_size blk_get blk_getE upd_same oneCells_blk paste_blk cut_blk szOf
attribute [local go_sem high] paste_all cut_head
attribute [local go_sem] rowAt_alloc rowAt_drew rowAt_drewN isRow_alloc isRow_drew isRow_drewN freeRow_alloc freeRow_end freeRow_drew freeRow_drewN
attribute [local go_sem] setRow_alloc setRow_drew setRow_drewN setCell_drewN alloc_drewN rowAt_put isRow_setRow freeRow_put
attribute [local go_sem ↓] loadS_in storeS_in indexS_in copyS_in
attribute [local go_sem] loadS_row loadS_one storeS_row storeS_one indexS_blk copyS_rows run_equalIn_blk same_refl arrayAt_row
attribute [local go_sem] cell_row frozen_row st_setCell st_blk_ne stepAt stepUpon
attribute [local go_sem high] run_eql_blk run_neq_blk
attribute [local go_sem ↓] convBS_in
attribute [local go_sem] convBS_row convBS_nil allBytes_blk bytesOf_blk
attribute [local go_sem ↓] convSB_in
attribute [local go_sem] convSB_row freeRow_endB indexS_text

theorem refStream_short (k : Nat → UInt8) (iv s : ByteArray) (n : Nat) (h : iv.size ≠ 12) (w : World) : Calls Tryz.prog 78 #[.agg (blk 16 k), .string iv, .int .u32 (n : Int), .string s] w fun e w' => e = .returned (.tuple #[.string ⟨#[]⟩, .int .i64 2]) ∧ Below w.heap.size w w' := by
  have ht : ((iv.size : Int) != 12) = true := by simp; omega
  go_enter Tryz.func78, Tryz.ntmps78
  go_wp2_with fail
  go_ret2
  exact ⟨rfl, (Below.refl _ _).alloc (Nat.le_refl _) _⟩

/-- how far it is, q blocks on -/
def lim (q : Nat) (s : ByteArray) : Nat := min (16 * q) s.size
theorem strB_far (r v : Nat → UInt8) (n : Nat) (f : Nat → UInt8) (q i : Nat) (hi : i < 16) : f (16 * q + i) ^^^ padB r v (nxN n q) i = strB r v n f (16 * q + i) := by
  unfold strB
  rw [show (16 * q + i) / 16 = q by omega, show (16 * q + i) % 16 = i by omega]
theorem pad_at (r : Nat → UInt8) (iv : ByteArray) (n : Nat) (w : World) : Calls Tryz.prog 91 #[.agg (blk 176 r), .agg (blk 16 (ctr (ofText iv) n))] w fun e w' => e = .returned (.agg (blk 16 (padB r (ofText iv) n))) ∧ Below w.heap.size w w' := refSeal_any _ _ w
set_option maxRecDepth 100000 in
set_option maxHeartbeats 2000000 in
theorem refStream_any (k : Nat → UInt8) (iv s : ByteArray) (n : Nat) (hn : n < 4294967296) (hs : s.size < 2 ^ 40) (h : iv.size = 12) (w : World) : Calls Tryz.prog 78 #[.agg (blk 16 k), .string iv, .int .u32 (n : Int), .string s] w fun e w' => e = .returned (.tuple #[.string (strS (Ci.rounds k) (ofText iv) n s), .int .i64 0]) ∧ Below w.heap.size w w' := by
  obtain ⟨r, hE, HRR⟩ : ∃ r, Hid (∀ w, Calls Tryz.prog 92 #[.agg (blk 16 k)] w fun e w' => e = .returned (.agg (blk 176 r)) ∧ Below w.heap.size w w') ∧ Hid (Ci.rounds k = r) := ⟨_, Lib.hid (fun w => refExpand_any k w), Lib.hid rfl⟩
  have hz := zero16
  have hz3 := refZero176
  have ht : ((iv.size : Int) != 12) = false := by simp; omega
  have H := Lib.hid h
  clear h
  have HC := Lib.hid ((St.nil w).pushA (blk 16 k) 22 rfl)
  go_enter Tryz.func78, Tryz.ntmps78
  go_wp2_with fail
  refine (hE.out _).mono ?_; rintro e w1 ⟨rfl, hw⟩
  have HC := Lib.hid (HC.out.call hw)
  clear hw
  have hC := HC.out
  have hcp := Lib.hid (capS_ge (w1.alloc (.cells (blk 176 r) 155)) s.size 5)
  (have HC := Lib.hid hC
   have sos := hC.below.os
   obtain ⟨r1, f1, i1, b1, l1⟩ := St.facts1 hC
   clear hC)
  go_wp2_with fail
  generalize capS (w1.alloc (.cells (blk 176 r) 155)) s.size 5 = cp at hcp ⊢
  have HC := Lib.hid (((HC.out.push (blk 176 r) 155).pushMA cp (ofText s) 5 (cp + 1) (g := w1.heap.size + 1) (by simp)).drew)
  (clear r1 f1 i1 b1 l1 sos)
  generalize w1.heap.size = gr at HC ⊢
  go_loopw [2, 12] (fun a i wr => ∃ q : Nat, 16 * q ≤ s.size + 15 ∧ i = .int .i64 ((16 * q : Nat) : Int) ∧ a = .int .u32 (nxN n q : Int) ∧ Hid (St w [(gr + 1, blk cp (upTo (ofText s) (strB r (ofText iv) n (ofText s)) (lim q s))), (gr, blk 176 r), (w.heap.size, blk 16 k)] wr)) (fun _ i _ => s.size + 16 - (intOf i).toNat)
  case atStart =>
    refine ⟨0, by omega, rfl, by rw [nxN_zero hn], ?_⟩
    rw [show lim 0 s = 0 by unfold lim; omega, upTo_zero]
    exact HC
  case round =>
    clear HC
    obtain ⟨q, hq, rfl, rfl, HR⟩ := hrel
    have hc := hcp.out
    obtain ⟨p, hp⟩ : ∃ p, 16 * q = p := ⟨_, rfl⟩
    rw [hp]
    have HP := Lib.hid hp
    by_cases hlt : p < s.size
    · have d1 : (p : Int) < (s.size : Int) := by omega
      rw [show lim q s = p by unfold lim; omega] at HR
      clear hp hq
      have sos := HR.out.os
      go_wp2_with fail
      clear sos
      refine St.region_float (w0 := w) 5 13 (blk 16 fun _ => 0) 22 HR.out _ (by kernel_rfl) (by decide +kernel) rfl (fun w a => by simp [go_sem, ptrTo, hz]) ?_
      (simp only [List.take])
      (apply walkB_step
       focus
         intro w0 hC
         have hC' := Lib.hid hC
         obtain ⟨⟨r1, f1, i1, b1, l1⟩, ⟨r2, f2, i2, b2, l2⟩, ⟨r3, f3, i3, b3, l3⟩, m12, m21, m13, m31, m23, m32⟩ := St.facts3 hC
         clear hC
         go_simp
         (first
            | with_reducible rfl
            | exact counter_any _ H.out _ (nxN_lt _ _) _
            | exact pad_at _ _ _ _)
       try simp only [Act.put, List.setIfInBounds_toArray, List.set])
      (apply walkB_step
       focus
         intro w0 hC
         have hC' := Lib.hid hC
         obtain ⟨⟨r1, f1, i1, b1, l1⟩, ⟨r2, f2, i2, b2, l2⟩, ⟨r3, f3, i3, b3, l3⟩, m12, m21, m13, m31, m23, m32⟩ := St.facts3 hC
         clear hC
         go_simp
         (first
            | with_reducible rfl
            | exact counter_any _ H.out _ (nxN_lt _ _) _
            | exact pad_at _ _ _ _)
       try simp only [Act.put, List.setIfInBounds_toArray, List.set])
      (apply walkB_step
       focus
         intro w0 hC
         have hC' := Lib.hid hC
         obtain ⟨⟨r1, f1, i1, b1, l1⟩, ⟨r2, f2, i2, b2, l2⟩, ⟨r3, f3, i3, b3, l3⟩, m12, m21, m13, m31, m23, m32⟩ := St.facts3 hC
         clear hC
         go_simp
         (first
            | with_reducible rfl
            | exact counter_any _ H.out _ (nxN_lt _ _) _
            | exact pad_at _ _ _ _)
       try simp only [Act.put, List.setIfInBounds_toArray, List.set])
      (apply walkB_step
       focus
         intro w0 hC
         have hC' := Lib.hid hC
         obtain ⟨⟨r1, f1, i1, b1, l1⟩, ⟨r2, f2, i2, b2, l2⟩, ⟨r3, f3, i3, b3, l3⟩, m12, m21, m13, m31, m23, m32⟩ := St.facts3 hC
         clear hC
         go_simp
         (first
            | with_reducible rfl
            | exact counter_any _ H.out _ (nxN_lt _ _) _
            | exact pad_at _ _ _ _)
       try simp only [Act.put, List.setIfInBounds_toArray, List.set])
      (apply walkB_step
       focus
         intro w0 hC
         have hC' := Lib.hid hC
         obtain ⟨⟨r1, f1, i1, b1, l1⟩, ⟨r2, f2, i2, b2, l2⟩, ⟨r3, f3, i3, b3, l3⟩, m12, m21, m13, m31, m23, m32⟩ := St.facts3 hC
         clear hC
         go_simp
         (first
            | with_reducible rfl
            | exact counter_any _ H.out _ (nxN_lt _ _) _
            | exact pad_at _ _ _ _)
       try simp only [Act.put, List.setIfInBounds_toArray, List.set])
      refine walkB_nil ?_
      intro w2 g hC
      clear HR
      unfold ptrTo
      (have HC := Lib.hid hC
       have sos := hC.below.os
       obtain ⟨⟨r1, f1, i1, b1, l1⟩, ⟨r2, f2, i2, b2, l2⟩, ⟨r3, f3, i3, b3, l3⟩, ⟨r4, f4, i4, b4, l4⟩, m12, m21, m13, m31, m14, m41, m23, m32, m24, m42, m34, m43⟩ := St.facts4 hC
       clear hC)
      (simp only [List.drop, List.setIfInBounds_toArray, List.set])
      go_wp2_with fail
      have HC := Lib.hid ((HC.out.set_head (blk 16 (padB r (ofText iv) (nxN n q)))).pick [1, 0, 2, 3] (by decide) rfl)
      (clear r1 f1 i1 b1 l1 r2 f2 i2 b2 l2 r3 f3 i3 b3 l3 r4 f4 i4 b4 l4 m12 m21 m13 m31 m14 m41 m23 m32 m24 m42 m34 m43 sos)
      go_loopw [14] (fun i wr => ∃ j : Nat, j ≤ 16 ∧ p + j ≤ s.size ∧ i = .int .i64 (j : Int) ∧ Hid (St w [(gr + 1, blk cp (upTo (ofText s) (strB r (ofText iv) n (ofText s)) (p + j))), (g, blk 16 (padB r (ofText iv) (nxN n q))), (gr, blk 176 r), (w.heap.size, blk 16 k)] wr)) (fun i _ => 16 - (intOf i).toNat)
      case atStart => exact ⟨0, by omega, by omega, rfl, HC⟩
      case round =>
        clear HC
        obtain ⟨j, hj, hpj, rfl, HJ⟩ := hrel
        obtain ⟨x, hx⟩ : ∃ x, p + j = x := ⟨_, rfl⟩
        have q1 : (p : Int) + (j : Int) = (x : Int) := by omega
        have q2 : IntKind.i64.wrap ((p : Int) + (j : Int)) = (x : Int) := by rw [IntWalk.i64_in _ (by omega)]; exact q1
        have q3 : IntKind.i64.wrap (x : Int) = (x : Int) := IntWalk.i64_in _ (by omega)
        have u1 : IntKind.u32.wrap ((nxN n q : Int) + 1) = (nxN n (q + 1) : Int) := by rw [c32_wrap, nxN_next]
        by_cases hin : j < 16 ∧ x < s.size
        · obtain ⟨h16, hxs⟩ := hin
          have d2 : (j : Int) < 16 := by omega
          have d3 : (x : Int) < (s.size : Int) := by omega
          have d4 : x < cp := by omega
          have e1 := upTo_at (ofText s) (strB r (ofText iv) n (ofText s)) x
          have e2 : blk cp (upd (upTo (ofText s) (strB r (ofText iv) n (ofText s)) x) x (ofText s x ^^^ padB r (ofText iv) (nxN n q) j)) = blk cp (upTo (ofText s) (strB r (ofText iv) n (ofText s)) (x + 1)) := by
            have h1 := strB_far r (ofText iv) n (ofText s) q j h16
            rw [HP.out, hx] at h1
            rw [h1]; exact upTo_next cp (ofText s) (strB r (ofText iv) n (ofText s)) x
          rw [hx] at HJ
          have HX := Lib.hid hx
          have sos := HJ.out.os
          clear hx hpj
          go_wp2_with fail
          clear sos
          refine St.region_tail 15 HJ.out (by kernel_rfl) (by decide +kernel) ?_
          (simp only [List.take, List.drop])
          (first
             | (apply head_skip rfl)
             | (apply head_step_g rfl
                focus
                  intro w0' hC
                  have hC' := Lib.hid hC
                  obtain ⟨⟨r1, f1, i1, b1, l1⟩, ⟨r2, f2, i2, b2, l2⟩, m12, m21⟩ := St.facts2 (hC.pick [0, 1] (by decide) rfl)
                  clear hC
                  go_simp
                  have hC := hC'.out
                  (first
                     | with_reducible rfl
                     | (skip
                        (fail)
                        rintro e w' ⟨rfl, hw⟩
                        exact ⟨rfl, St.call (by assumption) hw⟩)))
           try simp only [Act.put, List.setIfInBounds_toArray, List.set])
          (first
             | (apply head_skip rfl)
             | (apply head_step_g rfl
                focus
                  intro w0' hC
                  have hC' := Lib.hid hC
                  obtain ⟨⟨r1, f1, i1, b1, l1⟩, ⟨r2, f2, i2, b2, l2⟩, m12, m21⟩ := St.facts2 (hC.pick [0, 1] (by decide) rfl)
                  clear hC
                  go_simp
                  have hC := hC'.out
                  (first
                     | with_reducible rfl
                     | (skip
                        (fail)
                        rintro e w' ⟨rfl, hw⟩
                        exact ⟨rfl, St.call (by assumption) hw⟩)))
           try simp only [Act.put, List.setIfInBounds_toArray, List.set])
          (first
             | (apply head_skip rfl)
             | (apply head_step_g rfl
                focus
                  intro w0' hC
                  have hC' := Lib.hid hC
                  obtain ⟨⟨r1, f1, i1, b1, l1⟩, ⟨r2, f2, i2, b2, l2⟩, m12, m21⟩ := St.facts2 (hC.pick [0, 1] (by decide) rfl)
                  clear hC
                  go_simp
                  have hC := hC'.out
                  (first
                     | with_reducible rfl
                     | (skip
                        (fail)
                        rintro e w' ⟨rfl, hw⟩
                        exact ⟨rfl, St.call (by assumption) hw⟩)))
           try simp only [Act.put, List.setIfInBounds_toArray, List.set])
          (first
             | (apply head_skip rfl)
             | (apply head_step_g rfl
                focus
                  intro w0' hC
                  have hC' := Lib.hid hC
                  obtain ⟨⟨r1, f1, i1, b1, l1⟩, ⟨r2, f2, i2, b2, l2⟩, m12, m21⟩ := St.facts2 (hC.pick [0, 1] (by decide) rfl)
                  clear hC
                  go_simp
                  have hC := hC'.out
                  (first
                     | with_reducible rfl
                     | (skip
                        (fail)
                        rintro e w' ⟨rfl, hw⟩
                        exact ⟨rfl, St.call (by assumption) hw⟩)))
           try simp only [Act.put, List.setIfInBounds_toArray, List.set])
          (first
             | (apply head_skip rfl)
             | (apply head_step_g rfl
                focus
                  intro w0' hC
                  have hC' := Lib.hid hC
                  obtain ⟨⟨r1, f1, i1, b1, l1⟩, ⟨r2, f2, i2, b2, l2⟩, m12, m21⟩ := St.facts2 (hC.pick [0, 1] (by decide) rfl)
                  clear hC
                  go_simp
                  have hC := hC'.out
                  (first
                     | with_reducible rfl
                     | (skip
                        (fail)
                        rintro e w' ⟨rfl, hw⟩
                        exact ⟨rfl, St.call (by assumption) hw⟩)))
           try simp only [Act.put, List.setIfInBounds_toArray, List.set])
          (first
             | (apply head_skip rfl)
             | (apply head_step_g rfl
                focus
                  intro w0' hC
                  have hC' := Lib.hid hC
                  obtain ⟨⟨r1, f1, i1, b1, l1⟩, ⟨r2, f2, i2, b2, l2⟩, m12, m21⟩ := St.facts2 (hC.pick [0, 1] (by decide) rfl)
                  clear hC
                  go_simp
                  have hC := hC'.out
                  (first
                     | with_reducible rfl
                     | (skip
                        (fail)
                        rintro e w' ⟨rfl, hw⟩
                        exact ⟨rfl, St.call (by assumption) hw⟩)))
           try simp only [Act.put, List.setIfInBounds_toArray, List.set])
          (first
             | (apply head_skip rfl)
             | (apply head_step_g rfl
                focus
                  intro w0' hC
                  have hC' := Lib.hid hC
                  obtain ⟨⟨r1, f1, i1, b1, l1⟩, ⟨r2, f2, i2, b2, l2⟩, m12, m21⟩ := St.facts2 (hC.pick [0, 1] (by decide) rfl)
                  clear hC
                  go_simp
                  have hC := hC'.out
                  (first
                     | with_reducible rfl
                     | (skip
                        (fail)
                        rintro e w' ⟨rfl, hw⟩
                        exact ⟨rfl, St.call (by assumption) hw⟩)))
           try simp only [Act.put, List.setIfInBounds_toArray, List.set])
          (first
             | (apply head_skip rfl)
             | (apply head_step_g rfl
                focus
                  intro w0' hC
                  have hC' := Lib.hid hC
                  obtain ⟨⟨r1, f1, i1, b1, l1⟩, ⟨r2, f2, i2, b2, l2⟩, m12, m21⟩ := St.facts2 (hC.pick [0, 1] (by decide) rfl)
                  clear hC
                  go_simp
                  have hC := hC'.out
                  (first
                     | with_reducible rfl
                     | (skip
                        (fail)
                        rintro e w' ⟨rfl, hw⟩
                        exact ⟨rfl, St.call (by assumption) hw⟩)))
           try simp only [Act.put, List.setIfInBounds_toArray, List.set])
          (first
             | (apply head_skip rfl)
             | (apply head_step_g rfl
                focus
                  intro w0' hC
                  have hC' := Lib.hid hC
                  obtain ⟨⟨r1, f1, i1, b1, l1⟩, ⟨r2, f2, i2, b2, l2⟩, m12, m21⟩ := St.facts2 (hC.pick [0, 1] (by decide) rfl)
                  clear hC
                  go_simp
                  have hC := hC'.out
                  (first
                     | with_reducible rfl
                     | (skip
                        (fail)
                        rintro e w' ⟨rfl, hw⟩
                        exact ⟨rfl, St.call (by assumption) hw⟩)))
           try simp only [Act.put, List.setIfInBounds_toArray, List.set])
          (first
             | (apply head_skip rfl)
             | (apply head_step_g rfl
                focus
                  intro w0' hC
                  have hC' := Lib.hid hC
                  obtain ⟨⟨r1, f1, i1, b1, l1⟩, ⟨r2, f2, i2, b2, l2⟩, m12, m21⟩ := St.facts2 (hC.pick [0, 1] (by decide) rfl)
                  clear hC
                  go_simp
                  have hC := hC'.out
                  (first
                     | with_reducible rfl
                     | (skip
                        (fail)
                        rintro e w' ⟨rfl, hw⟩
                        exact ⟨rfl, St.call (by assumption) hw⟩)))
           try simp only [Act.put, List.setIfInBounds_toArray, List.set])
          (first
             | (apply head_skip rfl)
             | (apply head_step_g rfl
                focus
                  intro w0' hC
                  have hC' := Lib.hid hC
                  obtain ⟨⟨r1, f1, i1, b1, l1⟩, ⟨r2, f2, i2, b2, l2⟩, m12, m21⟩ := St.facts2 (hC.pick [0, 1] (by decide) rfl)
                  clear hC
                  go_simp
                  have hC := hC'.out
                  (first
                     | with_reducible rfl
                     | (skip
                        (fail)
                        rintro e w' ⟨rfl, hw⟩
                        exact ⟨rfl, St.call (by assumption) hw⟩)))
           try simp only [Act.put, List.setIfInBounds_toArray, List.set])
          (first
             | (apply head_skip rfl)
             | (apply head_step_g rfl
                focus
                  intro w0' hC
                  have hC' := Lib.hid hC
                  obtain ⟨⟨r1, f1, i1, b1, l1⟩, ⟨r2, f2, i2, b2, l2⟩, m12, m21⟩ := St.facts2 (hC.pick [0, 1] (by decide) rfl)
                  clear hC
                  go_simp
                  have hC := hC'.out
                  (first
                     | with_reducible rfl
                     | (skip
                        (fail)
                        rintro e w' ⟨rfl, hw⟩
                        exact ⟨rfl, St.call (by assumption) hw⟩)))
           try simp only [Act.put, List.setIfInBounds_toArray, List.set])
          (first
             | (apply head_skip rfl)
             | (apply head_step_g rfl
                focus
                  intro w0' hC
                  have hC' := Lib.hid hC
                  obtain ⟨⟨r1, f1, i1, b1, l1⟩, ⟨r2, f2, i2, b2, l2⟩, m12, m21⟩ := St.facts2 (hC.pick [0, 1] (by decide) rfl)
                  clear hC
                  go_simp
                  have hC := hC'.out
                  (first
                     | with_reducible rfl
                     | (skip
                        (fail)
                        rintro e w' ⟨rfl, hw⟩
                        exact ⟨rfl, St.call (by assumption) hw⟩)))
           try simp only [Act.put, List.setIfInBounds_toArray, List.set])
          (first
             | (apply head_skip rfl)
             | (apply head_step_g rfl
                focus
                  intro w0' hC
                  have hC' := Lib.hid hC
                  obtain ⟨⟨r1, f1, i1, b1, l1⟩, ⟨r2, f2, i2, b2, l2⟩, m12, m21⟩ := St.facts2 (hC.pick [0, 1] (by decide) rfl)
                  clear hC
                  go_simp
                  have hC := hC'.out
                  (first
                     | with_reducible rfl
                     | (skip
                        (fail)
                        rintro e w' ⟨rfl, hw⟩
                        exact ⟨rfl, St.call (by assumption) hw⟩)))
           try simp only [Act.put, List.setIfInBounds_toArray, List.set])
          (first
             | (apply head_skip rfl)
             | (apply head_step_g rfl
                focus
                  intro w0' hC
                  have hC' := Lib.hid hC
                  obtain ⟨⟨r1, f1, i1, b1, l1⟩, ⟨r2, f2, i2, b2, l2⟩, m12, m21⟩ := St.facts2 (hC.pick [0, 1] (by decide) rfl)
                  clear hC
                  go_simp
                  have hC := hC'.out
                  (first
                     | with_reducible rfl
                     | (skip
                        (fail)
                        rintro e w' ⟨rfl, hw⟩
                        exact ⟨rfl, St.call (by assumption) hw⟩)))
           try simp only [Act.put, List.setIfInBounds_toArray, List.set])
          refine wpQuiet_nil ?_
          intro w4 hC
          have HC := Lib.hid hC
          obtain ⟨r1, f1, i1, b1, l1⟩ := St.head1 hC
          have sos := hC.below.os
          clear hC
          go_wp2_with fail
          have HC := Lib.hid (HC.out.set_head (blk cp (upTo (ofText s) (strB r (ofText iv) n (ofText s)) (x + 1))))
          exact ⟨⟨j + 1, by omega, by have := HX.out; omega, by go_num, by rw [← Nat.add_assoc, HX.out]; exact HC⟩, by simp [intOf]; omega⟩
        · have HC := Lib.hid (HJ.out.pick [0, 2, 3] (by decide) rfl)
          rw [show p + j = lim (q + 1) s by have := HP.out; unfold lim; omega] at HC
          have sos := HC.out.os
          have HX := Lib.hid hx
          have HN := Lib.hid hin
          have e3 : 16 * (q + 1) ≤ s.size + 15 := by have := HP.out; omega
          have e4 : (p : Int) + 16 = ((16 * (q + 1) : Nat) : Int) := by have := HP.out; omega
          clear hx HJ
          by_cases h16 : j < 16
          · have d2 : (j : Int) < 16 := by omega
            have d3 : decide (x < s.size) = false := decide_eq_false (by omega)
            clear hin
            go_wp2_with fail
            exact ⟨⟨q + 1, e3, by go_num, rfl, HC⟩, by simp [intOf]; have := HP.out; omega⟩
          · obtain rfl : j = 16 := by omega
            clear hin q1 q2 q3
            go_wp2_with fail
            exact ⟨⟨q + 1, e3, by go_num, rfl, HC⟩, by simp [intOf]; have := HP.out; omega⟩
    · have d1 : decide (p < s.size) = false := decide_eq_false (by omega)
      rw [show lim q s = s.size by unfold lim; omega] at HR
      have hC := HR.out
      have e1 := strOf_upTo s.size (ofText s) (strB r (ofText iv) n (ofText s))
      clear hp hq
      (have HC := Lib.hid hC
       have sos := hC.below.os
       obtain ⟨⟨r1, f1, i1, b1, l1⟩, ⟨r2, f2, i2, b2, l2⟩, ⟨r3, f3, i3, b3, l3⟩, m12, m21, m13, m31, m23, m32⟩ := St.facts3 hC
       clear hC)
      go_wp2_with fail
      go_ret2
      obtain rfl := HRR.out
      exact ⟨rfl, HR.out.below⟩
end Go.Proofs.YtgaecjhghpkcoaaGreat
end

section
namespace Go.Proofs.YtgaecjhghpkcoaaGreat
open Go.RowKit
attribute [local go_sem] B_xor B_or B_and
attribute [local go_sem] blk_set blk_size blk_get blk_getE upd_same oneCells_blk paste_blk cut_blk szOf
attribute [local go_sem high] paste_all cut_head
attribute [local go_sem] rowAt_alloc rowAt_drew rowAt_drewN isRow_alloc isRow_drew isRow_drewN freeRow_alloc freeRow_end freeRow_drew freeRow_drewN
attribute [local go_sem] setRow_alloc setRow_drew setRow_drewN setCell_drewN alloc_drewN rowAt_put isRow_setRow freeRow_put
attribute [local go_sem ↓] loadS_in storeS_in indexS_in copyS_in
attribute [local go_sem] loadS_row loadS_one storeS_row storeS_one indexS_blk copyS_rows run_equalIn_blk same_refl arrayAt_row
attribute [local go_sem] cell_row frozen_row st_setCell st_blk_ne stepAt stepUpon
attribute [local go_sem high] run_eql_blk run_neq_blk
attribute [local go_sem ↓] convBS_in
attribute [local go_sem] convBS_row convBS_nil allBytes_blk bytesOf_blk
attribute [local go_sem ↓] convSB_in
attribute [local go_sem] convSB_row freeRow_endB indexS_text

theorem refTag_short (k : Nat → UInt8) (iv a s : ByteArray) (h : iv.size ≠ 12) (w : World) : Calls Tryz.prog 77 #[.agg (blk 16 k), .string iv, .string a, .string s] w fun e w' => e = .returned (.tuple #[.string ⟨#[]⟩, .int .i64 2]) ∧ Below w.heap.size w w' := by
  have ht : ((iv.size : Int) != 12) = true := by simp; omega
  go_enter Tryz.func77, Tryz.ntmps77
  go_wp2_with fail
  go_ret2
  exact ⟨rfl, (Below.refl _ _).alloc (Nat.le_refl _) _⟩
theorem counter1_any (s : ByteArray) (h : s.size = 12) (w : World) : Calls Tryz.prog 106 #[.string s, .int .u32 1] w fun e w' => e = .returned (.agg (blk 16 (ctr (ofText s) 1))) ∧ Below w.heap.size w w' := counter_any s h 1 (by omega) w
set_option maxRecDepth 100000 in
set_option maxHeartbeats 1000000 in
theorem refTag_any (k : Nat → UInt8) (iv a s : ByteArray) (ha : a.size < 2 ^ 40) (hs : s.size < 2 ^ 40) (h : iv.size = 12) (w : World) : Calls Tryz.prog 77 #[.agg (blk 16 k), .string iv, .string a, .string s] w fun e w' => e = .returned (.tuple #[.string (tagS (Ci.rounds k) (ofText iv) a s), .int .i64 0]) ∧ Below w.heap.size w w' := by
  have hz := zero16
  have ht : ((iv.size : Int) != 12) = false := by simp; omega
  have H := Lib.hid h
  clear h
  have HC := Lib.hid ((St.nil w).pushA (blk 16 k) 22 rfl)
  go_enter Tryz.func77, Tryz.ntmps77
  go_wp2_with fail
  refine (refHash_any _ _).mono ?_; rintro e w1 ⟨rfl, hw⟩
  have HC := Lib.hid (HC.out.call hw)
  clear hw
  have hC := HC.out
  (have HC := Lib.hid hC
   have sos := hC.below.os
   obtain ⟨r1, f1, i1, b1, l1⟩ := St.facts1 hC
   clear hC)
  go_wp2_with fail
  (clear r1 f1 i1 b1 l1 sos)
  refine (refSum_any _ a s ha hs _).mono ?_; rintro e w2 ⟨rfl, hw⟩
  have HC := Lib.hid (HC.out.call hw)
  clear hw
  have hC := HC.out
  (have HC := Lib.hid hC
   have sos := hC.below.os
   obtain ⟨r1, f1, i1, b1, l1⟩ := St.facts1 hC
   clear hC)
  go_wp2_with fail
  have HC := Lib.hid (HC.out.push (blk 16 (sumB (hashB (Ci.rounds k)) a s)) 22)
  (clear r1 f1 i1 b1 l1 sos)
  generalize w2.heap.size = g at HC ⊢
  refine St.region_float (w0 := w) 7 11 (blk 16 fun _ => 0) 22 HC.out _ (by kernel_rfl) (by decide +kernel) rfl (fun w a => by simp [go_sem, ptrTo, hz]) ?_
  (simp only [List.take])
  (apply walkB_step
   focus
     intro w0 hC
     have hC' := Lib.hid hC
     obtain ⟨⟨r1, f1, i1, b1, l1⟩, ⟨r2, f2, i2, b2, l2⟩, m12, m21⟩ := St.facts2 hC
     clear hC
     go_simp
     (first
        | with_reducible rfl
        | exact refExpand_any _ _
        | exact counter1_any _ H.out _
        | exact pad_at _ _ _ _
        | exact refXor_any _ _ _)
   try simp only [Act.put, List.setIfInBounds_toArray, List.set])
  (apply walkB_step
   focus
     intro w0 hC
     have hC' := Lib.hid hC
     obtain ⟨⟨r1, f1, i1, b1, l1⟩, ⟨r2, f2, i2, b2, l2⟩, m12, m21⟩ := St.facts2 hC
     clear hC
     go_simp
     (first
        | with_reducible rfl
        | exact refExpand_any _ _
        | exact counter1_any _ H.out _
        | exact pad_at _ _ _ _
        | exact refXor_any _ _ _)
   try simp only [Act.put, List.setIfInBounds_toArray, List.set])
  (apply walkB_step
   focus
     intro w0 hC
     have hC' := Lib.hid hC
     obtain ⟨⟨r1, f1, i1, b1, l1⟩, ⟨r2, f2, i2, b2, l2⟩, m12, m21⟩ := St.facts2 hC
     clear hC
     go_simp
     (first
        | with_reducible rfl
        | exact refExpand_any _ _
        | exact counter1_any _ H.out _
        | exact pad_at _ _ _ _
        | exact refXor_any _ _ _)
   try simp only [Act.put, List.setIfInBounds_toArray, List.set])
  (apply walkB_step
   focus
     intro w0 hC
     have hC' := Lib.hid hC
     obtain ⟨⟨r1, f1, i1, b1, l1⟩, ⟨r2, f2, i2, b2, l2⟩, m12, m21⟩ := St.facts2 hC
     clear hC
     go_simp
     (first
        | with_reducible rfl
        | exact refExpand_any _ _
        | exact counter1_any _ H.out _
        | exact pad_at _ _ _ _
        | exact refXor_any _ _ _)
   try simp only [Act.put, List.setIfInBounds_toArray, List.set])
  (apply walkB_step
   focus
     intro w0 hC
     have hC' := Lib.hid hC
     obtain ⟨⟨r1, f1, i1, b1, l1⟩, ⟨r2, f2, i2, b2, l2⟩, m12, m21⟩ := St.facts2 hC
     clear hC
     go_simp
     (first
        | with_reducible rfl
        | exact refExpand_any _ _
        | exact counter1_any _ H.out _
        | exact pad_at _ _ _ _
        | exact refXor_any _ _ _)
   try simp only [Act.put, List.setIfInBounds_toArray, List.set])
  (apply walkB_step
   focus
     intro w0 hC
     have hC' := Lib.hid hC
     obtain ⟨⟨r1, f1, i1, b1, l1⟩, ⟨r2, f2, i2, b2, l2⟩, m12, m21⟩ := St.facts2 hC
     clear hC
     go_simp
     (first
        | with_reducible rfl
        | exact refExpand_any _ _
        | exact counter1_any _ H.out _
        | exact pad_at _ _ _ _
        | exact refXor_any _ _ _)
   try simp only [Act.put, List.setIfInBounds_toArray, List.set])
  (apply walkB_step
   focus
     intro w0 hC
     have hC' := Lib.hid hC
     obtain ⟨⟨r1, f1, i1, b1, l1⟩, ⟨r2, f2, i2, b2, l2⟩, m12, m21⟩ := St.facts2 hC
     clear hC
     go_simp
     (first
        | with_reducible rfl
        | exact refExpand_any _ _
        | exact counter1_any _ H.out _
        | exact pad_at _ _ _ _
        | exact refXor_any _ _ _)
   try simp only [Act.put, List.setIfInBounds_toArray, List.set])
  refine walkB_nil ?_
  intro w3 g2 hC
  clear HC
  unfold ptrTo
  (have HC := Lib.hid hC
   have sos := hC.below.os
   obtain ⟨⟨r1, f1, i1, b1, l1⟩, ⟨r2, f2, i2, b2, l2⟩, ⟨r3, f3, i3, b3, l3⟩, m12, m21, m13, m31, m23, m32⟩ := St.facts3 hC
   clear hC)
  (simp only [List.drop, List.setIfInBounds_toArray, List.set])
  go_wp2_with fail
  have HC := Lib.hid (HC.out.set_head (blk 16 (tagB (Ci.rounds k) (ofText iv) a s)))
  go_ret2
  exact ⟨rfl, HC.out.below⟩

theorem refSeal09_short (k : Nat → UInt8) (iv a s : ByteArray) (h : iv.size ≠ 12) (w : World) : Calls Tryz.prog 57 #[.agg (blk 16 k), .string iv, .string a, .string s] w fun e w' => e = .returned (.tuple #[.string ⟨#[]⟩, .int .i64 2]) ∧ Below w.heap.size w w' := by
  have HC := Lib.hid ((St.nil w).pushA (blk 16 k) 22 rfl)
  go_enter Tryz.func57, Tryz.ntmps57
  go_wp2_with fail
  refine (refStream_short k iv s 2 h _).mono ?_; rintro e w1 ⟨rfl, hw⟩
  have HC := Lib.hid (HC.out.call hw)
  clear hw
  have sos := HC.out.os
  go_wp2_with fail
  go_ret2
  exact ⟨rfl, HC.out.below⟩
theorem refStream2_any (k : Nat → UInt8) (iv s : ByteArray) (hs : s.size < 2 ^ 40) (h : iv.size = 12) (w : World) : Calls Tryz.prog 78 #[.agg (blk 16 k), .string iv, .int .u32 2, .string s] w fun e w' => e = .returned (.tuple #[.string (strS (Ci.rounds k) (ofText iv) 2 s), .int .i64 0]) ∧ Below w.heap.size w w' := refStream_any k iv s 2 (by omega) hs h w
set_option maxRecDepth 100000 in
set_option maxHeartbeats 1000000 in
theorem refSeal09_any (k : Nat → UInt8) (iv a s : ByteArray) (ha : a.size < 2 ^ 40) (hs : s.size < 2 ^ 40) (h : iv.size = 12) (w : World) : Calls Tryz.prog 57 #[.agg (blk 16 k), .string iv, .string a, .string s] w fun e w' => e = .returned (.tuple #[.string (sealS (Ci.rounds k) (ofText iv) a s), .int .i64 0]) ∧ Below w.heap.size w w' := by
  have HC := Lib.hid ((St.nil w).pushA (blk 16 k) 22 rfl)
  have H := Lib.hid h
  clear h
  go_enter Tryz.func57, Tryz.ntmps57
  go_wp2_with fail
  refine (refStream2_any k iv s hs H.out _).mono ?_; rintro e w1 ⟨rfl, hw⟩
  have HC := Lib.hid (HC.out.call hw)
  clear hw
  have hC := HC.out
  (have HC := Lib.hid hC
   have sos := hC.below.os
   obtain ⟨r1, f1, i1, b1, l1⟩ := St.facts1 hC
   clear hC)
  go_wp2_with fail
  (clear r1 f1 i1 b1 l1 sos)
  refine (refTag_any k iv a (strS (Ci.rounds k) (ofText iv) 2 s) ha (by rw [strS_size]; exact hs) H.out _).mono ?_; rintro e w2 ⟨rfl, hw⟩
  have HC := Lib.hid (HC.out.call hw)
  clear hw
  have sos := HC.out.os
  have t1 : (strS (Ci.rounds k) (ofText iv) 2 s).size ≤ 1099511627776 := by rw [strS_size]; omega
  have t2 : (tagS (Ci.rounds k) (ofText iv) a (strS (Ci.rounds k) (ofText iv) 2 s)).size = 16 := tagS_size _ _ _ _
  go_wp2_with fail
  go_ret2
  exact ⟨rfl, HC.out.below⟩

theorem refOpen09_short (k : Nat → UInt8) (iv a s : ByteArray) (h : iv.size ≠ 12) (w : World) : Calls Tryz.prog 48 #[.agg (blk 16 k), .string iv, .string a, .string s] w fun e w' => e = .returned (.tuple #[.string ⟨#[]⟩, .int .i64 2]) ∧ Below w.heap.size w w' := by
  have ht : ((iv.size : Int) != 12) = true := by simp; omega
  go_enter Tryz.func48, Tryz.ntmps48
  go_wp2_with fail
  go_ret2
  exact ⟨rfl, (Below.refl _ _).alloc (Nat.le_refl _) _⟩
theorem refOpen09_less (k : Nat → UInt8) (iv a s : ByteArray) (h : iv.size = 12) (hl : s.size < 16) (w : World) : Calls Tryz.prog 48 #[.agg (blk 16 k), .string iv, .string a, .string s] w fun e w' => e = .returned (.tuple #[.string ⟨#[]⟩, .int .i64 3]) ∧ Below w.heap.size w w' := by
  have ht : ((iv.size : Int) != 12) = false := by simp; omega
  have d1 : (s.size : Int) < 16 := by omega
  go_enter Tryz.func48, Tryz.ntmps48
  go_wp2_with fail
  go_ret2
  exact ⟨rfl, (Below.refl _ _).alloc (Nat.le_refl _) _⟩
theorem text_eq (a b : ByteArray) : (a.toList == b.toList) = true ↔ a = b := by
  rw [ByteArray.toList_eq, ByteArray.toList_eq, beq_iff_eq]
  constructor
  · intro h
    cases a; cases b
    congr 1
    exact Array.toList_inj.1 h
  · rintro rfl; rfl
theorem text_ne {a b : ByteArray} (h : ¬ a = b) : (a.toList == b.toList) = false := by
  cases hh : (a.toList == b.toList) with
  | false => rfl
  | true => exact (h ((text_eq a b).1 hh)).elim
theorem text_same (a : ByteArray) : (a.toList == a.toList) = true := (text_eq a a).2 rfl
theorem tag_eq (r v : Nat → UInt8) (a s : ByteArray) (hl : 16 ≤ s.size) : tagS r v a (cutS s) = endS s ↔ tagged r v a s = true := by
  have hz : (endS s).size = 16 := by unfold endS; rw [ByteArray.size_extract]; omega
  constructor
  · intro h
    unfold tagged
    rw [same_iff, ← h]
    exact fun i hi => (ofText_strOf _ _ _ hi).symm
  · intro h
    unfold tagged at h
    rw [same_iff] at h
    unfold tagS
    rw [strOf_congr h, strOf_ofText _ _ hz]
set_option maxRecDepth 100000 in
set_option maxHeartbeats 1000000 in
theorem refOpen09_full (k : Nat → UInt8) (iv a s : ByteArray) (ha : a.size < 2 ^ 40) (hs : s.size < 2 ^ 40) (h : iv.size = 12) (hl : 16 ≤ s.size) (ok : Bool) (hok : tagged (Ci.rounds k) (ofText iv) a s = ok) (R : ByteArray) (E : Int) (hR : (ok = true ∧ R = strS (Ci.rounds k) (ofText iv) 2 (cutS s) ∧ E = 0) ∨ (ok = false ∧ R = ⟨#[]⟩ ∧ E = 11)) (w : World) :
    Calls Tryz.prog 48 #[.agg (blk 16 k), .string iv, .string a, .string s] w fun e w' => e = .returned (.tuple #[.string R, .int .i64 E]) ∧ Below w.heap.size w w' := by
  have ht : ((iv.size : Int) != 12) = false := by simp; omega
  have HC := Lib.hid ((St.nil w).pushA (blk 16 k) 22 rfl)
  have H := Lib.hid h
  have HR := Lib.hid hR
  have HT := Lib.hid (tag_eq (Ci.rounds k) (ofText iv) a s hl)
  have HOK := Lib.hid hok
  clear h hok hR
  obtain ⟨m, hm⟩ : ∃ m, s.size - 16 = m := ⟨_, rfl⟩
  have d0 : decide ((s.size : Int) < 16) = false := decide_eq_false (by omega)
  have d1 : (s.size : Int) - 16 = (m : Int) := by omega
  have d2 : IntKind.i64.wrap ((s.size : Int) - 16) = (m : Int) := by rw [IntWalk.i64_in _ (by omega)]; exact d1
  have d3 : (m : Int) ≤ (s.size : Int) := by omega
  have e1 : s.extract 0 m = cutS s := by unfold cutS; rw [hm]
  have e2 : s.extract m s.size = endS s := by unfold endS; rw [hm]
  have z1 : (cutS s).size < 2 ^ 40 := by unfold cutS; rw [ByteArray.size_extract]; omega
  have HM := Lib.hid hm
  clear hm
  go_enter Tryz.func48, Tryz.ntmps48
  go_wp2_with fail
  refine (refTag_any k iv a (cutS s) ha z1 H.out _).mono ?_; rintro e w1 ⟨rfl, hw⟩
  have HC := Lib.hid (HC.out.call hw)
  clear hw
  have hC := HC.out
  generalize tagS (Ci.rounds k) (ofText iv) a (cutS s) = T at HT ⊢
  generalize endS s = E' at e2 HT ⊢
  cases ok with
  | false =>
    obtain ⟨rfl, rfl⟩ : R = ⟨#[]⟩ ∧ E = 11 := by
      rcases HR.out with h | h
      · cases h.1
      · exact h.2
    have e3 : ¬ (T = E') := fun e => by have := HT.out.1 e; rw [HOK.out] at this; cases this
    have e4 := text_ne e3
    clear e3
    (have HC := Lib.hid hC
     have sos := hC.below.os
     obtain ⟨r1, f1, i1, b1, l1⟩ := St.facts1 hC
     clear hC)
    go_wp2_with fail
    go_ret2
    exact ⟨rfl, HC.out.below⟩
  | true =>
    obtain ⟨rfl, rfl⟩ : R = strS (Ci.rounds k) (ofText iv) 2 (cutS s) ∧ E = 0 := by
      rcases HR.out with h | h
      · exact h.2
      · cases h.1
    have e3 : T = E' := HT.out.2 HOK.out
    subst e3
    (have HC := Lib.hid hC
     have sos := hC.below.os
     obtain ⟨r1, f1, i1, b1, l1⟩ := St.facts1 hC
     clear hC)
    go_wp2_with fail
    refine (refStream2_any k iv (cutS s) z1 H.out _).mono ?_; rintro e w5 ⟨rfl, hw⟩
    have HC := Lib.hid (HC.out.call hw)
    clear hw sos
    have sos := HC.out.os
    go_wp2_with fail
    go_ret2
    exact ⟨rfl, HC.out.below⟩
end Go.Proofs.YtgaecjhghpkcoaaGreat
end

section
namespace Go.Proofs.YtgaecjhghpkcoaaGreat
open Go.RowKit
attribute [local go_sem] B_xor B_or B_and
attribute [local go_sem] blk_set blk_size blk_get blk_getE upd_same oneCells_blk paste_blk cut_blk szOf
attribute [local go_sem high] paste_all cut_head
attribute [local go_sem] rowAt_alloc rowAt_drew rowAt_drewN isRow_alloc isRow_drew isRow_drewN freeRow_alloc freeRow_end freeRow_drew freeRow_drewN
attribute [local go_sem] setRow_alloc setRow_drew setRow_drewN setCell_drewN alloc_drewN rowAt_put isRow_setRow freeRow_put
attribute [local go_sem ↓] loadS_in storeS_in indexS_in copyS_in
attribute [local go_sem] loadS_row loadS_one storeS_row storeS_one indexS_blk copyS_rows run_equalIn_blk same_refl arrayAt_row
attribute [local go_sem] cell_row frozen_row st_setCell st_blk_ne stepAt stepUpon
attribute [local go_sem high] run_eql_blk run_neq_blk
attribute [local go_sem ↓] convBS_in
attribute [local go_sem] convBS_row convBS_nil allBytes_blk bytesOf_blk
attribute [local go_sem ↓] convSB_in
attribute [local go_sem] convSB_row freeRow_endB indexS_text

def noB : Nat → UInt8 := fun _ => 0
def noIv : ByteArray := strOf 12 noB
theorem hash_no : Ci.EqB (hashB (Ci.rounds noB)) (Ci.lit [102, 233, 75, 212, 239, 138, 44, 59, 136, 76, 250, 89, 202, 52, 43, 46]) := Ci.zsealed
theorem iv_no (i : Nat) : ofText noIv i = 0 := by
  by_cases h : i < 12
  · exact ofText_strOf _ _ _ h
  · exact ofText_out _ _ (by unfold noIv; rw [strOf_size]; omega)
theorem ctr_no : Ci.EqB (ctr (ofText noIv) 1) Ci.oneB := fun i hi => by
  unfold ctr ctrTo Ci.oneB
  rw [iv_no]
  have h : ∀ i < 16, (if 16 - 4 ≤ i ∧ i < 16 then UInt8.ofNat (1 / 256 ^ (15 - i)) else 0) = if i = 15 then (1 : UInt8) else 0 := by decide +kernel
  exact h i hi
theorem num_lit : num (Ci.lit [102, 233, 75, 212, 239, 138, 44, 59, 136, 76, 250, 89, 202, 52, 43, 46]) = 0x66e94bd4ef8a2c3b884cfa59ca342b2e := by decide +kernel
theorem num_no : num (hashB (Ci.rounds noB)) = 0x66e94bd4ef8a2c3b884cfa59ca342b2e := by
  rw [← num_lit]; exact numTo_congr hash_no
theorem part_no : Gh.quickMul 0x78000000000000000000000000000000 0x66e94bd4ef8a2c3b884cfa59ca342b2e ≠ 0x80000000000000000 := by decide +kernel
def txtX : ByteArray := ⟨#[120]⟩
def txtN : ByteArray := ⟨#[]⟩
theorem sums_x : nums (txt txtX) ++ nums (txt txtN) ++ [lens txtX txtN] = [0x78000000000000000000000000000000, 0x80000000000000000] := by decide +kernel
theorem same_num_of' {a b : Nat → UInt8} (h : same 16 a b = true) : num a = num b := numTo_congr ((same_iff _ _ _).1 h)
theorem sum_x : same 16 (sumB (hashB (Ci.rounds noB)) txtX txtN) (sumB (hashB (Ci.rounds noB)) txtN txtN) = false := by
  have hh := num_lt (hashB (Ci.rounds noB))
  have h0 : num (hashB (Ci.rounds noB)) ≠ 0 := by rw [num_no]; decide
  have hX : Gh.Ok 0x78000000000000000000000000000000 := by unfold Gh.Ok; decide
  have hL : Gh.Ok 0x80000000000000000 := by unfold Gh.Ok; decide
  have e2 := (same_num_of' (sum_empty (hashB (Ci.rounds noB)) txtN txtN rfl rfl))
  cases hs : same 16 (sumB (hashB (Ci.rounds noB)) txtX txtN) (sumB (hashB (Ci.rounds noB)) txtN txtN) with
  | false => rfl
  | true =>
    exfalso
    have e1 := same_num_of' hs
    rw [e2, num_zero] at e1
    unfold sumB sumN at e1
    rw [sums_x] at e1
    have hok : Gh.Ok (Gh.fold (num (hashB (Ci.rounds noB))) 0 [0x78000000000000000000000000000000, 0x80000000000000000]) := Gh.fold_lt Gh.ok_zero _ (fun c hc => by
      simp only [List.mem_cons, List.not_mem_nil, or_false] at hc
      rcases hc with rfl | rfl
      · exact hX
      · exact hL)
    rw [num_unum hok] at e1
    have e3 : Gh.mul (Gh.mul (0 ^^^ 0x78000000000000000000000000000000) (num (hashB (Ci.rounds noB))) ^^^ 0x80000000000000000) (num (hashB (Ci.rounds noB))) = 0 := e1
    rw [Nat.zero_xor] at e3
    rcases Gh.no_div (Gh.xor_lt (Gh.mul_lt hX _) hL) hh e3 with h | h
    · have := Gh.xor_eq_zero h
      rw [num_no, ← Gh.quickMul_eq] at this
      exact part_no this
    · exact h0 h
theorem xor_cancel (a b c : UInt8) : (a ^^^ c = b ^^^ c) ↔ a = b := by
  constructor
  · intro h
    have : (a ^^^ c) ^^^ c = (b ^^^ c) ^^^ c := by rw [h]
    rwa [UInt8.xor_assoc, UInt8.xor_assoc, UInt8.xor_self, UInt8.xor_zero, UInt8.xor_zero] at this
  · rintro rfl; rfl
theorem tag_same (r v : Nat → UInt8) (a s b t : ByteArray) : same 16 (tagB r v a s) (tagB r v b t) = same 16 (sumB (hashB r) a s) (sumB (hashB r) b t) := by
  unfold same
  exact decide_eq_decide.2 ⟨fun h i hi => (xor_cancel _ _ _).1 (h i hi), fun h i hi => (xor_cancel _ _ _).2 (h i hi)⟩
theorem strS_none (r v : Nat → UInt8) (n : Nat) (s : ByteArray) (h : s.size = 0) : strS r v n s = ⟨#[]⟩ := by
  unfold strS; rw [h]; rfl
theorem sealS_size (r v : Nat → UInt8) (a s : ByteArray) : (sealS r v a s).size = s.size + 16 := by
  unfold sealS; rw [ByteArray.size_append, strS_size, tagS_size]
theorem cut_seal (r v : Nat → UInt8) (a s : ByteArray) : cutS (sealS r v a s) = strS r v 2 s := by
  unfold cutS
  rw [sealS_size]
  unfold sealS
  exact ByteArray.extract_append_eq_left (by rw [strS_size]; omega)
theorem end_seal (r v : Nat → UInt8) (a s : ByteArray) : endS (sealS r v a s) = tagS r v a (strS r v 2 s) := by
  unfold endS
  rw [sealS_size]
  unfold sealS
  exact ByteArray.extract_append_eq_right (by rw [strS_size]; omega) (by rw [strS_size, tagS_size])
theorem tagged_seal (r v : Nat → UInt8) (a b s : ByteArray) : tagged r v b (sealS r v a s) = same 16 (sumB (hashB r) b (strS r v 2 s)) (sumB (hashB r) a (strS r v 2 s)) := by
  unfold tagged
  rw [cut_seal, end_seal, ← tag_same r v]
  unfold same
  refine decide_eq_decide.2 ⟨fun h i hi => ?_, fun h i hi => ?_⟩
  · rw [h i hi]; exact ofText_strOf _ _ _ hi
  · rw [h i hi]; exact (ofText_strOf _ _ _ hi).symm
theorem tagged_own (r v : Nat → UInt8) (a s : ByteArray) : tagged r v a (sealS r v a s) = true := by rw [tagged_seal]; exact same_refl _ _
theorem empty_size : (⟨#[]⟩ : ByteArray).size = 0 := rfl
theorem seal_no0 : ofText (sealS (Ci.rounds noB) (ofText noIv) txtN txtN) 0 = 88 := by
  unfold sealS
  rw [strS_none _ _ _ _ (show txtN.size = 0 from rfl)]
  have e : (⟨#[]⟩ : ByteArray) ++ tagS (Ci.rounds noB) (ofText noIv) txtN ⟨#[]⟩ = tagS (Ci.rounds noB) (ofText noIv) txtN ⟨#[]⟩ := ByteArray.empty_append
  rw [e]
  unfold tagS
  rw [ofText_strOf _ _ _ (by omega)]
  unfold tagB Ci.xorB
  have h1 := (same_iff _ _ _).1 (sum_empty (hashB (Ci.rounds noB)) txtN ⟨#[]⟩ rfl rfl) 0 (by omega)
  have h2 : padB (Ci.rounds noB) (ofText noIv) 1 0 = 88 := by
    have h3 := (Ci.seal_congr (r := Ci.rounds noB) ctr_no) 0 (by omega)
    have h4 := Ci.osealed 0 (by omega)
    exact h3.trans h4
  rw [h1, h2]; rfl
theorem text_byte (s : ByteArray) (i : Nat) : B (ofText s i) = ((s.data.getD i 0).toNat : Int) := rfl

theorem indexS_text0 {P : Program} {w : World} (t : TypeId) (s : ByteArray) (hu : P.underlying t = some .string) (hk : 0 < s.size) : (indexS t (.string s) (.int .i64 0)).run P w = .ok (.int .u8 (B (ofText s 0))) w := indexS_text t s 0 hu hk
theorem indexS_blk0 {P : Program} {w : World} (t : TypeId) (n : Nat) (f : Nat → UInt8) (hu : P.underlying t = some (.array n (P.elem t))) (hs : (sizeOf (P.elem t)).run P w = .ok 1 w) (ha : (isAgg (P.elem t)).run P w = .ok false w) (hk : 0 < n) :
    (indexS t (.agg (blk n f)) (.int .i64 0)).run P w = .ok (.int .u8 (B (f 0))) w := indexS_blk t n f 0 hu hs ha hk
attribute [local go_sem] indexS_text0 indexS_blk0
def shortS : ByteArray := ⟨#[115, 104, 111, 114, 116]⟩
end Go.Proofs.YtgaecjhghpkcoaaGreat
end
