/- GcmBack returns true. No condition. -/
import Derived.Test.YtklcgacbmphjcaaGcLaws
namespace Go.Proofs.Ytklcgacbmphjcaa
open Go.RowKit
attribute [local go_sem] B_xor B_or B_and
attribute [local go_sem] blk_set blk_size blk_get blk_getE upd_same oneCells_blk paste_blk cut_blk szOf
attribute [local go_sem high] paste_all cut_head
attribute [local go_sem] rowAt_alloc rowAt_drew rowAt_drewN isRow_alloc isRow_drew isRow_drewN freeRow_alloc freeRow_end freeRow_drew freeRow_drewN
attribute [local go_sem] setRow_alloc setRow_drew setRow_drewN setCell_drewN alloc_drewN rowAt_put isRow_setRow freeRow_put
attribute [local go_sem ↓] loadS_in storeS_in indexS_in copyS_in
attribute [local go_sem] loadS_row loadS_one storeS_row storeS_one indexS_blk copyS_rows run_equalIn_blk same_refl arrayAt_row
attribute [local go_sem] cell_row frozen_row st_setCell st_blk_ne stepAt stepUpon
attribute [local go_sem high] run_eql_blk run_neq_blk
attribute [local go_sem ↓] convBS_in
attribute [local go_sem] convBS_row convBS_nil allBytes_blk bytesOf_blk
attribute [local go_sem] tx_size tx_get0 tx_get1 tx_get2 tx_cut tx_ne tx_one indexS_text

theorem strB_twice (r v : Nat → UInt8) (n : Nat) (f : Nat → UInt8) (i : Nat) : strB r v n (strB r v n f) i = f i := by
  unfold strB
  rw [UInt8.xor_assoc, UInt8.xor_self, UInt8.xor_zero]
theorem ofText_strS (r v : Nat → UInt8) (n : Nat) (s : ByteArray) (i : Nat) (h : i < s.size) : ofText (strS r v n s) i = ofText s i ^^^ padB r v (nxN n (i / 16)) (i % 16) := ofText_strOf _ _ _ h
theorem strS_twice (r v : Nat → UInt8) (n : Nat) (s : ByteArray) : strS r v n (strS r v n s) = s := by
  have h : ∀ i, i < s.size → strB r v n (ofText (strS r v n s)) i = ofText s i := fun i hi => by
    show ofText (strS r v n s) i ^^^ padB r v (nxN n (i / 16)) (i % 16) = ofText s i
    rw [ofText_strS r v n s i hi, UInt8.xor_assoc, UInt8.xor_self, UInt8.xor_zero]
  show strOf (strS r v n s).size _ = s
  rw [strS_size, strOf_congr h, strOf_ofText s _ rfl]
theorem ofText_head (a b : ByteArray) (i : Nat) (h : i < a.size) : ofText (a ++ b) i = ofText a i := by
  unfold ofText
  rw [ByteArray.data_append]
  have hi' : i < a.data.size := h
  simp [Array.getElem?_append_left hi', Array.getD_eq_getD_getElem?]
theorem seal_byte (r v : Nat → UInt8) (a s : ByteArray) (i : Nat) (h : i < s.size) : ofText (sealS r v a s) i = ofText s i ^^^ padB r v (nxN 2 (i / 16)) (i % 16) := by
  unfold sealS
  rw [ofText_head _ _ _ (by rw [strS_size]; exact h), ofText_strS _ _ _ _ _ h]
theorem seals_part (r v : Nat → UInt8) (a s o : ByteArray) (i : Nat) (h : i < s.size) (h2 : i < o.size) : ofText (sealS r v a s) i ^^^ ofText (sealS r v a o) i = ofText o i ^^^ ofText s i := by
  rw [seal_byte _ _ _ _ _ h, seal_byte _ _ _ _ _ h2]
  have e : ∀ x y p : UInt8, x ^^^ p ^^^ (y ^^^ p) = y ^^^ x := fun x y p => by
    rw [show x ^^^ p ^^^ (y ^^^ p) = (y ^^^ x) ^^^ (p ^^^ p) by ac_rfl, UInt8.xor_self, UInt8.xor_zero]
  exact e _ _ _

set_option maxRecDepth 100000 in
set_option maxHeartbeats 2000000 in
theorem gcmBack_out (k : Nat → UInt8) (iv a s o : ByteArray) (hout : decide (20 < iv.size ∨ 60 < a.size ∨ 60 < s.size) = true ∨ iv.size ≠ 12 ∨ 60 < o.size) (w : World) : Calls Try.prog 7 #[.agg (blk 16 k), .agg (tx iv a s), .string o] w fun e w' => e = .returned (.bool true) ∧ Below w.heap.size w w' := by
  have HC := Lib.hid (((St.nil w).pushA (blk 16 k) 22 rfl).pushA (tx iv a s) 52 (g := w.heap.size + 1) (by simp))
  cases ho : decide (20 < iv.size ∨ 60 < a.size ∨ 60 < s.size) with
  | true =>
    have HO := Lib.hid ho
    clear ho hout
    go_enter Try.func7, Try.ntmps7
    go_wp2_with fail
    refine (over_tx iv a s true HO.out _).mono ?_; rintro e w1 ⟨rfl, hw⟩
    have HC := Lib.hid (HC.out.call hw)
    clear hw
    have hC := HC.out
    (have HC := Lib.hid hC
     have sos := hC.below.os
     obtain ⟨⟨r1, f1, i1, b1, l1⟩, ⟨r2, f2, i2, b2, l2⟩, m12, m21⟩ := St.facts2 hC
     clear hC)
    go_wp2_with fail
    (clear r1 f1 i1 b1 l1 r2 f2 i2 b2 l2 m12 m21 sos)
    refine (awake09_any _).mono ?_; rintro e w2 ⟨rfl, hw⟩
    have HC := Lib.hid (HC.out.call hw)
    clear hw
    have sos := HC.out.os
    go_wp2_with fail
    go_ret
    exact ⟨rfl, HC.out.below⟩
  | false =>
    have HO := Lib.hid ho
    rw [ho] at hout
    clear ho
    by_cases h12 : iv.size = 12
    · have t1 : ((iv.size : Int) != 12) = false := by simp; omega
      have t2 : decide ((60 : Int) < (o.size : Int)) = true := decide_eq_true (by rcases hout with h | h | h <;> first | cases h | omega)
      clear h12 hout
      go_enter Try.func7, Try.ntmps7
      go_wp2_with fail
      refine (over_tx iv a s false HO.out _).mono ?_; rintro e w1 ⟨rfl, hw⟩
      have HC := Lib.hid (HC.out.call hw)
      clear hw
      have hC := HC.out
      (have HC := Lib.hid hC
       have sos := hC.below.os
       obtain ⟨⟨r1, f1, i1, b1, l1⟩, ⟨r2, f2, i2, b2, l2⟩, m12, m21⟩ := St.facts2 hC
       clear hC)
      go_wp2_with fail
      (clear r1 f1 i1 b1 l1 r2 f2 i2 b2 l2 m12 m21 sos)
      refine (awake09_any _).mono ?_; rintro e w2 ⟨rfl, hw⟩
      have HC := Lib.hid (HC.out.call hw)
      clear hw
      have sos := HC.out.os
      go_wp2_with fail
      go_ret
      exact ⟨rfl, HC.out.below⟩
    · have t1 : ((iv.size : Int) != 12) = true := by simp; omega
      clear h12 hout
      go_enter Try.func7, Try.ntmps7
      go_wp2_with fail
      refine (over_tx iv a s false HO.out _).mono ?_; rintro e w1 ⟨rfl, hw⟩
      have HC := Lib.hid (HC.out.call hw)
      clear hw
      have hC := HC.out
      (have HC := Lib.hid hC
       have sos := hC.below.os
       obtain ⟨⟨r1, f1, i1, b1, l1⟩, ⟨r2, f2, i2, b2, l2⟩, m12, m21⟩ := St.facts2 hC
       clear hC)
      go_wp2_with fail
      (clear r1 f1 i1 b1 l1 r2 f2 i2 b2 l2 m12 m21 sos)
      refine (awake09_any _).mono ?_; rintro e w2 ⟨rfl, hw⟩
      have HC := Lib.hid (HC.out.call hw)
      clear hw
      have sos := HC.out.os
      go_wp2_with fail
      go_ret
      exact ⟨rfl, HC.out.below⟩

set_option maxRecDepth 100000 in
set_option maxHeartbeats 4000000 in
theorem gcmBack_in (k : Nat → UInt8) (iv a s o : ByteArray) (ho : decide (20 < iv.size ∨ 60 < a.size ∨ 60 < s.size) = false) (h12 : iv.size = 12) (h60 : o.size ≤ 60) (w : World) : Calls Try.prog 7 #[.agg (blk 16 k), .agg (tx iv a s), .string o] w fun e w' => e = .returned (.bool true) ∧ Below w.heap.size w w' := by
  have hz := zero16
  have HO := Lib.hid ho
  have hlo := of_decide_eq_false ho
  have t1 : ((iv.size : Int) != 12) = false := by simp; omega
  have t2 : decide ((60 : Int) < (o.size : Int)) = false := decide_eq_false (by omega)
  have s60 : (s.size : Int) ≤ 60 := by omega
  have o60 : (o.size : Int) ≤ 60 := by omega
  obtain ⟨S, U, cS, cO, cU, s1, u1, hb⟩ : ∃ S U : ByteArray,
      Hid (∀ w, Calls Try.prog 27 #[.agg (blk 16 k), .string iv, .string a, .string s] w fun e w' => e = .returned (.tuple #[.string S, .int .i64 0]) ∧ Below w.heap.size w w') ∧
      Hid (∀ w, Calls Try.prog 29 #[.agg (blk 16 k), .string iv, .string a, .string S] w fun e w' => e = .returned (.tuple #[.string s, .int .i64 0]) ∧ Below w.heap.size w w') ∧
      Hid (∀ w, Calls Try.prog 27 #[.agg (blk 16 k), .string iv, .string a, .string o] w fun e w' => e = .returned (.tuple #[.string U, .int .i64 0]) ∧ Below w.heap.size w w') ∧
      S.size = s.size + 16 ∧ U.size = o.size + 16 ∧ Hid (∀ i, i < s.size → i < o.size → ofText S i ^^^ ofText U i = ofText o i ^^^ ofText s i) := by
    refine ⟨_, _, Lib.hid fun w => gcSeal_any k iv a s (by omega) (by omega) h12 w, Lib.hid fun w => ?_, Lib.hid fun w => gcSeal_any k iv a o (by omega) (by omega) h12 w, sealS_size _ _ _ _, sealS_size _ _ _ _, Lib.hid fun i h1 h2 => seals_part _ _ _ _ _ _ h1 h2⟩
    exact gcOpen_full k iv a _ (by omega) (by rw [sealS_size]; omega) h12 (by rw [sealS_size]; omega) true (tagged_own _ _ _ _) s 0 (.inl ⟨rfl, by rw [cut_seal, strS_twice], rfl⟩) w
  have d1 : ((S.size : Int) != (s.size : Int) + 16) = false := by rw [s1]; simp
  have d2 : ((U.size : Int) != (o.size : Int) + 16) = false := by rw [u1]; simp
  have HS := Lib.hid s1
  have HU := Lib.hid u1
  have hss := text_same s
  have HC := Lib.hid (((St.nil w).pushA (blk 16 k) 22 rfl).pushA (tx iv a s) 52 (g := w.heap.size + 1) (by simp))
  clear ho hlo h12 h60 s1 u1
  go_enter Try.func7, Try.ntmps7
  go_wp2_with fail
  refine (over_tx iv a s false HO.out _).mono ?_; rintro e w1 ⟨rfl, hw⟩
  have HC := Lib.hid (HC.out.call hw)
  clear hw
  have hC := HC.out
  (have HC := Lib.hid hC
   have sos := hC.below.os
   obtain ⟨⟨r1, f1, i1, b1, l1⟩, ⟨r2, f2, i2, b2, l2⟩, m12, m21⟩ := St.facts2 hC
   clear hC)
  go_wp2_with fail
  have HC := Lib.hid ((HC.out.push (blk 16 k) 25))
  (clear r1 f1 i1 b1 l1 r2 f2 i2 b2 l2 m12 m21 sos)
  generalize w1.heap.size = g at HC ⊢
  refine (cS.out _).mono ?_; rintro e w2 ⟨rfl, hw⟩
  have HC := Lib.hid (HC.out.call hw)
  clear hw
  have hC := HC.out
  (have HC := Lib.hid hC
   have sos := hC.below.os
   obtain ⟨⟨r1, f1, i1, b1, l1⟩, ⟨r2, f2, i2, b2, l2⟩, ⟨r3, f3, i3, b3, l3⟩, m12, m21, m13, m31, m23, m32⟩ := St.facts3 hC
   clear hC)
  go_wp2_with fail
  (clear r1 f1 i1 b1 l1 r2 f2 i2 b2 l2 r3 f3 i3 b3 l3 m12 m21 m13 m31 m23 m32 sos)
  refine (cO.out _).mono ?_; rintro e w3 ⟨rfl, hw⟩
  have HC := Lib.hid (HC.out.call hw)
  clear hw
  have hC := HC.out
  (have HC := Lib.hid hC
   have sos := hC.below.os
   obtain ⟨⟨r1, f1, i1, b1, l1⟩, ⟨r2, f2, i2, b2, l2⟩, ⟨r3, f3, i3, b3, l3⟩, m12, m21, m13, m31, m23, m32⟩ := St.facts3 hC
   clear hC)
  go_wp2_with fail
  (clear r1 f1 i1 b1 l1 r2 f2 i2 b2 l2 r3 f3 i3 b3 l3 m12 m21 m13 m31 m23 m32 sos)
  refine (cU.out _).mono ?_; rintro e w4 ⟨rfl, hw⟩
  have HC := Lib.hid (HC.out.call hw)
  clear hw
  have hC := HC.out
  (have HC := Lib.hid hC
   have sos := hC.below.os
   obtain ⟨⟨r1, f1, i1, b1, l1⟩, ⟨r2, f2, i2, b2, l2⟩, ⟨r3, f3, i3, b3, l3⟩, m12, m21, m13, m31, m23, m32⟩ := St.facts3 hC
   clear hC)
  go_wp2_with fail
  (clear r1 f1 i1 b1 l1 r2 f2 i2 b2 l2 r3 f3 i3 b3 l3 m12 m21 m13 m31 m23 m32 sos)
  clear d1 d2 hss
  go_loopw [14] (fun i wr => ∃ j : Nat, j ≤ o.size ∧ i = .int .i64 (j : Int) ∧ Hid (St w [(g, blk 16 k), (w.heap.size + 1, tx iv a s), (w.heap.size, blk 16 k)] wr)) (fun i _ => o.size - (intOf i).toNat)
  case atStart => exact ⟨0, by omega, rfl, HC⟩
  case round =>
    clear HC
    obtain ⟨j, hj, rfl, HJ⟩ := hrel
    have hC := HJ.out
    by_cases hlt : j < o.size
    · by_cases hls : j < s.size
      · have b1 : j < S.size := by have := HS.out; omega
        have b2 : j < U.size := by have := HU.out; omega
        have e1 := hb.out j hls hlt
        (have HC := Lib.hid hC
         have sos := hC.below.os
         obtain ⟨⟨r1, f1, i1, b1, l1⟩, ⟨r2, f2, i2, b2, l2⟩, ⟨r3, f3, i3, b3, l3⟩, m12, m21, m13, m31, m23, m32⟩ := St.facts3 hC
         clear hC)
        go_wp2_with fail
        (clear r1 f1 i1 b1 l1 r2 f2 i2 b2 l2 r3 f3 i3 b3 l3 m12 m21 m13 m31 m23 m32 sos)
        refine St.region HC.out (by kernel_rfl) (by kernel_rfl) ?_
        (first
           | (apply head_skip rfl)
           | (apply head_step_g rfl
              focus
                intro w0 hC
                (fail))
           | (apply head_step_g rfl
              focus
                intro w0 hC
                have hC' := Lib.hid hC
                obtain ⟨⟨r1, f1, i1, b1, l1⟩, ⟨r2, f2, i2, b2, l2⟩, ⟨r3, f3, i3, b3, l3⟩, m12, m21, m13, m31, m23, m32⟩ := St.facts3 hC
                clear hC
                go_simp
                have hC := hC'.out
                (first
                   | with_reducible rfl
                   | (skip
                      (fail)
                      rintro e w' ⟨rfl, hw⟩
                      exact ⟨rfl, St.call (by assumption) hw⟩)))
         try simp only [Act.put, List.setIfInBounds_toArray, List.set])
        (first
           | (apply head_skip rfl)
           | (apply head_step_g rfl
              focus
                intro w0 hC
                (fail))
           | (apply head_step_g rfl
              focus
                intro w0 hC
                have hC' := Lib.hid hC
                obtain ⟨⟨r1, f1, i1, b1, l1⟩, ⟨r2, f2, i2, b2, l2⟩, ⟨r3, f3, i3, b3, l3⟩, m12, m21, m13, m31, m23, m32⟩ := St.facts3 hC
                clear hC
                go_simp
                have hC := hC'.out
                (first
                   | with_reducible rfl
                   | (skip
                      (fail)
                      rintro e w' ⟨rfl, hw⟩
                      exact ⟨rfl, St.call (by assumption) hw⟩)))
         try simp only [Act.put, List.setIfInBounds_toArray, List.set])
        (first
           | (apply head_skip rfl)
           | (apply head_step_g rfl
              focus
                intro w0 hC
                (fail))
           | (apply head_step_g rfl
              focus
                intro w0 hC
                have hC' := Lib.hid hC
                obtain ⟨⟨r1, f1, i1, b1, l1⟩, ⟨r2, f2, i2, b2, l2⟩, ⟨r3, f3, i3, b3, l3⟩, m12, m21, m13, m31, m23, m32⟩ := St.facts3 hC
                clear hC
                go_simp
                have hC := hC'.out
                (first
                   | with_reducible rfl
                   | (skip
                      (fail)
                      rintro e w' ⟨rfl, hw⟩
                      exact ⟨rfl, St.call (by assumption) hw⟩)))
         try simp only [Act.put, List.setIfInBounds_toArray, List.set])
        (first
           | (apply head_skip rfl)
           | (apply head_step_g rfl
              focus
                intro w0 hC
                (fail))
           | (apply head_step_g rfl
              focus
                intro w0 hC
                have hC' := Lib.hid hC
                obtain ⟨⟨r1, f1, i1, b1, l1⟩, ⟨r2, f2, i2, b2, l2⟩, ⟨r3, f3, i3, b3, l3⟩, m12, m21, m13, m31, m23, m32⟩ := St.facts3 hC
                clear hC
                go_simp
                have hC := hC'.out
                (first
                   | with_reducible rfl
                   | (skip
                      (fail)
                      rintro e w' ⟨rfl, hw⟩
                      exact ⟨rfl, St.call (by assumption) hw⟩)))
         try simp only [Act.put, List.setIfInBounds_toArray, List.set])
        (first
           | (apply head_skip rfl)
           | (apply head_step_g rfl
              focus
                intro w0 hC
                (fail))
           | (apply head_step_g rfl
              focus
                intro w0 hC
                have hC' := Lib.hid hC
                obtain ⟨⟨r1, f1, i1, b1, l1⟩, ⟨r2, f2, i2, b2, l2⟩, ⟨r3, f3, i3, b3, l3⟩, m12, m21, m13, m31, m23, m32⟩ := St.facts3 hC
                clear hC
                go_simp
                have hC := hC'.out
                (first
                   | with_reducible rfl
                   | (skip
                      (fail)
                      rintro e w' ⟨rfl, hw⟩
                      exact ⟨rfl, St.call (by assumption) hw⟩)))
         try simp only [Act.put, List.setIfInBounds_toArray, List.set])
        (first
           | (apply head_skip rfl)
           | (apply head_step_g rfl
              focus
                intro w0 hC
                (fail))
           | (apply head_step_g rfl
              focus
                intro w0 hC
                have hC' := Lib.hid hC
                obtain ⟨⟨r1, f1, i1, b1, l1⟩, ⟨r2, f2, i2, b2, l2⟩, ⟨r3, f3, i3, b3, l3⟩, m12, m21, m13, m31, m23, m32⟩ := St.facts3 hC
                clear hC
                go_simp
                have hC := hC'.out
                (first
                   | with_reducible rfl
                   | (skip
                      (fail)
                      rintro e w' ⟨rfl, hw⟩
                      exact ⟨rfl, St.call (by assumption) hw⟩)))
         try simp only [Act.put, List.setIfInBounds_toArray, List.set])
        (first
           | (apply head_skip rfl)
           | (apply head_step_g rfl
              focus
                intro w0 hC
                (fail))
           | (apply head_step_g rfl
              focus
                intro w0 hC
                have hC' := Lib.hid hC
                obtain ⟨⟨r1, f1, i1, b1, l1⟩, ⟨r2, f2, i2, b2, l2⟩, ⟨r3, f3, i3, b3, l3⟩, m12, m21, m13, m31, m23, m32⟩ := St.facts3 hC
                clear hC
                go_simp
                have hC := hC'.out
                (first
                   | with_reducible rfl
                   | (skip
                      (fail)
                      rintro e w' ⟨rfl, hw⟩
                      exact ⟨rfl, St.call (by assumption) hw⟩)))
         try simp only [Act.put, List.setIfInBounds_toArray, List.set])
        (first
           | (apply head_skip rfl)
           | (apply head_step_g rfl
              focus
                intro w0 hC
                (fail))
           | (apply head_step_g rfl
              focus
                intro w0 hC
                have hC' := Lib.hid hC
                obtain ⟨⟨r1, f1, i1, b1, l1⟩, ⟨r2, f2, i2, b2, l2⟩, ⟨r3, f3, i3, b3, l3⟩, m12, m21, m13, m31, m23, m32⟩ := St.facts3 hC
                clear hC
                go_simp
                have hC := hC'.out
                (first
                   | with_reducible rfl
                   | (skip
                      (fail)
                      rintro e w' ⟨rfl, hw⟩
                      exact ⟨rfl, St.call (by assumption) hw⟩)))
         try simp only [Act.put, List.setIfInBounds_toArray, List.set])
        (first
           | (apply head_skip rfl)
           | (apply head_step_g rfl
              focus
                intro w0 hC
                (fail))
           | (apply head_step_g rfl
              focus
                intro w0 hC
                have hC' := Lib.hid hC
                obtain ⟨⟨r1, f1, i1, b1, l1⟩, ⟨r2, f2, i2, b2, l2⟩, ⟨r3, f3, i3, b3, l3⟩, m12, m21, m13, m31, m23, m32⟩ := St.facts3 hC
                clear hC
                go_simp
                have hC := hC'.out
                (first
                   | with_reducible rfl
                   | (skip
                      (fail)
                      rintro e w' ⟨rfl, hw⟩
                      exact ⟨rfl, St.call (by assumption) hw⟩)))
         try simp only [Act.put, List.setIfInBounds_toArray, List.set])
        (first
           | (apply head_skip rfl)
           | (apply head_step_g rfl
              focus
                intro w0 hC
                (fail))
           | (apply head_step_g rfl
              focus
                intro w0 hC
                have hC' := Lib.hid hC
                obtain ⟨⟨r1, f1, i1, b1, l1⟩, ⟨r2, f2, i2, b2, l2⟩, ⟨r3, f3, i3, b3, l3⟩, m12, m21, m13, m31, m23, m32⟩ := St.facts3 hC
                clear hC
                go_simp
                have hC := hC'.out
                (first
                   | with_reducible rfl
                   | (skip
                      (fail)
                      rintro e w' ⟨rfl, hw⟩
                      exact ⟨rfl, St.call (by assumption) hw⟩)))
         try simp only [Act.put, List.setIfInBounds_toArray, List.set])
        (first
           | (apply head_skip rfl)
           | (apply head_step_g rfl
              focus
                intro w0 hC
                (fail))
           | (apply head_step_g rfl
              focus
                intro w0 hC
                have hC' := Lib.hid hC
                obtain ⟨⟨r1, f1, i1, b1, l1⟩, ⟨r2, f2, i2, b2, l2⟩, ⟨r3, f3, i3, b3, l3⟩, m12, m21, m13, m31, m23, m32⟩ := St.facts3 hC
                clear hC
                go_simp
                have hC := hC'.out
                (first
                   | with_reducible rfl
                   | (skip
                      (fail)
                      rintro e w' ⟨rfl, hw⟩
                      exact ⟨rfl, St.call (by assumption) hw⟩)))
         try simp only [Act.put, List.setIfInBounds_toArray, List.set])
        (first
           | (apply head_skip rfl)
           | (apply head_step_g rfl
              focus
                intro w0 hC
                (fail))
           | (apply head_step_g rfl
              focus
                intro w0 hC
                have hC' := Lib.hid hC
                obtain ⟨⟨r1, f1, i1, b1, l1⟩, ⟨r2, f2, i2, b2, l2⟩, ⟨r3, f3, i3, b3, l3⟩, m12, m21, m13, m31, m23, m32⟩ := St.facts3 hC
                clear hC
                go_simp
                have hC := hC'.out
                (first
                   | with_reducible rfl
                   | (skip
                      (fail)
                      rintro e w' ⟨rfl, hw⟩
                      exact ⟨rfl, St.call (by assumption) hw⟩)))
         try simp only [Act.put, List.setIfInBounds_toArray, List.set])
        (first
           | (apply head_skip rfl)
           | (apply head_step_g rfl
              focus
                intro w0 hC
                (fail))
           | (apply head_step_g rfl
              focus
                intro w0 hC
                have hC' := Lib.hid hC
                obtain ⟨⟨r1, f1, i1, b1, l1⟩, ⟨r2, f2, i2, b2, l2⟩, ⟨r3, f3, i3, b3, l3⟩, m12, m21, m13, m31, m23, m32⟩ := St.facts3 hC
                clear hC
                go_simp
                have hC := hC'.out
                (first
                   | with_reducible rfl
                   | (skip
                      (fail)
                      rintro e w' ⟨rfl, hw⟩
                      exact ⟨rfl, St.call (by assumption) hw⟩)))
         try simp only [Act.put, List.setIfInBounds_toArray, List.set])
        (first
           | (apply head_skip rfl)
           | (apply head_step_g rfl
              focus
                intro w0 hC
                (fail))
           | (apply head_step_g rfl
              focus
                intro w0 hC
                have hC' := Lib.hid hC
                obtain ⟨⟨r1, f1, i1, b1, l1⟩, ⟨r2, f2, i2, b2, l2⟩, ⟨r3, f3, i3, b3, l3⟩, m12, m21, m13, m31, m23, m32⟩ := St.facts3 hC
                clear hC
                go_simp
                have hC := hC'.out
                (first
                   | with_reducible rfl
                   | (skip
                      (fail)
                      rintro e w' ⟨rfl, hw⟩
                      exact ⟨rfl, St.call (by assumption) hw⟩)))
         try simp only [Act.put, List.setIfInBounds_toArray, List.set])
        (first
           | (apply head_skip rfl)
           | (apply head_step_g rfl
              focus
                intro w0 hC
                (fail))
           | (apply head_step_g rfl
              focus
                intro w0 hC
                have hC' := Lib.hid hC
                obtain ⟨⟨r1, f1, i1, b1, l1⟩, ⟨r2, f2, i2, b2, l2⟩, ⟨r3, f3, i3, b3, l3⟩, m12, m21, m13, m31, m23, m32⟩ := St.facts3 hC
                clear hC
                go_simp
                have hC := hC'.out
                (first
                   | with_reducible rfl
                   | (skip
                      (fail)
                      rintro e w' ⟨rfl, hw⟩
                      exact ⟨rfl, St.call (by assumption) hw⟩)))
         try simp only [Act.put, List.setIfInBounds_toArray, List.set])
        (first
           | (apply head_skip rfl)
           | (apply head_step_g rfl
              focus
                intro w0 hC
                (fail))
           | (apply head_step_g rfl
              focus
                intro w0 hC
                have hC' := Lib.hid hC
                obtain ⟨⟨r1, f1, i1, b1, l1⟩, ⟨r2, f2, i2, b2, l2⟩, ⟨r3, f3, i3, b3, l3⟩, m12, m21, m13, m31, m23, m32⟩ := St.facts3 hC
                clear hC
                go_simp
                have hC := hC'.out
                (first
                   | with_reducible rfl
                   | (skip
                      (fail)
                      rintro e w' ⟨rfl, hw⟩
                      exact ⟨rfl, St.call (by assumption) hw⟩)))
         try simp only [Act.put, List.setIfInBounds_toArray, List.set])
        refine wpQuiet_nil ?_
        intro w5 hC
        have HC := Lib.hid hC
        have sos := hC.below.os
        clear hC e1
        go_wp2_with fail
        exact ⟨⟨j + 1, by omega, by go_num, HC⟩, by simp [intOf]; omega⟩
      · have d3 : decide (j < s.size) = false := decide_eq_false hls
        clear hls
        (have HC := Lib.hid hC
         have sos := hC.below.os
         obtain ⟨⟨r1, f1, i1, b1, l1⟩, ⟨r2, f2, i2, b2, l2⟩, ⟨r3, f3, i3, b3, l3⟩, m12, m21, m13, m31, m23, m32⟩ := St.facts3 hC
         clear hC)
        go_wp2_with fail
        refine (awake09_any _).mono ?_; rintro e w6 ⟨rfl, hw⟩
        have HC := Lib.hid (HC.out.call hw)
        clear hw sos
        have sos := HC.out.os
        go_wp2_with fail
        go_ret
        exact ⟨rfl, HC.out.below⟩
    · obtain rfl : j = o.size := by omega
      (have HC := Lib.hid hC
       have sos := hC.below.os
       obtain ⟨⟨r1, f1, i1, b1, l1⟩, ⟨r2, f2, i2, b2, l2⟩, ⟨r3, f3, i3, b3, l3⟩, m12, m21, m13, m31, m23, m32⟩ := St.facts3 hC
       clear hC)
      go_wp2_with fail
      refine (awake09_any _).mono ?_; rintro e w6 ⟨rfl, hw⟩
      have HC := Lib.hid (HC.out.call hw)
      clear hw sos
      have sos := HC.out.os
      go_wp2_with fail
      go_ret
      exact ⟨rfl, HC.out.below⟩
theorem gcmBack_walk (k : Nat → UInt8) (t : ByteArray × ByteArray × ByteArray) (o : ByteArray) (w : World) : Calls Try.prog 7 #[.agg (blk 16 k), .agg (tx t.1 t.2.1 t.2.2), .string o] w fun e w' => e = .returned (.bool true) ∧ Below w.heap.size w w' := by
  by_cases h : decide (20 < t.1.size ∨ 60 < t.2.1.size ∨ 60 < t.2.2.size) = true ∨ t.1.size ≠ 12 ∨ 60 < o.size
  · exact gcmBack_out k _ _ _ o h w
  · exact gcmBack_in k _ _ _ o (by cases hd : decide (20 < t.1.size ∨ 60 < t.2.1.size ∨ 60 < t.2.2.size) with | false => rfl | true => exact (h (.inl hd)).elim) (by omega) (by omega) w
end Go.Proofs.Ytklcgacbmphjcaa
