/- GhashTells returns true at every block, every two texts, every two bytes. No condition. -/
import Derived.Test.YtepooocdpifcfaaGhDiffer
import Derived.Test.YtepooocdpifcfaaBytes
namespace Go.Proofs.Ytepooocdpifcfaa
open Go.RowKit
attribute [local go_sem] B_xor B_or B_and
attribute [local go_sem] blk_set blk_size blk_get blk_getE upd_same oneCells_blk paste_blk cut_blk szOf
attribute [local go_sem high] paste_all cut_head
attribute [local go_sem] rowAt_alloc rowAt_drew rowAt_drewN isRow_alloc isRow_drew isRow_drewN freeRow_alloc freeRow_end freeRow_drew freeRow_drewN
attribute [local go_sem] setRow_alloc setRow_drew setRow_drewN setCell_drewN alloc_drewN rowAt_put isRow_setRow freeRow_put
attribute [local go_sem ↓] loadS_in storeS_in indexS_in copyS_in
attribute [local go_sem] loadS_row loadS_one storeS_row storeS_one indexS_blk copyS_rows run_equalIn_blk same_refl arrayAt_row
attribute [local go_sem] cell_row frozen_row st_setCell st_blk_ne stepAt stepUpon
attribute [local go_sem high] run_eql_blk run_neq_blk
attribute [local go_sem ↓] convBS_in
attribute [local go_sem] convBS_row convBS_nil allBytes_blk bytesOf_blk
attribute [local go_sem] strOf_size

def pl (x : UInt8) : UInt8 := 1 + x % 255
theorem pl_ne : ∀ x : UInt8, pl x ≠ 0 := by apply Gf.all256; decide +kernel
theorem xor_pl (y x : UInt8) : y ^^^ pl x ≠ y := fun h => pl_ne x (by
  have : y ^^^ (y ^^^ pl x) = 0 := by rw [h, UInt8.xor_self]
  rwa [← UInt8.xor_assoc, UInt8.xor_self, UInt8.zero_xor] at this)
theorem pl_val : ∀ x : UInt8, IntKind.u8.wrap (1 + (B x).tmod 255) = B (pl x) := by apply Gf.all256; decide +kernel
theorem pl_val3 : ∀ x : UInt8, IntKind.u8.wrap (1 + B x % 255) = B (pl x) := by apply Gf.all256; decide +kernel
theorem pl_val4 : ∀ x : UInt8, 1 + B x % 255 = B (pl x) := by apply Gf.all256; decide +kernel
theorem pl_val2 : ∀ x : UInt8, IntKind.u8.wrap (1 + IntKind.u8.wrap ((B x).tmod 255)) = B (pl x) := by apply Gf.all256; decide +kernel

set_option maxRecDepth 100000 in
set_option maxHeartbeats 2000000 in
theorem tells_out (h nn : Nat → UInt8) (a b : ByteArray) (ho : 100 < a.size ∨ 100 < b.size ∨ same 16 h (fun _ => 0) = true) (w : World) : Calls Try.prog 4 #[.agg (blk 16 h), .agg #[.string a, .string b], .agg (blk 2 nn)] w fun e w' => e = .returned (.bool true) ∧ Below w.heap.size w w' := by
  have hz := zero16
  obtain ⟨S, cS, eS⟩ : ∃ S, (∀ w, Calls Try.prog 18 #[.agg (blk 16 fun _ => 0), .string ⟨#[120]⟩, .string ⟨#[121]⟩] w fun e w' => e = .returned (.agg (blk 16 S)) ∧ Below w.heap.size w w') ∧ same 16 S (fun _ => 0) = true :=
    ⟨_, fun w => ghSum_any _ _ _ (by decide) (by decide) w, sum_zero _ _ (by decide) (by decide)⟩
  have HC := Lib.hid ((((St.nil w).pushA (blk 16 h) 22 rfl).pushA #[.string a, .string b] 30 (g := w.heap.size + 1) (by simp)).pushA (blk 2 nn) 31 (g := w.heap.size + 1 + 1) (by simp))
  go_enter Try.func4, Try.ntmps4
  go_wp2_with fail
  refine St.region HC.out (by kernel_rfl) (by kernel_rfl) ?_
  (first
     | (apply head_skip rfl)
     | (apply head_step_g rfl
        focus
          intro w0 hC
          (first
             | exact eql_quiet 23 rfl rfl rfl Try.eqGuardType23 Try.underlying23 (by simp [go_sem]) (by simp [go_sem]) (by with_reducible assumption)
             | exact neq_quiet 23 rfl rfl rfl Try.eqGuardType23 Try.underlying23 (by simp [go_sem]) (by simp [go_sem]) (by with_reducible assumption)))
     | (apply head_step_g rfl
        focus
          intro w0 hC
          have hC' := Lib.hid hC
          obtain ⟨⟨r1, f1, i1, b1, l1⟩, ⟨r2, f2, i2, b2, l2⟩, ⟨r3, f3, i3, b3, l3⟩, m12, m21, m13, m31, m23, m32⟩ := St.facts3 hC
          clear hC
          go_simp
          have hC := hC'.out
          (first
             | with_reducible rfl
             | (skip
                (first
                   | (go_at_call 18; refine (ghSum_any _ _ _ hsa hsb _).mono ?_)
                   | (go_at_call 17; refine (awake08_any _).mono ?_))
                rintro e w' ⟨rfl, hw⟩
                exact ⟨rfl, St.call (by assumption) hw⟩)))
   try simp only [Act.put, List.setIfInBounds_toArray, List.set])
  (first
     | (apply head_skip rfl)
     | (apply head_step_g rfl
        focus
          intro w0 hC
          (first
             | exact eql_quiet 23 rfl rfl rfl Try.eqGuardType23 Try.underlying23 (by simp [go_sem]) (by simp [go_sem]) (by with_reducible assumption)
             | exact neq_quiet 23 rfl rfl rfl Try.eqGuardType23 Try.underlying23 (by simp [go_sem]) (by simp [go_sem]) (by with_reducible assumption)))
     | (apply head_step_g rfl
        focus
          intro w0 hC
          have hC' := Lib.hid hC
          obtain ⟨⟨r1, f1, i1, b1, l1⟩, ⟨r2, f2, i2, b2, l2⟩, ⟨r3, f3, i3, b3, l3⟩, m12, m21, m13, m31, m23, m32⟩ := St.facts3 hC
          clear hC
          go_simp
          have hC := hC'.out
          (first
             | with_reducible rfl
             | (skip
                (first
                   | (go_at_call 18; refine (ghSum_any _ _ _ hsa hsb _).mono ?_)
                   | (go_at_call 17; refine (awake08_any _).mono ?_))
                rintro e w' ⟨rfl, hw⟩
                exact ⟨rfl, St.call (by assumption) hw⟩)))
   try simp only [Act.put, List.setIfInBounds_toArray, List.set])
  (first
     | (apply head_skip rfl)
     | (apply head_step_g rfl
        focus
          intro w0 hC
          (first
             | exact eql_quiet 23 rfl rfl rfl Try.eqGuardType23 Try.underlying23 (by simp [go_sem]) (by simp [go_sem]) (by with_reducible assumption)
             | exact neq_quiet 23 rfl rfl rfl Try.eqGuardType23 Try.underlying23 (by simp [go_sem]) (by simp [go_sem]) (by with_reducible assumption)))
     | (apply head_step_g rfl
        focus
          intro w0 hC
          have hC' := Lib.hid hC
          obtain ⟨⟨r1, f1, i1, b1, l1⟩, ⟨r2, f2, i2, b2, l2⟩, ⟨r3, f3, i3, b3, l3⟩, m12, m21, m13, m31, m23, m32⟩ := St.facts3 hC
          clear hC
          go_simp
          have hC := hC'.out
          (first
             | with_reducible rfl
             | (skip
                (first
                   | (go_at_call 18; refine (ghSum_any _ _ _ hsa hsb _).mono ?_)
                   | (go_at_call 17; refine (awake08_any _).mono ?_))
                rintro e w' ⟨rfl, hw⟩
                exact ⟨rfl, St.call (by assumption) hw⟩)))
   try simp only [Act.put, List.setIfInBounds_toArray, List.set])
  (first
     | (apply head_skip rfl)
     | (apply head_step_g rfl
        focus
          intro w0 hC
          (first
             | exact eql_quiet 23 rfl rfl rfl Try.eqGuardType23 Try.underlying23 (by simp [go_sem]) (by simp [go_sem]) (by with_reducible assumption)
             | exact neq_quiet 23 rfl rfl rfl Try.eqGuardType23 Try.underlying23 (by simp [go_sem]) (by simp [go_sem]) (by with_reducible assumption)))
     | (apply head_step_g rfl
        focus
          intro w0 hC
          have hC' := Lib.hid hC
          obtain ⟨⟨r1, f1, i1, b1, l1⟩, ⟨r2, f2, i2, b2, l2⟩, ⟨r3, f3, i3, b3, l3⟩, m12, m21, m13, m31, m23, m32⟩ := St.facts3 hC
          clear hC
          go_simp
          have hC := hC'.out
          (first
             | with_reducible rfl
             | (skip
                (first
                   | (go_at_call 18; refine (ghSum_any _ _ _ hsa hsb _).mono ?_)
                   | (go_at_call 17; refine (awake08_any _).mono ?_))
                rintro e w' ⟨rfl, hw⟩
                exact ⟨rfl, St.call (by assumption) hw⟩)))
   try simp only [Act.put, List.setIfInBounds_toArray, List.set])
  (first
     | (apply head_skip rfl)
     | (apply head_step_g rfl
        focus
          intro w0 hC
          (first
             | exact eql_quiet 23 rfl rfl rfl Try.eqGuardType23 Try.underlying23 (by simp [go_sem]) (by simp [go_sem]) (by with_reducible assumption)
             | exact neq_quiet 23 rfl rfl rfl Try.eqGuardType23 Try.underlying23 (by simp [go_sem]) (by simp [go_sem]) (by with_reducible assumption)))
     | (apply head_step_g rfl
        focus
          intro w0 hC
          have hC' := Lib.hid hC
          obtain ⟨⟨r1, f1, i1, b1, l1⟩, ⟨r2, f2, i2, b2, l2⟩, ⟨r3, f3, i3, b3, l3⟩, m12, m21, m13, m31, m23, m32⟩ := St.facts3 hC
          clear hC
          go_simp
          have hC := hC'.out
          (first
             | with_reducible rfl
             | (skip
                (first
                   | (go_at_call 18; refine (ghSum_any _ _ _ hsa hsb _).mono ?_)
                   | (go_at_call 17; refine (awake08_any _).mono ?_))
                rintro e w' ⟨rfl, hw⟩
                exact ⟨rfl, St.call (by assumption) hw⟩)))
   try simp only [Act.put, List.setIfInBounds_toArray, List.set])
  (first
     | (apply head_skip rfl)
     | (apply head_step_g rfl
        focus
          intro w0 hC
          (first
             | exact eql_quiet 23 rfl rfl rfl Try.eqGuardType23 Try.underlying23 (by simp [go_sem]) (by simp [go_sem]) (by with_reducible assumption)
             | exact neq_quiet 23 rfl rfl rfl Try.eqGuardType23 Try.underlying23 (by simp [go_sem]) (by simp [go_sem]) (by with_reducible assumption)))
     | (apply head_step_g rfl
        focus
          intro w0 hC
          have hC' := Lib.hid hC
          obtain ⟨⟨r1, f1, i1, b1, l1⟩, ⟨r2, f2, i2, b2, l2⟩, ⟨r3, f3, i3, b3, l3⟩, m12, m21, m13, m31, m23, m32⟩ := St.facts3 hC
          clear hC
          go_simp
          have hC := hC'.out
          (first
             | with_reducible rfl
             | (skip
                (first
                   | (go_at_call 18; refine (ghSum_any _ _ _ hsa hsb _).mono ?_)
                   | (go_at_call 17; refine (awake08_any _).mono ?_))
                rintro e w' ⟨rfl, hw⟩
                exact ⟨rfl, St.call (by assumption) hw⟩)))
   try simp only [Act.put, List.setIfInBounds_toArray, List.set])
  refine wpQuiet_nil ?_
  intro w1 hC
  clear HC
  (have HC := Lib.hid hC
   have sos := hC.below.os
   obtain ⟨⟨r1, f1, i1, b1, l1⟩, ⟨r2, f2, i2, b2, l2⟩, ⟨r3, f3, i3, b3, l3⟩, m12, m21, m13, m31, m23, m32⟩ := St.facts3 hC
   clear hC)
  rcases ho with ho | ho | ho
  · have t1 : decide ((100 : Int) < (a.size : Int)) = true := decide_eq_true (by omega)
    go_wp2_with fail
    refine (cS _).mono ?_; rintro e w2 ⟨rfl, hw⟩
    have HC := Lib.hid (HC.out.call hw)
    clear hw
    (clear r1 f1 i1 b1 l1 r2 f2 i2 b2 l2 r3 f3 i3 b3 l3 m12 m21 m13 m31 m23 m32 sos)
    have sos := HC.out.os
    go_wp2_with fail
    refine (awake08_any _).mono ?_; rintro e w5 ⟨rfl, hw⟩
    have HC := Lib.hid (HC.out.call hw)
    clear hw sos
    have sos := HC.out.os
    go_wp2_with fail
    go_ret
    exact ⟨rfl, HC.out.below⟩
  · by_cases ha : 100 < a.size
    · have t1 : decide ((100 : Int) < (a.size : Int)) = true := decide_eq_true (by omega)
      go_wp2_with fail
      refine (cS _).mono ?_; rintro e w2 ⟨rfl, hw⟩
      have HC := Lib.hid (HC.out.call hw)
      clear hw
      (clear r1 f1 i1 b1 l1 r2 f2 i2 b2 l2 r3 f3 i3 b3 l3 m12 m21 m13 m31 m23 m32 sos)
      have sos := HC.out.os
      go_wp2_with fail
      refine (awake08_any _).mono ?_; rintro e w5 ⟨rfl, hw⟩
      have HC := Lib.hid (HC.out.call hw)
      clear hw sos
      have sos := HC.out.os
      go_wp2_with fail
      go_ret
      exact ⟨rfl, HC.out.below⟩
    · have t1 : decide ((100 : Int) < (a.size : Int)) = false := decide_eq_false (by omega)
      have t2 : decide ((100 : Int) < (b.size : Int)) = true := decide_eq_true (by omega)
      go_wp2_with fail
      refine (cS _).mono ?_; rintro e w2 ⟨rfl, hw⟩
      have HC := Lib.hid (HC.out.call hw)
      clear hw
      (clear r1 f1 i1 b1 l1 r2 f2 i2 b2 l2 r3 f3 i3 b3 l3 m12 m21 m13 m31 m23 m32 sos)
      have sos := HC.out.os
      go_wp2_with fail
      refine (awake08_any _).mono ?_; rintro e w5 ⟨rfl, hw⟩
      have HC := Lib.hid (HC.out.call hw)
      clear hw sos
      have sos := HC.out.os
      go_wp2_with fail
      go_ret
      exact ⟨rfl, HC.out.below⟩
  · by_cases ha : 100 < a.size
    · have t1 : decide ((100 : Int) < (a.size : Int)) = true := decide_eq_true (by omega)
      go_wp2_with fail
      refine (cS _).mono ?_; rintro e w2 ⟨rfl, hw⟩
      have HC := Lib.hid (HC.out.call hw)
      clear hw
      (clear r1 f1 i1 b1 l1 r2 f2 i2 b2 l2 r3 f3 i3 b3 l3 m12 m21 m13 m31 m23 m32 sos)
      have sos := HC.out.os
      go_wp2_with fail
      refine (awake08_any _).mono ?_; rintro e w5 ⟨rfl, hw⟩
      have HC := Lib.hid (HC.out.call hw)
      clear hw sos
      have sos := HC.out.os
      go_wp2_with fail
      go_ret
      exact ⟨rfl, HC.out.below⟩
    · have t1 : decide ((100 : Int) < (a.size : Int)) = false := decide_eq_false (by omega)
      by_cases hb : 100 < b.size
      · have t2 : decide ((100 : Int) < (b.size : Int)) = true := decide_eq_true (by omega)
        go_wp2_with fail
        refine (cS _).mono ?_; rintro e w2 ⟨rfl, hw⟩
        have HC := Lib.hid (HC.out.call hw)
        clear hw
        (clear r1 f1 i1 b1 l1 r2 f2 i2 b2 l2 r3 f3 i3 b3 l3 m12 m21 m13 m31 m23 m32 sos)
        have sos := HC.out.os
        go_wp2_with fail
        refine (awake08_any _).mono ?_; rintro e w5 ⟨rfl, hw⟩
        have HC := Lib.hid (HC.out.call hw)
        clear hw sos
        have sos := HC.out.os
        go_wp2_with fail
        go_ret
        exact ⟨rfl, HC.out.below⟩
      · have t2 : decide ((100 : Int) < (b.size : Int)) = false := decide_eq_false (by omega)
        go_wp2_with fail
        refine (cS _).mono ?_; rintro e w2 ⟨rfl, hw⟩
        have HC := Lib.hid (HC.out.call hw)
        clear hw
        (clear r1 f1 i1 b1 l1 r2 f2 i2 b2 l2 r3 f3 i3 b3 l3 m12 m21 m13 m31 m23 m32 sos)
        have sos := HC.out.os
        go_wp2_with fail
        refine (awake08_any _).mono ?_; rintro e w5 ⟨rfl, hw⟩
        have HC := Lib.hid (HC.out.call hw)
        clear hw sos
        have sos := HC.out.os
        go_wp2_with fail
        go_ret
        exact ⟨rfl, HC.out.below⟩

theorem text_append (a b : ByteArray) : a = strOf a.size (ofText (a ++ b)) ∧ b = strOf b.size fun i => ofText (a ++ b) (a.size + i) := by
  have h1 : ∀ i, i < a.size → ofText (a ++ b) i = ofText a i := fun i hi => by
    unfold ofText
    rw [ByteArray.data_append]
    have hi' : i < a.data.size := hi
    simp [Array.getElem?_append_left hi', Array.getD_eq_getD_getElem?]
  have h2 : ∀ i, ofText (a ++ b) (a.size + i) = ofText b i := fun i => by
    unfold ofText
    rw [ByteArray.data_append]
    have hi' : a.data.size ≤ a.size + i := Nat.le_add_right _ _
    have e : a.size + i - a.data.size = i := Nat.add_sub_cancel_left _ _
    rw [Array.getD_eq_getD_getElem?, Array.getD_eq_getD_getElem?, Array.getElem?_append_right hi', e]
  constructor
  · rw [strOf_congr h1, strOf_ofText a _ rfl]
  · rw [strOf_congr (fun i _ => h2 i), strOf_ofText b _ rfl]
attribute [local go_sem ↓] convSB_in
attribute [local go_sem] convSB_row freeRow_endB
attribute [local go_sem high] slice_from slice_to
set_option maxRecDepth 100000 in
set_option maxHeartbeats 4000000 in
theorem tells_in (h nn : Nat → UInt8) (a b : ByteArray) (ha : a.size ≤ 100) (hb : b.size ≤ 100) (hh : same 16 h (fun _ => 0) = false) (w : World) : Calls Try.prog 4 #[.agg (blk 16 h), .agg #[.string a, .string b], .agg (blk 2 nn)] w fun e w' => e = .returned (.bool true) ∧ Below w.heap.size w w' := by
  have hz := zero16
  have hsa : a.size < 2 ^ 40 := by omega
  have hsb : b.size < 2 ^ 40 := by omega
  have t1 : decide ((100 : Int) < (a.size : Int)) = false := decide_eq_false (by omega)
  have t2 : decide ((100 : Int) < (b.size : Int)) = false := decide_eq_false (by omega)
  have HC := Lib.hid ((((St.nil w).pushA (blk 16 h) 22 rfl).pushA #[.string a, .string b] 30 (g := w.heap.size + 1) (by simp)).pushA (blk 2 nn) 31 (g := w.heap.size + 1 + 1) (by simp))
  obtain ⟨s, es⟩ : ∃ s, a ++ b = s := ⟨_, rfl⟩
  have hn : s.size = a.size + b.size := by rw [← es, ByteArray.size_append]
  have htx := Lib.hid (text_append a b)
  rw [es] at htx
  have hpart := Lib.hid (sum_part h a.size b.size (ofText s))
  go_enter Try.func4, Try.ntmps4
  go_wp2_with fail
  refine St.region HC.out (by kernel_rfl) (by kernel_rfl) ?_
  (first
     | (apply head_skip rfl)
     | (apply head_step_g rfl
        focus
          intro w0 hC
          (first
             | exact eql_quiet 23 rfl rfl rfl Try.eqGuardType23 Try.underlying23 (by simp [go_sem]) (by simp [go_sem]) (by with_reducible assumption)
             | exact neq_quiet 23 rfl rfl rfl Try.eqGuardType23 Try.underlying23 (by simp [go_sem]) (by simp [go_sem]) (by with_reducible assumption)))
     | (apply head_step_g rfl
        focus
          intro w0 hC
          have hC' := Lib.hid hC
          obtain ⟨⟨r1, f1, i1, b1, l1⟩, ⟨r2, f2, i2, b2, l2⟩, ⟨r3, f3, i3, b3, l3⟩, m12, m21, m13, m31, m23, m32⟩ := St.facts3 hC
          clear hC
          go_simp
          have hC := hC'.out
          (first
             | with_reducible rfl
             | (skip
                (first
                   | (go_at_call 18; refine (ghSum_any _ _ _ (by rw [strOf_size]; exact hsa) (by rw [strOf_size]; exact hsb) _).mono ?_)
                   | (go_at_call 17; refine (awake08_any _).mono ?_))
                rintro e w' ⟨rfl, hw⟩
                exact ⟨rfl, St.call (by assumption) hw⟩)))
   try simp only [Act.put, List.setIfInBounds_toArray, List.set])
  (first
     | (apply head_skip rfl)
     | (apply head_step_g rfl
        focus
          intro w0 hC
          (first
             | exact eql_quiet 23 rfl rfl rfl Try.eqGuardType23 Try.underlying23 (by simp [go_sem]) (by simp [go_sem]) (by with_reducible assumption)
             | exact neq_quiet 23 rfl rfl rfl Try.eqGuardType23 Try.underlying23 (by simp [go_sem]) (by simp [go_sem]) (by with_reducible assumption)))
     | (apply head_step_g rfl
        focus
          intro w0 hC
          have hC' := Lib.hid hC
          obtain ⟨⟨r1, f1, i1, b1, l1⟩, ⟨r2, f2, i2, b2, l2⟩, ⟨r3, f3, i3, b3, l3⟩, m12, m21, m13, m31, m23, m32⟩ := St.facts3 hC
          clear hC
          go_simp
          have hC := hC'.out
          (first
             | with_reducible rfl
             | (skip
                (first
                   | (go_at_call 18; refine (ghSum_any _ _ _ (by rw [strOf_size]; exact hsa) (by rw [strOf_size]; exact hsb) _).mono ?_)
                   | (go_at_call 17; refine (awake08_any _).mono ?_))
                rintro e w' ⟨rfl, hw⟩
                exact ⟨rfl, St.call (by assumption) hw⟩)))
   try simp only [Act.put, List.setIfInBounds_toArray, List.set])
  (first
     | (apply head_skip rfl)
     | (apply head_step_g rfl
        focus
          intro w0 hC
          (first
             | exact eql_quiet 23 rfl rfl rfl Try.eqGuardType23 Try.underlying23 (by simp [go_sem]) (by simp [go_sem]) (by with_reducible assumption)
             | exact neq_quiet 23 rfl rfl rfl Try.eqGuardType23 Try.underlying23 (by simp [go_sem]) (by simp [go_sem]) (by with_reducible assumption)))
     | (apply head_step_g rfl
        focus
          intro w0 hC
          have hC' := Lib.hid hC
          obtain ⟨⟨r1, f1, i1, b1, l1⟩, ⟨r2, f2, i2, b2, l2⟩, ⟨r3, f3, i3, b3, l3⟩, m12, m21, m13, m31, m23, m32⟩ := St.facts3 hC
          clear hC
          go_simp
          have hC := hC'.out
          (first
             | with_reducible rfl
             | (skip
                (first
                   | (go_at_call 18; refine (ghSum_any _ _ _ (by rw [strOf_size]; exact hsa) (by rw [strOf_size]; exact hsb) _).mono ?_)
                   | (go_at_call 17; refine (awake08_any _).mono ?_))
                rintro e w' ⟨rfl, hw⟩
                exact ⟨rfl, St.call (by assumption) hw⟩)))
   try simp only [Act.put, List.setIfInBounds_toArray, List.set])
  (first
     | (apply head_skip rfl)
     | (apply head_step_g rfl
        focus
          intro w0 hC
          (first
             | exact eql_quiet 23 rfl rfl rfl Try.eqGuardType23 Try.underlying23 (by simp [go_sem]) (by simp [go_sem]) (by with_reducible assumption)
             | exact neq_quiet 23 rfl rfl rfl Try.eqGuardType23 Try.underlying23 (by simp [go_sem]) (by simp [go_sem]) (by with_reducible assumption)))
     | (apply head_step_g rfl
        focus
          intro w0 hC
          have hC' := Lib.hid hC
          obtain ⟨⟨r1, f1, i1, b1, l1⟩, ⟨r2, f2, i2, b2, l2⟩, ⟨r3, f3, i3, b3, l3⟩, m12, m21, m13, m31, m23, m32⟩ := St.facts3 hC
          clear hC
          go_simp
          have hC := hC'.out
          (first
             | with_reducible rfl
             | (skip
                (first
                   | (go_at_call 18; refine (ghSum_any _ _ _ (by rw [strOf_size]; exact hsa) (by rw [strOf_size]; exact hsb) _).mono ?_)
                   | (go_at_call 17; refine (awake08_any _).mono ?_))
                rintro e w' ⟨rfl, hw⟩
                exact ⟨rfl, St.call (by assumption) hw⟩)))
   try simp only [Act.put, List.setIfInBounds_toArray, List.set])
  (first
     | (apply head_skip rfl)
     | (apply head_step_g rfl
        focus
          intro w0 hC
          (first
             | exact eql_quiet 23 rfl rfl rfl Try.eqGuardType23 Try.underlying23 (by simp [go_sem]) (by simp [go_sem]) (by with_reducible assumption)
             | exact neq_quiet 23 rfl rfl rfl Try.eqGuardType23 Try.underlying23 (by simp [go_sem]) (by simp [go_sem]) (by with_reducible assumption)))
     | (apply head_step_g rfl
        focus
          intro w0 hC
          have hC' := Lib.hid hC
          obtain ⟨⟨r1, f1, i1, b1, l1⟩, ⟨r2, f2, i2, b2, l2⟩, ⟨r3, f3, i3, b3, l3⟩, m12, m21, m13, m31, m23, m32⟩ := St.facts3 hC
          clear hC
          go_simp
          have hC := hC'.out
          (first
             | with_reducible rfl
             | (skip
                (first
                   | (go_at_call 18; refine (ghSum_any _ _ _ (by rw [strOf_size]; exact hsa) (by rw [strOf_size]; exact hsb) _).mono ?_)
                   | (go_at_call 17; refine (awake08_any _).mono ?_))
                rintro e w' ⟨rfl, hw⟩
                exact ⟨rfl, St.call (by assumption) hw⟩)))
   try simp only [Act.put, List.setIfInBounds_toArray, List.set])
  (first
     | (apply head_skip rfl)
     | (apply head_step_g rfl
        focus
          intro w0 hC
          (first
             | exact eql_quiet 23 rfl rfl rfl Try.eqGuardType23 Try.underlying23 (by simp [go_sem]) (by simp [go_sem]) (by with_reducible assumption)
             | exact neq_quiet 23 rfl rfl rfl Try.eqGuardType23 Try.underlying23 (by simp [go_sem]) (by simp [go_sem]) (by with_reducible assumption)))
     | (apply head_step_g rfl
        focus
          intro w0 hC
          have hC' := Lib.hid hC
          obtain ⟨⟨r1, f1, i1, b1, l1⟩, ⟨r2, f2, i2, b2, l2⟩, ⟨r3, f3, i3, b3, l3⟩, m12, m21, m13, m31, m23, m32⟩ := St.facts3 hC
          clear hC
          go_simp
          have hC := hC'.out
          (first
             | with_reducible rfl
             | (skip
                (first
                   | (go_at_call 18; refine (ghSum_any _ _ _ (by rw [strOf_size]; exact hsa) (by rw [strOf_size]; exact hsb) _).mono ?_)
                   | (go_at_call 17; refine (awake08_any _).mono ?_))
                rintro e w' ⟨rfl, hw⟩
                exact ⟨rfl, St.call (by assumption) hw⟩)))
   try simp only [Act.put, List.setIfInBounds_toArray, List.set])
  refine wpQuiet_nil ?_
  intro w1 hC
  clear HC
  have HN := Lib.hid hn
  clear hn
  (have HC := Lib.hid hC
   have sos := hC.below.os
   obtain ⟨⟨r1, f1, i1, b1, l1⟩, ⟨r2, f2, i2, b2, l2⟩, ⟨r3, f3, i3, b3, l3⟩, m12, m21, m13, m31, m23, m32⟩ := St.facts3 hC
   clear hC)
  go_wp2_with fail
  have HC := Lib.hid (HC.out.push (blk 16 h) 23)
  (clear r1 f1 i1 b1 l1 r2 f2 i2 b2 l2 r3 f3 i3 b3 l3 m12 m21 m13 m31 m23 m32 sos)
  generalize w1.heap.size = gh at HC ⊢
  refine (ghSum_any h a b hsa hsb _).mono ?_; rintro e w2 ⟨rfl, hw⟩
  have HC := Lib.hid (HC.out.call hw)
  clear hw
  have sos := HC.out.os
  have hcp := Lib.hid (capS_ge (w2.alloc (.cells (blk 16 (sumB h a b)) 23)) s.size 5)
  by_cases h0 : s.size = 0
  · have e0 := sum_empty h a b (by have := HN.out; omega) (by have := HN.out; omega)
    have t3 : ((s.size : Int) == 0) = true := by rw [h0]; rfl
    have HP := Lib.hid hpart
    clear h0 hpart
    go_wp2_with fail
    generalize capS (w2.alloc (.cells (blk 16 (sumB h a b)) 23)) s.size 5 = cp at hcp ⊢
    have HC := Lib.hid ((((HC.out.push (blk 16 (sumB h a b)) 23).pushM cp (ofText s) 5 (cp + 1)).drew))
    refine (awake08_any _).mono ?_; rintro e w5 ⟨rfl, hw⟩
    have HC := Lib.hid (HC.out.call hw)
    clear hw sos
    have sos := HC.out.os
    go_wp2_with fail
    go_ret
    exact ⟨rfl, HC.out.below⟩
  · have t3 : ((s.size : Int) == 0) = false := by rw [beq_eq_false_iff_ne]; omega
    have hpos : 0 < s.size := by omega
    have HP := Lib.hid hpart
    clear h0 hpart
    go_wp2_with fail
    generalize capS (w2.alloc (.cells (blk 16 (sumB h a b)) 23)) s.size 5 = cp at hcp ⊢
    have HC := Lib.hid ((((HC.out.push (blk 16 (sumB h a b)) 23).pushMA cp (ofText s) 5 (cp + 1) (g := w2.heap.size + 1) (by simp)).drew))
    generalize w2.heap.size = gs at HC ⊢
    have hc := hcp.out
    obtain ⟨j, hj⟩ : ∃ j, (nn 0).toNat % s.size = j := ⟨_, rfl⟩
    have hjs : j < s.size := by rw [← hj]; exact Nat.mod_lt _ hpos
    have e1 : (B (nn 0)).tmod (s.size : Int) = (j : Int) := by
      rw [Int.tmod_eq_emod_of_nonneg (B_bd _).1, ← hj]; unfold B; omega
    have e1' : B (nn 0) % (s.size : Int) = (j : Int) := by rw [← hj]; unfold B; omega
    have e2 : IntKind.i64.wrap (j : Int) = (j : Int) := IntWalk.i64_in _ (by have := HN.out; omega)
    have e3 : (j : Int) < (s.size : Int) := by omega
    have e4 : j < cp := by omega
    have e6 : (s = ByteArray.empty) = False := by
      simp only [eq_iff_iff, iff_false]
      intro h; rw [h] at hpos; cases hpos
    have e5 : IntKind.i64.wrap (B (nn 0)) = B (nn 0) := IntWalk.i64_in _ (by have := B_bd (nn 0); omega)
    have b0 := B_bd (nn 0)
    have b1 := B_bd (nn 1)
    have p1 := pl_val (nn 1)
    have p2 := pl_val2 (nn 1)
    have p3 := pl_val3 (nn 1)
    have p4 := pl_val4 (nn 1)
    clear hj
    refine St.region_tail 15 HC.out (by kernel_rfl) (by decide +kernel) ?_
    (simp only [List.take, List.drop])
    (first
       | (apply head_skip rfl)
       | (apply head_step_g rfl
          focus
            intro w0' hC
            have hC' := Lib.hid hC
            obtain ⟨⟨r1, f1, i1, b1', l1⟩, ⟨r2, f2, i2, b2', l2⟩, m12, m21⟩ := St.facts2 (hC.pick [0, 3] (by decide) rfl)
            clear hC
            go_simp
            have hC := hC'.out
            (first
               | with_reducible rfl
               | (skip
                  (first
                     | (go_at_call 18; refine (ghSum_any _ _ _ (by rw [strOf_size]; exact hsa) (by rw [strOf_size]; exact hsb) _).mono ?_)
                     | (go_at_call 17; refine (awake08_any _).mono ?_))
                  rintro e w' ⟨rfl, hw⟩
                  exact ⟨rfl, St.call (by assumption) hw⟩)))
     try simp only [Act.put, List.setIfInBounds_toArray, List.set])
    (first
       | (apply head_skip rfl)
       | (apply head_step_g rfl
          focus
            intro w0' hC
            have hC' := Lib.hid hC
            obtain ⟨⟨r1, f1, i1, b1', l1⟩, ⟨r2, f2, i2, b2', l2⟩, m12, m21⟩ := St.facts2 (hC.pick [0, 3] (by decide) rfl)
            clear hC
            go_simp
            have hC := hC'.out
            (first
               | with_reducible rfl
               | (skip
                  (first
                     | (go_at_call 18; refine (ghSum_any _ _ _ (by rw [strOf_size]; exact hsa) (by rw [strOf_size]; exact hsb) _).mono ?_)
                     | (go_at_call 17; refine (awake08_any _).mono ?_))
                  rintro e w' ⟨rfl, hw⟩
                  exact ⟨rfl, St.call (by assumption) hw⟩)))
     try simp only [Act.put, List.setIfInBounds_toArray, List.set])
    (first
       | (apply head_skip rfl)
       | (apply head_step_g rfl
          focus
            intro w0' hC
            have hC' := Lib.hid hC
            obtain ⟨⟨r1, f1, i1, b1', l1⟩, ⟨r2, f2, i2, b2', l2⟩, m12, m21⟩ := St.facts2 (hC.pick [0, 3] (by decide) rfl)
            clear hC
            go_simp
            have hC := hC'.out
            (first
               | with_reducible rfl
               | (skip
                  (first
                     | (go_at_call 18; refine (ghSum_any _ _ _ (by rw [strOf_size]; exact hsa) (by rw [strOf_size]; exact hsb) _).mono ?_)
                     | (go_at_call 17; refine (awake08_any _).mono ?_))
                  rintro e w' ⟨rfl, hw⟩
                  exact ⟨rfl, St.call (by assumption) hw⟩)))
     try simp only [Act.put, List.setIfInBounds_toArray, List.set])
    (first
       | (apply head_skip rfl)
       | (apply head_step_g rfl
          focus
            intro w0' hC
            have hC' := Lib.hid hC
            obtain ⟨⟨r1, f1, i1, b1', l1⟩, ⟨r2, f2, i2, b2', l2⟩, m12, m21⟩ := St.facts2 (hC.pick [0, 3] (by decide) rfl)
            clear hC
            go_simp
            have hC := hC'.out
            (first
               | with_reducible rfl
               | (skip
                  (first
                     | (go_at_call 18; refine (ghSum_any _ _ _ (by rw [strOf_size]; exact hsa) (by rw [strOf_size]; exact hsb) _).mono ?_)
                     | (go_at_call 17; refine (awake08_any _).mono ?_))
                  rintro e w' ⟨rfl, hw⟩
                  exact ⟨rfl, St.call (by assumption) hw⟩)))
     try simp only [Act.put, List.setIfInBounds_toArray, List.set])
    (first
       | (apply head_skip rfl)
       | (apply head_step_g rfl
          focus
            intro w0' hC
            have hC' := Lib.hid hC
            obtain ⟨⟨r1, f1, i1, b1', l1⟩, ⟨r2, f2, i2, b2', l2⟩, m12, m21⟩ := St.facts2 (hC.pick [0, 3] (by decide) rfl)
            clear hC
            go_simp
            have hC := hC'.out
            (first
               | with_reducible rfl
               | (skip
                  (first
                     | (go_at_call 18; refine (ghSum_any _ _ _ (by rw [strOf_size]; exact hsa) (by rw [strOf_size]; exact hsb) _).mono ?_)
                     | (go_at_call 17; refine (awake08_any _).mono ?_))
                  rintro e w' ⟨rfl, hw⟩
                  exact ⟨rfl, St.call (by assumption) hw⟩)))
     try simp only [Act.put, List.setIfInBounds_toArray, List.set])
    (first
       | (apply head_skip rfl)
       | (apply head_step_g rfl
          focus
            intro w0' hC
            have hC' := Lib.hid hC
            obtain ⟨⟨r1, f1, i1, b1', l1⟩, ⟨r2, f2, i2, b2', l2⟩, m12, m21⟩ := St.facts2 (hC.pick [0, 3] (by decide) rfl)
            clear hC
            go_simp
            have hC := hC'.out
            (first
               | with_reducible rfl
               | (skip
                  (first
                     | (go_at_call 18; refine (ghSum_any _ _ _ (by rw [strOf_size]; exact hsa) (by rw [strOf_size]; exact hsb) _).mono ?_)
                     | (go_at_call 17; refine (awake08_any _).mono ?_))
                  rintro e w' ⟨rfl, hw⟩
                  exact ⟨rfl, St.call (by assumption) hw⟩)))
     try simp only [Act.put, List.setIfInBounds_toArray, List.set])
    (first
       | (apply head_skip rfl)
       | (apply head_step_g rfl
          focus
            intro w0' hC
            have hC' := Lib.hid hC
            obtain ⟨⟨r1, f1, i1, b1', l1⟩, ⟨r2, f2, i2, b2', l2⟩, m12, m21⟩ := St.facts2 (hC.pick [0, 3] (by decide) rfl)
            clear hC
            go_simp
            have hC := hC'.out
            (first
               | with_reducible rfl
               | (skip
                  (first
                     | (go_at_call 18; refine (ghSum_any _ _ _ (by rw [strOf_size]; exact hsa) (by rw [strOf_size]; exact hsb) _).mono ?_)
                     | (go_at_call 17; refine (awake08_any _).mono ?_))
                  rintro e w' ⟨rfl, hw⟩
                  exact ⟨rfl, St.call (by assumption) hw⟩)))
     try simp only [Act.put, List.setIfInBounds_toArray, List.set])
    (first
       | (apply head_skip rfl)
       | (apply head_step_g rfl
          focus
            intro w0' hC
            have hC' := Lib.hid hC
            obtain ⟨⟨r1, f1, i1, b1', l1⟩, ⟨r2, f2, i2, b2', l2⟩, m12, m21⟩ := St.facts2 (hC.pick [0, 3] (by decide) rfl)
            clear hC
            go_simp
            have hC := hC'.out
            (first
               | with_reducible rfl
               | (skip
                  (first
                     | (go_at_call 18; refine (ghSum_any _ _ _ (by rw [strOf_size]; exact hsa) (by rw [strOf_size]; exact hsb) _).mono ?_)
                     | (go_at_call 17; refine (awake08_any _).mono ?_))
                  rintro e w' ⟨rfl, hw⟩
                  exact ⟨rfl, St.call (by assumption) hw⟩)))
     try simp only [Act.put, List.setIfInBounds_toArray, List.set])
    (first
       | (apply head_skip rfl)
       | (apply head_step_g rfl
          focus
            intro w0' hC
            have hC' := Lib.hid hC
            obtain ⟨⟨r1, f1, i1, b1', l1⟩, ⟨r2, f2, i2, b2', l2⟩, m12, m21⟩ := St.facts2 (hC.pick [0, 3] (by decide) rfl)
            clear hC
            go_simp
            have hC := hC'.out
            (first
               | with_reducible rfl
               | (skip
                  (first
                     | (go_at_call 18; refine (ghSum_any _ _ _ (by rw [strOf_size]; exact hsa) (by rw [strOf_size]; exact hsb) _).mono ?_)
                     | (go_at_call 17; refine (awake08_any _).mono ?_))
                  rintro e w' ⟨rfl, hw⟩
                  exact ⟨rfl, St.call (by assumption) hw⟩)))
     try simp only [Act.put, List.setIfInBounds_toArray, List.set])
    (first
       | (apply head_skip rfl)
       | (apply head_step_g rfl
          focus
            intro w0' hC
            have hC' := Lib.hid hC
            obtain ⟨⟨r1, f1, i1, b1', l1⟩, ⟨r2, f2, i2, b2', l2⟩, m12, m21⟩ := St.facts2 (hC.pick [0, 3] (by decide) rfl)
            clear hC
            go_simp
            have hC := hC'.out
            (first
               | with_reducible rfl
               | (skip
                  (first
                     | (go_at_call 18; refine (ghSum_any _ _ _ (by rw [strOf_size]; exact hsa) (by rw [strOf_size]; exact hsb) _).mono ?_)
                     | (go_at_call 17; refine (awake08_any _).mono ?_))
                  rintro e w' ⟨rfl, hw⟩
                  exact ⟨rfl, St.call (by assumption) hw⟩)))
     try simp only [Act.put, List.setIfInBounds_toArray, List.set])
    (first
       | (apply head_skip rfl)
       | (apply head_step_g rfl
          focus
            intro w0' hC
            have hC' := Lib.hid hC
            obtain ⟨⟨r1, f1, i1, b1', l1⟩, ⟨r2, f2, i2, b2', l2⟩, m12, m21⟩ := St.facts2 (hC.pick [0, 3] (by decide) rfl)
            clear hC
            go_simp
            have hC := hC'.out
            (first
               | with_reducible rfl
               | (skip
                  (first
                     | (go_at_call 18; refine (ghSum_any _ _ _ (by rw [strOf_size]; exact hsa) (by rw [strOf_size]; exact hsb) _).mono ?_)
                     | (go_at_call 17; refine (awake08_any _).mono ?_))
                  rintro e w' ⟨rfl, hw⟩
                  exact ⟨rfl, St.call (by assumption) hw⟩)))
     try simp only [Act.put, List.setIfInBounds_toArray, List.set])
    (first
       | (apply head_skip rfl)
       | (apply head_step_g rfl
          focus
            intro w0' hC
            have hC' := Lib.hid hC
            obtain ⟨⟨r1, f1, i1, b1', l1⟩, ⟨r2, f2, i2, b2', l2⟩, m12, m21⟩ := St.facts2 (hC.pick [0, 3] (by decide) rfl)
            clear hC
            go_simp
            have hC := hC'.out
            (first
               | with_reducible rfl
               | (skip
                  (first
                     | (go_at_call 18; refine (ghSum_any _ _ _ (by rw [strOf_size]; exact hsa) (by rw [strOf_size]; exact hsb) _).mono ?_)
                     | (go_at_call 17; refine (awake08_any _).mono ?_))
                  rintro e w' ⟨rfl, hw⟩
                  exact ⟨rfl, St.call (by assumption) hw⟩)))
     try simp only [Act.put, List.setIfInBounds_toArray, List.set])
    (first
       | (apply head_skip rfl)
       | (apply head_step_g rfl
          focus
            intro w0' hC
            have hC' := Lib.hid hC
            obtain ⟨⟨r1, f1, i1, b1', l1⟩, ⟨r2, f2, i2, b2', l2⟩, m12, m21⟩ := St.facts2 (hC.pick [0, 3] (by decide) rfl)
            clear hC
            go_simp
            have hC := hC'.out
            (first
               | with_reducible rfl
               | (skip
                  (first
                     | (go_at_call 18; refine (ghSum_any _ _ _ (by rw [strOf_size]; exact hsa) (by rw [strOf_size]; exact hsb) _).mono ?_)
                     | (go_at_call 17; refine (awake08_any _).mono ?_))
                  rintro e w' ⟨rfl, hw⟩
                  exact ⟨rfl, St.call (by assumption) hw⟩)))
     try simp only [Act.put, List.setIfInBounds_toArray, List.set])
    (first
       | (apply head_skip rfl)
       | (apply head_step_g rfl
          focus
            intro w0' hC
            have hC' := Lib.hid hC
            obtain ⟨⟨r1, f1, i1, b1', l1⟩, ⟨r2, f2, i2, b2', l2⟩, m12, m21⟩ := St.facts2 (hC.pick [0, 3] (by decide) rfl)
            clear hC
            go_simp
            have hC := hC'.out
            (first
               | with_reducible rfl
               | (skip
                  (first
                     | (go_at_call 18; refine (ghSum_any _ _ _ (by rw [strOf_size]; exact hsa) (by rw [strOf_size]; exact hsb) _).mono ?_)
                     | (go_at_call 17; refine (awake08_any _).mono ?_))
                  rintro e w' ⟨rfl, hw⟩
                  exact ⟨rfl, St.call (by assumption) hw⟩)))
     try simp only [Act.put, List.setIfInBounds_toArray, List.set])
    (first
       | (apply head_skip rfl)
       | (apply head_step_g rfl
          focus
            intro w0' hC
            have hC' := Lib.hid hC
            obtain ⟨⟨r1, f1, i1, b1', l1⟩, ⟨r2, f2, i2, b2', l2⟩, m12, m21⟩ := St.facts2 (hC.pick [0, 3] (by decide) rfl)
            clear hC
            go_simp
            have hC := hC'.out
            (first
               | with_reducible rfl
               | (skip
                  (first
                     | (go_at_call 18; refine (ghSum_any _ _ _ (by rw [strOf_size]; exact hsa) (by rw [strOf_size]; exact hsb) _).mono ?_)
                     | (go_at_call 17; refine (awake08_any _).mono ?_))
                  rintro e w' ⟨rfl, hw⟩
                  exact ⟨rfl, St.call (by assumption) hw⟩)))
     try simp only [Act.put, List.setIfInBounds_toArray, List.set])
    refine wpQuiet_nil ?_
    intro w4 hC
    clear HC
    have HC := Lib.hid hC
    have sos := hC.below.os
    obtain ⟨r1, f1, i1, b1', l1⟩ := St.head1 hC
    clear hC
    go_wp2_with fail
    have HC := Lib.hid (HC.out.set_head (blk cp (upd (ofText s) j (ofText s j ^^^ pl (nn 1)))))
    clear r1 f1 i1 b1' l1 sos e1 e1' e2 e3 e5 e6 p1 p2 p3 p4 b0 b1 t3
    have q1 : (a.size : Int) ≤ (cp : Int) := by have := HN.out; omega
    have q2 : (a.size : Int) ≤ (s.size : Int) := by have := HN.out; omega
    have q3 : sOff 0 cp a.size + (s.size - a.size) ≤ cp := sOff_le _ _ _ (by have := HN.out; omega)
    have q4 : a.size ≤ cp := by omega
    have q5 : strOf (s.size - a.size) (fun i => upd (ofText s) j (ofText s j ^^^ pl (nn 1)) (sOff 0 cp a.size + i)) = strOf b.size fun i => upd (ofText s) j (ofText s j ^^^ pl (nn 1)) (a.size + i) := by
      have := strOf_off cp a.size (s.size - a.size) (upd (ofText s) j (ofText s j ^^^ pl (nn 1))) (by have := HN.out; omega)
      rw [Nat.add_sub_cancel_left] at this
      rw [this, show s.size - a.size = b.size by have := HN.out; omega]
    have e1 : same 16 (sumB h (strOf a.size (upd (ofText s) j (ofText s j ^^^ pl (nn 1)))) (strOf b.size fun i => upd (ofText s) j (ofText s j ^^^ pl (nn 1)) (a.size + i))) (sumB h a b) = false := by
      have := HP.out j (ofText s j ^^^ pl (nn 1)) hsa hsb (by have := HN.out; omega) (xor_pl _ _) hh
      rw [← htx.out.1, ← htx.out.2] at this
      exact this
    as_aux_lemma =>
      refine St.region HC.out (by kernel_rfl) (by kernel_rfl) ?_
      (first
         | (apply head_skip rfl)
         | (apply head_step_g rfl
            focus
              intro w0' hC
              (first
                 | exact eql_quiet 23 rfl rfl rfl Try.eqGuardType23 Try.underlying23 (by simp [go_sem]) (by simp [go_sem]) (by with_reducible assumption)
                 | exact neq_quiet 23 rfl rfl rfl Try.eqGuardType23 Try.underlying23 (by simp [go_sem]) (by simp [go_sem]) (by with_reducible assumption)))
         | (apply head_step_g rfl
            focus
              intro w0' hC
              have hC' := Lib.hid hC
              obtain ⟨⟨r1, f1, i1, b1', l1⟩, ⟨r2, f2, i2, b2', l2⟩, ⟨r3, f3, i3, b3', l3⟩, m12, m21, m13, m31, m23, m32⟩ := St.facts3 (hC.pick [0, 1, 2] (by decide) rfl)
              clear hC
              go_simp
              have hC := hC'.out
              (first
                 | with_reducible rfl
                 | (skip
                    (first
                       | (go_at_call 18; refine (ghSum_any _ _ _ (by rw [strOf_size]; exact hsa) (by rw [strOf_size]; exact hsb) _).mono ?_)
                       | (go_at_call 17; refine (awake08_any _).mono ?_))
                    rintro e w' ⟨rfl, hw⟩
                    exact ⟨rfl, St.call (by assumption) hw⟩)))
       try simp only [Act.put, List.setIfInBounds_toArray, List.set])
      (first
         | (apply head_skip rfl)
         | (apply head_step_g rfl
            focus
              intro w0' hC
              (first
                 | exact eql_quiet 23 rfl rfl rfl Try.eqGuardType23 Try.underlying23 (by simp [go_sem]) (by simp [go_sem]) (by with_reducible assumption)
                 | exact neq_quiet 23 rfl rfl rfl Try.eqGuardType23 Try.underlying23 (by simp [go_sem]) (by simp [go_sem]) (by with_reducible assumption)))
         | (apply head_step_g rfl
            focus
              intro w0' hC
              have hC' := Lib.hid hC
              obtain ⟨⟨r1, f1, i1, b1', l1⟩, ⟨r2, f2, i2, b2', l2⟩, ⟨r3, f3, i3, b3', l3⟩, m12, m21, m13, m31, m23, m32⟩ := St.facts3 (hC.pick [0, 1, 2] (by decide) rfl)
              clear hC
              go_simp
              have hC := hC'.out
              (first
                 | with_reducible rfl
                 | (skip
                    (first
                       | (go_at_call 18; refine (ghSum_any _ _ _ (by rw [strOf_size]; exact hsa) (by rw [strOf_size]; exact hsb) _).mono ?_)
                       | (go_at_call 17; refine (awake08_any _).mono ?_))
                    rintro e w' ⟨rfl, hw⟩
                    exact ⟨rfl, St.call (by assumption) hw⟩)))
       try simp only [Act.put, List.setIfInBounds_toArray, List.set])
      (first
         | (apply head_skip rfl)
         | (apply head_step_g rfl
            focus
              intro w0' hC
              (first
                 | exact eql_quiet 23 rfl rfl rfl Try.eqGuardType23 Try.underlying23 (by simp [go_sem]) (by simp [go_sem]) (by with_reducible assumption)
                 | exact neq_quiet 23 rfl rfl rfl Try.eqGuardType23 Try.underlying23 (by simp [go_sem]) (by simp [go_sem]) (by with_reducible assumption)))
         | (apply head_step_g rfl
            focus
              intro w0' hC
              have hC' := Lib.hid hC
              obtain ⟨⟨r1, f1, i1, b1', l1⟩, ⟨r2, f2, i2, b2', l2⟩, ⟨r3, f3, i3, b3', l3⟩, m12, m21, m13, m31, m23, m32⟩ := St.facts3 (hC.pick [0, 1, 2] (by decide) rfl)
              clear hC
              go_simp
              have hC := hC'.out
              (first
                 | with_reducible rfl
                 | (skip
                    (first
                       | (go_at_call 18; refine (ghSum_any _ _ _ (by rw [strOf_size]; exact hsa) (by rw [strOf_size]; exact hsb) _).mono ?_)
                       | (go_at_call 17; refine (awake08_any _).mono ?_))
                    rintro e w' ⟨rfl, hw⟩
                    exact ⟨rfl, St.call (by assumption) hw⟩)))
       try simp only [Act.put, List.setIfInBounds_toArray, List.set])
      (first
         | (apply head_skip rfl)
         | (apply head_step_g rfl
            focus
              intro w0' hC
              (first
                 | exact eql_quiet 23 rfl rfl rfl Try.eqGuardType23 Try.underlying23 (by simp [go_sem]) (by simp [go_sem]) (by with_reducible assumption)
                 | exact neq_quiet 23 rfl rfl rfl Try.eqGuardType23 Try.underlying23 (by simp [go_sem]) (by simp [go_sem]) (by with_reducible assumption)))
         | (apply head_step_g rfl
            focus
              intro w0' hC
              have hC' := Lib.hid hC
              obtain ⟨⟨r1, f1, i1, b1', l1⟩, ⟨r2, f2, i2, b2', l2⟩, ⟨r3, f3, i3, b3', l3⟩, m12, m21, m13, m31, m23, m32⟩ := St.facts3 (hC.pick [0, 1, 2] (by decide) rfl)
              clear hC
              go_simp
              have hC := hC'.out
              (first
                 | with_reducible rfl
                 | (skip
                    (first
                       | (go_at_call 18; refine (ghSum_any _ _ _ (by rw [strOf_size]; exact hsa) (by rw [strOf_size]; exact hsb) _).mono ?_)
                       | (go_at_call 17; refine (awake08_any _).mono ?_))
                    rintro e w' ⟨rfl, hw⟩
                    exact ⟨rfl, St.call (by assumption) hw⟩)))
       try simp only [Act.put, List.setIfInBounds_toArray, List.set])
      (first
         | (apply head_skip rfl)
         | (apply head_step_g rfl
            focus
              intro w0' hC
              (first
                 | exact eql_quiet 23 rfl rfl rfl Try.eqGuardType23 Try.underlying23 (by simp [go_sem]) (by simp [go_sem]) (by with_reducible assumption)
                 | exact neq_quiet 23 rfl rfl rfl Try.eqGuardType23 Try.underlying23 (by simp [go_sem]) (by simp [go_sem]) (by with_reducible assumption)))
         | (apply head_step_g rfl
            focus
              intro w0' hC
              have hC' := Lib.hid hC
              obtain ⟨⟨r1, f1, i1, b1', l1⟩, ⟨r2, f2, i2, b2', l2⟩, ⟨r3, f3, i3, b3', l3⟩, m12, m21, m13, m31, m23, m32⟩ := St.facts3 (hC.pick [0, 1, 2] (by decide) rfl)
              clear hC
              go_simp
              have hC := hC'.out
              (first
                 | with_reducible rfl
                 | (skip
                    (first
                       | (go_at_call 18; refine (ghSum_any _ _ _ (by rw [strOf_size]; exact hsa) (by rw [strOf_size]; exact hsb) _).mono ?_)
                       | (go_at_call 17; refine (awake08_any _).mono ?_))
                    rintro e w' ⟨rfl, hw⟩
                    exact ⟨rfl, St.call (by assumption) hw⟩)))
       try simp only [Act.put, List.setIfInBounds_toArray, List.set])
      (first
         | (apply head_skip rfl)
         | (apply head_step_g rfl
            focus
              intro w0' hC
              (first
                 | exact eql_quiet 23 rfl rfl rfl Try.eqGuardType23 Try.underlying23 (by simp [go_sem]) (by simp [go_sem]) (by with_reducible assumption)
                 | exact neq_quiet 23 rfl rfl rfl Try.eqGuardType23 Try.underlying23 (by simp [go_sem]) (by simp [go_sem]) (by with_reducible assumption)))
         | (apply head_step_g rfl
            focus
              intro w0' hC
              have hC' := Lib.hid hC
              obtain ⟨⟨r1, f1, i1, b1', l1⟩, ⟨r2, f2, i2, b2', l2⟩, ⟨r3, f3, i3, b3', l3⟩, m12, m21, m13, m31, m23, m32⟩ := St.facts3 (hC.pick [0, 1, 2] (by decide) rfl)
              clear hC
              go_simp
              have hC := hC'.out
              (first
                 | with_reducible rfl
                 | (skip
                    (first
                       | (go_at_call 18; refine (ghSum_any _ _ _ (by rw [strOf_size]; exact hsa) (by rw [strOf_size]; exact hsb) _).mono ?_)
                       | (go_at_call 17; refine (awake08_any _).mono ?_))
                    rintro e w' ⟨rfl, hw⟩
                    exact ⟨rfl, St.call (by assumption) hw⟩)))
       try simp only [Act.put, List.setIfInBounds_toArray, List.set])
      (first
         | (apply head_skip rfl)
         | (apply head_step_g rfl
            focus
              intro w0' hC
              (first
                 | exact eql_quiet 23 rfl rfl rfl Try.eqGuardType23 Try.underlying23 (by simp [go_sem]) (by simp [go_sem]) (by with_reducible assumption)
                 | exact neq_quiet 23 rfl rfl rfl Try.eqGuardType23 Try.underlying23 (by simp [go_sem]) (by simp [go_sem]) (by with_reducible assumption)))
         | (apply head_step_g rfl
            focus
              intro w0' hC
              have hC' := Lib.hid hC
              obtain ⟨⟨r1, f1, i1, b1', l1⟩, ⟨r2, f2, i2, b2', l2⟩, ⟨r3, f3, i3, b3', l3⟩, m12, m21, m13, m31, m23, m32⟩ := St.facts3 (hC.pick [0, 1, 2] (by decide) rfl)
              clear hC
              go_simp
              have hC := hC'.out
              (first
                 | with_reducible rfl
                 | (skip
                    (first
                       | (go_at_call 18; refine (ghSum_any _ _ _ (by rw [strOf_size]; exact hsa) (by rw [strOf_size]; exact hsb) _).mono ?_)
                       | (go_at_call 17; refine (awake08_any _).mono ?_))
                    rintro e w' ⟨rfl, hw⟩
                    exact ⟨rfl, St.call (by assumption) hw⟩)))
       try simp only [Act.put, List.setIfInBounds_toArray, List.set])
      (first
         | (apply head_skip rfl)
         | (apply head_step_g rfl
            focus
              intro w0' hC
              (first
                 | exact eql_quiet 23 rfl rfl rfl Try.eqGuardType23 Try.underlying23 (by simp [go_sem]) (by simp [go_sem]) (by with_reducible assumption)
                 | exact neq_quiet 23 rfl rfl rfl Try.eqGuardType23 Try.underlying23 (by simp [go_sem]) (by simp [go_sem]) (by with_reducible assumption)))
         | (apply head_step_g rfl
            focus
              intro w0' hC
              have hC' := Lib.hid hC
              obtain ⟨⟨r1, f1, i1, b1', l1⟩, ⟨r2, f2, i2, b2', l2⟩, ⟨r3, f3, i3, b3', l3⟩, m12, m21, m13, m31, m23, m32⟩ := St.facts3 (hC.pick [0, 1, 2] (by decide) rfl)
              clear hC
              go_simp
              have hC := hC'.out
              (first
                 | with_reducible rfl
                 | (skip
                    (first
                       | (go_at_call 18; refine (ghSum_any _ _ _ (by rw [strOf_size]; exact hsa) (by rw [strOf_size]; exact hsb) _).mono ?_)
                       | (go_at_call 17; refine (awake08_any _).mono ?_))
                    rintro e w' ⟨rfl, hw⟩
                    exact ⟨rfl, St.call (by assumption) hw⟩)))
       try simp only [Act.put, List.setIfInBounds_toArray, List.set])
      (first
         | (apply head_skip rfl)
         | (apply head_step_g rfl
            focus
              intro w0' hC
              (first
                 | exact eql_quiet 23 rfl rfl rfl Try.eqGuardType23 Try.underlying23 (by simp [go_sem]) (by simp [go_sem]) (by with_reducible assumption)
                 | exact neq_quiet 23 rfl rfl rfl Try.eqGuardType23 Try.underlying23 (by simp [go_sem]) (by simp [go_sem]) (by with_reducible assumption)))
         | (apply head_step_g rfl
            focus
              intro w0' hC
              have hC' := Lib.hid hC
              obtain ⟨⟨r1, f1, i1, b1', l1⟩, ⟨r2, f2, i2, b2', l2⟩, ⟨r3, f3, i3, b3', l3⟩, m12, m21, m13, m31, m23, m32⟩ := St.facts3 (hC.pick [0, 1, 2] (by decide) rfl)
              clear hC
              go_simp
              have hC := hC'.out
              (first
                 | with_reducible rfl
                 | (skip
                    (first
                       | (go_at_call 18; refine (ghSum_any _ _ _ (by rw [strOf_size]; exact hsa) (by rw [strOf_size]; exact hsb) _).mono ?_)
                       | (go_at_call 17; refine (awake08_any _).mono ?_))
                    rintro e w' ⟨rfl, hw⟩
                    exact ⟨rfl, St.call (by assumption) hw⟩)))
       try simp only [Act.put, List.setIfInBounds_toArray, List.set])
      (first
         | (apply head_skip rfl)
         | (apply head_step_g rfl
            focus
              intro w0' hC
              (first
                 | exact eql_quiet 23 rfl rfl rfl Try.eqGuardType23 Try.underlying23 (by simp [go_sem]) (by simp [go_sem]) (by with_reducible assumption)
                 | exact neq_quiet 23 rfl rfl rfl Try.eqGuardType23 Try.underlying23 (by simp [go_sem]) (by simp [go_sem]) (by with_reducible assumption)))
         | (apply head_step_g rfl
            focus
              intro w0' hC
              have hC' := Lib.hid hC
              obtain ⟨⟨r1, f1, i1, b1', l1⟩, ⟨r2, f2, i2, b2', l2⟩, ⟨r3, f3, i3, b3', l3⟩, m12, m21, m13, m31, m23, m32⟩ := St.facts3 (hC.pick [0, 1, 2] (by decide) rfl)
              clear hC
              go_simp
              have hC := hC'.out
              (first
                 | with_reducible rfl
                 | (skip
                    (first
                       | (go_at_call 18; refine (ghSum_any _ _ _ (by rw [strOf_size]; exact hsa) (by rw [strOf_size]; exact hsb) _).mono ?_)
                       | (go_at_call 17; refine (awake08_any _).mono ?_))
                    rintro e w' ⟨rfl, hw⟩
                    exact ⟨rfl, St.call (by assumption) hw⟩)))
       try simp only [Act.put, List.setIfInBounds_toArray, List.set])
      (first
         | (apply head_skip rfl)
         | (apply head_step_g rfl
            focus
              intro w0' hC
              (first
                 | exact eql_quiet 23 rfl rfl rfl Try.eqGuardType23 Try.underlying23 (by simp [go_sem]) (by simp [go_sem]) (by with_reducible assumption)
                 | exact neq_quiet 23 rfl rfl rfl Try.eqGuardType23 Try.underlying23 (by simp [go_sem]) (by simp [go_sem]) (by with_reducible assumption)))
         | (apply head_step_g rfl
            focus
              intro w0' hC
              have hC' := Lib.hid hC
              obtain ⟨⟨r1, f1, i1, b1', l1⟩, ⟨r2, f2, i2, b2', l2⟩, ⟨r3, f3, i3, b3', l3⟩, m12, m21, m13, m31, m23, m32⟩ := St.facts3 (hC.pick [0, 1, 2] (by decide) rfl)
              clear hC
              go_simp
              have hC := hC'.out
              (first
                 | with_reducible rfl
                 | (skip
                    (first
                       | (go_at_call 18; refine (ghSum_any _ _ _ (by rw [strOf_size]; exact hsa) (by rw [strOf_size]; exact hsb) _).mono ?_)
                       | (go_at_call 17; refine (awake08_any _).mono ?_))
                    rintro e w' ⟨rfl, hw⟩
                    exact ⟨rfl, St.call (by assumption) hw⟩)))
       try simp only [Act.put, List.setIfInBounds_toArray, List.set])
      (first
         | (apply head_skip rfl)
         | (apply head_step_g rfl
            focus
              intro w0' hC
              (first
                 | exact eql_quiet 23 rfl rfl rfl Try.eqGuardType23 Try.underlying23 (by simp [go_sem]) (by simp [go_sem]) (by with_reducible assumption)
                 | exact neq_quiet 23 rfl rfl rfl Try.eqGuardType23 Try.underlying23 (by simp [go_sem]) (by simp [go_sem]) (by with_reducible assumption)))
         | (apply head_step_g rfl
            focus
              intro w0' hC
              have hC' := Lib.hid hC
              obtain ⟨⟨r1, f1, i1, b1', l1⟩, ⟨r2, f2, i2, b2', l2⟩, ⟨r3, f3, i3, b3', l3⟩, m12, m21, m13, m31, m23, m32⟩ := St.facts3 (hC.pick [0, 1, 2] (by decide) rfl)
              clear hC
              go_simp
              have hC := hC'.out
              (first
                 | with_reducible rfl
                 | (skip
                    (first
                       | (go_at_call 18; refine (ghSum_any _ _ _ (by rw [strOf_size]; exact hsa) (by rw [strOf_size]; exact hsb) _).mono ?_)
                       | (go_at_call 17; refine (awake08_any _).mono ?_))
                    rintro e w' ⟨rfl, hw⟩
                    exact ⟨rfl, St.call (by assumption) hw⟩)))
       try simp only [Act.put, List.setIfInBounds_toArray, List.set])
      (first
         | (apply head_skip rfl)
         | (apply head_step_g rfl
            focus
              intro w0' hC
              (first
                 | exact eql_quiet 23 rfl rfl rfl Try.eqGuardType23 Try.underlying23 (by simp [go_sem]) (by simp [go_sem]) (by with_reducible assumption)
                 | exact neq_quiet 23 rfl rfl rfl Try.eqGuardType23 Try.underlying23 (by simp [go_sem]) (by simp [go_sem]) (by with_reducible assumption)))
         | (apply head_step_g rfl
            focus
              intro w0' hC
              have hC' := Lib.hid hC
              obtain ⟨⟨r1, f1, i1, b1', l1⟩, ⟨r2, f2, i2, b2', l2⟩, ⟨r3, f3, i3, b3', l3⟩, m12, m21, m13, m31, m23, m32⟩ := St.facts3 (hC.pick [0, 1, 2] (by decide) rfl)
              clear hC
              go_simp
              have hC := hC'.out
              (first
                 | with_reducible rfl
                 | (skip
                    (first
                       | (go_at_call 18; refine (ghSum_any _ _ _ (by rw [strOf_size]; exact hsa) (by rw [strOf_size]; exact hsb) _).mono ?_)
                       | (go_at_call 17; refine (awake08_any _).mono ?_))
                    rintro e w' ⟨rfl, hw⟩
                    exact ⟨rfl, St.call (by assumption) hw⟩)))
       try simp only [Act.put, List.setIfInBounds_toArray, List.set])
      (first
         | (apply head_skip rfl)
         | (apply head_step_g rfl
            focus
              intro w0' hC
              (first
                 | exact eql_quiet 23 rfl rfl rfl Try.eqGuardType23 Try.underlying23 (by simp [go_sem]) (by simp [go_sem]) (by with_reducible assumption)
                 | exact neq_quiet 23 rfl rfl rfl Try.eqGuardType23 Try.underlying23 (by simp [go_sem]) (by simp [go_sem]) (by with_reducible assumption)))
         | (apply head_step_g rfl
            focus
              intro w0' hC
              have hC' := Lib.hid hC
              obtain ⟨⟨r1, f1, i1, b1', l1⟩, ⟨r2, f2, i2, b2', l2⟩, ⟨r3, f3, i3, b3', l3⟩, m12, m21, m13, m31, m23, m32⟩ := St.facts3 (hC.pick [0, 1, 2] (by decide) rfl)
              clear hC
              go_simp
              have hC := hC'.out
              (first
                 | with_reducible rfl
                 | (skip
                    (first
                       | (go_at_call 18; refine (ghSum_any _ _ _ (by rw [strOf_size]; exact hsa) (by rw [strOf_size]; exact hsb) _).mono ?_)
                       | (go_at_call 17; refine (awake08_any _).mono ?_))
                    rintro e w' ⟨rfl, hw⟩
                    exact ⟨rfl, St.call (by assumption) hw⟩)))
       try simp only [Act.put, List.setIfInBounds_toArray, List.set])
      (first
         | (apply head_skip rfl)
         | (apply head_step_g rfl
            focus
              intro w0' hC
              (first
                 | exact eql_quiet 23 rfl rfl rfl Try.eqGuardType23 Try.underlying23 (by simp [go_sem]) (by simp [go_sem]) (by with_reducible assumption)
                 | exact neq_quiet 23 rfl rfl rfl Try.eqGuardType23 Try.underlying23 (by simp [go_sem]) (by simp [go_sem]) (by with_reducible assumption)))
         | (apply head_step_g rfl
            focus
              intro w0' hC
              have hC' := Lib.hid hC
              obtain ⟨⟨r1, f1, i1, b1', l1⟩, ⟨r2, f2, i2, b2', l2⟩, ⟨r3, f3, i3, b3', l3⟩, m12, m21, m13, m31, m23, m32⟩ := St.facts3 (hC.pick [0, 1, 2] (by decide) rfl)
              clear hC
              go_simp
              have hC := hC'.out
              (first
                 | with_reducible rfl
                 | (skip
                    (first
                       | (go_at_call 18; refine (ghSum_any _ _ _ (by rw [strOf_size]; exact hsa) (by rw [strOf_size]; exact hsb) _).mono ?_)
                       | (go_at_call 17; refine (awake08_any _).mono ?_))
                    rintro e w' ⟨rfl, hw⟩
                    exact ⟨rfl, St.call (by assumption) hw⟩)))
       try simp only [Act.put, List.setIfInBounds_toArray, List.set])
      (first
         | (apply head_skip rfl)
         | (apply head_step_g rfl
            focus
              intro w0' hC
              (first
                 | exact eql_quiet 23 rfl rfl rfl Try.eqGuardType23 Try.underlying23 (by simp [go_sem]) (by simp [go_sem]) (by with_reducible assumption)
                 | exact neq_quiet 23 rfl rfl rfl Try.eqGuardType23 Try.underlying23 (by simp [go_sem]) (by simp [go_sem]) (by with_reducible assumption)))
         | (apply head_step_g rfl
            focus
              intro w0' hC
              have hC' := Lib.hid hC
              obtain ⟨⟨r1, f1, i1, b1', l1⟩, ⟨r2, f2, i2, b2', l2⟩, ⟨r3, f3, i3, b3', l3⟩, m12, m21, m13, m31, m23, m32⟩ := St.facts3 (hC.pick [0, 1, 2] (by decide) rfl)
              clear hC
              go_simp
              have hC := hC'.out
              (first
                 | with_reducible rfl
                 | (skip
                    (first
                       | (go_at_call 18; refine (ghSum_any _ _ _ (by rw [strOf_size]; exact hsa) (by rw [strOf_size]; exact hsb) _).mono ?_)
                       | (go_at_call 17; refine (awake08_any _).mono ?_))
                    rintro e w' ⟨rfl, hw⟩
                    exact ⟨rfl, St.call (by assumption) hw⟩)))
       try simp only [Act.put, List.setIfInBounds_toArray, List.set])
      (first
         | (apply head_skip rfl)
         | (apply head_step_g rfl
            focus
              intro w0' hC
              (first
                 | exact eql_quiet 23 rfl rfl rfl Try.eqGuardType23 Try.underlying23 (by simp [go_sem]) (by simp [go_sem]) (by with_reducible assumption)
                 | exact neq_quiet 23 rfl rfl rfl Try.eqGuardType23 Try.underlying23 (by simp [go_sem]) (by simp [go_sem]) (by with_reducible assumption)))
         | (apply head_step_g rfl
            focus
              intro w0' hC
              have hC' := Lib.hid hC
              obtain ⟨⟨r1, f1, i1, b1', l1⟩, ⟨r2, f2, i2, b2', l2⟩, ⟨r3, f3, i3, b3', l3⟩, m12, m21, m13, m31, m23, m32⟩ := St.facts3 (hC.pick [0, 1, 2] (by decide) rfl)
              clear hC
              go_simp
              have hC := hC'.out
              (first
                 | with_reducible rfl
                 | (skip
                    (first
                       | (go_at_call 18; refine (ghSum_any _ _ _ (by rw [strOf_size]; exact hsa) (by rw [strOf_size]; exact hsb) _).mono ?_)
                       | (go_at_call 17; refine (awake08_any _).mono ?_))
                    rintro e w' ⟨rfl, hw⟩
                    exact ⟨rfl, St.call (by assumption) hw⟩)))
       try simp only [Act.put, List.setIfInBounds_toArray, List.set])
      (first
         | (apply head_skip rfl)
         | (apply head_step_g rfl
            focus
              intro w0' hC
              (first
                 | exact eql_quiet 23 rfl rfl rfl Try.eqGuardType23 Try.underlying23 (by simp [go_sem]) (by simp [go_sem]) (by with_reducible assumption)
                 | exact neq_quiet 23 rfl rfl rfl Try.eqGuardType23 Try.underlying23 (by simp [go_sem]) (by simp [go_sem]) (by with_reducible assumption)))
         | (apply head_step_g rfl
            focus
              intro w0' hC
              have hC' := Lib.hid hC
              obtain ⟨⟨r1, f1, i1, b1', l1⟩, ⟨r2, f2, i2, b2', l2⟩, ⟨r3, f3, i3, b3', l3⟩, m12, m21, m13, m31, m23, m32⟩ := St.facts3 (hC.pick [0, 1, 2] (by decide) rfl)
              clear hC
              go_simp
              have hC := hC'.out
              (first
                 | with_reducible rfl
                 | (skip
                    (first
                       | (go_at_call 18; refine (ghSum_any _ _ _ (by rw [strOf_size]; exact hsa) (by rw [strOf_size]; exact hsb) _).mono ?_)
                       | (go_at_call 17; refine (awake08_any _).mono ?_))
                    rintro e w' ⟨rfl, hw⟩
                    exact ⟨rfl, St.call (by assumption) hw⟩)))
       try simp only [Act.put, List.setIfInBounds_toArray, List.set])
      refine wpQuiet_nil ?_
      intro w6 hC
      clear HC
      go_wp2_with fail
      go_ret
      exact ⟨rfl, hC.below⟩
theorem ghashTells_walk (h : Nat → UInt8) (l : ByteArray × ByteArray) (nn : Nat → UInt8) (w : World) : Calls Try.prog 4 #[.agg (blk 16 h), .agg #[.string l.1, .string l.2], .agg (blk 2 nn)] w fun e w' => e = .returned (.bool true) ∧ Below w.heap.size w w' := by
  by_cases ho : 100 < l.1.size ∨ 100 < l.2.size ∨ same 16 h (fun _ => 0) = true
  · exact tells_out h nn l.1 l.2 ho w
  · exact tells_in h nn l.1 l.2 (by omega) (by omega) (by cases hs : same 16 h (fun _ => 0) with | false => rfl | true => exact (ho (.inr (.inr hs))).elim) w
end Go.Proofs.Ytepooocdpifcfaa
