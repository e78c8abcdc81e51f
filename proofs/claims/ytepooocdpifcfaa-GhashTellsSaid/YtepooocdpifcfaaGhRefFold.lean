/- The reference's texts folded in. No condition but that texts are shorter than 2 to 40. -/
import Derived.Test.YtepooocdpifcfaaGhMuls
import Derived.Test.YtepooocdpifcfaaGhPowers
import Derived.Test.YtepooocdpifcfaaStr
namespace Go.Proofs.Ytepooocdpifcfaa
open Go.RowKit
attribute [local go_sem] B_xor B_or B_and
attribute [local go_sem] blk_set blk_size blk_get blk_getE upd_same oneCells_blk paste_blk cut_blk szOf
attribute [local go_sem high] paste_all cut_head
attribute [local go_sem] rowAt_alloc rowAt_drew rowAt_drewN isRow_alloc isRow_drew isRow_drewN freeRow_alloc freeRow_end freeRow_drew freeRow_drewN
attribute [local go_sem] setRow_alloc setRow_drew setRow_drewN setCell_drewN alloc_drewN rowAt_put isRow_setRow freeRow_put
attribute [local go_sem ↓] loadS_in storeS_in indexS_in copyS_in
attribute [local go_sem] loadS_row loadS_one storeS_row storeS_one indexS_blk copyS_rows run_equalIn_blk same_refl arrayAt_row
attribute [local go_sem] cell_row frozen_row st_setCell st_blk_ne stepAt stepUpon
attribute [local go_sem high] run_eql_blk run_neq_blk
attribute [local go_sem ↓] convBS_in
attribute [local go_sem] convBS_row convBS_nil allBytes_blk bytesOf_blk

theorem indexS_text {P : Program} {w : World} (t : TypeId) (s : ByteArray) (k : Nat) (hu : P.underlying t = some .string) (hk : k < s.size) : (indexS t (.string s) (.int .i64 (k : Int))).run P w = .ok (.int .u8 (B (ofText s k))) w := by
  have h1 : (0 : Int) ≤ (k : Int) ∧ (k : Int) < (s.size : Int) := by omega
  have hd : k < s.data.size := hk
  have hb : B (ofText s k) = ((s[k]'hk).toNat : Int) := by
    unfold B ofText
    rw [Array.getD_eq_getD_getElem?, Array.getElem?_eq_getElem hd]; rfl
  unfold indexS
  rw [run_index_string w t s .i64 (k : Int) hu, hb]
  simp [h1]
attribute [local go_sem] indexS_text
/-- the first j bytes of the text from place p on, put to a block -/
def mixIn (s : Nat → UInt8) (t : ByteArray) (p j : Nat) : Nat → UInt8 := fun i => if i < j then s i ^^^ ofText t (p + i) else s i
theorem mixIn_zero (s : Nat → UInt8) (t : ByteArray) (p : Nat) : blk 16 (mixIn s t p 0) = blk 16 s := blk_congr fun i _ => by simp [mixIn]
theorem mixIn_next (s : Nat → UInt8) (t : ByteArray) (p j : Nat) : blk 16 (upd (mixIn s t p j) j (mixIn s t p j j ^^^ ofText t (p + j))) = blk 16 (mixIn s t p (j + 1)) := blk_congr fun i _ => by
  unfold upd mixIn
  by_cases h : i = j
  · subst h; simp
  · by_cases h2 : i < j
    · have h3 : i < j + 1 := by omega
      simp [h, h2, h3]
    · have h3 : ¬ i < j + 1 := by omega
      simp [h, h2, h3]
theorem ofText_past (t : ByteArray) (i : Nat) (h : t.size ≤ i) : ofText t i = 0 := by
  have : t.data.size ≤ i := h
  simp [ofText, Array.getElem?_eq_none this]
/-- all that there are -/
theorem mixIn_all (s : Nat → UInt8) (t : ByteArray) (p j : Nat) (h : j = 16 ∨ t.size ≤ p + j) : blk 16 (mixIn s t p j) = blk 16 (Ci.xorB s (fun i => ofText t (p + i))) := blk_congr fun i hi => by
  unfold mixIn Ci.xorB
  by_cases h2 : i < j
  · rw [if_pos h2]
  · rw [if_neg h2]
    show s i = s i ^^^ ofText t (p + i)
    rw [ofText_past t (p + i) (by omega)]
    simp
/-- a text from a place on, folded in -/
def foldFrom (h s : Nat → UInt8) (t : ByteArray) (p : Nat) : Nat → UInt8 := unum (Gh.fold (num h) (num s) (nums ((txt t).drop p)))
theorem ofText_drop (t : ByteArray) (p : Nat) : (fun i => ofText t (p + i)) = fun i => ((txt t).drop p).getD i 0 := by
  funext i
  rw [ofText_txt]
  simp [List.getD_eq_getElem?_getD, List.getElem?_drop]
theorem foldFrom_next (h s : Nat → UInt8) (t : ByteArray) (p : Nat) (hp : p < t.size) : foldFrom h (mulB (Ci.xorB s (fun i => ofText t (p + i))) h) t (p + 16) = foldFrom h s t p := by
  unfold foldFrom
  have hne : (txt t).drop p ≠ [] := fun e => by
    have := congrArg List.length e
    rw [List.length_drop, txt_size] at this
    simp at this; omega
  rw [nums_cons _ hne, num_mulB, num_xor, ofText_drop, List.drop_drop]
  rfl
theorem foldFrom_end (h s : Nat → UInt8) (t : ByteArray) (p : Nat) (hp : t.size ≤ p) : blk 16 s = blk 16 (foldFrom h s t p) := by
  unfold foldFrom
  rw [List.drop_of_length_le (by rw [txt_size]; exact hp)]
  show blk 16 s = blk 16 (unum (num s))
  rw [blk_unum]

set_option maxRecDepth 100000 in
set_option maxHeartbeats 2000000 in
theorem refFold_any (h s : Nat → UInt8) (t : ByteArray) (ht : t.size < 2 ^ 40) (w : World) : Calls Try.prog 20 #[.agg (blk 16 h), .agg (blk 16 s), .string t] w fun e w' => e = .returned (.agg (blk 16 (foldB h s t))) ∧ Below w.heap.size w w' := by
  have hz := zero16
  go_enter Try.func20, Try.ntmps20
  go_wp2_with fail
  have HC := Lib.hid ((((St.nil w).pushA (blk 16 h) 22 rfl).pushA (blk 16 s) 22 (g := w.heap.size + 1) (by simp)).pushA (blk 16 fun _ => 0) 22 (g := w.heap.size + 1 + 1) (by simp))
  have HC := Lib.hid ((HC.out.weaken (L' := [(w.heap.size + 1, blk 16 s), (w.heap.size + 1 + 1, blk 16 fun _ => 0), (w.heap.size, blk 16 h)]) (by simp; omega) (by simp)))
  go_loopw [7] (fun v wr => ∃ p : Nat, v = .int .i64 (p : Int) ∧ p ≤ t.size + 15 ∧ ∃ s', Hid (blk 16 (foldFrom h s' t p) = blk 16 (foldB h s t)) ∧ Hid (St w [(w.heap.size + 1, blk 16 s'), (w.heap.size + 1 + 1, blk 16 fun _ => 0), (w.heap.size, blk 16 h)] wr)) (fun v _ => t.size + 15 - (intOf v).toNat)
  case atStart => exact ⟨0, rfl, by omega, s, Lib.hid rfl, HC⟩
  case round =>
    clear HC
    obtain ⟨p, rfl, hp, s', HF, HR⟩ := hrel
    have hC := HR.out
    by_cases hlt : p < t.size
    · have a1 : decide ((p : Int) < (t.size : Int)) = true := decide_eq_true (by omega)
      have a2 : p < t.size := hlt
      go_wp2_with fail
      go_loopw [8] (fun v wr => ∃ j : Nat, v = .int .i64 (j : Int) ∧ j ≤ 16 ∧ Hid (St w [(w.heap.size + 1, blk 16 (mixIn s' t p j)), (w.heap.size + 1 + 1, blk 16 fun _ => 0), (w.heap.size, blk 16 h)] wr)) (fun v _ => 16 - (intOf v).toNat)
      case atStart => exact ⟨0, rfl, by omega, by rw [mixIn_zero]; exact HR⟩
      case round =>
        clear HR
        obtain ⟨j, rfl, hj, HJ⟩ := hrel
        have v1 : IntKind.i64.wrap ((p : Int) + (j : Int)) = ((p + j : Nat) : Int) := by rw [IntWalk.i64_in _ (by omega)]; omega
        by_cases hin : j < 16 ∧ p + j < t.size
        · obtain ⟨h16, hpt⟩ := hin
          have c1 : decide ((j : Int) < 16) = true := decide_eq_true (by omega)
          have c2 : decide (((p + j : Nat) : Int) < (t.size : Int)) = true := decide_eq_true (by omega)
          have hn := mixIn_next s' t p j
          generalize p + j = q at v1 c2 hn hpt
          have c3 : (j : Int) < 16 := by omega
          have c4 : (q : Int) < (t.size : Int) := by omega
          go_wp2_with fail
          refine St.region_tail 11 HJ.out (by kernel_rfl) (by decide +kernel) ?_
          (simp only [List.take, List.drop])
          (first
             | (apply head_skip rfl)
             | (apply head_step_g rfl
                focus
                  intro w0 hC
                  (fail))
             | (apply head_step_g rfl
                focus
                  intro w0 hC
                  have hC' := Lib.hid hC
                  obtain ⟨⟨r1, f1, i1, b1, l1⟩, ⟨r2, f2, i2, b2, l2⟩, ⟨r3, f3, i3, b3, l3⟩, m12, m21, m13, m31, m23, m32⟩ := St.facts3 hC
                  clear hC
                  go_simp
                  have hC := hC'.out
                  (first
                     | with_reducible rfl
                     | (skip
                        (fail)
                        rintro e w' ⟨rfl, hw⟩
                        exact ⟨rfl, St.call (by assumption) hw⟩)))
           try simp only [Act.put, List.setIfInBounds_toArray, List.set])
          (first
             | (apply head_skip rfl)
             | (apply head_step_g rfl
                focus
                  intro w0 hC
                  (fail))
             | (apply head_step_g rfl
                focus
                  intro w0 hC
                  have hC' := Lib.hid hC
                  obtain ⟨⟨r1, f1, i1, b1, l1⟩, ⟨r2, f2, i2, b2, l2⟩, ⟨r3, f3, i3, b3, l3⟩, m12, m21, m13, m31, m23, m32⟩ := St.facts3 hC
                  clear hC
                  go_simp
                  have hC := hC'.out
                  (first
                     | with_reducible rfl
                     | (skip
                        (fail)
                        rintro e w' ⟨rfl, hw⟩
                        exact ⟨rfl, St.call (by assumption) hw⟩)))
           try simp only [Act.put, List.setIfInBounds_toArray, List.set])
          (first
             | (apply head_skip rfl)
             | (apply head_step_g rfl
                focus
                  intro w0 hC
                  (fail))
             | (apply head_step_g rfl
                focus
                  intro w0 hC
                  have hC' := Lib.hid hC
                  obtain ⟨⟨r1, f1, i1, b1, l1⟩, ⟨r2, f2, i2, b2, l2⟩, ⟨r3, f3, i3, b3, l3⟩, m12, m21, m13, m31, m23, m32⟩ := St.facts3 hC
                  clear hC
                  go_simp
                  have hC := hC'.out
                  (first
                     | with_reducible rfl
                     | (skip
                        (fail)
                        rintro e w' ⟨rfl, hw⟩
                        exact ⟨rfl, St.call (by assumption) hw⟩)))
           try simp only [Act.put, List.setIfInBounds_toArray, List.set])
          (first
             | (apply head_skip rfl)
             | (apply head_step_g rfl
                focus
                  intro w0 hC
                  (fail))
             | (apply head_step_g rfl
                focus
                  intro w0 hC
                  have hC' := Lib.hid hC
                  obtain ⟨⟨r1, f1, i1, b1, l1⟩, ⟨r2, f2, i2, b2, l2⟩, ⟨r3, f3, i3, b3, l3⟩, m12, m21, m13, m31, m23, m32⟩ := St.facts3 hC
                  clear hC
                  go_simp
                  have hC := hC'.out
                  (first
                     | with_reducible rfl
                     | (skip
                        (fail)
                        rintro e w' ⟨rfl, hw⟩
                        exact ⟨rfl, St.call (by assumption) hw⟩)))
           try simp only [Act.put, List.setIfInBounds_toArray, List.set])
          (first
             | (apply head_skip rfl)
             | (apply head_step_g rfl
                focus
                  intro w0 hC
                  (fail))
             | (apply head_step_g rfl
                focus
                  intro w0 hC
                  have hC' := Lib.hid hC
                  obtain ⟨⟨r1, f1, i1, b1, l1⟩, ⟨r2, f2, i2, b2, l2⟩, ⟨r3, f3, i3, b3, l3⟩, m12, m21, m13, m31, m23, m32⟩ := St.facts3 hC
                  clear hC
                  go_simp
                  have hC := hC'.out
                  (first
                     | with_reducible rfl
                     | (skip
                        (fail)
                        rintro e w' ⟨rfl, hw⟩
                        exact ⟨rfl, St.call (by assumption) hw⟩)))
           try simp only [Act.put, List.setIfInBounds_toArray, List.set])
          (first
             | (apply head_skip rfl)
             | (apply head_step_g rfl
                focus
                  intro w0 hC
                  (fail))
             | (apply head_step_g rfl
                focus
                  intro w0 hC
                  have hC' := Lib.hid hC
                  obtain ⟨⟨r1, f1, i1, b1, l1⟩, ⟨r2, f2, i2, b2, l2⟩, ⟨r3, f3, i3, b3, l3⟩, m12, m21, m13, m31, m23, m32⟩ := St.facts3 hC
                  clear hC
                  go_simp
                  have hC := hC'.out
                  (first
                     | with_reducible rfl
                     | (skip
                        (fail)
                        rintro e w' ⟨rfl, hw⟩
                        exact ⟨rfl, St.call (by assumption) hw⟩)))
           try simp only [Act.put, List.setIfInBounds_toArray, List.set])
          (first
             | (apply head_skip rfl)
             | (apply head_step_g rfl
                focus
                  intro w0 hC
                  (fail))
             | (apply head_step_g rfl
                focus
                  intro w0 hC
                  have hC' := Lib.hid hC
                  obtain ⟨⟨r1, f1, i1, b1, l1⟩, ⟨r2, f2, i2, b2, l2⟩, ⟨r3, f3, i3, b3, l3⟩, m12, m21, m13, m31, m23, m32⟩ := St.facts3 hC
                  clear hC
                  go_simp
                  have hC := hC'.out
                  (first
                     | with_reducible rfl
                     | (skip
                        (fail)
                        rintro e w' ⟨rfl, hw⟩
                        exact ⟨rfl, St.call (by assumption) hw⟩)))
           try simp only [Act.put, List.setIfInBounds_toArray, List.set])
          (first
             | (apply head_skip rfl)
             | (apply head_step_g rfl
                focus
                  intro w0 hC
                  (fail))
             | (apply head_step_g rfl
                focus
                  intro w0 hC
                  have hC' := Lib.hid hC
                  obtain ⟨⟨r1, f1, i1, b1, l1⟩, ⟨r2, f2, i2, b2, l2⟩, ⟨r3, f3, i3, b3, l3⟩, m12, m21, m13, m31, m23, m32⟩ := St.facts3 hC
                  clear hC
                  go_simp
                  have hC := hC'.out
                  (first
                     | with_reducible rfl
                     | (skip
                        (fail)
                        rintro e w' ⟨rfl, hw⟩
                        exact ⟨rfl, St.call (by assumption) hw⟩)))
           try simp only [Act.put, List.setIfInBounds_toArray, List.set])
          (first
             | (apply head_skip rfl)
             | (apply head_step_g rfl
                focus
                  intro w0 hC
                  (fail))
             | (apply head_step_g rfl
                focus
                  intro w0 hC
                  have hC' := Lib.hid hC
                  obtain ⟨⟨r1, f1, i1, b1, l1⟩, ⟨r2, f2, i2, b2, l2⟩, ⟨r3, f3, i3, b3, l3⟩, m12, m21, m13, m31, m23, m32⟩ := St.facts3 hC
                  clear hC
                  go_simp
                  have hC := hC'.out
                  (first
                     | with_reducible rfl
                     | (skip
                        (fail)
                        rintro e w' ⟨rfl, hw⟩
                        exact ⟨rfl, St.call (by assumption) hw⟩)))
           try simp only [Act.put, List.setIfInBounds_toArray, List.set])
          (first
             | (apply head_skip rfl)
             | (apply head_step_g rfl
                focus
                  intro w0 hC
                  (fail))
             | (apply head_step_g rfl
                focus
                  intro w0 hC
                  have hC' := Lib.hid hC
                  obtain ⟨⟨r1, f1, i1, b1, l1⟩, ⟨r2, f2, i2, b2, l2⟩, ⟨r3, f3, i3, b3, l3⟩, m12, m21, m13, m31, m23, m32⟩ := St.facts3 hC
                  clear hC
                  go_simp
                  have hC := hC'.out
                  (first
                     | with_reducible rfl
                     | (skip
                        (fail)
                        rintro e w' ⟨rfl, hw⟩
                        exact ⟨rfl, St.call (by assumption) hw⟩)))
           try simp only [Act.put, List.setIfInBounds_toArray, List.set])
          (first
             | (apply head_skip rfl)
             | (apply head_step_g rfl
                focus
                  intro w0 hC
                  (fail))
             | (apply head_step_g rfl
                focus
                  intro w0 hC
                  have hC' := Lib.hid hC
                  obtain ⟨⟨r1, f1, i1, b1, l1⟩, ⟨r2, f2, i2, b2, l2⟩, ⟨r3, f3, i3, b3, l3⟩, m12, m21, m13, m31, m23, m32⟩ := St.facts3 hC
                  clear hC
                  go_simp
                  have hC := hC'.out
                  (first
                     | with_reducible rfl
                     | (skip
                        (fail)
                        rintro e w' ⟨rfl, hw⟩
                        exact ⟨rfl, St.call (by assumption) hw⟩)))
           try simp only [Act.put, List.setIfInBounds_toArray, List.set])
          refine wpQuiet_nil ?_
          intro w2 hC
          (have HC := Lib.hid hC
           have sos := hC.below.os
           obtain ⟨⟨r1, f1, i1, b1, l1⟩, ⟨r2, f2, i2, b2, l2⟩, ⟨r3, f3, i3, b3, l3⟩, m12, m21, m13, m31, m23, m32⟩ := St.facts3 hC
           clear hC)
          go_wp2_with fail
          have HC := Lib.hid (HC.out.set_head (blk 16 (mixIn s' t p (j + 1))))
          exact ⟨⟨j + 1, by go_num, by omega, HC⟩, by simp [intOf]; omega⟩
        · have hj2 : j = 16 ∨ t.size ≤ p + j := by omega
          have hall := mixIn_all s' t p j hj2
          have hJ := HJ.out
          rw [hall] at hJ
          have HK := Lib.hid hJ
          clear hJ hall HJ
          have hnx := foldFrom_next h s' t p hlt
          have v2 : IntKind.i64.wrap ((p : Int) + 16) = ((p + 16 : Nat) : Int) := by rw [IntWalk.i64_in _ (by omega)]; omega
          generalize Ci.xorB s' (fun i => ofText t (p + i)) = z at HK hnx
          by_cases h16 : j < 16
          all_goals
            first
              | (have c1 : decide ((j : Int) < 16) = true := decide_eq_true (by omega)
                 have c2 : decide (((p + j : Nat) : Int) < (t.size : Int)) = false := decide_eq_false (by omega)
                 skip)
              | have c1 : decide ((j : Int) < 16) = false := decide_eq_false (by omega)
            have hC := HK.out
            (have HC := Lib.hid hC
             have sos := hC.below.os
             obtain ⟨⟨r1, f1, i1, b1, l1⟩, ⟨r2, f2, i2, b2, l2⟩, ⟨r3, f3, i3, b3, l3⟩, m12, m21, m13, m31, m23, m32⟩ := St.facts3 hC
             clear hC)
            go_wp2_with fail
            refine (refMul08_any z h _).mono ?_; rintro e w3 ⟨rfl, hw⟩
            have HC := Lib.hid (HC.out.call hw)
            clear hw
            (clear r1 f1 i1 b1 l1 r2 f2 i2 b2 l2 r3 f3 i3 b3 l3 m12 m21 m13 m31 m23 m32 sos)
            have hC := HC.out
            (have HC := Lib.hid hC
             have sos := hC.below.os
             obtain ⟨⟨r1, f1, i1, b1, l1⟩, ⟨r2, f2, i2, b2, l2⟩, ⟨r3, f3, i3, b3, l3⟩, m12, m21, m13, m31, m23, m32⟩ := St.facts3 hC
             clear hC)
            go_wp2_with fail
            have HC := Lib.hid (HC.out.set_head (blk 16 (mulB z h)))
            exact ⟨⟨p + 16, by go_num, by omega, mulB z h, Lib.hid (by rw [hnx]; exact HF.out), HC⟩, by simp [intOf]; omega⟩
    · have a1 : decide ((p : Int) < (t.size : Int)) = false := decide_eq_false (by omega)
      have he := foldFrom_end h s' t p (by omega)
      rw [he, HF.out] at hC
      (have HC := Lib.hid hC
       have sos := hC.below.os
       obtain ⟨⟨r1, f1, i1, b1, l1⟩, ⟨r2, f2, i2, b2, l2⟩, ⟨r3, f3, i3, b3, l3⟩, m12, m21, m13, m31, m23, m32⟩ := St.facts3 hC
       clear hC)
      go_wp2_with fail
      refine bodyPost_ret (results_row rfl _ (w.heap.size + 1 + 1) rfl (blk 16 (foldB h s t)) ?_ ?_ ?_ ?_) rfl ⟨rfl, ?_⟩
      · simp [go_sem, *]
      · simp [go_sem]
      · simp [go_sem]
      · simp [go_sem, *]
      · exact below_setRow' HC.out.below (by omega) _
end Go.Proofs.Ytepooocdpifcfaa
