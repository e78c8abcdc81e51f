/- The reference's sum of two texts; GhashSums returns true. Texts shorter than 2 to 40 in the reference's contract; no condition on the statement. -/
import Derived.Test.YtepooocdpifcfaaGhEight
namespace Go.Proofs.Ytepooocdpifcfaa
open Go.RowKit
attribute [local go_sem] B_xor B_or B_and
attribute [local go_sem] blk_set blk_size blk_get blk_getE upd_same oneCells_blk paste_blk cut_blk szOf
attribute [local go_sem high] paste_all cut_head
attribute [local go_sem] rowAt_alloc rowAt_drew rowAt_drewN isRow_alloc isRow_drew isRow_drewN freeRow_alloc freeRow_end freeRow_drew freeRow_drewN
attribute [local go_sem] setRow_alloc setRow_drew setRow_drewN setCell_drewN alloc_drewN rowAt_put isRow_setRow freeRow_put
attribute [local go_sem ↓] loadS_in storeS_in indexS_in copyS_in
attribute [local go_sem] loadS_row loadS_one storeS_row storeS_one indexS_blk copyS_rows run_equalIn_blk same_refl arrayAt_row
attribute [local go_sem] cell_row frozen_row st_setCell st_blk_ne stepAt stepUpon
attribute [local go_sem high] run_eql_blk run_neq_blk
attribute [local go_sem] strOf_size

theorem txt_append (a b : ByteArray) : txt (a ++ b) = txt a ++ txt b := by
  unfold txt
  rw [ByteArray.data_append]; simp
theorem txt_strOf (n : Nat) (f : Nat → UInt8) : txt (strOf n f) = (List.range n).map f := by simp [txt, strOf]
theorem eight_nums (m n : Nat) (hm : m < 2 ^ 64) (hn : n < 2 ^ 64) : nums (txt (strOf 8 (byteN m 8) ++ strOf 8 (byteN n 8))) = [m * 2 ^ 64 + n] := by
  rw [txt_append, txt_strOf, txt_strOf]
  have hl : ((List.range 8).map (byteN m 8) ++ (List.range 8).map (byteN n 8)).length = 16 := by simp
  rw [nums_cons _ (fun e => by rw [e] at hl; cases hl), List.drop_of_length_le (by omega), nums_nil]
  refine congrArg (fun x => [x]) ?_
  have h1 := numTo_add (fun i => ((List.range 8).map (byteN m 8) ++ (List.range 8).map (byteN n 8)).getD i 0) 8 8
  have h2 : numTo (fun i => ((List.range 8).map (byteN m 8) ++ (List.range 8).map (byteN n 8)).getD i 0) 8 = m := by
    rw [numTo_congr (c := byteN m 8) (fun i hi => by rw [List.getD_eq_getElem?_getD, List.getElem?_append_left (by simp; omega)]; simp [hi]), numTo_byteN m 8 8 (Nat.le_refl _), Nat.sub_self, Nat.pow_zero, Nat.div_one]
    exact Nat.mod_eq_of_lt hm
  have h3 : numTo (fun j => ((List.range 8).map (byteN m 8) ++ (List.range 8).map (byteN n 8)).getD (8 + j) 0) 8 = n := by
    rw [numTo_congr (c := byteN n 8) (fun i hi => by rw [List.getD_eq_getElem?_getD, List.getElem?_append_right (by simp)]; simp [hi]), numTo_byteN n 8 8 (Nat.le_refl _), Nat.sub_self, Nat.pow_zero, Nat.div_one]
    exact Nat.mod_eq_of_lt hn
  rw [h2, h3] at h1
  exact h1
def len8 (a : ByteArray) : Nat := 8 * a.size
theorem sum_fin (h : Nat → UInt8) (a b : ByteArray) (ha : a.size < 2 ^ 40) (hb : b.size < 2 ^ 40) :
    blk 16 (foldB h (foldB h (foldB h (fun _ => 0) a) b) (strOf 8 (byteN (len8 a) 8) ++ strOf 8 (byteN (len8 b) 8))) = blk 16 (sumB h a b) := by
  have e : foldB h (foldB h (foldB h (fun _ => 0) a) b) (strOf 8 (byteN (len8 a) 8) ++ strOf 8 (byteN (len8 b) 8)) = sumB h a b := by
    unfold sumB
    rw [← sumN_eq]
    show unum (Gh.fold (num h) (num (foldB h (foldB h (fun _ => 0) a) b)) _) = _
    rw [num_foldB, num_foldB, num_zero, eight_nums _ _ (by unfold len8; omega) (by unfold len8; omega)]
    rfl
  rw [e]
theorem eight_at (n : Nat) (hn : n < 2 ^ 62) (m : Int) (hm : m = (n : Int)) (w : World) : Calls Try.prog 43 #[.int .i64 m] w fun e w' => e = .returned (.string (strOf 8 (byteN n 8))) ∧ Below w.heap.size w w' := by
  subst hm; exact eight_any n hn w
set_option maxRecDepth 100000 in
set_option maxHeartbeats 2000000 in
theorem refSum_any (h : Nat → UInt8) (a b : ByteArray) (ha : a.size < 2 ^ 40) (hb : b.size < 2 ^ 40) (w : World) : Calls Try.prog 21 #[.agg (blk 16 h), .string a, .string b] w fun e w' => e = .returned (.agg (blk 16 (sumB h a b))) ∧ Below w.heap.size w w' := by
  have hz := zero16
  have v1 : IntKind.i64.wrap ((8 : Int) * (a.size : Int)) = (len8 a : Int) := by unfold len8; rw [IntWalk.i64_in _ (by omega)]; omega
  have v2 : IntKind.i64.wrap ((8 : Int) * (b.size : Int)) = (len8 b : Int) := by unfold len8; rw [IntWalk.i64_in _ (by omega)]; omega
  have x1 := fun w => eight_any (len8 a) (by unfold len8; omega) w
  have x2 := fun w => eight_any (len8 b) (by unfold len8; omega) w
  have hfin := sum_fin h a b ha hb
  have hsz : (strOf 8 (byteN (len8 a) 8) ++ strOf 8 (byteN (len8 b) 8)).size < 2 ^ 40 := by rw [ByteArray.size_append, strOf_size, strOf_size]; decide
  go_enter Try.func21, Try.ntmps21
  go_wp2_with fail
  have HC := Lib.hid ((((St.nil w).pushA (blk 16 h) 22 rfl).pushA (blk 16 fun _ => 0) 22 (g := w.heap.size + 1) (by simp)).pushA (blk 16 fun _ => 0) 22 (g := w.heap.size + 1 + 1) (by simp))
  refine (refFold_any h (fun _ => 0) a ha _).mono ?_; rintro e w1 ⟨rfl, hw⟩
  have HC := Lib.hid (HC.out.call hw)
  clear hw
  have hC := HC.out
  (have HC := Lib.hid hC
   have sos := hC.below.os
   obtain ⟨⟨r1, f1, i1, b1, l1⟩, ⟨r2, f2, i2, b2, l2⟩, ⟨r3, f3, i3, b3, l3⟩, m12, m21, m13, m31, m23, m32⟩ := St.facts3 hC
   clear hC)
  go_wp2_with fail
  have HC := Lib.hid (HC.out.push (blk 16 (foldB h (fun _ => 0) a)) 22)
  (clear r1 f1 i1 b1 l1 r2 f2 i2 b2 l2 r3 f3 i3 b3 l3 m12 m21 m13 m31 m23 m32 sos)
  generalize w1.heap.size = g at HC ⊢
  refine (refFold_any h _ b hb _).mono ?_; rintro e w2 ⟨rfl, hw⟩
  have HC := Lib.hid (HC.out.call hw)
  clear hw
  have hC := HC.out
  (have HC := Lib.hid hC
   have sos := hC.below.os
   obtain ⟨⟨r1, f1, i1, b1, l1⟩, ⟨r2, f2, i2, b2, l2⟩, ⟨r3, f3, i3, b3, l3⟩, ⟨r4, f4, i4, b4, l4⟩, m12, m21, m13, m31, m14, m41, m23, m32, m24, m42, m34, m43⟩ := St.facts4 hC
   clear hC)
  go_wp2_with fail
  have HC := Lib.hid (HC.out.set_head (blk 16 (foldB h (foldB h (fun _ => 0) a) b)))
  (clear r1 f1 i1 b1 l1 r2 f2 i2 b2 l2 r3 f3 i3 b3 l3 r4 f4 i4 b4 l4 m12 m21 m13 m31 m14 m41 m23 m32 m24 m42 m34 m43 sos)
  refine St.region_tail 12 HC.out (by kernel_rfl) (by decide +kernel) ?_
  (simp only [List.take, List.drop])
  (first
     | (apply head_skip rfl)
     | (apply head_step_g rfl
        focus
          intro w0 hC
          (fail))
     | (apply head_step_g rfl
        focus
          intro w0 hC
          have hC' := Lib.hid hC
          obtain ⟨⟨r1, f1, i1, b1, l1⟩, ⟨r2, f2, i2, b2, l2⟩, ⟨r3, f3, i3, b3, l3⟩, ⟨r4, f4, i4, b4, l4⟩, m12, m21, m13, m31, m14, m41, m23, m32, m24, m42, m34, m43⟩ := St.facts4 hC
          clear hC
          go_simp
          have hC := hC'.out
          (first
             | with_reducible rfl
             | (skip
                (first
                   | (go_at_call 43; (first | (with_reducible refine (x1 _).mono ?_) | (with_reducible refine (x2 _).mono ?_)))
                   | (go_at_call 20; refine (refFold_any _ _ _ hsz _).mono ?_))
                rintro e w' ⟨rfl, hw⟩
                exact ⟨rfl, St.call (by assumption) hw⟩)))
   try simp only [Act.put, List.setIfInBounds_toArray, List.set])
  (first
     | (apply head_skip rfl)
     | (apply head_step_g rfl
        focus
          intro w0 hC
          (fail))
     | (apply head_step_g rfl
        focus
          intro w0 hC
          have hC' := Lib.hid hC
          obtain ⟨⟨r1, f1, i1, b1, l1⟩, ⟨r2, f2, i2, b2, l2⟩, ⟨r3, f3, i3, b3, l3⟩, ⟨r4, f4, i4, b4, l4⟩, m12, m21, m13, m31, m14, m41, m23, m32, m24, m42, m34, m43⟩ := St.facts4 hC
          clear hC
          go_simp
          have hC := hC'.out
          (first
             | with_reducible rfl
             | (skip
                (first
                   | (go_at_call 43; (first | (with_reducible refine (x1 _).mono ?_) | (with_reducible refine (x2 _).mono ?_)))
                   | (go_at_call 20; refine (refFold_any _ _ _ hsz _).mono ?_))
                rintro e w' ⟨rfl, hw⟩
                exact ⟨rfl, St.call (by assumption) hw⟩)))
   try simp only [Act.put, List.setIfInBounds_toArray, List.set])
  (first
     | (apply head_skip rfl)
     | (apply head_step_g rfl
        focus
          intro w0 hC
          (fail))
     | (apply head_step_g rfl
        focus
          intro w0 hC
          have hC' := Lib.hid hC
          obtain ⟨⟨r1, f1, i1, b1, l1⟩, ⟨r2, f2, i2, b2, l2⟩, ⟨r3, f3, i3, b3, l3⟩, ⟨r4, f4, i4, b4, l4⟩, m12, m21, m13, m31, m14, m41, m23, m32, m24, m42, m34, m43⟩ := St.facts4 hC
          clear hC
          go_simp
          have hC := hC'.out
          (first
             | with_reducible rfl
             | (skip
                (first
                   | (go_at_call 43; (first | (with_reducible refine (x1 _).mono ?_) | (with_reducible refine (x2 _).mono ?_)))
                   | (go_at_call 20; refine (refFold_any _ _ _ hsz _).mono ?_))
                rintro e w' ⟨rfl, hw⟩
                exact ⟨rfl, St.call (by assumption) hw⟩)))
   try simp only [Act.put, List.setIfInBounds_toArray, List.set])
  (first
     | (apply head_skip rfl)
     | (apply head_step_g rfl
        focus
          intro w0 hC
          (fail))
     | (apply head_step_g rfl
        focus
          intro w0 hC
          have hC' := Lib.hid hC
          obtain ⟨⟨r1, f1, i1, b1, l1⟩, ⟨r2, f2, i2, b2, l2⟩, ⟨r3, f3, i3, b3, l3⟩, ⟨r4, f4, i4, b4, l4⟩, m12, m21, m13, m31, m14, m41, m23, m32, m24, m42, m34, m43⟩ := St.facts4 hC
          clear hC
          go_simp
          have hC := hC'.out
          (first
             | with_reducible rfl
             | (skip
                (first
                   | (go_at_call 43; (first | (with_reducible refine (x1 _).mono ?_) | (with_reducible refine (x2 _).mono ?_)))
                   | (go_at_call 20; refine (refFold_any _ _ _ hsz _).mono ?_))
                rintro e w' ⟨rfl, hw⟩
                exact ⟨rfl, St.call (by assumption) hw⟩)))
   try simp only [Act.put, List.setIfInBounds_toArray, List.set])
  (first
     | (apply head_skip rfl)
     | (apply head_step_g rfl
        focus
          intro w0 hC
          (fail))
     | (apply head_step_g rfl
        focus
          intro w0 hC
          have hC' := Lib.hid hC
          obtain ⟨⟨r1, f1, i1, b1, l1⟩, ⟨r2, f2, i2, b2, l2⟩, ⟨r3, f3, i3, b3, l3⟩, ⟨r4, f4, i4, b4, l4⟩, m12, m21, m13, m31, m14, m41, m23, m32, m24, m42, m34, m43⟩ := St.facts4 hC
          clear hC
          go_simp
          have hC := hC'.out
          (first
             | with_reducible rfl
             | (skip
                (first
                   | (go_at_call 43; (first | (with_reducible refine (x1 _).mono ?_) | (with_reducible refine (x2 _).mono ?_)))
                   | (go_at_call 20; refine (refFold_any _ _ _ hsz _).mono ?_))
                rintro e w' ⟨rfl, hw⟩
                exact ⟨rfl, St.call (by assumption) hw⟩)))
   try simp only [Act.put, List.setIfInBounds_toArray, List.set])
  (first
     | (apply head_skip rfl)
     | (apply head_step_g rfl
        focus
          intro w0 hC
          (fail))
     | (apply head_step_g rfl
        focus
          intro w0 hC
          have hC' := Lib.hid hC
          obtain ⟨⟨r1, f1, i1, b1, l1⟩, ⟨r2, f2, i2, b2, l2⟩, ⟨r3, f3, i3, b3, l3⟩, ⟨r4, f4, i4, b4, l4⟩, m12, m21, m13, m31, m14, m41, m23, m32, m24, m42, m34, m43⟩ := St.facts4 hC
          clear hC
          go_simp
          have hC := hC'.out
          (first
             | with_reducible rfl
             | (skip
                (first
                   | (go_at_call 43; (first | (with_reducible refine (x1 _).mono ?_) | (with_reducible refine (x2 _).mono ?_)))
                   | (go_at_call 20; refine (refFold_any _ _ _ hsz _).mono ?_))
                rintro e w' ⟨rfl, hw⟩
                exact ⟨rfl, St.call (by assumption) hw⟩)))
   try simp only [Act.put, List.setIfInBounds_toArray, List.set])
  (first
     | (apply head_skip rfl)
     | (apply head_step_g rfl
        focus
          intro w0 hC
          (fail))
     | (apply head_step_g rfl
        focus
          intro w0 hC
          have hC' := Lib.hid hC
          obtain ⟨⟨r1, f1, i1, b1, l1⟩, ⟨r2, f2, i2, b2, l2⟩, ⟨r3, f3, i3, b3, l3⟩, ⟨r4, f4, i4, b4, l4⟩, m12, m21, m13, m31, m14, m41, m23, m32, m24, m42, m34, m43⟩ := St.facts4 hC
          clear hC
          go_simp
          have hC := hC'.out
          (first
             | with_reducible rfl
             | (skip
                (first
                   | (go_at_call 43; (first | (with_reducible refine (x1 _).mono ?_) | (with_reducible refine (x2 _).mono ?_)))
                   | (go_at_call 20; refine (refFold_any _ _ _ hsz _).mono ?_))
                rintro e w' ⟨rfl, hw⟩
                exact ⟨rfl, St.call (by assumption) hw⟩)))
   try simp only [Act.put, List.setIfInBounds_toArray, List.set])
  (first
     | (apply head_skip rfl)
     | (apply head_step_g rfl
        focus
          intro w0 hC
          (fail))
     | (apply head_step_g rfl
        focus
          intro w0 hC
          have hC' := Lib.hid hC
          obtain ⟨⟨r1, f1, i1, b1, l1⟩, ⟨r2, f2, i2, b2, l2⟩, ⟨r3, f3, i3, b3, l3⟩, ⟨r4, f4, i4, b4, l4⟩, m12, m21, m13, m31, m14, m41, m23, m32, m24, m42, m34, m43⟩ := St.facts4 hC
          clear hC
          go_simp
          have hC := hC'.out
          (first
             | with_reducible rfl
             | (skip
                (first
                   | (go_at_call 43; (first | (with_reducible refine (x1 _).mono ?_) | (with_reducible refine (x2 _).mono ?_)))
                   | (go_at_call 20; refine (refFold_any _ _ _ hsz _).mono ?_))
                rintro e w' ⟨rfl, hw⟩
                exact ⟨rfl, St.call (by assumption) hw⟩)))
   try simp only [Act.put, List.setIfInBounds_toArray, List.set])
  (first
     | (apply head_skip rfl)
     | (apply head_step_g rfl
        focus
          intro w0 hC
          (fail))
     | (apply head_step_g rfl
        focus
          intro w0 hC
          have hC' := Lib.hid hC
          obtain ⟨⟨r1, f1, i1, b1, l1⟩, ⟨r2, f2, i2, b2, l2⟩, ⟨r3, f3, i3, b3, l3⟩, ⟨r4, f4, i4, b4, l4⟩, m12, m21, m13, m31, m14, m41, m23, m32, m24, m42, m34, m43⟩ := St.facts4 hC
          clear hC
          go_simp
          have hC := hC'.out
          (first
             | with_reducible rfl
             | (skip
                (first
                   | (go_at_call 43; (first | (with_reducible refine (x1 _).mono ?_) | (with_reducible refine (x2 _).mono ?_)))
                   | (go_at_call 20; refine (refFold_any _ _ _ hsz _).mono ?_))
                rintro e w' ⟨rfl, hw⟩
                exact ⟨rfl, St.call (by assumption) hw⟩)))
   try simp only [Act.put, List.setIfInBounds_toArray, List.set])
  (first
     | (apply head_skip rfl)
     | (apply head_step_g rfl
        focus
          intro w0 hC
          (fail))
     | (apply head_step_g rfl
        focus
          intro w0 hC
          have hC' := Lib.hid hC
          obtain ⟨⟨r1, f1, i1, b1, l1⟩, ⟨r2, f2, i2, b2, l2⟩, ⟨r3, f3, i3, b3, l3⟩, ⟨r4, f4, i4, b4, l4⟩, m12, m21, m13, m31, m14, m41, m23, m32, m24, m42, m34, m43⟩ := St.facts4 hC
          clear hC
          go_simp
          have hC := hC'.out
          (first
             | with_reducible rfl
             | (skip
                (first
                   | (go_at_call 43; (first | (with_reducible refine (x1 _).mono ?_) | (with_reducible refine (x2 _).mono ?_)))
                   | (go_at_call 20; refine (refFold_any _ _ _ hsz _).mono ?_))
                rintro e w' ⟨rfl, hw⟩
                exact ⟨rfl, St.call (by assumption) hw⟩)))
   try simp only [Act.put, List.setIfInBounds_toArray, List.set])
  (first
     | (apply head_skip rfl)
     | (apply head_step_g rfl
        focus
          intro w0 hC
          (fail))
     | (apply head_step_g rfl
        focus
          intro w0 hC
          have hC' := Lib.hid hC
          obtain ⟨⟨r1, f1, i1, b1, l1⟩, ⟨r2, f2, i2, b2, l2⟩, ⟨r3, f3, i3, b3, l3⟩, ⟨r4, f4, i4, b4, l4⟩, m12, m21, m13, m31, m14, m41, m23, m32, m24, m42, m34, m43⟩ := St.facts4 hC
          clear hC
          go_simp
          have hC := hC'.out
          (first
             | with_reducible rfl
             | (skip
                (first
                   | (go_at_call 43; (first | (with_reducible refine (x1 _).mono ?_) | (with_reducible refine (x2 _).mono ?_)))
                   | (go_at_call 20; refine (refFold_any _ _ _ hsz _).mono ?_))
                rintro e w' ⟨rfl, hw⟩
                exact ⟨rfl, St.call (by assumption) hw⟩)))
   try simp only [Act.put, List.setIfInBounds_toArray, List.set])
  (first
     | (apply head_skip rfl)
     | (apply head_step_g rfl
        focus
          intro w0 hC
          (fail))
     | (apply head_step_g rfl
        focus
          intro w0 hC
          have hC' := Lib.hid hC
          obtain ⟨⟨r1, f1, i1, b1, l1⟩, ⟨r2, f2, i2, b2, l2⟩, ⟨r3, f3, i3, b3, l3⟩, ⟨r4, f4, i4, b4, l4⟩, m12, m21, m13, m31, m14, m41, m23, m32, m24, m42, m34, m43⟩ := St.facts4 hC
          clear hC
          go_simp
          have hC := hC'.out
          (first
             | with_reducible rfl
             | (skip
                (first
                   | (go_at_call 43; (first | (with_reducible refine (x1 _).mono ?_) | (with_reducible refine (x2 _).mono ?_)))
                   | (go_at_call 20; refine (refFold_any _ _ _ hsz _).mono ?_))
                rintro e w' ⟨rfl, hw⟩
                exact ⟨rfl, St.call (by assumption) hw⟩)))
   try simp only [Act.put, List.setIfInBounds_toArray, List.set])
  refine wpQuiet_nil ?_
  intro w3 hC
  clear v1 v2 x1 x2
  (have HC := Lib.hid hC
   have sos := hC.below.os
   obtain ⟨⟨r1, f1, i1, b1, l1⟩, ⟨r2, f2, i2, b2, l2⟩, ⟨r3, f3, i3, b3, l3⟩, ⟨r4, f4, i4, b4, l4⟩, m12, m21, m13, m31, m14, m41, m23, m32, m24, m42, m34, m43⟩ := St.facts4 hC
   clear hC)
  go_wp2_with fail
  refine bodyPost_ret (results_row rfl _ (w.heap.size + 1) rfl (blk 16 (sumB h a b)) ?_ ?_ ?_ ?_) rfl ⟨rfl, ?_⟩
  · simp [go_sem, *]
  · simp [go_sem]
  · simp [go_sem]
  · simp [go_sem, *]
  · exact below_setRow' HC.out.below (by omega) _

set_option maxRecDepth 100000 in
set_option maxHeartbeats 2000000 in
theorem ghashSums_walk (l : Nat → UInt8) (a b : ByteArray) (w : World) : Calls Try.prog 5 #[.agg (blk 32 l), .string a, .string b] w fun e w' => e = .returned (.bool true) ∧ Below w.heap.size w w' := by
  have hz := zero16
  have hrd : (fun j => l (16 + j)) = Ci.rd l 1 := rfl
  have HC := Lib.hid ((St.nil w).pushA (blk 32 l) 35 rfl)
  by_cases hbig : 100 < a.size ∨ 100 < b.size
  · by_cases ha : 100 < a.size
    · have t1 : decide ((100 : Int) < (a.size : Int)) = true := decide_eq_true (by omega)
      go_enter Try.func5, Try.ntmps5
      go_wp2_with fail
      refine (awake08_any _).mono ?_; rintro e w5 ⟨rfl, hw⟩
      have HC := Lib.hid (HC.out.call hw)
      clear hw
      have sos := HC.out.os
      go_wp2_with fail
      go_ret
      exact ⟨rfl, HC.out.below⟩
    · have t1 : decide ((100 : Int) < (a.size : Int)) = false := decide_eq_false (by omega)
      have t2 : decide ((100 : Int) < (b.size : Int)) = true := decide_eq_true (by omega)
      go_enter Try.func5, Try.ntmps5
      go_wp2_with fail
      refine (awake08_any _).mono ?_; rintro e w5 ⟨rfl, hw⟩
      have HC := Lib.hid (HC.out.call hw)
      clear hw
      have sos := HC.out.os
      go_wp2_with fail
      go_ret
      exact ⟨rfl, HC.out.below⟩
  · have t1 : decide ((100 : Int) < (a.size : Int)) = false := decide_eq_false (by omega)
    have t2 : decide ((100 : Int) < (b.size : Int)) = false := decide_eq_false (by omega)
    have hb0 : b.size ≤ maxLen := by unfold maxLen; omega
    have hb1 : b.size < 2 ^ 40 := by omega
    have ha1 : a.size < 2 ^ 40 := by omega
    go_enter Try.func5, Try.ntmps5
    go_wp2_with fail
    refine St.region_store2 (w0 := w) 4 7 8 19 21 (blk 16 fun _ => 0) (blk 16 fun _ => 0) (blk 16 l) (blk 16 (Ci.rd l 1)) (.agg (blk 16 l)) (.agg (blk 16 (Ci.rd l 1))) 23 23 HC.out (by kernel_rfl) (by decide +kernel) _ _ _ _ rfl rfl rfl rfl
      (fun w a => by simp [go_sem, ptrTo, hz]) (fun w a => by simp [go_sem, ptrTo, hz]) (stores_whole 23 _ _ (by simp [blk_size]) (fun w => by simp [go_sem]) (oneCells_blk _ _) rfl) (stores_whole 23 _ _ (by simp [blk_size]) (fun w => by simp [go_sem]) (oneCells_blk _ _) rfl) (by simp) ?_
    (simp only [List.take])
    (apply walkB_step
     focus
       intro w0 hC
       have hC' := Lib.hid hC
       obtain ⟨r1, f1, i1, b1, l1⟩ := St.facts1 hC
       clear hC
       go_simp
       (with_reducible rfl)
     try simp only [Act.put, List.setIfInBounds_toArray, List.set])
    (apply walkB_step
     focus
       intro w0 hC
       have hC' := Lib.hid hC
       obtain ⟨r1, f1, i1, b1, l1⟩ := St.facts1 hC
       clear hC
       go_simp
       (with_reducible rfl)
     try simp only [Act.put, List.setIfInBounds_toArray, List.set])
    (apply walkB_step
     focus
       intro w0 hC
       have hC' := Lib.hid hC
       obtain ⟨r1, f1, i1, b1, l1⟩ := St.facts1 hC
       clear hC
       go_simp
       (with_reducible rfl)
     try simp only [Act.put, List.setIfInBounds_toArray, List.set])
    (apply walkB_step
     focus
       intro w0 hC
       have hC' := Lib.hid hC
       obtain ⟨r1, f1, i1, b1, l1⟩ := St.facts1 hC
       clear hC
       go_simp
       (with_reducible rfl)
     try simp only [Act.put, List.setIfInBounds_toArray, List.set])
    refine walkB_nil ⟨⟨rfl, rfl⟩, ?_⟩
    intro w1 g1 g2 hC
    unfold ptrTo
    clear HC
    have HC := Lib.hid hC
    clear hC
    go_wp2_with fail
    as_aux_lemma =>
      refine St.region HC.out (by kernel_rfl) (by kernel_rfl) ?_
      (first
         | (apply head_skip rfl)
         | (apply head_step_g rfl
            focus
              intro w0 hC
              (exact eql_quiet 23 rfl rfl rfl Try.eqGuardType23 Try.underlying23 (by simp [go_sem]) (by simp [go_sem]) (by with_reducible exact same_refl _ _)))
         | (apply head_step_g rfl
            focus
              intro w0 hC
              have hC' := Lib.hid hC
              obtain ⟨⟨r1, f1, i1, b1, l1⟩, ⟨r2, f2, i2, b2, l2⟩, ⟨r3, f3, i3, b3, l3⟩, m12, m21, m13, m31, m23, m32⟩ := St.facts3 hC
              clear hC
              go_simp
              have hC := hC'.out
              (first
                 | with_reducible rfl
                 | (skip
                    (first
                       | (go_at_call 19; refine (ghFold_any _ _ _ hb0 _).mono ?_)
                       | (go_at_call 20; refine (refFold_any _ _ _ hb1 _).mono ?_)
                       | (go_at_call 18; refine (ghSum_any _ _ _ ha1 hb1 _).mono ?_)
                       | (go_at_call 21; refine (refSum_any _ _ _ ha1 hb1 _).mono ?_)
                       | (go_at_call 17; refine (awake08_any _).mono ?_))
                    rintro e w' ⟨rfl, hw⟩
                    exact ⟨rfl, St.call (by assumption) hw⟩)))
       try simp only [Act.put, List.setIfInBounds_toArray, List.set])
      (first
         | (apply head_skip rfl)
         | (apply head_step_g rfl
            focus
              intro w0 hC
              (exact eql_quiet 23 rfl rfl rfl Try.eqGuardType23 Try.underlying23 (by simp [go_sem]) (by simp [go_sem]) (by with_reducible exact same_refl _ _)))
         | (apply head_step_g rfl
            focus
              intro w0 hC
              have hC' := Lib.hid hC
              obtain ⟨⟨r1, f1, i1, b1, l1⟩, ⟨r2, f2, i2, b2, l2⟩, ⟨r3, f3, i3, b3, l3⟩, m12, m21, m13, m31, m23, m32⟩ := St.facts3 hC
              clear hC
              go_simp
              have hC := hC'.out
              (first
                 | with_reducible rfl
                 | (skip
                    (first
                       | (go_at_call 19; refine (ghFold_any _ _ _ hb0 _).mono ?_)
                       | (go_at_call 20; refine (refFold_any _ _ _ hb1 _).mono ?_)
                       | (go_at_call 18; refine (ghSum_any _ _ _ ha1 hb1 _).mono ?_)
                       | (go_at_call 21; refine (refSum_any _ _ _ ha1 hb1 _).mono ?_)
                       | (go_at_call 17; refine (awake08_any _).mono ?_))
                    rintro e w' ⟨rfl, hw⟩
                    exact ⟨rfl, St.call (by assumption) hw⟩)))
       try simp only [Act.put, List.setIfInBounds_toArray, List.set])
      (first
         | (apply head_skip rfl)
         | (apply head_step_g rfl
            focus
              intro w0 hC
              (exact eql_quiet 23 rfl rfl rfl Try.eqGuardType23 Try.underlying23 (by simp [go_sem]) (by simp [go_sem]) (by with_reducible exact same_refl _ _)))
         | (apply head_step_g rfl
            focus
              intro w0 hC
              have hC' := Lib.hid hC
              obtain ⟨⟨r1, f1, i1, b1, l1⟩, ⟨r2, f2, i2, b2, l2⟩, ⟨r3, f3, i3, b3, l3⟩, m12, m21, m13, m31, m23, m32⟩ := St.facts3 hC
              clear hC
              go_simp
              have hC := hC'.out
              (first
                 | with_reducible rfl
                 | (skip
                    (first
                       | (go_at_call 19; refine (ghFold_any _ _ _ hb0 _).mono ?_)
                       | (go_at_call 20; refine (refFold_any _ _ _ hb1 _).mono ?_)
                       | (go_at_call 18; refine (ghSum_any _ _ _ ha1 hb1 _).mono ?_)
                       | (go_at_call 21; refine (refSum_any _ _ _ ha1 hb1 _).mono ?_)
                       | (go_at_call 17; refine (awake08_any _).mono ?_))
                    rintro e w' ⟨rfl, hw⟩
                    exact ⟨rfl, St.call (by assumption) hw⟩)))
       try simp only [Act.put, List.setIfInBounds_toArray, List.set])
      (first
         | (apply head_skip rfl)
         | (apply head_step_g rfl
            focus
              intro w0 hC
              (exact eql_quiet 23 rfl rfl rfl Try.eqGuardType23 Try.underlying23 (by simp [go_sem]) (by simp [go_sem]) (by with_reducible exact same_refl _ _)))
         | (apply head_step_g rfl
            focus
              intro w0 hC
              have hC' := Lib.hid hC
              obtain ⟨⟨r1, f1, i1, b1, l1⟩, ⟨r2, f2, i2, b2, l2⟩, ⟨r3, f3, i3, b3, l3⟩, m12, m21, m13, m31, m23, m32⟩ := St.facts3 hC
              clear hC
              go_simp
              have hC := hC'.out
              (first
                 | with_reducible rfl
                 | (skip
                    (first
                       | (go_at_call 19; refine (ghFold_any _ _ _ hb0 _).mono ?_)
                       | (go_at_call 20; refine (refFold_any _ _ _ hb1 _).mono ?_)
                       | (go_at_call 18; refine (ghSum_any _ _ _ ha1 hb1 _).mono ?_)
                       | (go_at_call 21; refine (refSum_any _ _ _ ha1 hb1 _).mono ?_)
                       | (go_at_call 17; refine (awake08_any _).mono ?_))
                    rintro e w' ⟨rfl, hw⟩
                    exact ⟨rfl, St.call (by assumption) hw⟩)))
       try simp only [Act.put, List.setIfInBounds_toArray, List.set])
      (first
         | (apply head_skip rfl)
         | (apply head_step_g rfl
            focus
              intro w0 hC
              (exact eql_quiet 23 rfl rfl rfl Try.eqGuardType23 Try.underlying23 (by simp [go_sem]) (by simp [go_sem]) (by with_reducible exact same_refl _ _)))
         | (apply head_step_g rfl
            focus
              intro w0 hC
              have hC' := Lib.hid hC
              obtain ⟨⟨r1, f1, i1, b1, l1⟩, ⟨r2, f2, i2, b2, l2⟩, ⟨r3, f3, i3, b3, l3⟩, m12, m21, m13, m31, m23, m32⟩ := St.facts3 hC
              clear hC
              go_simp
              have hC := hC'.out
              (first
                 | with_reducible rfl
                 | (skip
                    (first
                       | (go_at_call 19; refine (ghFold_any _ _ _ hb0 _).mono ?_)
                       | (go_at_call 20; refine (refFold_any _ _ _ hb1 _).mono ?_)
                       | (go_at_call 18; refine (ghSum_any _ _ _ ha1 hb1 _).mono ?_)
                       | (go_at_call 21; refine (refSum_any _ _ _ ha1 hb1 _).mono ?_)
                       | (go_at_call 17; refine (awake08_any _).mono ?_))
                    rintro e w' ⟨rfl, hw⟩
                    exact ⟨rfl, St.call (by assumption) hw⟩)))
       try simp only [Act.put, List.setIfInBounds_toArray, List.set])
      (first
         | (apply head_skip rfl)
         | (apply head_step_g rfl
            focus
              intro w0 hC
              (exact eql_quiet 23 rfl rfl rfl Try.eqGuardType23 Try.underlying23 (by simp [go_sem]) (by simp [go_sem]) (by with_reducible exact same_refl _ _)))
         | (apply head_step_g rfl
            focus
              intro w0 hC
              have hC' := Lib.hid hC
              obtain ⟨⟨r1, f1, i1, b1, l1⟩, ⟨r2, f2, i2, b2, l2⟩, ⟨r3, f3, i3, b3, l3⟩, m12, m21, m13, m31, m23, m32⟩ := St.facts3 hC
              clear hC
              go_simp
              have hC := hC'.out
              (first
                 | with_reducible rfl
                 | (skip
                    (first
                       | (go_at_call 19; refine (ghFold_any _ _ _ hb0 _).mono ?_)
                       | (go_at_call 20; refine (refFold_any _ _ _ hb1 _).mono ?_)
                       | (go_at_call 18; refine (ghSum_any _ _ _ ha1 hb1 _).mono ?_)
                       | (go_at_call 21; refine (refSum_any _ _ _ ha1 hb1 _).mono ?_)
                       | (go_at_call 17; refine (awake08_any _).mono ?_))
                    rintro e w' ⟨rfl, hw⟩
                    exact ⟨rfl, St.call (by assumption) hw⟩)))
       try simp only [Act.put, List.setIfInBounds_toArray, List.set])
      (first
         | (apply head_skip rfl)
         | (apply head_step_g rfl
            focus
              intro w0 hC
              (exact eql_quiet 23 rfl rfl rfl Try.eqGuardType23 Try.underlying23 (by simp [go_sem]) (by simp [go_sem]) (by with_reducible exact same_refl _ _)))
         | (apply head_step_g rfl
            focus
              intro w0 hC
              have hC' := Lib.hid hC
              obtain ⟨⟨r1, f1, i1, b1, l1⟩, ⟨r2, f2, i2, b2, l2⟩, ⟨r3, f3, i3, b3, l3⟩, m12, m21, m13, m31, m23, m32⟩ := St.facts3 hC
              clear hC
              go_simp
              have hC := hC'.out
              (first
                 | with_reducible rfl
                 | (skip
                    (first
                       | (go_at_call 19; refine (ghFold_any _ _ _ hb0 _).mono ?_)
                       | (go_at_call 20; refine (refFold_any _ _ _ hb1 _).mono ?_)
                       | (go_at_call 18; refine (ghSum_any _ _ _ ha1 hb1 _).mono ?_)
                       | (go_at_call 21; refine (refSum_any _ _ _ ha1 hb1 _).mono ?_)
                       | (go_at_call 17; refine (awake08_any _).mono ?_))
                    rintro e w' ⟨rfl, hw⟩
                    exact ⟨rfl, St.call (by assumption) hw⟩)))
       try simp only [Act.put, List.setIfInBounds_toArray, List.set])
      (first
         | (apply head_skip rfl)
         | (apply head_step_g rfl
            focus
              intro w0 hC
              (exact eql_quiet 23 rfl rfl rfl Try.eqGuardType23 Try.underlying23 (by simp [go_sem]) (by simp [go_sem]) (by with_reducible exact same_refl _ _)))
         | (apply head_step_g rfl
            focus
              intro w0 hC
              have hC' := Lib.hid hC
              obtain ⟨⟨r1, f1, i1, b1, l1⟩, ⟨r2, f2, i2, b2, l2⟩, ⟨r3, f3, i3, b3, l3⟩, m12, m21, m13, m31, m23, m32⟩ := St.facts3 hC
              clear hC
              go_simp
              have hC := hC'.out
              (first
                 | with_reducible rfl
                 | (skip
                    (first
                       | (go_at_call 19; refine (ghFold_any _ _ _ hb0 _).mono ?_)
                       | (go_at_call 20; refine (refFold_any _ _ _ hb1 _).mono ?_)
                       | (go_at_call 18; refine (ghSum_any _ _ _ ha1 hb1 _).mono ?_)
                       | (go_at_call 21; refine (refSum_any _ _ _ ha1 hb1 _).mono ?_)
                       | (go_at_call 17; refine (awake08_any _).mono ?_))
                    rintro e w' ⟨rfl, hw⟩
                    exact ⟨rfl, St.call (by assumption) hw⟩)))
       try simp only [Act.put, List.setIfInBounds_toArray, List.set])
      (first
         | (apply head_skip rfl)
         | (apply head_step_g rfl
            focus
              intro w0 hC
              (exact eql_quiet 23 rfl rfl rfl Try.eqGuardType23 Try.underlying23 (by simp [go_sem]) (by simp [go_sem]) (by with_reducible exact same_refl _ _)))
         | (apply head_step_g rfl
            focus
              intro w0 hC
              have hC' := Lib.hid hC
              obtain ⟨⟨r1, f1, i1, b1, l1⟩, ⟨r2, f2, i2, b2, l2⟩, ⟨r3, f3, i3, b3, l3⟩, m12, m21, m13, m31, m23, m32⟩ := St.facts3 hC
              clear hC
              go_simp
              have hC := hC'.out
              (first
                 | with_reducible rfl
                 | (skip
                    (first
                       | (go_at_call 19; refine (ghFold_any _ _ _ hb0 _).mono ?_)
                       | (go_at_call 20; refine (refFold_any _ _ _ hb1 _).mono ?_)
                       | (go_at_call 18; refine (ghSum_any _ _ _ ha1 hb1 _).mono ?_)
                       | (go_at_call 21; refine (refSum_any _ _ _ ha1 hb1 _).mono ?_)
                       | (go_at_call 17; refine (awake08_any _).mono ?_))
                    rintro e w' ⟨rfl, hw⟩
                    exact ⟨rfl, St.call (by assumption) hw⟩)))
       try simp only [Act.put, List.setIfInBounds_toArray, List.set])
      (first
         | (apply head_skip rfl)
         | (apply head_step_g rfl
            focus
              intro w0 hC
              (exact eql_quiet 23 rfl rfl rfl Try.eqGuardType23 Try.underlying23 (by simp [go_sem]) (by simp [go_sem]) (by with_reducible exact same_refl _ _)))
         | (apply head_step_g rfl
            focus
              intro w0 hC
              have hC' := Lib.hid hC
              obtain ⟨⟨r1, f1, i1, b1, l1⟩, ⟨r2, f2, i2, b2, l2⟩, ⟨r3, f3, i3, b3, l3⟩, m12, m21, m13, m31, m23, m32⟩ := St.facts3 hC
              clear hC
              go_simp
              have hC := hC'.out
              (first
                 | with_reducible rfl
                 | (skip
                    (first
                       | (go_at_call 19; refine (ghFold_any _ _ _ hb0 _).mono ?_)
                       | (go_at_call 20; refine (refFold_any _ _ _ hb1 _).mono ?_)
                       | (go_at_call 18; refine (ghSum_any _ _ _ ha1 hb1 _).mono ?_)
                       | (go_at_call 21; refine (refSum_any _ _ _ ha1 hb1 _).mono ?_)
                       | (go_at_call 17; refine (awake08_any _).mono ?_))
                    rintro e w' ⟨rfl, hw⟩
                    exact ⟨rfl, St.call (by assumption) hw⟩)))
       try simp only [Act.put, List.setIfInBounds_toArray, List.set])
      (first
         | (apply head_skip rfl)
         | (apply head_step_g rfl
            focus
              intro w0 hC
              (exact eql_quiet 23 rfl rfl rfl Try.eqGuardType23 Try.underlying23 (by simp [go_sem]) (by simp [go_sem]) (by with_reducible exact same_refl _ _)))
         | (apply head_step_g rfl
            focus
              intro w0 hC
              have hC' := Lib.hid hC
              obtain ⟨⟨r1, f1, i1, b1, l1⟩, ⟨r2, f2, i2, b2, l2⟩, ⟨r3, f3, i3, b3, l3⟩, m12, m21, m13, m31, m23, m32⟩ := St.facts3 hC
              clear hC
              go_simp
              have hC := hC'.out
              (first
                 | with_reducible rfl
                 | (skip
                    (first
                       | (go_at_call 19; refine (ghFold_any _ _ _ hb0 _).mono ?_)
                       | (go_at_call 20; refine (refFold_any _ _ _ hb1 _).mono ?_)
                       | (go_at_call 18; refine (ghSum_any _ _ _ ha1 hb1 _).mono ?_)
                       | (go_at_call 21; refine (refSum_any _ _ _ ha1 hb1 _).mono ?_)
                       | (go_at_call 17; refine (awake08_any _).mono ?_))
                    rintro e w' ⟨rfl, hw⟩
                    exact ⟨rfl, St.call (by assumption) hw⟩)))
       try simp only [Act.put, List.setIfInBounds_toArray, List.set])
      (first
         | (apply head_skip rfl)
         | (apply head_step_g rfl
            focus
              intro w0 hC
              (exact eql_quiet 23 rfl rfl rfl Try.eqGuardType23 Try.underlying23 (by simp [go_sem]) (by simp [go_sem]) (by with_reducible exact same_refl _ _)))
         | (apply head_step_g rfl
            focus
              intro w0 hC
              have hC' := Lib.hid hC
              obtain ⟨⟨r1, f1, i1, b1, l1⟩, ⟨r2, f2, i2, b2, l2⟩, ⟨r3, f3, i3, b3, l3⟩, m12, m21, m13, m31, m23, m32⟩ := St.facts3 hC
              clear hC
              go_simp
              have hC := hC'.out
              (first
                 | with_reducible rfl
                 | (skip
                    (first
                       | (go_at_call 19; refine (ghFold_any _ _ _ hb0 _).mono ?_)
                       | (go_at_call 20; refine (refFold_any _ _ _ hb1 _).mono ?_)
                       | (go_at_call 18; refine (ghSum_any _ _ _ ha1 hb1 _).mono ?_)
                       | (go_at_call 21; refine (refSum_any _ _ _ ha1 hb1 _).mono ?_)
                       | (go_at_call 17; refine (awake08_any _).mono ?_))
                    rintro e w' ⟨rfl, hw⟩
                    exact ⟨rfl, St.call (by assumption) hw⟩)))
       try simp only [Act.put, List.setIfInBounds_toArray, List.set])
      (first
         | (apply head_skip rfl)
         | (apply head_step_g rfl
            focus
              intro w0 hC
              (exact eql_quiet 23 rfl rfl rfl Try.eqGuardType23 Try.underlying23 (by simp [go_sem]) (by simp [go_sem]) (by with_reducible exact same_refl _ _)))
         | (apply head_step_g rfl
            focus
              intro w0 hC
              have hC' := Lib.hid hC
              obtain ⟨⟨r1, f1, i1, b1, l1⟩, ⟨r2, f2, i2, b2, l2⟩, ⟨r3, f3, i3, b3, l3⟩, m12, m21, m13, m31, m23, m32⟩ := St.facts3 hC
              clear hC
              go_simp
              have hC := hC'.out
              (first
                 | with_reducible rfl
                 | (skip
                    (first
                       | (go_at_call 19; refine (ghFold_any _ _ _ hb0 _).mono ?_)
                       | (go_at_call 20; refine (refFold_any _ _ _ hb1 _).mono ?_)
                       | (go_at_call 18; refine (ghSum_any _ _ _ ha1 hb1 _).mono ?_)
                       | (go_at_call 21; refine (refSum_any _ _ _ ha1 hb1 _).mono ?_)
                       | (go_at_call 17; refine (awake08_any _).mono ?_))
                    rintro e w' ⟨rfl, hw⟩
                    exact ⟨rfl, St.call (by assumption) hw⟩)))
       try simp only [Act.put, List.setIfInBounds_toArray, List.set])
      (first
         | (apply head_skip rfl)
         | (apply head_step_g rfl
            focus
              intro w0 hC
              (exact eql_quiet 23 rfl rfl rfl Try.eqGuardType23 Try.underlying23 (by simp [go_sem]) (by simp [go_sem]) (by with_reducible exact same_refl _ _)))
         | (apply head_step_g rfl
            focus
              intro w0 hC
              have hC' := Lib.hid hC
              obtain ⟨⟨r1, f1, i1, b1, l1⟩, ⟨r2, f2, i2, b2, l2⟩, ⟨r3, f3, i3, b3, l3⟩, m12, m21, m13, m31, m23, m32⟩ := St.facts3 hC
              clear hC
              go_simp
              have hC := hC'.out
              (first
                 | with_reducible rfl
                 | (skip
                    (first
                       | (go_at_call 19; refine (ghFold_any _ _ _ hb0 _).mono ?_)
                       | (go_at_call 20; refine (refFold_any _ _ _ hb1 _).mono ?_)
                       | (go_at_call 18; refine (ghSum_any _ _ _ ha1 hb1 _).mono ?_)
                       | (go_at_call 21; refine (refSum_any _ _ _ ha1 hb1 _).mono ?_)
                       | (go_at_call 17; refine (awake08_any _).mono ?_))
                    rintro e w' ⟨rfl, hw⟩
                    exact ⟨rfl, St.call (by assumption) hw⟩)))
       try simp only [Act.put, List.setIfInBounds_toArray, List.set])
      (first
         | (apply head_skip rfl)
         | (apply head_step_g rfl
            focus
              intro w0 hC
              (exact eql_quiet 23 rfl rfl rfl Try.eqGuardType23 Try.underlying23 (by simp [go_sem]) (by simp [go_sem]) (by with_reducible exact same_refl _ _)))
         | (apply head_step_g rfl
            focus
              intro w0 hC
              have hC' := Lib.hid hC
              obtain ⟨⟨r1, f1, i1, b1, l1⟩, ⟨r2, f2, i2, b2, l2⟩, ⟨r3, f3, i3, b3, l3⟩, m12, m21, m13, m31, m23, m32⟩ := St.facts3 hC
              clear hC
              go_simp
              have hC := hC'.out
              (first
                 | with_reducible rfl
                 | (skip
                    (first
                       | (go_at_call 19; refine (ghFold_any _ _ _ hb0 _).mono ?_)
                       | (go_at_call 20; refine (refFold_any _ _ _ hb1 _).mono ?_)
                       | (go_at_call 18; refine (ghSum_any _ _ _ ha1 hb1 _).mono ?_)
                       | (go_at_call 21; refine (refSum_any _ _ _ ha1 hb1 _).mono ?_)
                       | (go_at_call 17; refine (awake08_any _).mono ?_))
                    rintro e w' ⟨rfl, hw⟩
                    exact ⟨rfl, St.call (by assumption) hw⟩)))
       try simp only [Act.put, List.setIfInBounds_toArray, List.set])
      (first
         | (apply head_skip rfl)
         | (apply head_step_g rfl
            focus
              intro w0 hC
              (exact eql_quiet 23 rfl rfl rfl Try.eqGuardType23 Try.underlying23 (by simp [go_sem]) (by simp [go_sem]) (by with_reducible exact same_refl _ _)))
         | (apply head_step_g rfl
            focus
              intro w0 hC
              have hC' := Lib.hid hC
              obtain ⟨⟨r1, f1, i1, b1, l1⟩, ⟨r2, f2, i2, b2, l2⟩, ⟨r3, f3, i3, b3, l3⟩, m12, m21, m13, m31, m23, m32⟩ := St.facts3 hC
              clear hC
              go_simp
              have hC := hC'.out
              (first
                 | with_reducible rfl
                 | (skip
                    (first
                       | (go_at_call 19; refine (ghFold_any _ _ _ hb0 _).mono ?_)
                       | (go_at_call 20; refine (refFold_any _ _ _ hb1 _).mono ?_)
                       | (go_at_call 18; refine (ghSum_any _ _ _ ha1 hb1 _).mono ?_)
                       | (go_at_call 21; refine (refSum_any _ _ _ ha1 hb1 _).mono ?_)
                       | (go_at_call 17; refine (awake08_any _).mono ?_))
                    rintro e w' ⟨rfl, hw⟩
                    exact ⟨rfl, St.call (by assumption) hw⟩)))
       try simp only [Act.put, List.setIfInBounds_toArray, List.set])
      (first
         | (apply head_skip rfl)
         | (apply head_step_g rfl
            focus
              intro w0 hC
              (exact eql_quiet 23 rfl rfl rfl Try.eqGuardType23 Try.underlying23 (by simp [go_sem]) (by simp [go_sem]) (by with_reducible exact same_refl _ _)))
         | (apply head_step_g rfl
            focus
              intro w0 hC
              have hC' := Lib.hid hC
              obtain ⟨⟨r1, f1, i1, b1, l1⟩, ⟨r2, f2, i2, b2, l2⟩, ⟨r3, f3, i3, b3, l3⟩, m12, m21, m13, m31, m23, m32⟩ := St.facts3 hC
              clear hC
              go_simp
              have hC := hC'.out
              (first
                 | with_reducible rfl
                 | (skip
                    (first
                       | (go_at_call 19; refine (ghFold_any _ _ _ hb0 _).mono ?_)
                       | (go_at_call 20; refine (refFold_any _ _ _ hb1 _).mono ?_)
                       | (go_at_call 18; refine (ghSum_any _ _ _ ha1 hb1 _).mono ?_)
                       | (go_at_call 21; refine (refSum_any _ _ _ ha1 hb1 _).mono ?_)
                       | (go_at_call 17; refine (awake08_any _).mono ?_))
                    rintro e w' ⟨rfl, hw⟩
                    exact ⟨rfl, St.call (by assumption) hw⟩)))
       try simp only [Act.put, List.setIfInBounds_toArray, List.set])
      (first
         | (apply head_skip rfl)
         | (apply head_step_g rfl
            focus
              intro w0 hC
              (exact eql_quiet 23 rfl rfl rfl Try.eqGuardType23 Try.underlying23 (by simp [go_sem]) (by simp [go_sem]) (by with_reducible exact same_refl _ _)))
         | (apply head_step_g rfl
            focus
              intro w0 hC
              have hC' := Lib.hid hC
              obtain ⟨⟨r1, f1, i1, b1, l1⟩, ⟨r2, f2, i2, b2, l2⟩, ⟨r3, f3, i3, b3, l3⟩, m12, m21, m13, m31, m23, m32⟩ := St.facts3 hC
              clear hC
              go_simp
              have hC := hC'.out
              (first
                 | with_reducible rfl
                 | (skip
                    (first
                       | (go_at_call 19; refine (ghFold_any _ _ _ hb0 _).mono ?_)
                       | (go_at_call 20; refine (refFold_any _ _ _ hb1 _).mono ?_)
                       | (go_at_call 18; refine (ghSum_any _ _ _ ha1 hb1 _).mono ?_)
                       | (go_at_call 21; refine (refSum_any _ _ _ ha1 hb1 _).mono ?_)
                       | (go_at_call 17; refine (awake08_any _).mono ?_))
                    rintro e w' ⟨rfl, hw⟩
                    exact ⟨rfl, St.call (by assumption) hw⟩)))
       try simp only [Act.put, List.setIfInBounds_toArray, List.set])
      (first
         | (apply head_skip rfl)
         | (apply head_step_g rfl
            focus
              intro w0 hC
              (exact eql_quiet 23 rfl rfl rfl Try.eqGuardType23 Try.underlying23 (by simp [go_sem]) (by simp [go_sem]) (by with_reducible exact same_refl _ _)))
         | (apply head_step_g rfl
            focus
              intro w0 hC
              have hC' := Lib.hid hC
              obtain ⟨⟨r1, f1, i1, b1, l1⟩, ⟨r2, f2, i2, b2, l2⟩, ⟨r3, f3, i3, b3, l3⟩, m12, m21, m13, m31, m23, m32⟩ := St.facts3 hC
              clear hC
              go_simp
              have hC := hC'.out
              (first
                 | with_reducible rfl
                 | (skip
                    (first
                       | (go_at_call 19; refine (ghFold_any _ _ _ hb0 _).mono ?_)
                       | (go_at_call 20; refine (refFold_any _ _ _ hb1 _).mono ?_)
                       | (go_at_call 18; refine (ghSum_any _ _ _ ha1 hb1 _).mono ?_)
                       | (go_at_call 21; refine (refSum_any _ _ _ ha1 hb1 _).mono ?_)
                       | (go_at_call 17; refine (awake08_any _).mono ?_))
                    rintro e w' ⟨rfl, hw⟩
                    exact ⟨rfl, St.call (by assumption) hw⟩)))
       try simp only [Act.put, List.setIfInBounds_toArray, List.set])
      (first
         | (apply head_skip rfl)
         | (apply head_step_g rfl
            focus
              intro w0 hC
              (exact eql_quiet 23 rfl rfl rfl Try.eqGuardType23 Try.underlying23 (by simp [go_sem]) (by simp [go_sem]) (by with_reducible exact same_refl _ _)))
         | (apply head_step_g rfl
            focus
              intro w0 hC
              have hC' := Lib.hid hC
              obtain ⟨⟨r1, f1, i1, b1, l1⟩, ⟨r2, f2, i2, b2, l2⟩, ⟨r3, f3, i3, b3, l3⟩, m12, m21, m13, m31, m23, m32⟩ := St.facts3 hC
              clear hC
              go_simp
              have hC := hC'.out
              (first
                 | with_reducible rfl
                 | (skip
                    (first
                       | (go_at_call 19; refine (ghFold_any _ _ _ hb0 _).mono ?_)
                       | (go_at_call 20; refine (refFold_any _ _ _ hb1 _).mono ?_)
                       | (go_at_call 18; refine (ghSum_any _ _ _ ha1 hb1 _).mono ?_)
                       | (go_at_call 21; refine (refSum_any _ _ _ ha1 hb1 _).mono ?_)
                       | (go_at_call 17; refine (awake08_any _).mono ?_))
                    rintro e w' ⟨rfl, hw⟩
                    exact ⟨rfl, St.call (by assumption) hw⟩)))
       try simp only [Act.put, List.setIfInBounds_toArray, List.set])
      (first
         | (apply head_skip rfl)
         | (apply head_step_g rfl
            focus
              intro w0 hC
              (exact eql_quiet 23 rfl rfl rfl Try.eqGuardType23 Try.underlying23 (by simp [go_sem]) (by simp [go_sem]) (by with_reducible exact same_refl _ _)))
         | (apply head_step_g rfl
            focus
              intro w0 hC
              have hC' := Lib.hid hC
              obtain ⟨⟨r1, f1, i1, b1, l1⟩, ⟨r2, f2, i2, b2, l2⟩, ⟨r3, f3, i3, b3, l3⟩, m12, m21, m13, m31, m23, m32⟩ := St.facts3 hC
              clear hC
              go_simp
              have hC := hC'.out
              (first
                 | with_reducible rfl
                 | (skip
                    (first
                       | (go_at_call 19; refine (ghFold_any _ _ _ hb0 _).mono ?_)
                       | (go_at_call 20; refine (refFold_any _ _ _ hb1 _).mono ?_)
                       | (go_at_call 18; refine (ghSum_any _ _ _ ha1 hb1 _).mono ?_)
                       | (go_at_call 21; refine (refSum_any _ _ _ ha1 hb1 _).mono ?_)
                       | (go_at_call 17; refine (awake08_any _).mono ?_))
                    rintro e w' ⟨rfl, hw⟩
                    exact ⟨rfl, St.call (by assumption) hw⟩)))
       try simp only [Act.put, List.setIfInBounds_toArray, List.set])
      (first
         | (apply head_skip rfl)
         | (apply head_step_g rfl
            focus
              intro w0 hC
              (exact eql_quiet 23 rfl rfl rfl Try.eqGuardType23 Try.underlying23 (by simp [go_sem]) (by simp [go_sem]) (by with_reducible exact same_refl _ _)))
         | (apply head_step_g rfl
            focus
              intro w0 hC
              have hC' := Lib.hid hC
              obtain ⟨⟨r1, f1, i1, b1, l1⟩, ⟨r2, f2, i2, b2, l2⟩, ⟨r3, f3, i3, b3, l3⟩, m12, m21, m13, m31, m23, m32⟩ := St.facts3 hC
              clear hC
              go_simp
              have hC := hC'.out
              (first
                 | with_reducible rfl
                 | (skip
                    (first
                       | (go_at_call 19; refine (ghFold_any _ _ _ hb0 _).mono ?_)
                       | (go_at_call 20; refine (refFold_any _ _ _ hb1 _).mono ?_)
                       | (go_at_call 18; refine (ghSum_any _ _ _ ha1 hb1 _).mono ?_)
                       | (go_at_call 21; refine (refSum_any _ _ _ ha1 hb1 _).mono ?_)
                       | (go_at_call 17; refine (awake08_any _).mono ?_))
                    rintro e w' ⟨rfl, hw⟩
                    exact ⟨rfl, St.call (by assumption) hw⟩)))
       try simp only [Act.put, List.setIfInBounds_toArray, List.set])
      (first
         | (apply head_skip rfl)
         | (apply head_step_g rfl
            focus
              intro w0 hC
              (exact eql_quiet 23 rfl rfl rfl Try.eqGuardType23 Try.underlying23 (by simp [go_sem]) (by simp [go_sem]) (by with_reducible exact same_refl _ _)))
         | (apply head_step_g rfl
            focus
              intro w0 hC
              have hC' := Lib.hid hC
              obtain ⟨⟨r1, f1, i1, b1, l1⟩, ⟨r2, f2, i2, b2, l2⟩, ⟨r3, f3, i3, b3, l3⟩, m12, m21, m13, m31, m23, m32⟩ := St.facts3 hC
              clear hC
              go_simp
              have hC := hC'.out
              (first
                 | with_reducible rfl
                 | (skip
                    (first
                       | (go_at_call 19; refine (ghFold_any _ _ _ hb0 _).mono ?_)
                       | (go_at_call 20; refine (refFold_any _ _ _ hb1 _).mono ?_)
                       | (go_at_call 18; refine (ghSum_any _ _ _ ha1 hb1 _).mono ?_)
                       | (go_at_call 21; refine (refSum_any _ _ _ ha1 hb1 _).mono ?_)
                       | (go_at_call 17; refine (awake08_any _).mono ?_))
                    rintro e w' ⟨rfl, hw⟩
                    exact ⟨rfl, St.call (by assumption) hw⟩)))
       try simp only [Act.put, List.setIfInBounds_toArray, List.set])
      (first
         | (apply head_skip rfl)
         | (apply head_step_g rfl
            focus
              intro w0 hC
              (exact eql_quiet 23 rfl rfl rfl Try.eqGuardType23 Try.underlying23 (by simp [go_sem]) (by simp [go_sem]) (by with_reducible exact same_refl _ _)))
         | (apply head_step_g rfl
            focus
              intro w0 hC
              have hC' := Lib.hid hC
              obtain ⟨⟨r1, f1, i1, b1, l1⟩, ⟨r2, f2, i2, b2, l2⟩, ⟨r3, f3, i3, b3, l3⟩, m12, m21, m13, m31, m23, m32⟩ := St.facts3 hC
              clear hC
              go_simp
              have hC := hC'.out
              (first
                 | with_reducible rfl
                 | (skip
                    (first
                       | (go_at_call 19; refine (ghFold_any _ _ _ hb0 _).mono ?_)
                       | (go_at_call 20; refine (refFold_any _ _ _ hb1 _).mono ?_)
                       | (go_at_call 18; refine (ghSum_any _ _ _ ha1 hb1 _).mono ?_)
                       | (go_at_call 21; refine (refSum_any _ _ _ ha1 hb1 _).mono ?_)
                       | (go_at_call 17; refine (awake08_any _).mono ?_))
                    rintro e w' ⟨rfl, hw⟩
                    exact ⟨rfl, St.call (by assumption) hw⟩)))
       try simp only [Act.put, List.setIfInBounds_toArray, List.set])
      (first
         | (apply head_skip rfl)
         | (apply head_step_g rfl
            focus
              intro w0 hC
              (exact eql_quiet 23 rfl rfl rfl Try.eqGuardType23 Try.underlying23 (by simp [go_sem]) (by simp [go_sem]) (by with_reducible exact same_refl _ _)))
         | (apply head_step_g rfl
            focus
              intro w0 hC
              have hC' := Lib.hid hC
              obtain ⟨⟨r1, f1, i1, b1, l1⟩, ⟨r2, f2, i2, b2, l2⟩, ⟨r3, f3, i3, b3, l3⟩, m12, m21, m13, m31, m23, m32⟩ := St.facts3 hC
              clear hC
              go_simp
              have hC := hC'.out
              (first
                 | with_reducible rfl
                 | (skip
                    (first
                       | (go_at_call 19; refine (ghFold_any _ _ _ hb0 _).mono ?_)
                       | (go_at_call 20; refine (refFold_any _ _ _ hb1 _).mono ?_)
                       | (go_at_call 18; refine (ghSum_any _ _ _ ha1 hb1 _).mono ?_)
                       | (go_at_call 21; refine (refSum_any _ _ _ ha1 hb1 _).mono ?_)
                       | (go_at_call 17; refine (awake08_any _).mono ?_))
                    rintro e w' ⟨rfl, hw⟩
                    exact ⟨rfl, St.call (by assumption) hw⟩)))
       try simp only [Act.put, List.setIfInBounds_toArray, List.set])
      (first
         | (apply head_skip rfl)
         | (apply head_step_g rfl
            focus
              intro w0 hC
              (exact eql_quiet 23 rfl rfl rfl Try.eqGuardType23 Try.underlying23 (by simp [go_sem]) (by simp [go_sem]) (by with_reducible exact same_refl _ _)))
         | (apply head_step_g rfl
            focus
              intro w0 hC
              have hC' := Lib.hid hC
              obtain ⟨⟨r1, f1, i1, b1, l1⟩, ⟨r2, f2, i2, b2, l2⟩, ⟨r3, f3, i3, b3, l3⟩, m12, m21, m13, m31, m23, m32⟩ := St.facts3 hC
              clear hC
              go_simp
              have hC := hC'.out
              (first
                 | with_reducible rfl
                 | (skip
                    (first
                       | (go_at_call 19; refine (ghFold_any _ _ _ hb0 _).mono ?_)
                       | (go_at_call 20; refine (refFold_any _ _ _ hb1 _).mono ?_)
                       | (go_at_call 18; refine (ghSum_any _ _ _ ha1 hb1 _).mono ?_)
                       | (go_at_call 21; refine (refSum_any _ _ _ ha1 hb1 _).mono ?_)
                       | (go_at_call 17; refine (awake08_any _).mono ?_))
                    rintro e w' ⟨rfl, hw⟩
                    exact ⟨rfl, St.call (by assumption) hw⟩)))
       try simp only [Act.put, List.setIfInBounds_toArray, List.set])
      (first
         | (apply head_skip rfl)
         | (apply head_step_g rfl
            focus
              intro w0 hC
              (exact eql_quiet 23 rfl rfl rfl Try.eqGuardType23 Try.underlying23 (by simp [go_sem]) (by simp [go_sem]) (by with_reducible exact same_refl _ _)))
         | (apply head_step_g rfl
            focus
              intro w0 hC
              have hC' := Lib.hid hC
              obtain ⟨⟨r1, f1, i1, b1, l1⟩, ⟨r2, f2, i2, b2, l2⟩, ⟨r3, f3, i3, b3, l3⟩, m12, m21, m13, m31, m23, m32⟩ := St.facts3 hC
              clear hC
              go_simp
              have hC := hC'.out
              (first
                 | with_reducible rfl
                 | (skip
                    (first
                       | (go_at_call 19; refine (ghFold_any _ _ _ hb0 _).mono ?_)
                       | (go_at_call 20; refine (refFold_any _ _ _ hb1 _).mono ?_)
                       | (go_at_call 18; refine (ghSum_any _ _ _ ha1 hb1 _).mono ?_)
                       | (go_at_call 21; refine (refSum_any _ _ _ ha1 hb1 _).mono ?_)
                       | (go_at_call 17; refine (awake08_any _).mono ?_))
                    rintro e w' ⟨rfl, hw⟩
                    exact ⟨rfl, St.call (by assumption) hw⟩)))
       try simp only [Act.put, List.setIfInBounds_toArray, List.set])
      refine wpQuiet_nil ?_
      intro w6 hC
      go_wp2_with fail
      go_ret
      exact ⟨rfl, hC.below⟩
end Go.Proofs.Ytepooocdpifcfaa
