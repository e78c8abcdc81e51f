/- GcmTells returns true. No condition. -/
import Derived.Test.YtklcgacbmphjcaaGcBack
namespace Go.Proofs.Ytklcgacbmphjcaa
open Go.RowKit
attribute [local go_sem] B_xor B_or B_and
attribute [local go_sem] blk_set blk_size blk_get blk_getE upd_same oneCells_blk paste_blk cut_blk szOf
attribute [local go_sem high] paste_all cut_head
attribute [local go_sem] rowAt_alloc rowAt_drew rowAt_drewN isRow_alloc isRow_drew isRow_drewN freeRow_alloc freeRow_end freeRow_drew freeRow_drewN
attribute [local go_sem] setRow_alloc setRow_drew setRow_drewN setCell_drewN alloc_drewN rowAt_put isRow_setRow freeRow_put
attribute [local go_sem ↓] loadS_in storeS_in indexS_in copyS_in
attribute [local go_sem] loadS_row loadS_one storeS_row storeS_one indexS_blk copyS_rows run_equalIn_blk same_refl arrayAt_row
attribute [local go_sem] cell_row frozen_row st_setCell st_blk_ne stepAt stepUpon
attribute [local go_sem high] run_eql_blk run_neq_blk
attribute [local go_sem ↓] convBS_in
attribute [local go_sem] convBS_row convBS_nil allBytes_blk bytesOf_blk
attribute [local go_sem] tx_size tx_get0 tx_get1 tx_get2 tx_cut tx_ne tx_one indexS_text strOf_size
attribute [local go_sem ↓] convSB_in
attribute [local go_sem] convSB_row freeRow_endB
attribute [local go_sem high] slice_from slice_to

/-- a byte that is added to another one, and is not nothing -/
def plB (x : UInt8) : UInt8 := 1 + x % 255
theorem plB_ne : ∀ x : UInt8, plB x ≠ 0 := by apply Gf.all256; decide +kernel
theorem xor_plB (y x : UInt8) : y ^^^ plB x ≠ y := fun h => plB_ne x (by
  have : y ^^^ (y ^^^ plB x) = 0 := by rw [h, UInt8.xor_self]
  rwa [← UInt8.xor_assoc, UInt8.xor_self, UInt8.zero_xor] at this)
theorem plB_1 : ∀ x : UInt8, IntKind.u8.wrap (1 + (B x).tmod 255) = B (plB x) := by apply Gf.all256; decide +kernel
theorem plB_2 : ∀ x : UInt8, IntKind.u8.wrap (1 + IntKind.u8.wrap ((B x).tmod 255)) = B (plB x) := by apply Gf.all256; decide +kernel
theorem plB_3 : ∀ x : UInt8, IntKind.u8.wrap (1 + B x % 255) = B (plB x) := by apply Gf.all256; decide +kernel
theorem plB_4 : ∀ x : UInt8, 1 + B x % 255 = B (plB x) := by apply Gf.all256; decide +kernel
theorem strOf_extract (N : Nat) (f : Nat → UInt8) (a b : Nat) (h : b ≤ N) : (strOf N f).extract a b = strOf (b - a) fun i => f (a + i) := by
  have e : ((strOf N f).extract a b).data = (strOf (b - a) fun i => f (a + i)).data := by
    rw [ByteArray.data_extract]
    apply Array.ext_getElem?
    intro i
    rw [Array.getElem?_extract]
    by_cases hi : i < b - a
    · simp [strOf, hi, show a + i < N by omega, Nat.min_eq_left h]
    · simp [strOf, Nat.le_of_not_lt hi, Nat.min_eq_left h]
      omega
  cases h1 : (strOf N f).extract a b
  cases h2 : strOf (b - a) fun i => f (a + i)
  rw [h1, h2] at e
  exact congrArg ByteArray.mk e
theorem cut_strOf (n : Nat) (f : Nat → UInt8) : cutS (strOf (n + 16) f) = strOf n f := by
  unfold cutS
  rw [strOf_size, Nat.add_sub_cancel, strOf_extract _ _ _ _ (by omega), Nat.sub_zero]
  exact strOf_congr fun i _ => by rw [Nat.zero_add]
theorem end_strOf (n : Nat) (f : Nat → UInt8) : endS (strOf (n + 16) f) = strOf 16 fun i => f (n + i) := by
  unfold endS
  rw [strOf_size, Nat.add_sub_cancel, strOf_extract _ _ _ _ (Nat.le_refl _), Nat.add_sub_cancel_left]
theorem ofText_tail (a b : ByteArray) (i : Nat) : ofText (a ++ b) (a.size + i) = ofText b i := by
  unfold ofText
  rw [ByteArray.data_append]
  have hi' : a.data.size ≤ a.size + i := Nat.le_add_right _ _
  have e : a.size + i - a.data.size = i := Nat.add_sub_cancel_left _ _
  rw [Array.getD_eq_getD_getElem?, Array.getD_eq_getD_getElem?, Array.getElem?_append_right hi', e]
theorem tells_tag (r v : Nat → UInt8) (a s : ByteArray) (j : Nat) (x : UInt8) (ha : a.size < 2 ^ 40) (hs : s.size < 2 ^ 40) (hh : same 16 (hashB r) (fun _ => 0) = false)
    (hj : j < a.size + (s.size + 16)) (hx : x ≠ ofText (a ++ sealS r v a s) j) :
    tagged r v (strOf a.size (upd (ofText (a ++ sealS r v a s)) j x)) (strOf (s.size + 16) fun i => upd (ofText (a ++ sealS r v a s)) j x (a.size + i)) = false := by
  have f1 : ∀ i, i < a.size → ofText (a ++ sealS r v a s) i = ofText a i := fun i hi => ofText_head _ _ _ hi
  have f2 : ∀ i, i < s.size → ofText (a ++ sealS r v a s) (a.size + i) = ofText (strS r v 2 s) i := fun i hi => by
    rw [ofText_tail]; unfold sealS; exact ofText_head _ _ _ (by rw [strS_size]; exact hi)
  have f3 : ∀ i, i < 16 → ofText (a ++ sealS r v a s) (a.size + (s.size + i)) = tagB r v a (strS r v 2 s) i := fun i hi => by
    rw [ofText_tail]; unfold sealS
    have := ofText_tail (strS r v 2 s) (tagS r v a (strS r v 2 s)) i
    rw [strS_size] at this
    rw [this]; exact ofText_strOf _ _ _ hi
  generalize ofText (a ++ sealS r v a s) = F at *
  have ea : strOf a.size F = a := by rw [strOf_congr f1, strOf_ofText a _ rfl]
  have ec : (strOf s.size fun i => F (a.size + i)) = strS r v 2 s := by rw [strOf_congr f2, strOf_ofText _ _ (strS_size _ _ _ _)]
  unfold tagged
  rw [cut_strOf, end_strOf]
  by_cases hlo : j < a.size + s.size
  · have h1 := sum_part (hashB r) a.size s.size F j x ha hs hlo hx hh
    rw [ea, ec] at h1
    have h2 : same 16 (tagB r v (strOf a.size (upd F j x)) (strOf s.size fun i => upd F j x (a.size + i))) (ofText (strOf 16 fun i => upd F j x (a.size + (s.size + i)))) = same 16 (tagB r v (strOf a.size (upd F j x)) (strOf s.size fun i => upd F j x (a.size + i))) (tagB r v a (strS r v 2 s)) := by
      have h3 : ∀ i, i < 16 → ofText (strOf 16 fun i => upd F j x (a.size + (s.size + i))) i = tagB r v a (strS r v 2 s) i := fun i hi => by
        rw [ofText_strOf _ _ _ hi, upd_other _ _ _ _ (by omega), f3 i hi]
      unfold same
      exact decide_eq_decide.2 ⟨fun h i hi => by rw [h i hi, h3 i hi], fun h i hi => by rw [h i hi, h3 i hi]⟩
    rw [h2, tag_same, h1]
  · have e1 : strOf a.size (upd F j x) = a := by rw [strOf_congr (g := F) (fun i hi => upd_other _ _ _ _ (by omega)), ea]
    have e2 : (strOf s.size fun i => upd F j x (a.size + i)) = strS r v 2 s := by rw [strOf_congr (g := fun i => F (a.size + i)) (fun i hi => upd_other _ _ _ _ (by omega)), ec]
    rw [e1, e2]
    cases hsm : same 16 (tagB r v a (strS r v 2 s)) (ofText (strOf 16 fun i => upd F j x (a.size + (s.size + i)))) with
    | false => rfl
    | true =>
      exfalso
      have h4 := (same_iff _ _ _).1 hsm (j - (a.size + s.size)) (by omega)
      rw [ofText_strOf _ _ _ (by omega), ← f3 _ (by omega), show a.size + (s.size + (j - (a.size + s.size))) = j by omega, upd_same] at h4
      exact hx h4.symm

set_option maxRecDepth 100000 in
set_option maxHeartbeats 2000000 in
theorem gcmTells_out (k nn : Nat → UInt8) (iv a s : ByteArray) (hout : decide (20 < iv.size ∨ 60 < a.size ∨ 60 < s.size) = true ∨ iv.size ≠ 12 ∨ same 16 (hashB (Ci.rounds k)) (fun _ => 0) = true) (w : World) : Calls Try.prog 8 #[.agg (blk 16 k), .agg (tx iv a s), .agg (blk 2 nn)] w fun e w' => e = .returned (.bool true) ∧ Below w.heap.size w w' := by
  have hz := zero16
  have HC := Lib.hid ((((St.nil w).pushA (blk 16 k) 22 rfl).pushA (tx iv a s) 52 (g := w.heap.size + 1) (by simp)).pushA (blk 2 nn) 60 (g := w.heap.size + 1 + 1) (by simp) |>.pushA (blk 16 k) 25 (g := w.heap.size + 1 + 1 + 1) (by simp))
  cases ho : decide (20 < iv.size ∨ 60 < a.size ∨ 60 < s.size) with
  | true =>
    have HO := Lib.hid ho
    clear ho hout
    go_enter Try.func8, Try.ntmps8
    go_wp2_with fail
    refine (over_tx iv a s true HO.out _).mono ?_; rintro e w1 ⟨rfl, hw⟩
    have HC := Lib.hid (HC.out.call hw)
    clear hw
    have hC := HC.out
    (have HC := Lib.hid hC
     have sos := hC.below.os
     obtain ⟨⟨r1, f1, i1, b1, l1⟩, ⟨r2, f2, i2, b2, l2⟩, ⟨r3, f3, i3, b3, l3⟩, ⟨r4, f4, i4, b4, l4⟩, m12, m21, m13, m31, m14, m41, m23, m32, m24, m42, m34, m43⟩ := St.facts4 hC
     clear hC)
    go_wp2_with fail
    (clear r1 f1 i1 b1 l1 r2 f2 i2 b2 l2 r3 f3 i3 b3 l3 r4 f4 i4 b4 l4 m12 m21 m13 m31 m14 m41 m23 m32 m24 m42 m34 m43 sos)
    refine (awake09_any _).mono ?_; rintro e w2 ⟨rfl, hw⟩
    have HC := Lib.hid (HC.out.call hw)
    clear hw
    have sos := HC.out.os
    go_wp2_with fail
    go_ret
    exact ⟨rfl, HC.out.below⟩
  | false =>
    have HO := Lib.hid ho
    rw [ho] at hout
    clear ho
    by_cases h12 : iv.size = 12
    · have t1 : ((iv.size : Int) != 12) = false := by simp; omega
      have hh : same 16 (hashB (Ci.rounds k)) (fun _ => 0) = true := by
        rcases hout with h | h | h
        · cases h
        · exact (h h12).elim
        · exact h
      clear h12 hout
      go_enter Try.func8, Try.ntmps8
      go_wp2_with fail
      refine (over_tx iv a s false HO.out _).mono ?_; rintro e w1 ⟨rfl, hw⟩
      have HC := Lib.hid (HC.out.call hw)
      clear hw
      have hC := HC.out
      (have HC := Lib.hid hC
       have sos := hC.below.os
       obtain ⟨⟨r1, f1, i1, b1, l1⟩, ⟨r2, f2, i2, b2, l2⟩, ⟨r3, f3, i3, b3, l3⟩, ⟨r4, f4, i4, b4, l4⟩, m12, m21, m13, m31, m14, m41, m23, m32, m24, m42, m34, m43⟩ := St.facts4 hC
       clear hC)
      go_wp2_with fail
      (clear r1 f1 i1 b1 l1 r2 f2 i2 b2 l2 r3 f3 i3 b3 l3 r4 f4 i4 b4 l4 m12 m21 m13 m31 m14 m41 m23 m32 m24 m42 m34 m43 sos)
      refine (hash_any _ _).mono ?_; rintro e w2 ⟨rfl, hw⟩
      have HC := Lib.hid (HC.out.call hw)
      clear hw
      have hC := HC.out
      (have HC := Lib.hid hC
       have sos := hC.below.os
       obtain ⟨⟨r1, f1, i1, b1, l1⟩, ⟨r2, f2, i2, b2, l2⟩, ⟨r3, f3, i3, b3, l3⟩, ⟨r4, f4, i4, b4, l4⟩, m12, m21, m13, m31, m14, m41, m23, m32, m24, m42, m34, m43⟩ := St.facts4 hC
       clear hC)
      go_wp2_with fail
      (clear r1 f1 i1 b1 l1 r2 f2 i2 b2 l2 r3 f3 i3 b3 l3 r4 f4 i4 b4 l4 m12 m21 m13 m31 m14 m41 m23 m32 m24 m42 m34 m43 sos)
      refine (awake09_any _).mono ?_; rintro e w3 ⟨rfl, hw⟩
      have HC := Lib.hid (HC.out.call hw)
      clear hw
      have sos := HC.out.os
      go_wp2_with fail
      go_ret
      exact ⟨rfl, HC.out.below⟩
    · have t1 : ((iv.size : Int) != 12) = true := by simp; omega
      clear h12 hout
      go_enter Try.func8, Try.ntmps8
      go_wp2_with fail
      refine (over_tx iv a s false HO.out _).mono ?_; rintro e w1 ⟨rfl, hw⟩
      have HC := Lib.hid (HC.out.call hw)
      clear hw
      have hC := HC.out
      (have HC := Lib.hid hC
       have sos := hC.below.os
       obtain ⟨⟨r1, f1, i1, b1, l1⟩, ⟨r2, f2, i2, b2, l2⟩, ⟨r3, f3, i3, b3, l3⟩, ⟨r4, f4, i4, b4, l4⟩, m12, m21, m13, m31, m14, m41, m23, m32, m24, m42, m34, m43⟩ := St.facts4 hC
       clear hC)
      go_wp2_with fail
      (clear r1 f1 i1 b1 l1 r2 f2 i2 b2 l2 r3 f3 i3 b3 l3 r4 f4 i4 b4 l4 m12 m21 m13 m31 m14 m41 m23 m32 m24 m42 m34 m43 sos)
      refine (awake09_any _).mono ?_; rintro e w2 ⟨rfl, hw⟩
      have HC := Lib.hid (HC.out.call hw)
      clear hw
      have sos := HC.out.os
      go_wp2_with fail
      go_ret
      exact ⟨rfl, HC.out.below⟩

set_option maxRecDepth 100000 in
set_option maxHeartbeats 4000000 in
theorem gcmTells_in (k nn : Nat → UInt8) (iv a s : ByteArray) (ho : decide (20 < iv.size ∨ 60 < a.size ∨ 60 < s.size) = false) (h12 : iv.size = 12) (hh : same 16 (hashB (Ci.rounds k)) (fun _ => 0) = false) (w : World) : Calls Try.prog 8 #[.agg (blk 16 k), .agg (tx iv a s), .agg (blk 2 nn)] w fun e w' => e = .returned (.bool true) ∧ Below w.heap.size w w' := by
  have hz := zero16
  have HO := Lib.hid ho
  have hlo := of_decide_eq_false ho
  have t1 : ((iv.size : Int) != 12) = false := by simp; omega
  have s60 : (s.size : Int) ≤ 60 := by omega
  have a60 : (a.size : Int) ≤ 60 := by omega
  have HC := Lib.hid ((((St.nil w).pushA (blk 16 k) 22 rfl).pushA (tx iv a s) 52 (g := w.heap.size + 1) (by simp)).pushA (blk 2 nn) 60 (g := w.heap.size + 1 + 1) (by simp) |>.pushA (blk 16 k) 25 (g := w.heap.size + 1 + 1 + 1) (by simp))
  obtain ⟨S, A, cS, hS, es, hA, HT⟩ : ∃ S A : ByteArray,
      Hid (∀ w, Calls Try.prog 27 #[.agg (blk 16 k), .string iv, .string a, .string s] w fun e w' => e = .returned (.tuple #[.string S, .int .i64 0]) ∧ Below w.heap.size w w') ∧ S.size = s.size + 16 ∧ a ++ S = A ∧ A.size = a.size + (s.size + 16) ∧
      Hid (∀ j x, j < A.size → x ≠ ofText A j → ∀ w, Calls Try.prog 29 #[.agg (blk 16 k), .string iv, .string (strOf a.size (upd (ofText A) j x)), .string (strOf (s.size + 16) fun i => upd (ofText A) j x (a.size + i))] w fun e w' => e = .returned (.tuple #[.string ⟨#[]⟩, .int .i64 11]) ∧ Below w.heap.size w w') := by
    refine ⟨_, _, Lib.hid fun w => gcSeal_any k iv a s (by omega) (by omega) h12 w, sealS_size _ _ _ _, rfl, by rw [ByteArray.size_append, sealS_size], Lib.hid fun j x hj hx w => ?_⟩
    refine gcOpen_full k iv _ _ (by rw [strOf_size]; omega) (by rw [strOf_size]; omega) h12 (by rw [strOf_size]; omega) false ?_ ⟨#[]⟩ 11 (.inr ⟨rfl, rfl, rfl⟩) w
    exact tells_tag _ _ a s j x (by omega) (by omega) hh (by rw [ByteArray.size_append, sealS_size] at hj; exact hj) hx
  have d1 : ((S.size : Int) != (s.size : Int) + 16) = false := by rw [hS]; simp
  have S76 : (S.size : Int) ≤ 76 := by omega
  have HS := Lib.hid hS
  have HA := Lib.hid hA
  have hpos : 0 < A.size := by omega
  clear ho hlo h12 hS hA
  go_enter Try.func8, Try.ntmps8
  go_wp2_with fail
  refine (over_tx iv a s false HO.out _).mono ?_; rintro e w1 ⟨rfl, hw⟩
  have HC := Lib.hid (HC.out.call hw)
  clear hw
  have hC := HC.out
  (have HC := Lib.hid hC
   have sos := hC.below.os
   obtain ⟨⟨r1, f1, i1, b1, l1⟩, ⟨r2, f2, i2, b2, l2⟩, ⟨r3, f3, i3, b3, l3⟩, ⟨r4, f4, i4, b4, l4⟩, m12, m21, m13, m31, m14, m41, m23, m32, m24, m42, m34, m43⟩ := St.facts4 hC
   clear hC)
  go_wp2_with fail
  (clear r1 f1 i1 b1 l1 r2 f2 i2 b2 l2 r3 f3 i3 b3 l3 r4 f4 i4 b4 l4 m12 m21 m13 m31 m14 m41 m23 m32 m24 m42 m34 m43 sos)
  refine (hash_any _ _).mono ?_; rintro e w2 ⟨rfl, hw⟩
  have HC := Lib.hid (HC.out.call hw)
  clear hw
  have hC := HC.out
  (have HC := Lib.hid hC
   have sos := hC.below.os
   obtain ⟨⟨r1, f1, i1, b1, l1⟩, ⟨r2, f2, i2, b2, l2⟩, ⟨r3, f3, i3, b3, l3⟩, ⟨r4, f4, i4, b4, l4⟩, m12, m21, m13, m31, m14, m41, m23, m32, m24, m42, m34, m43⟩ := St.facts4 hC
   clear hC)
  go_wp2_with fail
  (clear r1 f1 i1 b1 l1 r2 f2 i2 b2 l2 r3 f3 i3 b3 l3 r4 f4 i4 b4 l4 m12 m21 m13 m31 m14 m41 m23 m32 m24 m42 m34 m43 sos)
  refine (cS.out _).mono ?_; rintro e w3 ⟨rfl, hw⟩
  have HC := Lib.hid (HC.out.call hw)
  clear hw
  have hC := HC.out
  have hcp := Lib.hid (capS_ge w3 A.size 5)
  (have HC := Lib.hid hC
   have sos := hC.below.os
   obtain ⟨⟨r1, f1, i1, b1, l1⟩, ⟨r2, f2, i2, b2, l2⟩, ⟨r3, f3, i3, b3, l3⟩, ⟨r4, f4, i4, b4, l4⟩, m12, m21, m13, m31, m14, m41, m23, m32, m24, m42, m34, m43⟩ := St.facts4 hC
   clear hC)
  go_wp2_with fail
  (clear r1 f1 i1 b1 l1 r2 f2 i2 b2 l2 r3 f3 i3 b3 l3 r4 f4 i4 b4 l4 m12 m21 m13 m31 m14 m41 m23 m32 m24 m42 m34 m43 sos)
  generalize capS w3 A.size 5 = cp at hcp ⊢
  have HC := Lib.hid (((HC.out.pushM cp (ofText A) 5 (cp + 1))).drew)
  generalize w3.heap.size = ga at HC ⊢
  have hc := hcp.out
  obtain ⟨j, hj⟩ : ∃ j, (nn 0).toNat % A.size = j := ⟨_, rfl⟩
  have hjs : j < A.size := by rw [← hj]; exact Nat.mod_lt _ hpos
  have e1 : (B (nn 0)).tmod (A.size : Int) = (j : Int) := by
    rw [Int.tmod_eq_emod_of_nonneg (B_bd _).1, ← hj]; unfold B; omega
  have e1' : B (nn 0) % (A.size : Int) = (j : Int) := by rw [← hj]; unfold B; omega
  have e2 : IntKind.i64.wrap (j : Int) = (j : Int) := IntWalk.i64_in _ (by have := HA.out; omega)
  have e3 : (j : Int) < (A.size : Int) := by omega
  have e4 : j < cp := by omega
  have e5 : IntKind.i64.wrap (B (nn 0)) = B (nn 0) := IntWalk.i64_in _ (by have := B_bd (nn 0); omega)
  have e6 : (A = ByteArray.empty) = False := by
    simp only [eq_iff_iff, iff_false]
    intro h; rw [h] at hpos; cases hpos
  have b0 := B_bd (nn 0)
  have b1 := B_bd (nn 1)
  have p1 := plB_1 (nn 1)
  have p2 := plB_2 (nn 1)
  have p3 := plB_3 (nn 1)
  have p4 := plB_4 (nn 1)
  clear hj d1
  refine St.region_tail 15 HC.out (by kernel_rfl) (by decide +kernel) ?_
  (simp only [List.take, List.drop])
  (first
     | (apply head_skip rfl)
     | (apply head_step_g rfl
        focus
          intro w0' hC
          have hC' := Lib.hid hC
          obtain ⟨⟨r1, f1, i1, b1', l1⟩, ⟨r2, f2, i2, b2', l2⟩, m12, m21⟩ := St.facts2 (hC.pick [0, 2] (by decide) rfl)
          clear hC
          go_simp
          have hC := hC'.out
          (first
             | with_reducible rfl
             | (skip
                (first
                   | (go_at_call 29; refine (cO.out _).mono ?_))
                rintro e w' ⟨rfl, hw⟩
                exact ⟨rfl, St.call (by assumption) hw⟩)))
   try simp only [Act.put, List.setIfInBounds_toArray, List.set])
  (first
     | (apply head_skip rfl)
     | (apply head_step_g rfl
        focus
          intro w0' hC
          have hC' := Lib.hid hC
          obtain ⟨⟨r1, f1, i1, b1', l1⟩, ⟨r2, f2, i2, b2', l2⟩, m12, m21⟩ := St.facts2 (hC.pick [0, 2] (by decide) rfl)
          clear hC
          go_simp
          have hC := hC'.out
          (first
             | with_reducible rfl
             | (skip
                (first
                   | (go_at_call 29; refine (cO.out _).mono ?_))
                rintro e w' ⟨rfl, hw⟩
                exact ⟨rfl, St.call (by assumption) hw⟩)))
   try simp only [Act.put, List.setIfInBounds_toArray, List.set])
  (first
     | (apply head_skip rfl)
     | (apply head_step_g rfl
        focus
          intro w0' hC
          have hC' := Lib.hid hC
          obtain ⟨⟨r1, f1, i1, b1', l1⟩, ⟨r2, f2, i2, b2', l2⟩, m12, m21⟩ := St.facts2 (hC.pick [0, 2] (by decide) rfl)
          clear hC
          go_simp
          have hC := hC'.out
          (first
             | with_reducible rfl
             | (skip
                (first
                   | (go_at_call 29; refine (cO.out _).mono ?_))
                rintro e w' ⟨rfl, hw⟩
                exact ⟨rfl, St.call (by assumption) hw⟩)))
   try simp only [Act.put, List.setIfInBounds_toArray, List.set])
  (first
     | (apply head_skip rfl)
     | (apply head_step_g rfl
        focus
          intro w0' hC
          have hC' := Lib.hid hC
          obtain ⟨⟨r1, f1, i1, b1', l1⟩, ⟨r2, f2, i2, b2', l2⟩, m12, m21⟩ := St.facts2 (hC.pick [0, 2] (by decide) rfl)
          clear hC
          go_simp
          have hC := hC'.out
          (first
             | with_reducible rfl
             | (skip
                (first
                   | (go_at_call 29; refine (cO.out _).mono ?_))
                rintro e w' ⟨rfl, hw⟩
                exact ⟨rfl, St.call (by assumption) hw⟩)))
   try simp only [Act.put, List.setIfInBounds_toArray, List.set])
  (first
     | (apply head_skip rfl)
     | (apply head_step_g rfl
        focus
          intro w0' hC
          have hC' := Lib.hid hC
          obtain ⟨⟨r1, f1, i1, b1', l1⟩, ⟨r2, f2, i2, b2', l2⟩, m12, m21⟩ := St.facts2 (hC.pick [0, 2] (by decide) rfl)
          clear hC
          go_simp
          have hC := hC'.out
          (first
             | with_reducible rfl
             | (skip
                (first
                   | (go_at_call 29; refine (cO.out _).mono ?_))
                rintro e w' ⟨rfl, hw⟩
                exact ⟨rfl, St.call (by assumption) hw⟩)))
   try simp only [Act.put, List.setIfInBounds_toArray, List.set])
  (first
     | (apply head_skip rfl)
     | (apply head_step_g rfl
        focus
          intro w0' hC
          have hC' := Lib.hid hC
          obtain ⟨⟨r1, f1, i1, b1', l1⟩, ⟨r2, f2, i2, b2', l2⟩, m12, m21⟩ := St.facts2 (hC.pick [0, 2] (by decide) rfl)
          clear hC
          go_simp
          have hC := hC'.out
          (first
             | with_reducible rfl
             | (skip
                (first
                   | (go_at_call 29; refine (cO.out _).mono ?_))
                rintro e w' ⟨rfl, hw⟩
                exact ⟨rfl, St.call (by assumption) hw⟩)))
   try simp only [Act.put, List.setIfInBounds_toArray, List.set])
  (first
     | (apply head_skip rfl)
     | (apply head_step_g rfl
        focus
          intro w0' hC
          have hC' := Lib.hid hC
          obtain ⟨⟨r1, f1, i1, b1', l1⟩, ⟨r2, f2, i2, b2', l2⟩, m12, m21⟩ := St.facts2 (hC.pick [0, 2] (by decide) rfl)
          clear hC
          go_simp
          have hC := hC'.out
          (first
             | with_reducible rfl
             | (skip
                (first
                   | (go_at_call 29; refine (cO.out _).mono ?_))
                rintro e w' ⟨rfl, hw⟩
                exact ⟨rfl, St.call (by assumption) hw⟩)))
   try simp only [Act.put, List.setIfInBounds_toArray, List.set])
  (first
     | (apply head_skip rfl)
     | (apply head_step_g rfl
        focus
          intro w0' hC
          have hC' := Lib.hid hC
          obtain ⟨⟨r1, f1, i1, b1', l1⟩, ⟨r2, f2, i2, b2', l2⟩, m12, m21⟩ := St.facts2 (hC.pick [0, 2] (by decide) rfl)
          clear hC
          go_simp
          have hC := hC'.out
          (first
             | with_reducible rfl
             | (skip
                (first
                   | (go_at_call 29; refine (cO.out _).mono ?_))
                rintro e w' ⟨rfl, hw⟩
                exact ⟨rfl, St.call (by assumption) hw⟩)))
   try simp only [Act.put, List.setIfInBounds_toArray, List.set])
  (first
     | (apply head_skip rfl)
     | (apply head_step_g rfl
        focus
          intro w0' hC
          have hC' := Lib.hid hC
          obtain ⟨⟨r1, f1, i1, b1', l1⟩, ⟨r2, f2, i2, b2', l2⟩, m12, m21⟩ := St.facts2 (hC.pick [0, 2] (by decide) rfl)
          clear hC
          go_simp
          have hC := hC'.out
          (first
             | with_reducible rfl
             | (skip
                (first
                   | (go_at_call 29; refine (cO.out _).mono ?_))
                rintro e w' ⟨rfl, hw⟩
                exact ⟨rfl, St.call (by assumption) hw⟩)))
   try simp only [Act.put, List.setIfInBounds_toArray, List.set])
  (first
     | (apply head_skip rfl)
     | (apply head_step_g rfl
        focus
          intro w0' hC
          have hC' := Lib.hid hC
          obtain ⟨⟨r1, f1, i1, b1', l1⟩, ⟨r2, f2, i2, b2', l2⟩, m12, m21⟩ := St.facts2 (hC.pick [0, 2] (by decide) rfl)
          clear hC
          go_simp
          have hC := hC'.out
          (first
             | with_reducible rfl
             | (skip
                (first
                   | (go_at_call 29; refine (cO.out _).mono ?_))
                rintro e w' ⟨rfl, hw⟩
                exact ⟨rfl, St.call (by assumption) hw⟩)))
   try simp only [Act.put, List.setIfInBounds_toArray, List.set])
  (first
     | (apply head_skip rfl)
     | (apply head_step_g rfl
        focus
          intro w0' hC
          have hC' := Lib.hid hC
          obtain ⟨⟨r1, f1, i1, b1', l1⟩, ⟨r2, f2, i2, b2', l2⟩, m12, m21⟩ := St.facts2 (hC.pick [0, 2] (by decide) rfl)
          clear hC
          go_simp
          have hC := hC'.out
          (first
             | with_reducible rfl
             | (skip
                (first
                   | (go_at_call 29; refine (cO.out _).mono ?_))
                rintro e w' ⟨rfl, hw⟩
                exact ⟨rfl, St.call (by assumption) hw⟩)))
   try simp only [Act.put, List.setIfInBounds_toArray, List.set])
  (first
     | (apply head_skip rfl)
     | (apply head_step_g rfl
        focus
          intro w0' hC
          have hC' := Lib.hid hC
          obtain ⟨⟨r1, f1, i1, b1', l1⟩, ⟨r2, f2, i2, b2', l2⟩, m12, m21⟩ := St.facts2 (hC.pick [0, 2] (by decide) rfl)
          clear hC
          go_simp
          have hC := hC'.out
          (first
             | with_reducible rfl
             | (skip
                (first
                   | (go_at_call 29; refine (cO.out _).mono ?_))
                rintro e w' ⟨rfl, hw⟩
                exact ⟨rfl, St.call (by assumption) hw⟩)))
   try simp only [Act.put, List.setIfInBounds_toArray, List.set])
  (first
     | (apply head_skip rfl)
     | (apply head_step_g rfl
        focus
          intro w0' hC
          have hC' := Lib.hid hC
          obtain ⟨⟨r1, f1, i1, b1', l1⟩, ⟨r2, f2, i2, b2', l2⟩, m12, m21⟩ := St.facts2 (hC.pick [0, 2] (by decide) rfl)
          clear hC
          go_simp
          have hC := hC'.out
          (first
             | with_reducible rfl
             | (skip
                (first
                   | (go_at_call 29; refine (cO.out _).mono ?_))
                rintro e w' ⟨rfl, hw⟩
                exact ⟨rfl, St.call (by assumption) hw⟩)))
   try simp only [Act.put, List.setIfInBounds_toArray, List.set])
  (first
     | (apply head_skip rfl)
     | (apply head_step_g rfl
        focus
          intro w0' hC
          have hC' := Lib.hid hC
          obtain ⟨⟨r1, f1, i1, b1', l1⟩, ⟨r2, f2, i2, b2', l2⟩, m12, m21⟩ := St.facts2 (hC.pick [0, 2] (by decide) rfl)
          clear hC
          go_simp
          have hC := hC'.out
          (first
             | with_reducible rfl
             | (skip
                (first
                   | (go_at_call 29; refine (cO.out _).mono ?_))
                rintro e w' ⟨rfl, hw⟩
                exact ⟨rfl, St.call (by assumption) hw⟩)))
   try simp only [Act.put, List.setIfInBounds_toArray, List.set])
  (first
     | (apply head_skip rfl)
     | (apply head_step_g rfl
        focus
          intro w0' hC
          have hC' := Lib.hid hC
          obtain ⟨⟨r1, f1, i1, b1', l1⟩, ⟨r2, f2, i2, b2', l2⟩, m12, m21⟩ := St.facts2 (hC.pick [0, 2] (by decide) rfl)
          clear hC
          go_simp
          have hC := hC'.out
          (first
             | with_reducible rfl
             | (skip
                (first
                   | (go_at_call 29; refine (cO.out _).mono ?_))
                rintro e w' ⟨rfl, hw⟩
                exact ⟨rfl, St.call (by assumption) hw⟩)))
   try simp only [Act.put, List.setIfInBounds_toArray, List.set])
  refine wpQuiet_nil ?_
  intro w4 hC
  clear HC
  have HC := Lib.hid hC
  have sos := hC.below.os
  obtain ⟨r1, f1, i1, b1', l1⟩ := St.head1 hC
  clear hC
  go_wp2_with fail
  have HC := Lib.hid (HC.out.set_head (blk cp (upd (ofText A) j (ofText A j ^^^ plB (nn 1)))))
  clear r1 f1 i1 b1' l1 sos e1 e1' e2 e3 e5 e6 p1 p2 p3 p4 b0 b1
  have q1 : (a.size : Int) ≤ (cp : Int) := by have := HA.out; omega
  have q2 : (a.size : Int) ≤ (A.size : Int) := by have := HA.out; omega
  have q3 : sOff 0 cp a.size + (A.size - a.size) ≤ cp := sOff_le _ _ _ (by have := HA.out; omega)
  have q4 : a.size ≤ cp := by omega
  obtain ⟨T, Z, cO, q5, q6⟩ : ∃ T Z : ByteArray, Hid (∀ w, Calls Try.prog 29 #[.agg (blk 16 k), .string iv, .string T, .string Z] w fun e w' => e = .returned (.tuple #[.string ⟨#[]⟩, .int .i64 11]) ∧ Below w.heap.size w w') ∧
      strOf a.size (upd (ofText A) j (ofText A j ^^^ plB (nn 1))) = T ∧ strOf (A.size - a.size) (fun i => upd (ofText A) j (ofText A j ^^^ plB (nn 1)) (sOff 0 cp a.size + i)) = Z := by
    refine ⟨_, _, Lib.hid fun w => HT.out j (ofText A j ^^^ plB (nn 1)) hjs (xor_plB _ _) w, rfl, ?_⟩
    have := strOf_off cp a.size (A.size - a.size) (upd (ofText A) j (ofText A j ^^^ plB (nn 1))) (by have := HA.out; omega)
    rw [Nat.add_sub_cancel_left] at this
    rw [this, show A.size - a.size = s.size + 16 by have := HA.out; omega]
  refine St.region HC.out (by kernel_rfl) (by kernel_rfl) ?_
  (first
     | (apply head_skip rfl)
     | (apply head_step_g rfl
        focus
          intro w0' hC
          have hC' := Lib.hid hC
          obtain ⟨⟨r1, f1, i1, b1', l1⟩, ⟨r2, f2, i2, b2', l2⟩, ⟨r3, f3, i3, b3', l3⟩, m12, m21, m13, m31, m23, m32⟩ := St.facts3 (hC.pick [0, 1, 3] (by decide) rfl)
          clear hC
          go_simp
          have hC := hC'.out
          (first
             | with_reducible rfl
             | (skip
                (first
                   | (go_at_call 29; refine (cO.out _).mono ?_))
                rintro e w' ⟨rfl, hw⟩
                exact ⟨rfl, St.call (by assumption) hw⟩)))
   try simp only [Act.put, List.setIfInBounds_toArray, List.set])
  (first
     | (apply head_skip rfl)
     | (apply head_step_g rfl
        focus
          intro w0' hC
          have hC' := Lib.hid hC
          obtain ⟨⟨r1, f1, i1, b1', l1⟩, ⟨r2, f2, i2, b2', l2⟩, ⟨r3, f3, i3, b3', l3⟩, m12, m21, m13, m31, m23, m32⟩ := St.facts3 (hC.pick [0, 1, 3] (by decide) rfl)
          clear hC
          go_simp
          have hC := hC'.out
          (first
             | with_reducible rfl
             | (skip
                (first
                   | (go_at_call 29; refine (cO.out _).mono ?_))
                rintro e w' ⟨rfl, hw⟩
                exact ⟨rfl, St.call (by assumption) hw⟩)))
   try simp only [Act.put, List.setIfInBounds_toArray, List.set])
  (first
     | (apply head_skip rfl)
     | (apply head_step_g rfl
        focus
          intro w0' hC
          have hC' := Lib.hid hC
          obtain ⟨⟨r1, f1, i1, b1', l1⟩, ⟨r2, f2, i2, b2', l2⟩, ⟨r3, f3, i3, b3', l3⟩, m12, m21, m13, m31, m23, m32⟩ := St.facts3 (hC.pick [0, 1, 3] (by decide) rfl)
          clear hC
          go_simp
          have hC := hC'.out
          (first
             | with_reducible rfl
             | (skip
                (first
                   | (go_at_call 29; refine (cO.out _).mono ?_))
                rintro e w' ⟨rfl, hw⟩
                exact ⟨rfl, St.call (by assumption) hw⟩)))
   try simp only [Act.put, List.setIfInBounds_toArray, List.set])
  (first
     | (apply head_skip rfl)
     | (apply head_step_g rfl
        focus
          intro w0' hC
          have hC' := Lib.hid hC
          obtain ⟨⟨r1, f1, i1, b1', l1⟩, ⟨r2, f2, i2, b2', l2⟩, ⟨r3, f3, i3, b3', l3⟩, m12, m21, m13, m31, m23, m32⟩ := St.facts3 (hC.pick [0, 1, 3] (by decide) rfl)
          clear hC
          go_simp
          have hC := hC'.out
          (first
             | with_reducible rfl
             | (skip
                (first
                   | (go_at_call 29; refine (cO.out _).mono ?_))
                rintro e w' ⟨rfl, hw⟩
                exact ⟨rfl, St.call (by assumption) hw⟩)))
   try simp only [Act.put, List.setIfInBounds_toArray, List.set])
  (first
     | (apply head_skip rfl)
     | (apply head_step_g rfl
        focus
          intro w0' hC
          have hC' := Lib.hid hC
          obtain ⟨⟨r1, f1, i1, b1', l1⟩, ⟨r2, f2, i2, b2', l2⟩, ⟨r3, f3, i3, b3', l3⟩, m12, m21, m13, m31, m23, m32⟩ := St.facts3 (hC.pick [0, 1, 3] (by decide) rfl)
          clear hC
          go_simp
          have hC := hC'.out
          (first
             | with_reducible rfl
             | (skip
                (first
                   | (go_at_call 29; refine (cO.out _).mono ?_))
                rintro e w' ⟨rfl, hw⟩
                exact ⟨rfl, St.call (by assumption) hw⟩)))
   try simp only [Act.put, List.setIfInBounds_toArray, List.set])
  (first
     | (apply head_skip rfl)
     | (apply head_step_g rfl
        focus
          intro w0' hC
          have hC' := Lib.hid hC
          obtain ⟨⟨r1, f1, i1, b1', l1⟩, ⟨r2, f2, i2, b2', l2⟩, ⟨r3, f3, i3, b3', l3⟩, m12, m21, m13, m31, m23, m32⟩ := St.facts3 (hC.pick [0, 1, 3] (by decide) rfl)
          clear hC
          go_simp
          have hC := hC'.out
          (first
             | with_reducible rfl
             | (skip
                (first
                   | (go_at_call 29; refine (cO.out _).mono ?_))
                rintro e w' ⟨rfl, hw⟩
                exact ⟨rfl, St.call (by assumption) hw⟩)))
   try simp only [Act.put, List.setIfInBounds_toArray, List.set])
  (first
     | (apply head_skip rfl)
     | (apply head_step_g rfl
        focus
          intro w0' hC
          have hC' := Lib.hid hC
          obtain ⟨⟨r1, f1, i1, b1', l1⟩, ⟨r2, f2, i2, b2', l2⟩, ⟨r3, f3, i3, b3', l3⟩, m12, m21, m13, m31, m23, m32⟩ := St.facts3 (hC.pick [0, 1, 3] (by decide) rfl)
          clear hC
          go_simp
          have hC := hC'.out
          (first
             | with_reducible rfl
             | (skip
                (first
                   | (go_at_call 29; refine (cO.out _).mono ?_))
                rintro e w' ⟨rfl, hw⟩
                exact ⟨rfl, St.call (by assumption) hw⟩)))
   try simp only [Act.put, List.setIfInBounds_toArray, List.set])
  (first
     | (apply head_skip rfl)
     | (apply head_step_g rfl
        focus
          intro w0' hC
          have hC' := Lib.hid hC
          obtain ⟨⟨r1, f1, i1, b1', l1⟩, ⟨r2, f2, i2, b2', l2⟩, ⟨r3, f3, i3, b3', l3⟩, m12, m21, m13, m31, m23, m32⟩ := St.facts3 (hC.pick [0, 1, 3] (by decide) rfl)
          clear hC
          go_simp
          have hC := hC'.out
          (first
             | with_reducible rfl
             | (skip
                (first
                   | (go_at_call 29; refine (cO.out _).mono ?_))
                rintro e w' ⟨rfl, hw⟩
                exact ⟨rfl, St.call (by assumption) hw⟩)))
   try simp only [Act.put, List.setIfInBounds_toArray, List.set])
  (first
     | (apply head_skip rfl)
     | (apply head_step_g rfl
        focus
          intro w0' hC
          have hC' := Lib.hid hC
          obtain ⟨⟨r1, f1, i1, b1', l1⟩, ⟨r2, f2, i2, b2', l2⟩, ⟨r3, f3, i3, b3', l3⟩, m12, m21, m13, m31, m23, m32⟩ := St.facts3 (hC.pick [0, 1, 3] (by decide) rfl)
          clear hC
          go_simp
          have hC := hC'.out
          (first
             | with_reducible rfl
             | (skip
                (first
                   | (go_at_call 29; refine (cO.out _).mono ?_))
                rintro e w' ⟨rfl, hw⟩
                exact ⟨rfl, St.call (by assumption) hw⟩)))
   try simp only [Act.put, List.setIfInBounds_toArray, List.set])
  (first
     | (apply head_skip rfl)
     | (apply head_step_g rfl
        focus
          intro w0' hC
          have hC' := Lib.hid hC
          obtain ⟨⟨r1, f1, i1, b1', l1⟩, ⟨r2, f2, i2, b2', l2⟩, ⟨r3, f3, i3, b3', l3⟩, m12, m21, m13, m31, m23, m32⟩ := St.facts3 (hC.pick [0, 1, 3] (by decide) rfl)
          clear hC
          go_simp
          have hC := hC'.out
          (first
             | with_reducible rfl
             | (skip
                (first
                   | (go_at_call 29; refine (cO.out _).mono ?_))
                rintro e w' ⟨rfl, hw⟩
                exact ⟨rfl, St.call (by assumption) hw⟩)))
   try simp only [Act.put, List.setIfInBounds_toArray, List.set])
  (first
     | (apply head_skip rfl)
     | (apply head_step_g rfl
        focus
          intro w0' hC
          have hC' := Lib.hid hC
          obtain ⟨⟨r1, f1, i1, b1', l1⟩, ⟨r2, f2, i2, b2', l2⟩, ⟨r3, f3, i3, b3', l3⟩, m12, m21, m13, m31, m23, m32⟩ := St.facts3 (hC.pick [0, 1, 3] (by decide) rfl)
          clear hC
          go_simp
          have hC := hC'.out
          (first
             | with_reducible rfl
             | (skip
                (first
                   | (go_at_call 29; refine (cO.out _).mono ?_))
                rintro e w' ⟨rfl, hw⟩
                exact ⟨rfl, St.call (by assumption) hw⟩)))
   try simp only [Act.put, List.setIfInBounds_toArray, List.set])
  (first
     | (apply head_skip rfl)
     | (apply head_step_g rfl
        focus
          intro w0' hC
          have hC' := Lib.hid hC
          obtain ⟨⟨r1, f1, i1, b1', l1⟩, ⟨r2, f2, i2, b2', l2⟩, ⟨r3, f3, i3, b3', l3⟩, m12, m21, m13, m31, m23, m32⟩ := St.facts3 (hC.pick [0, 1, 3] (by decide) rfl)
          clear hC
          go_simp
          have hC := hC'.out
          (first
             | with_reducible rfl
             | (skip
                (first
                   | (go_at_call 29; refine (cO.out _).mono ?_))
                rintro e w' ⟨rfl, hw⟩
                exact ⟨rfl, St.call (by assumption) hw⟩)))
   try simp only [Act.put, List.setIfInBounds_toArray, List.set])
  (first
     | (apply head_skip rfl)
     | (apply head_step_g rfl
        focus
          intro w0' hC
          have hC' := Lib.hid hC
          obtain ⟨⟨r1, f1, i1, b1', l1⟩, ⟨r2, f2, i2, b2', l2⟩, ⟨r3, f3, i3, b3', l3⟩, m12, m21, m13, m31, m23, m32⟩ := St.facts3 (hC.pick [0, 1, 3] (by decide) rfl)
          clear hC
          go_simp
          have hC := hC'.out
          (first
             | with_reducible rfl
             | (skip
                (first
                   | (go_at_call 29; refine (cO.out _).mono ?_))
                rintro e w' ⟨rfl, hw⟩
                exact ⟨rfl, St.call (by assumption) hw⟩)))
   try simp only [Act.put, List.setIfInBounds_toArray, List.set])
  (first
     | (apply head_skip rfl)
     | (apply head_step_g rfl
        focus
          intro w0' hC
          have hC' := Lib.hid hC
          obtain ⟨⟨r1, f1, i1, b1', l1⟩, ⟨r2, f2, i2, b2', l2⟩, ⟨r3, f3, i3, b3', l3⟩, m12, m21, m13, m31, m23, m32⟩ := St.facts3 (hC.pick [0, 1, 3] (by decide) rfl)
          clear hC
          go_simp
          have hC := hC'.out
          (first
             | with_reducible rfl
             | (skip
                (first
                   | (go_at_call 29; refine (cO.out _).mono ?_))
                rintro e w' ⟨rfl, hw⟩
                exact ⟨rfl, St.call (by assumption) hw⟩)))
   try simp only [Act.put, List.setIfInBounds_toArray, List.set])
  (first
     | (apply head_skip rfl)
     | (apply head_step_g rfl
        focus
          intro w0' hC
          have hC' := Lib.hid hC
          obtain ⟨⟨r1, f1, i1, b1', l1⟩, ⟨r2, f2, i2, b2', l2⟩, ⟨r3, f3, i3, b3', l3⟩, m12, m21, m13, m31, m23, m32⟩ := St.facts3 (hC.pick [0, 1, 3] (by decide) rfl)
          clear hC
          go_simp
          have hC := hC'.out
          (first
             | with_reducible rfl
             | (skip
                (first
                   | (go_at_call 29; refine (cO.out _).mono ?_))
                rintro e w' ⟨rfl, hw⟩
                exact ⟨rfl, St.call (by assumption) hw⟩)))
   try simp only [Act.put, List.setIfInBounds_toArray, List.set])
  (first
     | (apply head_skip rfl)
     | (apply head_step_g rfl
        focus
          intro w0' hC
          have hC' := Lib.hid hC
          obtain ⟨⟨r1, f1, i1, b1', l1⟩, ⟨r2, f2, i2, b2', l2⟩, ⟨r3, f3, i3, b3', l3⟩, m12, m21, m13, m31, m23, m32⟩ := St.facts3 (hC.pick [0, 1, 3] (by decide) rfl)
          clear hC
          go_simp
          have hC := hC'.out
          (first
             | with_reducible rfl
             | (skip
                (first
                   | (go_at_call 29; refine (cO.out _).mono ?_))
                rintro e w' ⟨rfl, hw⟩
                exact ⟨rfl, St.call (by assumption) hw⟩)))
   try simp only [Act.put, List.setIfInBounds_toArray, List.set])
  (first
     | (apply head_skip rfl)
     | (apply head_step_g rfl
        focus
          intro w0' hC
          have hC' := Lib.hid hC
          obtain ⟨⟨r1, f1, i1, b1', l1⟩, ⟨r2, f2, i2, b2', l2⟩, ⟨r3, f3, i3, b3', l3⟩, m12, m21, m13, m31, m23, m32⟩ := St.facts3 (hC.pick [0, 1, 3] (by decide) rfl)
          clear hC
          go_simp
          have hC := hC'.out
          (first
             | with_reducible rfl
             | (skip
                (first
                   | (go_at_call 29; refine (cO.out _).mono ?_))
                rintro e w' ⟨rfl, hw⟩
                exact ⟨rfl, St.call (by assumption) hw⟩)))
   try simp only [Act.put, List.setIfInBounds_toArray, List.set])
  (first
     | (apply head_skip rfl)
     | (apply head_step_g rfl
        focus
          intro w0' hC
          have hC' := Lib.hid hC
          obtain ⟨⟨r1, f1, i1, b1', l1⟩, ⟨r2, f2, i2, b2', l2⟩, ⟨r3, f3, i3, b3', l3⟩, m12, m21, m13, m31, m23, m32⟩ := St.facts3 (hC.pick [0, 1, 3] (by decide) rfl)
          clear hC
          go_simp
          have hC := hC'.out
          (first
             | with_reducible rfl
             | (skip
                (first
                   | (go_at_call 29; refine (cO.out _).mono ?_))
                rintro e w' ⟨rfl, hw⟩
                exact ⟨rfl, St.call (by assumption) hw⟩)))
   try simp only [Act.put, List.setIfInBounds_toArray, List.set])
  (first
     | (apply head_skip rfl)
     | (apply head_step_g rfl
        focus
          intro w0' hC
          have hC' := Lib.hid hC
          obtain ⟨⟨r1, f1, i1, b1', l1⟩, ⟨r2, f2, i2, b2', l2⟩, ⟨r3, f3, i3, b3', l3⟩, m12, m21, m13, m31, m23, m32⟩ := St.facts3 (hC.pick [0, 1, 3] (by decide) rfl)
          clear hC
          go_simp
          have hC := hC'.out
          (first
             | with_reducible rfl
             | (skip
                (first
                   | (go_at_call 29; refine (cO.out _).mono ?_))
                rintro e w' ⟨rfl, hw⟩
                exact ⟨rfl, St.call (by assumption) hw⟩)))
   try simp only [Act.put, List.setIfInBounds_toArray, List.set])
  (first
     | (apply head_skip rfl)
     | (apply head_step_g rfl
        focus
          intro w0' hC
          have hC' := Lib.hid hC
          obtain ⟨⟨r1, f1, i1, b1', l1⟩, ⟨r2, f2, i2, b2', l2⟩, ⟨r3, f3, i3, b3', l3⟩, m12, m21, m13, m31, m23, m32⟩ := St.facts3 (hC.pick [0, 1, 3] (by decide) rfl)
          clear hC
          go_simp
          have hC := hC'.out
          (first
             | with_reducible rfl
             | (skip
                (first
                   | (go_at_call 29; refine (cO.out _).mono ?_))
                rintro e w' ⟨rfl, hw⟩
                exact ⟨rfl, St.call (by assumption) hw⟩)))
   try simp only [Act.put, List.setIfInBounds_toArray, List.set])
  (first
     | (apply head_skip rfl)
     | (apply head_step_g rfl
        focus
          intro w0' hC
          have hC' := Lib.hid hC
          obtain ⟨⟨r1, f1, i1, b1', l1⟩, ⟨r2, f2, i2, b2', l2⟩, ⟨r3, f3, i3, b3', l3⟩, m12, m21, m13, m31, m23, m32⟩ := St.facts3 (hC.pick [0, 1, 3] (by decide) rfl)
          clear hC
          go_simp
          have hC := hC'.out
          (first
             | with_reducible rfl
             | (skip
                (first
                   | (go_at_call 29; refine (cO.out _).mono ?_))
                rintro e w' ⟨rfl, hw⟩
                exact ⟨rfl, St.call (by assumption) hw⟩)))
   try simp only [Act.put, List.setIfInBounds_toArray, List.set])
  refine wpQuiet_nil ?_
  intro w6 hC
  clear HC q1 q2 q3 q4 q5 q6
  have HC := Lib.hid hC
  have sos := hC.below.os
  clear hC
  go_wp2_with fail
  refine (awake09_any _).mono ?_; rintro e w7 ⟨rfl, hw⟩
  have HC := Lib.hid (HC.out.call hw)
  clear hw sos
  have sos := HC.out.os
  go_wp2_with fail
  go_ret
  exact ⟨rfl, HC.out.below⟩
theorem gcmTells_walk (k : Nat → UInt8) (t : ByteArray × ByteArray × ByteArray) (nn : Nat → UInt8) (w : World) : Calls Try.prog 8 #[.agg (blk 16 k), .agg (tx t.1 t.2.1 t.2.2), .agg (blk 2 nn)] w fun e w' => e = .returned (.bool true) ∧ Below w.heap.size w w' := by
  by_cases h : decide (20 < t.1.size ∨ 60 < t.2.1.size ∨ 60 < t.2.2.size) = true ∨ t.1.size ≠ 12 ∨ same 16 (hashB (Ci.rounds k)) (fun _ => 0) = true
  · exact gcmTells_out k nn _ _ _ h w
  · exact gcmTells_in k nn _ _ _ (by cases hd : decide (20 < t.1.size ∨ 60 < t.2.1.size ∨ 60 < t.2.2.size) with | false => rfl | true => exact (h (.inl hd)).elim) (by omega) (by cases hs : same 16 (hashB (Ci.rounds k)) (fun _ => 0) with | false => rfl | true => exact (h (.inr (.inr hs))).elim) w
end Go.Proofs.Ytklcgacbmphjcaa
