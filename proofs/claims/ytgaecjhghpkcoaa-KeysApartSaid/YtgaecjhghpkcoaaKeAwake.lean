/- padlocklaw20.awake returns true; a ring is taken of its own text. -/
import Derived.Test.YtgaecjhghpkcoaaLike
namespace Go.Proofs.Ytgaecjhghpkcoaa
open Go.RowKit
attribute [local go_sem] B_xor B_or B_and
attribute [local go_sem] blk_set blk_size blk_get blk_getE upd_same oneCells_blk paste_blk cut_blk szOf
attribute [local go_sem high] paste_all cut_head
attribute [local go_sem] rowAt_alloc rowAt_drew rowAt_drewN isRow_alloc isRow_drew isRow_drewN freeRow_alloc freeRow_end freeRow_drew freeRow_drewN
attribute [local go_sem] setRow_alloc setRow_drew setRow_drewN setCell_drewN alloc_drewN rowAt_put isRow_setRow freeRow_put
attribute [local go_sem ↓] loadS_in storeS_in indexS_in copyS_in
attribute [local go_sem] loadS_row loadS_one storeS_row storeS_one indexS_blk copyS_rows run_equalIn_blk same_refl arrayAt_row
attribute [local go_sem] cell_row frozen_row st_setCell st_blk_ne stepAt stepUpon
attribute [local go_sem high] run_eql_blk run_neq_blk
attribute [local go_sem ↓] convBS_in
attribute [local go_sem] convBS_row convBS_nil allBytes_blk bytesOf_blk
attribute [local go_sem] rg_size rg_get0 rg_getE0 rg_ne rg_set0 rg_one rg_cut rg_key rg_put rg_paste part_rg0 part_rg1

/-- nothing stands behind the last key -/
def Neat (n : Nat) (f : Nat → UInt8) : Prop := ∀ i, n * 16 ≤ i → i < 96 → f i = 0
theorem ofText_extract (s : ByteArray) (a b i : Nat) (hi : a + i < b) (hb : b ≤ s.size) : ofText (s.extract a b) i = ofText s (a + i) := by
  have hsz : s.data.size = s.size := rfl
  unfold ofText
  rw [ByteArray.data_extract, Array.getD_eq_getD_getElem?, Array.getD_eq_getD_getElem?, Array.getElem?_extract, if_pos (by omega)]
theorem parse_back (n : Nat) (f : Nat → UInt8) (h1 : 1 ≤ n) (h6 : n ≤ 6) (hz : Neat n f) (w : World) : Calls Try.prog 15 #[.string (strOf (1 + n * 16) (ringB n f))] w fun e w' => e = .returned (.tuple #[.agg (rg n f), .int .i64 0]) ∧ Below w.heap.size w w' := by
  have hsz := strOf_size (1 + n * 16) (ringB n f)
  have hN : (ofText (strOf (1 + n * 16) (ringB n f)) 0).toNat = n := by
    rw [ofText_strOf _ _ _ (by omega)]
    unfold ringB glue
    rw [if_pos (by omega), UInt8.toNat_ofNat_of_lt' (by have : UInt8.size = 256 := rfl; omega)]
  have h := parse_ok (strOf (1 + n * 16) (ringB n f)) _ n (by omega) hN h1 h6 hsz rfl w
  have e : rg n (parseB ((strOf (1 + n * 16) (ringB n f)).extract 1 (strOf (1 + n * 16) (ringB n f)).size) (n * 16)) = rg n f := rg_congr fun i hi => by
    unfold parseB
    split
    · rename_i hlt
      rw [ofText_extract _ _ _ _ (by omega) (Nat.le_refl _), ofText_strOf _ _ _ (by omega)]
      unfold ringB glue
      rw [if_neg (by omega), Nat.add_sub_cancel_left]
    · rename_i hge
      exact (hz i (by omega) hi).symm
  rw [e] at h
  exact h
theorem neat_new (m : Nat → UInt8) : Neat 1 (newB m) := by
  intro i h1 h2
  unfold newB addB cpy
  rw [if_neg (by omega)]
theorem neat_add (n : Nat) (f k : Nat → UInt8) (h : Neat n f) : Neat (n + 1) (addB f n k) := by
  intro i h1 h2
  unfold addB cpy
  rw [if_neg (by omega)]
  exact h i (by omega) h2
def sevenS : ByteArray := ⟨#[7]⟩
theorem parse_seven (w : World) : Calls Try.prog 15 #[.string ⟨#[7]⟩] w fun e w' => e = .returned (.tuple #[.agg (rg 0 fun _ => 0), .int .i64 4]) ∧ Below w.heap.size w w' := parse_form ⟨#[7]⟩ 7 (by decide) (by decide) (by decide) (by omega) w
theorem length_one (w : World) : Calls Try.prog 19 #[.int .i64 1] w fun e w' => e = .returned (.int .i64 17) ∧ Below w.heap.size w w' := length_yes 1 (by omega) (by omega) w
set_option maxRecDepth 100000 in
set_option maxHeartbeats 4000000 in
theorem awake20_any (w : World) : Calls Try.prog 8 #[] w fun e w' => e = .returned (.bool true) ∧ Below w.heap.size w w' := by
  obtain ⟨m, hm⟩ : ∃ m : Nat → UInt8, m = fun _ => 0 := ⟨_, rfl⟩
  have hz := zero16
  have hz2 := zero97
  rw [← hm] at hz
  clear hm
  obtain ⟨F1, hF1⟩ : ∃ F, newB m = F := ⟨_, rfl⟩
  obtain ⟨F2, hF2⟩ : ∃ F, addB F1 1 (deriveB m 2) = F := ⟨_, rfl⟩
  have N1 : Hid (Neat 1 F1) := Lib.hid (hF1 ▸ neat_new m)
  have N2 : Hid (Neat 2 F2) := Lib.hid (hF2 ▸ neat_add 1 F1 _ N1.out)
  have E1 := Lib.hid hF1
  have E2 := Lib.hid hF2
  clear hF1 hF2
  have HC := Lib.hid ((St.nil w).pushA (blk 16 m) 25 rfl)
  go_enter Try.func8, Try.ntmps8
  go_wp2_with fail
  refine (new_any m _).mono ?_; rintro e w1 ⟨rfl, hw⟩
  rw [E1.out]
  have HC := Lib.hid (HC.out.call hw)
  clear hw
  have hC := HC.out
  (have HC := Lib.hid hC
   have sos := hC.below.os
   obtain ⟨r1, f1, i1, b1, l1⟩ := St.facts1 hC
   clear hC)
  go_wp2_with fail
  (clear r1 f1 i1 b1 l1 sos)
  have HC := Lib.hid (HC.out.push (rg 1 F1) 33)
  refine (rotate_yes 1 F1 m (by omega) _).mono ?_; rintro e w2 ⟨rfl, hw⟩
  rw [E2.out]
  have HC := Lib.hid (HC.out.call hw)
  clear hw
  have hC := HC.out
  (have HC := Lib.hid hC
   have sos := hC.below.os
   obtain ⟨⟨r1, f1, i1, b1, l1⟩, ⟨r2, f2, i2, b2, l2⟩, m12, m21⟩ := St.facts2 hC
   clear hC)
  go_wp2_with fail
  (clear r1 f1 i1 b1 l1 r2 f2 i2 b2 l2 m12 m21 sos)
  have HC := Lib.hid (HC.out.push (rg 2 F2) 33)
  refine (text_any 2 F2 (by omega) _).mono ?_; rintro e w3 ⟨rfl, hw⟩
  have HC := Lib.hid (HC.out.call hw)
  clear hw
  have hC := HC.out
  (have HC := Lib.hid hC
   have sos := hC.below.os
   obtain ⟨⟨r1, f1, i1, b1, l1⟩, ⟨r2, f2, i2, b2, l2⟩, ⟨r3, f3, i3, b3, l3⟩, m12, m21, m13, m31, m23, m32⟩ := St.facts3 hC
   clear hC)
  go_wp2_with fail
  (clear r1 f1 i1 b1 l1 r2 f2 i2 b2 l2 r3 f3 i3 b3 l3 m12 m21 m13 m31 m23 m32 sos)
  refine (parse_back 2 F2 (by omega) (by omega) N2.out _).mono ?_; rintro e w4 ⟨rfl, hw⟩
  have HC := Lib.hid (HC.out.call hw)
  clear hw
  have hC := HC.out
  (have HC := Lib.hid hC
   have sos := hC.below.os
   obtain ⟨⟨r1, f1, i1, b1, l1⟩, ⟨r2, f2, i2, b2, l2⟩, ⟨r3, f3, i3, b3, l3⟩, m12, m21, m13, m31, m23, m32⟩ := St.facts3 hC
   clear hC)
  go_wp2_with fail
  (clear r1 f1 i1 b1 l1 r2 f2 i2 b2 l2 r3 f3 i3 b3 l3 m12 m21 m13 m31 m23 m32 sos)
  have HC := Lib.hid (HC.out.push (rg 2 F2) 33)
  refine (derive_no m 0 (by omega) _).mono ?_; rintro e w5 ⟨rfl, hw⟩
  have HC := Lib.hid (HC.out.call hw)
  clear hw
  have hC := HC.out
  (have HC := Lib.hid hC
   have sos := hC.below.os
   obtain ⟨⟨r1, f1, i1, b1, l1⟩, ⟨r2, f2, i2, b2, l2⟩, ⟨r3, f3, i3, b3, l3⟩, ⟨r4, f4, i4, b4, l4⟩, m12, m21, m13, m31, m14, m41, m23, m32, m24, m42, m34, m43⟩ := St.facts4 hC
   clear hC)
  go_wp2_with fail
  (clear r1 f1 i1 b1 l1 r2 f2 i2 b2 l2 r3 f3 i3 b3 l3 r4 f4 i4 b4 l4 m12 m21 m13 m31 m14 m41 m23 m32 m24 m42 m34 m43 sos)
  refine (parse_seven _).mono ?_; rintro e w6 ⟨rfl, hw⟩
  have HC := Lib.hid ((HC.out.skip _).call hw)
  clear hw
  have hC := HC.out
  (have HC := Lib.hid hC
   have sos := hC.below.os
   obtain ⟨⟨r1, f1, i1, b1, l1⟩, ⟨r2, f2, i2, b2, l2⟩, ⟨r3, f3, i3, b3, l3⟩, ⟨r4, f4, i4, b4, l4⟩, m12, m21, m13, m31, m14, m41, m23, m32, m24, m42, m34, m43⟩ := St.facts4 hC
   clear hC)
  go_wp2_with fail
  (clear r1 f1 i1 b1 l1 r2 f2 i2 b2 l2 r3 f3 i3 b3 l3 r4 f4 i4 b4 l4 m12 m21 m13 m31 m14 m41 m23 m32 m24 m42 m34 m43 sos)
  refine (term_any 1 F1 _).mono ?_; rintro e w7 ⟨rfl, hw⟩
  have HC := Lib.hid ((HC.out.skip _).call hw)
  clear hw
  have hC := HC.out
  (have HC := Lib.hid hC
   have sos := hC.below.os
   obtain ⟨⟨r1, f1, i1, b1, l1⟩, ⟨r2, f2, i2, b2, l2⟩, ⟨r3, f3, i3, b3, l3⟩, ⟨r4, f4, i4, b4, l4⟩, m12, m21, m13, m31, m14, m41, m23, m32, m24, m42, m34, m43⟩ := St.facts4 hC
   clear hC)
  go_wp2_with fail
  (clear r1 f1 i1 b1 l1 r2 f2 i2 b2 l2 r3 f3 i3 b3 l3 r4 f4 i4 b4 l4 m12 m21 m13 m31 m14 m41 m23 m32 m24 m42 m34 m43 sos)
  refine (term_any 2 F2 _).mono ?_; rintro e w8 ⟨rfl, hw⟩
  have HC := Lib.hid (HC.out.call hw)
  clear hw
  have hC := HC.out
  (have HC := Lib.hid hC
   have sos := hC.below.os
   obtain ⟨⟨r1, f1, i1, b1, l1⟩, ⟨r2, f2, i2, b2, l2⟩, ⟨r3, f3, i3, b3, l3⟩, ⟨r4, f4, i4, b4, l4⟩, m12, m21, m13, m31, m14, m41, m23, m32, m24, m42, m34, m43⟩ := St.facts4 hC
   clear hC)
  go_wp2_with fail
  (clear r1 f1 i1 b1 l1 r2 f2 i2 b2 l2 r3 f3 i3 b3 l3 r4 f4 i4 b4 l4 m12 m21 m13 m31 m14 m41 m23 m32 m24 m42 m34 m43 sos)
  refine (same_yes 2 F2 F2 true (same_refl _ _) _).mono ?_; rintro e w9 ⟨rfl, hw⟩
  have HC := Lib.hid (HC.out.call hw)
  clear hw
  have hC := HC.out
  (have HC := Lib.hid hC
   have sos := hC.below.os
   obtain ⟨⟨r1, f1, i1, b1, l1⟩, ⟨r2, f2, i2, b2, l2⟩, ⟨r3, f3, i3, b3, l3⟩, ⟨r4, f4, i4, b4, l4⟩, m12, m21, m13, m31, m14, m41, m23, m32, m24, m42, m34, m43⟩ := St.facts4 hC
   clear hC)
  go_wp2_with fail
  (clear r1 f1 i1 b1 l1 r2 f2 i2 b2 l2 r3 f3 i3 b3 l3 r4 f4 i4 b4 l4 m12 m21 m13 m31 m14 m41 m23 m32 m24 m42 m34 m43 sos)
  refine (same_no 1 2 F1 F2 (by omega) _).mono ?_; rintro e w10 ⟨rfl, hw⟩
  have HC := Lib.hid (HC.out.call hw)
  clear hw
  have hC := HC.out
  (have HC := Lib.hid hC
   have sos := hC.below.os
   obtain ⟨⟨r1, f1, i1, b1, l1⟩, ⟨r2, f2, i2, b2, l2⟩, ⟨r3, f3, i3, b3, l3⟩, ⟨r4, f4, i4, b4, l4⟩, m12, m21, m13, m31, m14, m41, m23, m32, m24, m42, m34, m43⟩ := St.facts4 hC
   clear hC)
  go_wp2_with fail
  (clear r1 f1 i1 b1 l1 r2 f2 i2 b2 l2 r3 f3 i3 b3 l3 r4 f4 i4 b4 l4 m12 m21 m13 m31 m14 m41 m23 m32 m24 m42 m34 m43 sos)
  refine (length_one _).mono ?_; rintro e w11 ⟨rfl, hw⟩
  have HC := Lib.hid (HC.out.call hw)
  clear hw
  have hC := HC.out
  (have HC := Lib.hid hC
   have sos := hC.below.os
   obtain ⟨⟨r1, f1, i1, b1, l1⟩, ⟨r2, f2, i2, b2, l2⟩, ⟨r3, f3, i3, b3, l3⟩, ⟨r4, f4, i4, b4, l4⟩, m12, m21, m13, m31, m14, m41, m23, m32, m24, m42, m34, m43⟩ := St.facts4 hC
   clear hC)
  go_wp2_with fail
  (clear r1 f1 i1 b1 l1 r2 f2 i2 b2 l2 r3 f3 i3 b3 l3 r4 f4 i4 b4 l4 m12 m21 m13 m31 m14 m41 m23 m32 m24 m42 m34 m43 sos)
  refine (length_no 7 (by omega) _).mono ?_; rintro e w12 ⟨rfl, hw⟩
  have HC := Lib.hid (HC.out.call hw)
  clear hw
  have hC := HC.out
  (have HC := Lib.hid hC
   have sos := hC.below.os
   obtain ⟨⟨r1, f1, i1, b1, l1⟩, ⟨r2, f2, i2, b2, l2⟩, ⟨r3, f3, i3, b3, l3⟩, ⟨r4, f4, i4, b4, l4⟩, m12, m21, m13, m31, m14, m41, m23, m32, m24, m42, m34, m43⟩ := St.facts4 hC
   clear hC)
  go_wp2_with fail
  have hsz : (strOf (1 + 1 * 16) (ringB 1 F1)).size = 17 := strOf_size _ _
  (clear r1 f1 i1 b1 l1 r2 f2 i2 b2 l2 r3 f3 i3 b3 l3 r4 f4 i4 b4 l4 m12 m21 m13 m31 m14 m41 m23 m32 m24 m42 m34 m43 sos)
  refine (text_any 1 F1 (by omega) _).mono ?_; rintro e w13 ⟨rfl, hw⟩
  have HC := Lib.hid (HC.out.call hw)
  clear hw
  have hC := HC.out
  (have HC := Lib.hid hC
   have sos := hC.below.os
   obtain ⟨⟨r1, f1, i1, b1, l1⟩, ⟨r2, f2, i2, b2, l2⟩, ⟨r3, f3, i3, b3, l3⟩, ⟨r4, f4, i4, b4, l4⟩, m12, m21, m13, m31, m14, m41, m23, m32, m24, m42, m34, m43⟩ := St.facts4 hC
   clear hC)
  go_wp2_with fail
  go_ret
  exact ⟨rfl, HC.out.below⟩
end Go.Proofs.Ytgaecjhghpkcoaa
