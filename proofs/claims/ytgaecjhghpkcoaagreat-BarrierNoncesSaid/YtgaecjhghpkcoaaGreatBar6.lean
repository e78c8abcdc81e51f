/- The program's barrier: Unlock. -/
import Derived.Test.YtgaecjhghpkcoaaGreatBar5
namespace Go.Proofs.YtgaecjhghpkcoaaGreat
open Go.RowKit
attribute [local go_sem] B_xor B_or B_and
attribute [local go_sem] blk_set blk_size blk_get blk_getE upd_same oneCells_blk paste_blk cut_blk szOf
attribute [local go_sem high] paste_all cut_head
attribute [local go_sem] rowAt_alloc rowAt_drew rowAt_drewN isRow_alloc isRow_drew isRow_drewN freeRow_alloc freeRow_end freeRow_drew freeRow_drewN
attribute [local go_sem] setRow_alloc setRow_drew setRow_drewN setCell_drewN alloc_drewN rowAt_put isRow_setRow freeRow_put
attribute [local go_sem ↓] loadS_in storeS_in indexS_in copyS_in
attribute [local go_sem] loadS_row loadS_one storeS_row storeS_one indexS_blk copyS_rows run_equalIn_blk same_refl arrayAt_row
attribute [local go_sem] cell_row frozen_row st_setCell st_blk_ne stepAt stepUpon
attribute [local go_sem high] run_eql_blk run_neq_blk
attribute [local go_sem ↓] convBS_in
attribute [local go_sem] convBS_row convBS_nil allBytes_blk bytesOf_blk
attribute [local go_sem] rg_size rg_get0 rg_getE0 rg_ne rg_set0 rg_one rg_cut rg_key rg_put rg_paste part_rg0 part_rg1

def ringS : ByteArray := ⟨#[114, 105, 110, 103]⟩
set_option maxRecDepth 100000 in
set_option maxHeartbeats 2000000 in
theorem unlock_short (m : Nat → UInt8) (s : ByteArray) (h : s.size < 32) (w : World) : Calls Tryz.prog 30 #[.agg (blk 16 m), .string s] w fun e w' => e = .returned (.tuple #[.agg (rg 0 fun _ => 0), .int .i64 3]) ∧ Below w.heap.size w w' := by
  have hz2 := zero97
  have HC := Lib.hid (((St.nil w).pushA (blk 16 m) 41 rfl).pushA (rg 0 fun _ => 0) 44 (g := w.heap.size + 1) (by simp))
  go_enter Tryz.func30, Tryz.ntmps30
  go_wp2_with fail
  refine (parts_short s h _).mono ?_; rintro e w1 ⟨rfl, hw⟩
  have HC := Lib.hid (HC.out.call hw)
  clear hw
  have hC := HC.out
  (have HC := Lib.hid hC
   have sos := hC.below.os
   obtain ⟨⟨r1, f1, i1, b1, l1⟩, ⟨r2, f2, i2, b2, l2⟩, m12, m21⟩ := St.facts2 hC
   clear hC)
  go_wp2_with fail
  refine bodyPost_ret (results_pair rfl _ (w.heap.size + 1) rfl (rg 0 fun _ => 0) ?_ ?_ ?_ ?_ (.int .i64 3) rfl) rfl ⟨rfl, ?_⟩
  · simp [go_sem, *]
  · simp [go_sem]
  · simp [go_sem]
  · simp [go_sem, *]
  · exact below_setRow' HC.out.below (by omega) _
set_option maxRecDepth 100000 in
set_option maxHeartbeats 2000000 in
theorem unlock_term (m : Nat → UInt8) (s : ByteArray) (h : 32 ≤ s.size) (hs : s.size < 2 ^ 40) (ht : numAt s 0 4 ≠ 0) (w : World) : Calls Tryz.prog 30 #[.agg (blk 16 m), .string s] w fun e w' => e = .returned (.tuple #[.agg (rg 0 fun _ => 0), .int .i64 4]) ∧ Below w.heap.size w w' := by
  have hz2 := zero97
  have hN := Lib.hid (fun w => parts_any s h hs w)
  obtain ⟨N, hN2⟩ : ∃ N, numAt s 0 4 = N := ⟨_, rfl⟩
  rw [hN2] at hN ht
  have d1 : ((N : Int) != 0) = true := by rw [bne_iff_ne]; omega
  clear hN2 ht
  have HC := Lib.hid (((St.nil w).pushA (blk 16 m) 41 rfl).pushA (rg 0 fun _ => 0) 44 (g := w.heap.size + 1) (by simp))
  go_enter Tryz.func30, Tryz.ntmps30
  go_wp2_with fail
  refine (hN.out _).mono ?_; rintro e w1 ⟨rfl, hw⟩
  have HC := Lib.hid (HC.out.call hw)
  clear hw
  have hC := HC.out
  (have HC := Lib.hid hC
   have sos := hC.below.os
   obtain ⟨⟨r1, f1, i1, b1, l1⟩, ⟨r2, f2, i2, b2, l2⟩, m12, m21⟩ := St.facts2 hC
   clear hC)
  go_wp2_with fail
  refine bodyPost_ret (results_pair rfl _ (w.heap.size + 1) rfl (rg 0 fun _ => 0) ?_ ?_ ?_ ?_ (.int .i64 4) rfl) rfl ⟨rfl, ?_⟩
  · simp [go_sem, *]
  · simp [go_sem]
  · simp [go_sem]
  · simp [go_sem, *]
  · exact below_setRow' HC.out.below (by omega) _
/-- what the text of an entry is opened to -/
def OpensTo (m : Nat → UInt8) (s R : ByteArray) (E : Nat) : Prop := ∀ w, Calls Tryz.prog 45 #[.agg (blk 16 m), .string (s.extract 4 16), .string ⟨#[114, 105, 110, 103]⟩, .string (s.extract 16 s.size)] w fun e w' => e = .returned (.tuple #[.string R, .int .i64 (E : Int)]) ∧ Below w.heap.size w w'
set_option maxRecDepth 100000 in
set_option maxHeartbeats 2000000 in
theorem unlock_key (m : Nat → UInt8) (s R : ByteArray) (E : Nat) (h : 32 ≤ s.size) (hs : s.size < 2 ^ 40) (ht : numAt s 0 4 = 0) (hE : E ≠ 0) (hO : OpensTo m s R E) (w : World) : Calls Tryz.prog 30 #[.agg (blk 16 m), .string s] w fun e w' => e = .returned (.tuple #[.agg (rg 0 fun _ => 0), .int .i64 (E : Int)]) ∧ Below w.heap.size w w' := by
  have hz2 := zero97
  have hN := Lib.hid (fun w => parts_any s h hs w)
  have d2 : ((E : Int) != 0) = true := by rw [bne_iff_ne]; omega
  have HO := Lib.hid hO
  rw [ht] at hN
  clear ht hE hO
  have HC := Lib.hid (((St.nil w).pushA (blk 16 m) 41 rfl).pushA (rg 0 fun _ => 0) 44 (g := w.heap.size + 1) (by simp))
  go_enter Tryz.func30, Tryz.ntmps30
  go_wp2_with fail
  refine (hN.out _).mono ?_; rintro e w1 ⟨rfl, hw⟩
  have HC := Lib.hid (HC.out.call hw)
  clear hw
  have hC := HC.out
  (have HC := Lib.hid hC
   have sos := hC.below.os
   obtain ⟨⟨r1, f1, i1, b1, l1⟩, ⟨r2, f2, i2, b2, l2⟩, m12, m21⟩ := St.facts2 hC
   clear hC)
  go_wp2_with fail
  (clear r1 f1 i1 b1 l1 r2 f2 i2 b2 l2 m12 m21 sos)
  refine (HO.out _).mono ?_; rintro e w2 ⟨rfl, hw⟩
  have HC := Lib.hid (HC.out.call hw)
  clear hw
  have hC := HC.out
  (have HC := Lib.hid hC
   have sos := hC.below.os
   obtain ⟨⟨r1, f1, i1, b1, l1⟩, ⟨r2, f2, i2, b2, l2⟩, m12, m21⟩ := St.facts2 hC
   clear hC)
  go_wp2_with fail
  refine bodyPost_ret (results_pair rfl _ (w.heap.size + 1) rfl (rg 0 fun _ => 0) ?_ ?_ ?_ ?_ (.int .i64 (E : Int)) rfl) rfl ⟨rfl, ?_⟩
  · simp [go_sem, *]
  · simp [go_sem]
  · simp [go_sem]
  · simp [go_sem, *]
  · exact below_setRow' HC.out.below (by omega) _
set_option maxRecDepth 100000 in
set_option maxHeartbeats 2000000 in
theorem unlock_ok (m : Nat → UInt8) (s R : ByteArray) (N : Nat) (f : Nat → UInt8) (h : 32 ≤ s.size) (hs : s.size < 2 ^ 40) (ht : numAt s 0 4 = 0) (hO : OpensTo m s R 0) (hP : ∀ w, Calls Tryz.prog 61 #[.string R] w fun e w' => e = .returned (.tuple #[.agg (rg N f), .int .i64 0]) ∧ Below w.heap.size w w') (w : World) : Calls Tryz.prog 30 #[.agg (blk 16 m), .string s] w fun e w' => e = .returned (.tuple #[.agg (rg N f), .int .i64 0]) ∧ Below w.heap.size w w' := by
  have hz2 := zero97
  have hN := Lib.hid (fun w => parts_any s h hs w)
  have HO := Lib.hid hO
  have HP := Lib.hid hP
  rw [ht] at hN
  clear ht hO hP
  have HC := Lib.hid (((St.nil w).pushA (blk 16 m) 41 rfl).pushA (rg 0 fun _ => 0) 44 (g := w.heap.size + 1) (by simp))
  go_enter Tryz.func30, Tryz.ntmps30
  go_wp2_with fail
  refine (hN.out _).mono ?_; rintro e w1 ⟨rfl, hw⟩
  have HC := Lib.hid (HC.out.call hw)
  clear hw
  have hC := HC.out
  (have HC := Lib.hid hC
   have sos := hC.below.os
   obtain ⟨⟨r1, f1, i1, b1, l1⟩, ⟨r2, f2, i2, b2, l2⟩, m12, m21⟩ := St.facts2 hC
   clear hC)
  go_wp2_with fail
  (clear r1 f1 i1 b1 l1 r2 f2 i2 b2 l2 m12 m21 sos)
  refine (HO.out _).mono ?_; rintro e w2 ⟨rfl, hw⟩
  have HC := Lib.hid (HC.out.call hw)
  clear hw
  have hC := HC.out
  (have HC := Lib.hid hC
   have sos := hC.below.os
   obtain ⟨⟨r1, f1, i1, b1, l1⟩, ⟨r2, f2, i2, b2, l2⟩, m12, m21⟩ := St.facts2 hC
   clear hC)
  go_wp2_with fail
  (clear r1 f1 i1 b1 l1 r2 f2 i2 b2 l2 m12 m21 sos)
  refine (HP.out _).mono ?_; rintro e w3 ⟨rfl, hw⟩
  have HC := Lib.hid (HC.out.call hw)
  clear hw
  have hC := HC.out
  (have HC := Lib.hid hC
   have sos := hC.below.os
   obtain ⟨⟨r1, f1, i1, b1, l1⟩, ⟨r2, f2, i2, b2, l2⟩, m12, m21⟩ := St.facts2 hC
   clear hC)
  go_wp2_with fail
  have ne1 : (w.heap.size + 1 = w3.heap.size) = False := by simp; omega
  refine bodyPost_ret (results_pair rfl _ (w.heap.size + 1) rfl (rg N f) ?_ ?_ ?_ ?_ (.int .i64 0) rfl) rfl ⟨rfl, ?_⟩
  · simp [go_sem, *]
  · simp [go_sem]
  · simp [go_sem]
  · simp [go_sem, *]
  · exact (below_setRow' HC.out.below (by omega) _).alloc (by have := HC.out.below.size; simpa using this) _
set_option maxRecDepth 100000 in
set_option maxHeartbeats 2000000 in
theorem unlock_form (m : Nat → UInt8) (s R : ByteArray) (d : Nat) (h : 32 ≤ s.size) (hs : s.size < 2 ^ 40) (ht : numAt s 0 4 = 0) (hO : OpensTo m s R 0) (hd : 1 ≤ d) (hP : ∀ w, Calls Tryz.prog 61 #[.string R] w fun e w' => e = .returned (.tuple #[.agg (rg 0 fun _ => 0), .int .i64 (d : Int)]) ∧ Below w.heap.size w w') (w : World) : Calls Tryz.prog 30 #[.agg (blk 16 m), .string s] w fun e w' => e = .returned (.tuple #[.agg (rg 0 fun _ => 0), .int .i64 4]) ∧ Below w.heap.size w w' := by
  have hz2 := zero97
  have hN := Lib.hid (fun w => parts_any s h hs w)
  have HO := Lib.hid hO
  have HP := Lib.hid hP
  have d2 : ((d : Int) != 0) = true := by rw [bne_iff_ne]; omega
  rw [ht] at hN
  clear ht hO hP hd
  have HC := Lib.hid (((St.nil w).pushA (blk 16 m) 41 rfl).pushA (rg 0 fun _ => 0) 44 (g := w.heap.size + 1) (by simp))
  go_enter Tryz.func30, Tryz.ntmps30
  go_wp2_with fail
  refine (hN.out _).mono ?_; rintro e w1 ⟨rfl, hw⟩
  have HC := Lib.hid (HC.out.call hw)
  clear hw
  have hC := HC.out
  (have HC := Lib.hid hC
   have sos := hC.below.os
   obtain ⟨⟨r1, f1, i1, b1, l1⟩, ⟨r2, f2, i2, b2, l2⟩, m12, m21⟩ := St.facts2 hC
   clear hC)
  go_wp2_with fail
  (clear r1 f1 i1 b1 l1 r2 f2 i2 b2 l2 m12 m21 sos)
  refine (HO.out _).mono ?_; rintro e w2 ⟨rfl, hw⟩
  have HC := Lib.hid (HC.out.call hw)
  clear hw
  have hC := HC.out
  (have HC := Lib.hid hC
   have sos := hC.below.os
   obtain ⟨⟨r1, f1, i1, b1, l1⟩, ⟨r2, f2, i2, b2, l2⟩, m12, m21⟩ := St.facts2 hC
   clear hC)
  go_wp2_with fail
  (clear r1 f1 i1 b1 l1 r2 f2 i2 b2 l2 m12 m21 sos)
  refine (HP.out _).mono ?_; rintro e w3 ⟨rfl, hw⟩
  have HC := Lib.hid (HC.out.call hw)
  clear hw
  have hC := HC.out
  (have HC := Lib.hid hC
   have sos := hC.below.os
   obtain ⟨⟨r1, f1, i1, b1, l1⟩, ⟨r2, f2, i2, b2, l2⟩, m12, m21⟩ := St.facts2 hC
   clear hC)
  go_wp2_with fail
  have ne1 : (w.heap.size + 1 = w3.heap.size) = False := by simp; omega
  refine bodyPost_ret (results_pair rfl _ (w.heap.size + 1) rfl (rg 0 fun _ => 0) ?_ ?_ ?_ ?_ (.int .i64 4) rfl) rfl ⟨rfl, ?_⟩
  · simp [go_sem, *]
  · simp [go_sem]
  · simp [go_sem]
  · simp [go_sem, *]
  · exact (below_setRow' HC.out.below (by omega) _).alloc (by have := HC.out.below.size; simpa using this) _
end Go.Proofs.YtgaecjhghpkcoaaGreat
