/- GfMuls, GfBoxes return true at every byte, every column. No condition. -/
import Derived.Test.YtmkaemnjfaofdaaGfField
namespace Go.Proofs.Ytmkaemnjfaofdaa
open Go.RowKit
attribute [local go_sem] B_xor B_or B_and
attribute [local go_sem] blk_set blk_size blk_get blk_getE upd_same oneCells_blk paste_blk cut_blk szOf
attribute [local go_sem high] paste_all cut_head
attribute [local go_sem] rowAt_alloc rowAt_drew rowAt_drewN isRow_alloc isRow_drew isRow_drewN freeRow_alloc freeRow_drew freeRow_drewN
attribute [local go_sem] setRow_alloc setRow_drew setRow_drewN setCell_drewN alloc_drewN rowAt_setRow isRow_setRow freeRow_setRow
attribute [local go_sem ↓] loadS_in storeS_in indexS_in copyS_in
attribute [local go_sem] loadS_row loadS_one storeS_row storeS_one indexS_blk copyS_rows run_equalIn_blk same_refl

set_option maxRecDepth 100000 in
set_option maxHeartbeats 1000000 in
theorem gfMuls_walk (a b n : UInt8) (w : World) : Calls Try.prog 3 #[.int .u8 (B a), .int .u8 (B b), .int .u8 (B n)] w fun e w' => e = .returned (.bool true) ∧ Below w.heap.size w w' := by
  obtain ⟨n0, n1⟩ := B_bd n
  go_enter Try.func3, Try.ntmps3
  go_wp2_with fail
  refine ((mul_pur a b).go _).mono ?_; rintro e w' ⟨rfl, k1, rfl⟩
  go_wp2_with fail
  refine ((refMul_pur a b).go _).mono ?_; rintro e w' ⟨rfl, k2, rfl⟩
  go_wp2_with fail
  refine ((inv_pur a).go _).mono ?_; rintro e w' ⟨rfl, k3, rfl⟩
  go_wp2_with fail
  refine ((refInv_pur a).go _).mono ?_; rintro e w' ⟨rfl, k4, rfl⟩
  go_wp2_with fail
  refine ((pow_pur a _ (by omega) (by omega)).go _).mono ?_; rintro e w' ⟨rfl, k5, rfl⟩
  go_wp2_with fail
  refine ((refPow_pur a _ (by omega) (by omega)).go _).mono ?_; rintro e w' ⟨rfl, k6, rfl⟩
  go_wp2_with fail
  refine (awake_any _).mono ?_; rintro e w1 ⟨rfl, hw⟩
  have HW := Lib.hid hw; clear hw
  go_wp2_with fail
  go_ret
  refine ⟨rfl, ?_⟩
  have h1 := HW.out
  simp only [World.heap_drewN] at h1
  exact (drewN_below w _).trans h1

set_option maxRecDepth 100000 in
set_option maxHeartbeats 1000000 in
theorem gfBoxes_walk (a : UInt8) (c : Nat → UInt8) (w : World) : Calls Try.prog 4 #[.int .u8 (B a), .agg (blk 4 c)] w fun e w' => e = .returned (.bool true) ∧ Below w.heap.size w w' := by
  go_enter Try.func4, Try.ntmps4
  go_wp2_with fail
  have hstart : rowAt (w.alloc (.cells (blk 4 c) 29)) w.heap.size = blk 4 c ∧ isRow (w.alloc (.cells (blk 4 c) 29)) w.heap.size = true ∧ w.heap.size < (w.alloc (.cells (blk 4 c) 29)).heap.size ∧ Below w.heap.size w (w.alloc (.cells (blk 4 c) 29)) :=
    ⟨by simp [go_sem], by simp [go_sem], by simp, (Below.refl _ _).alloc (Nat.le_refl _) _⟩
  have HS := Lib.hid hstart; clear hstart
  go_region_held3 (fun w' => rowAt w' w.heap.size = blk 4 c ∧ isRow w' w.heap.size = true ∧ w.heap.size < w'.heap.size ∧ Below w.heap.size w w') (first | (with_reducible exact held_drewN HS.out 1) | (with_reducible exact held_drewN HS.out _) | (apply held_call <;> assumption) | (apply held_drewN; assumption))
    (first | (go_at_call 15; refine ((box_pur _).go _).mono ?_; rintro e w' ⟨rfl, k1, rfl⟩) | (go_at_call 16; refine ((refBox_pur _).go _).mono ?_; rintro e w' ⟨rfl, k1, rfl⟩) | (go_at_call 17; refine (mix_any _ _).mono ?_; rintro e w' ⟨rfl, hw⟩) | (go_at_call 18; refine (refMix_any _ _).mono ?_; rintro e w' ⟨rfl, hw⟩) | (go_at_call 14; refine (awake_any _).mono ?_; rintro e w' ⟨rfl, hw⟩))
  go_wp2_with fail
  go_ret
  exact ⟨rfl, And.right (And.right (And.right ‹_›))⟩
end Go.Proofs.Ytmkaemnjfaofdaa
