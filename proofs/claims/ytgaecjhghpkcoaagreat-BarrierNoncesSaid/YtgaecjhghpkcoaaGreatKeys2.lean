/- The program's keys: Rotate, New, Term, Key, Same, Length. Rings of no more than six keys. -/
import Derived.Test.YtgaecjhghpkcoaaGreatKeys
import Derived.Test.YtgaecjhghpkcoaaGreatMGround
namespace Go.Proofs.YtgaecjhghpkcoaaGreat
open Go.RowKit
attribute [local go_sem] B_xor B_or B_and
attribute [local go_sem] blk_set blk_size blk_get blk_getE upd_same oneCells_blk paste_blk cut_blk szOf
attribute [local go_sem high] paste_all cut_head
attribute [local go_sem] rowAt_alloc rowAt_drew rowAt_drewN isRow_alloc isRow_drew isRow_drewN freeRow_alloc freeRow_end freeRow_drew freeRow_drewN
attribute [local go_sem] setRow_alloc setRow_drew setRow_drewN setCell_drewN alloc_drewN rowAt_put isRow_setRow freeRow_put
attribute [local go_sem ↓] loadS_in storeS_in indexS_in copyS_in
attribute [local go_sem] loadS_row loadS_one storeS_row storeS_one indexS_blk copyS_rows run_equalIn_blk same_refl arrayAt_row
attribute [local go_sem] cell_row frozen_row st_setCell st_blk_ne stepAt stepUpon
attribute [local go_sem high] run_eql_blk run_neq_blk
attribute [local go_sem] rg_size rg_get0 rg_getE0 rg_ne rg_set0 rg_one rg_cut rg_key rg_put rg_paste part_rg0 part_rg1

theorem derive_next (m : Nat → UInt8) (n : Nat) (h : n ≤ 5) (w : World) : Calls Tryz.prog 60 #[.agg (blk 16 m), .int .i64 ((n : Int) + 1)] w fun e w' => e = .returned (.tuple #[.agg (blk 16 (deriveB m (n + 1))), .int .i64 0]) ∧ Below w.heap.size w w' := derive_yes m (n + 1) (by omega) (by omega) w
set_option maxRecDepth 100000 in
set_option maxHeartbeats 1000000 in
theorem rotate_yes (n : Nat) (f m : Nat → UInt8) (h : n ≤ 5) (w : World) : Calls Tryz.prog 29 #[.agg (rg n f), .agg (blk 16 m)] w fun e w' => e = .returned (.tuple #[.agg (rg (n + 1) (addB f n (deriveB m (n + 1)))), .int .i64 0]) ∧ Below w.heap.size w w' := by
  have hz := zero16
  have hz2 := zero97
  have n5 : (n : Int) ≤ 5 := by omega
  have n6 : (n : Int) < 6 := by omega
  have b1 : n * 16 + 16 ≤ 96 := by omega
  have b2 : 1 + n * 16 + 16 ≤ 97 := by omega
  have b3 : n * 16 ≤ 80 := by omega
  have b4 : 1 + n * 16 ≤ 81 := by omega
  have hset : ∀ F, (rg n F).setIfInBounds 0 (.int .i64 ((n : Int) + 1)) = rg (n + 1) F := fun F => rg_set0 n (n + 1) F
  have hadd : cpy f (n * 16) (deriveB m (n + 1)) 0 16 = addB f n (deriveB m (n + 1)) := rfl
  have HC := Lib.hid ((((St.nil w).pushA (rg n f) 44 rfl).pushA (blk 16 m) 41 (g := w.heap.size + 1) (by simp)).pushA (rg 0 fun _ => 0) 44 (g := w.heap.size + 1 + 1) (by simp))
  go_enter Tryz.func29, Tryz.ntmps29
  go_wp2_with fail
  refine (derive_next m n h _).mono ?_; rintro e w1 ⟨rfl, hw⟩
  have HC := Lib.hid (HC.out.call hw)
  clear hw
  have hC := HC.out
  (have HC := Lib.hid hC
   have sos := hC.below.os
   obtain ⟨⟨r1, f1, i1, b1, l1⟩, ⟨r2, f2, i2, b2, l2⟩, ⟨r3, f3, i3, b3, l3⟩, m12, m21, m13, m31, m23, m32⟩ := St.facts3 hC
   clear hC)
  go_wp2_with fail
  have ne1 : (w.heap.size + 1 + 1 = w1.heap.size) = False := by simp; omega
  refine bodyPost_ret (results_pair rfl _ (w.heap.size + 1 + 1) rfl (rg (n + 1) (addB f n (deriveB m (n + 1)))) ?_ ?_ ?_ ?_ (.int .i64 0) rfl) rfl ⟨rfl, ?_⟩
  · simp [go_sem, *]
  · simp [go_sem]
  · simp [go_sem]
  · simp [go_sem, *]
  · exact (below_setRow' (below_setRow' (below_setRow' HC.out.below (Nat.le_refl _) _) (Nat.le_refl _) _) (by omega) _).alloc (by have := HC.out.below.size; simpa using this) _
set_option maxRecDepth 100000 in
set_option maxHeartbeats 1000000 in
theorem rotate_no (f m : Nat → UInt8) (w : World) : Calls Tryz.prog 29 #[.agg (rg 6 f), .agg (blk 16 m)] w fun e w' => e = .returned (.tuple #[.agg (rg 6 f), .int .i64 19]) ∧ Below w.heap.size w w' := by
  have hz := zero16
  have hz2 := zero97
  have HC := Lib.hid ((((St.nil w).pushA (rg 6 f) 44 rfl).pushA (blk 16 m) 41 (g := w.heap.size + 1) (by simp)).pushA (rg 0 fun _ => 0) 44 (g := w.heap.size + 1 + 1) (by simp))
  go_enter Tryz.func29, Tryz.ntmps29
  go_wp2_with fail
  refine (derive_no m 7 (by omega) _).mono ?_; rintro e w1 ⟨rfl, hw⟩
  have HC := Lib.hid (HC.out.call hw)
  clear hw
  have hC := HC.out
  (have HC := Lib.hid hC
   have sos := hC.below.os
   obtain ⟨⟨r1, f1, i1, b1, l1⟩, ⟨r2, f2, i2, b2, l2⟩, ⟨r3, f3, i3, b3, l3⟩, m12, m21, m13, m31, m23, m32⟩ := St.facts3 hC
   clear hC)
  go_wp2_with fail
  have ne1 : (w.heap.size + 1 + 1 = w1.heap.size) = False := by simp; omega
  refine bodyPost_ret (results_pair rfl _ (w.heap.size + 1 + 1) rfl (rg 6 f) ?_ ?_ ?_ ?_ (.int .i64 19) rfl) rfl ⟨rfl, ?_⟩
  · simp [go_sem, *]
  · simp [go_sem]
  · simp [go_sem]
  · simp [go_sem, *]
  · exact (below_setRow' HC.out.below (by omega) _).alloc (by have := HC.out.below.size; simpa using this) _
theorem term_any (n : Nat) (f : Nat → UInt8) (w : World) : Calls Tryz.prog 31 #[.agg (rg n f)] w fun e w' => e = .returned (.int .i64 (n : Int)) ∧ Below w.heap.size w w' := by
  go_enter Tryz.func31, Tryz.ntmps31
  go_wp2_with fail
  go_ret
  exact ⟨rfl, (Below.refl _ _).alloc (Nat.le_refl _) _⟩
end Go.Proofs.YtgaecjhghpkcoaaGreat
