/- The program's keys: New, Key, Same. Rings of no more than six keys. -/
import Derived.Test.YtgaecjhghpkcoaaGreatKeys2
namespace Go.Proofs.YtgaecjhghpkcoaaGreat
open Go.RowKit
attribute [local go_sem] B_xor B_or B_and
attribute [local go_sem] blk_set blk_size blk_get blk_getE upd_same oneCells_blk paste_blk cut_blk szOf
attribute [local go_sem high] paste_all cut_head
attribute [local go_sem] rowAt_alloc rowAt_drew rowAt_drewN isRow_alloc isRow_drew isRow_drewN freeRow_alloc freeRow_end freeRow_drew freeRow_drewN
attribute [local go_sem] setRow_alloc setRow_drew setRow_drewN setCell_drewN alloc_drewN rowAt_put isRow_setRow freeRow_put
attribute [local go_sem ↓] loadS_in storeS_in indexS_in copyS_in
attribute [local go_sem] loadS_row loadS_one storeS_row storeS_one indexS_blk copyS_rows run_equalIn_blk same_refl arrayAt_row
attribute [local go_sem] cell_row frozen_row st_setCell st_blk_ne stepAt stepUpon
attribute [local go_sem high] run_eql_blk run_neq_blk
attribute [local go_sem] rg_size rg_get0 rg_getE0 rg_ne rg_set0 rg_one rg_cut rg_key rg_put rg_paste part_rg0 part_rg1

def newB (m : Nat → UInt8) : Nat → UInt8 := addB (fun _ => 0) 0 (deriveB m 1)
/-- the key at place u -/
def keyB (f : Nat → UInt8) (u : Nat) : Nat → UInt8 := fun j => f (u * 16 + j)
theorem rotate_first (m : Nat → UInt8) (w : World) : Calls Tryz.prog 29 #[.agg (rg 0 fun _ => 0), .agg (blk 16 m)] w fun e w' => e = .returned (.tuple #[.agg (rg 1 (newB m)), .int .i64 0]) ∧ Below w.heap.size w w' := rotate_yes 0 (fun _ => 0) m (by omega) w
set_option maxRecDepth 100000 in
set_option maxHeartbeats 1000000 in
theorem new_any (m : Nat → UInt8) (w : World) : Calls Tryz.prog 35 #[.agg (blk 16 m)] w fun e w' => e = .returned (.agg (rg 1 (newB m))) ∧ Below w.heap.size w w' := by
  have hz := zero16
  have hz2 := zero97
  have HC := Lib.hid (((St.nil w).pushA (blk 16 m) 41 rfl).pushA (rg 0 fun _ => 0) 44 (g := w.heap.size + 1) (by simp))
  go_enter Tryz.func35, Tryz.ntmps35
  go_wp2_with fail
  refine (rotate_first m _).mono ?_; rintro e w1 ⟨rfl, hw⟩
  have HC := Lib.hid (HC.out.call hw)
  clear hw
  have hC := HC.out
  (have HC := Lib.hid hC
   have sos := hC.below.os
   obtain ⟨⟨r1, f1, i1, b1, l1⟩, ⟨r2, f2, i2, b2, l2⟩, m12, m21⟩ := St.facts2 hC
   clear hC)
  go_wp2_with fail
  have ne1 : (w.heap.size + 1 = w1.heap.size) = False := by simp; omega
  refine bodyPost_ret (results_row rfl _ (w.heap.size + 1) rfl (rg 1 (newB m)) ?_ ?_ ?_ ?_) rfl ⟨rfl, ?_⟩
  · simp [go_sem, *]
  · simp [go_sem]
  · simp [go_sem]
  · simp [go_sem, *]
  · exact (below_setRow' HC.out.below (by omega) _).alloc (by have := HC.out.below.size; simpa using this) _
set_option maxRecDepth 100000 in
set_option maxHeartbeats 1000000 in
theorem key_yes (n : Nat) (f : Nat → UInt8) (t u : Nat) (ht : t = u + 1) (hn : t ≤ n) (h6 : n ≤ 6) (w : World) : Calls Tryz.prog 44 #[.agg (rg n f), .int .i64 (t : Int)] w fun e w' => e = .returned (.tuple #[.agg (blk 16 (keyB f u)), .int .i64 0]) ∧ Below w.heap.size w w' := by
  have hz := zero16
  have HM := Lib.hid (show decide (1 ≤ (t : Int) ∧ (t : Int) ≤ 6) = true from decide_eq_true (by omega))
  have d1 : decide (n < t) = false := decide_eq_false (by omega)
  have v1 : (t : Int) - 1 = (u : Int) := by omega
  have v2 : IntKind.i64.wrap ((t : Int) - 1) = (u : Int) := by rw [IntWalk.i64_in _ (by omega)]; exact v1
  have v3 : (u : Int) < 6 := by omega
  have b1 : u * 16 + 16 ≤ 96 := by omega
  have b2 : 1 + u * 16 + 16 ≤ 97 := by omega
  have b3 : u * 16 ≤ 80 := by omega
  have b4 : 1 + u * 16 ≤ 81 := by omega
  have hk : (fun j => f (u * 16 + j)) = keyB f u := rfl
  have HC := Lib.hid (((St.nil w).pushA (rg n f) 44 rfl).pushA (blk 16 fun _ => 0) 41 (g := w.heap.size + 1) (by simp))
  clear ht
  go_enter Tryz.func44, Tryz.ntmps44
  go_wp2_with fail
  refine (may_any _ true HM.out _).mono ?_; rintro e w1 ⟨rfl, hw⟩
  have HC := Lib.hid (HC.out.call hw)
  clear hw
  have hC := HC.out
  (have HC := Lib.hid hC
   have sos := hC.below.os
   obtain ⟨⟨r1, f1, i1, b1, l1⟩, ⟨r2, f2, i2, b2, l2⟩, m12, m21⟩ := St.facts2 hC
   clear hC)
  go_wp2_with fail
  refine bodyPost_ret (results_pair rfl _ (w.heap.size + 1) rfl (blk 16 (keyB f u)) ?_ ?_ ?_ ?_ (.int .i64 0) rfl) rfl ⟨rfl, ?_⟩
  · simp [go_sem, *]
  · simp [go_sem]
  · simp [go_sem]
  · simp [go_sem, *]
  · exact below_setRow' HC.out.below (by omega) _
set_option maxRecDepth 100000 in
set_option maxHeartbeats 1000000 in
theorem key_no (n : Nat) (f : Nat → UInt8) (t : Int) (h : t < 1 ∨ 6 < t ∨ (n : Int) < t) (w : World) : Calls Tryz.prog 44 #[.agg (rg n f), .int .i64 t] w fun e w' => e = .returned (.tuple #[.agg (blk 16 fun _ => 0), .int .i64 6]) ∧ Below w.heap.size w w' := by
  have hz := zero16
  have HC := Lib.hid (((St.nil w).pushA (rg n f) 44 rfl).pushA (blk 16 fun _ => 0) 41 (g := w.heap.size + 1) (by simp))
  by_cases hm : 1 ≤ t ∧ t ≤ 6
  · have HM := Lib.hid (show decide (1 ≤ t ∧ t ≤ 6) = true from decide_eq_true hm)
    have d1 : decide ((n : Int) < t) = true := decide_eq_true (by omega)
    clear hm h
    go_enter Tryz.func44, Tryz.ntmps44
    go_wp2_with fail
    refine (may_any _ true HM.out _).mono ?_; rintro e w1 ⟨rfl, hw⟩
    have HC := Lib.hid (HC.out.call hw)
    clear hw
    have hC := HC.out
    (have HC := Lib.hid hC
     have sos := hC.below.os
     obtain ⟨⟨r1, f1, i1, b1, l1⟩, ⟨r2, f2, i2, b2, l2⟩, m12, m21⟩ := St.facts2 hC
     clear hC)
    go_wp2_with fail
    refine bodyPost_ret (results_pair rfl _ (w.heap.size + 1) rfl (blk 16 fun _ => 0) ?_ ?_ ?_ ?_ (.int .i64 6) rfl) rfl ⟨rfl, ?_⟩
    · simp [go_sem, *]
    · simp [go_sem]
    · simp [go_sem]
    · simp [go_sem, *]
    · exact below_setRow' HC.out.below (by omega) _
  · have HM := Lib.hid (show decide (1 ≤ t ∧ t ≤ 6) = false from decide_eq_false hm)
    clear hm h
    go_enter Tryz.func44, Tryz.ntmps44
    go_wp2_with fail
    refine (may_any _ false HM.out _).mono ?_; rintro e w1 ⟨rfl, hw⟩
    have HC := Lib.hid (HC.out.call hw)
    clear hw
    have hC := HC.out
    (have HC := Lib.hid hC
     have sos := hC.below.os
     obtain ⟨⟨r1, f1, i1, b1, l1⟩, ⟨r2, f2, i2, b2, l2⟩, m12, m21⟩ := St.facts2 hC
     clear hC)
    go_wp2_with fail
    refine bodyPost_ret (results_pair rfl _ (w.heap.size + 1) rfl (blk 16 fun _ => 0) ?_ ?_ ?_ ?_ (.int .i64 6) rfl) rfl ⟨rfl, ?_⟩
    · simp [go_sem, *]
    · simp [go_sem]
    · simp [go_sem]
    · simp [go_sem, *]
    · exact below_setRow' HC.out.below (by omega) _
end Go.Proofs.YtgaecjhghpkcoaaGreat
