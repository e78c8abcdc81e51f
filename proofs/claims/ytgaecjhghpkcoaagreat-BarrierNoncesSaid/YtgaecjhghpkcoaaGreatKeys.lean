/- The program's keys: may, Derive, Rotate, New, Term, Key, Same, Length. Rings of no more than six keys. -/
import Derived.Test.YtgaecjhghpkcoaaGreatRing
namespace Go.Proofs.YtgaecjhghpkcoaaGreat
open Go.RowKit
attribute [local go_sem] B_xor B_or B_and
attribute [local go_sem] blk_set blk_size blk_get blk_getE upd_same oneCells_blk paste_blk cut_blk szOf
attribute [local go_sem high] paste_all cut_head
attribute [local go_sem] rowAt_alloc rowAt_drew rowAt_drewN isRow_alloc isRow_drew isRow_drewN freeRow_alloc freeRow_end freeRow_drew freeRow_drewN
attribute [local go_sem] setRow_alloc setRow_drew setRow_drewN setCell_drewN alloc_drewN rowAt_put isRow_setRow freeRow_put
attribute [local go_sem ↓] loadS_in storeS_in indexS_in copyS_in
attribute [local go_sem] loadS_row loadS_one storeS_row storeS_one indexS_blk copyS_rows run_equalIn_blk same_refl arrayAt_row
attribute [local go_sem] cell_row frozen_row st_setCell st_blk_ne stepAt stepUpon
attribute [local go_sem high] run_eql_blk run_neq_blk
attribute [local go_sem] rg_size rg_get0 rg_getE0 rg_ne rg_set0 rg_one rg_cut rg_key rg_put rg_paste part_rg0 part_rg1

theorem may_any (t : Int) (v : Bool) (h : decide (1 ≤ t ∧ t ≤ 6) = v) (w : World) : Calls Tryz.prog 70 #[.int .i64 t] w fun e w' => e = .returned (.bool v) ∧ Below w.heap.size w w' := by
  subst h
  by_cases h1 : 1 ≤ t
  · by_cases h2 : t ≤ 6
    · have e : decide (1 ≤ t ∧ t ≤ 6) = true := decide_eq_true ⟨h1, h2⟩
      rw [e]
      go_enter Tryz.func70, Tryz.ntmps70
      go_wp2_with fail
      go_ret
      exact ⟨rfl, Below.refl _ _⟩
    · have e : decide (1 ≤ t ∧ t ≤ 6) = false := decide_eq_false (fun h => h2 h.2)
      rw [e]
      have d : decide (t ≤ 6) = false := decide_eq_false h2
      go_enter Tryz.func70, Tryz.ntmps70
      go_wp2_with fail
      go_ret
      exact ⟨rfl, Below.refl _ _⟩
  · have e : decide (1 ≤ t ∧ t ≤ 6) = false := decide_eq_false (fun h => h1 h.1)
    rw [e]
    have d : decide (1 ≤ t) = false := decide_eq_false h1
    go_enter Tryz.func70, Tryz.ntmps70
    go_wp2_with fail
    go_ret
    exact ⟨rfl, Below.refl _ _⟩

set_option maxRecDepth 100000 in
set_option maxHeartbeats 1000000 in
theorem derive_yes (m : Nat → UInt8) (t : Nat) (h1 : 1 ≤ t) (h6 : t ≤ 6) (w : World) : Calls Tryz.prog 60 #[.agg (blk 16 m), .int .i64 (t : Int)] w fun e w' => e = .returned (.tuple #[.agg (blk 16 (deriveB m t)), .int .i64 0]) ∧ Below w.heap.size w w' := by
  have hz := zero16
  have hm : decide (1 ≤ (t : Int) ∧ (t : Int) ≤ 6) = true := decide_eq_true (by omega)
  have HM := Lib.hid hm
  have v1 := byte_of t
  have HC := Lib.hid (((St.nil w).pushA (blk 16 m) 41 rfl).pushA (blk 16 fun _ => 0) 41 (g := w.heap.size + 1) (by simp))
  clear hm
  go_enter Tryz.func60, Tryz.ntmps60
  go_wp2_with fail
  refine (may_any _ true HM.out _).mono ?_; rintro e w1 ⟨rfl, hw⟩
  have HC := Lib.hid (HC.out.call hw)
  clear hw
  have hC := HC.out
  (have HC := Lib.hid hC
   have sos := hC.below.os
   obtain ⟨⟨r1, f1, i1, b1, l1⟩, ⟨r2, f2, i2, b2, l2⟩, m12, m21⟩ := St.facts2 hC
   clear hC)
  go_wp2_with fail
  (clear r1 f1 i1 b1 l1 r2 f2 i2 b2 l2 m12 m21 sos)
  refine (expand_any _ _).mono ?_; rintro e w2 ⟨rfl, hw⟩
  have HC := Lib.hid (HC.out.call hw)
  clear hw
  have hC := HC.out
  (have HC := Lib.hid hC
   have sos := hC.below.os
   obtain ⟨⟨r1, f1, i1, b1, l1⟩, ⟨r2, f2, i2, b2, l2⟩, m12, m21⟩ := St.facts2 hC
   clear hC)
  go_wp2_with fail
  (clear r1 f1 i1 b1 l1 r2 f2 i2 b2 l2 m12 m21 sos)
  refine (seal_any _ _ _).mono ?_; rintro e w3 ⟨rfl, hw⟩
  have HC := Lib.hid (HC.out.call hw)
  clear hw
  have hC := HC.out
  (have HC := Lib.hid hC
   have sos := hC.below.os
   obtain ⟨⟨r1, f1, i1, b1, l1⟩, ⟨r2, f2, i2, b2, l2⟩, m12, m21⟩ := St.facts2 hC
   clear hC)
  go_wp2_with fail
  refine bodyPost_ret (results_pair rfl _ (w.heap.size + 1) rfl (blk 16 (deriveB m t)) ?_ ?_ ?_ ?_ (.int .i64 0) rfl) rfl ⟨rfl, ?_⟩
  · simp [go_sem, *]; rfl
  · simp [go_sem]
  · simp [go_sem]
  · simp [go_sem, *]
  · exact below_setRow' HC.out.below (by omega) _
theorem derive_no (m : Nat → UInt8) (t : Int) (h : t < 1 ∨ 6 < t) (w : World) : Calls Tryz.prog 60 #[.agg (blk 16 m), .int .i64 t] w fun e w' => e = .returned (.tuple #[.agg (blk 16 fun _ => 0), .int .i64 2]) ∧ Below w.heap.size w w' := by
  have hz := zero16
  have hm : decide (1 ≤ t ∧ t ≤ 6) = false := decide_eq_false (by omega)
  have HM := Lib.hid hm
  have HC := Lib.hid (((St.nil w).pushA (blk 16 m) 41 rfl).pushA (blk 16 fun _ => 0) 41 (g := w.heap.size + 1) (by simp))
  clear hm h
  go_enter Tryz.func60, Tryz.ntmps60
  go_wp2_with fail
  refine (may_any _ false HM.out _).mono ?_; rintro e w1 ⟨rfl, hw⟩
  have HC := Lib.hid (HC.out.call hw)
  clear hw
  have hC := HC.out
  (have HC := Lib.hid hC
   have sos := hC.below.os
   obtain ⟨⟨r1, f1, i1, b1, l1⟩, ⟨r2, f2, i2, b2, l2⟩, m12, m21⟩ := St.facts2 hC
   clear hC)
  go_wp2_with fail
  refine bodyPost_ret (results_pair rfl _ (w.heap.size + 1) rfl (blk 16 fun _ => 0) ?_ ?_ ?_ ?_ (.int .i64 2) rfl) rfl ⟨rfl, ?_⟩
  · simp [go_sem, *]
  · simp [go_sem]
  · simp [go_sem]
  · simp [go_sem, *]
  · exact below_setRow' HC.out.below (by omega) _
end Go.Proofs.YtgaecjhghpkcoaaGreat
