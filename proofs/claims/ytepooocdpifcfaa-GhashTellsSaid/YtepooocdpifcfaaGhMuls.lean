/- GhashMuls returns true at every two blocks, every number. No condition. -/
import Derived.Test.YtepooocdpifcfaaGhRefMul
import Derived.Test.YtepooocdpifcfaaGhField
namespace Go.Proofs.Ytepooocdpifcfaa
open Go.RowKit
attribute [local go_sem] B_xor B_or B_and
attribute [local go_sem] blk_set blk_size blk_get blk_getE upd_same oneCells_blk paste_blk cut_blk szOf
attribute [local go_sem high] paste_all cut_head
attribute [local go_sem] rowAt_alloc rowAt_drew rowAt_drewN isRow_alloc isRow_drew isRow_drewN freeRow_alloc freeRow_end freeRow_drew freeRow_drewN
attribute [local go_sem] setRow_alloc setRow_drew setRow_drewN setCell_drewN alloc_drewN rowAt_put isRow_setRow freeRow_put
attribute [local go_sem ↓] loadS_in storeS_in indexS_in copyS_in
attribute [local go_sem] loadS_row loadS_one storeS_row storeS_one indexS_blk copyS_rows run_equalIn_blk same_refl arrayAt_row
attribute [local go_sem] cell_row frozen_row st_setCell st_blk_ne stepAt stepUpon
attribute [local go_sem high] run_eql_blk run_neq_blk

set_option maxRecDepth 100000 in
theorem refBit_out (b : Nat → UInt8) (i : Int) (hi : i < 0 ∨ 128 ≤ i) (w : World) : Calls Try.prog 16 #[.agg (blk 16 b), .int .i64 i] w fun e w' => e = .returned (.bool false) ∧ Below w.heap.size w w' := by
  rcases hi with hi | hi
  · have t1 : decide (i < 0) = true := decide_eq_true hi
    go_enter Try.func16, Try.ntmps16
    go_wp2_with fail
    go_ret
    exact ⟨rfl, (Below.refl _ _).alloc (Nat.le_refl _) _⟩
  · have t1 : decide (i < 0) = false := decide_eq_false (by omega)
    have t2 : decide (127 < i) = true := decide_eq_true (by omega)
    go_enter Try.func16, Try.ntmps16
    go_wp2_with fail
    go_ret
    exact ⟨rfl, (Below.refl _ _).alloc (Nat.le_refl _) _⟩
/-- both tell the same of a coefficient -/
theorem bits_any (b : Nat → UInt8) (i : Int) : ∃ v : Bool, (∀ w, Calls Try.prog 15 #[.agg (blk 16 b), .int .i64 i] w fun e w' => e = .returned (.bool v) ∧ Below w.heap.size w w') ∧
    (∀ w, Calls Try.prog 16 #[.agg (blk 16 b), .int .i64 i] w fun e w' => e = .returned (.bool v) ∧ Below w.heap.size w w') := by
  by_cases hi : 0 ≤ i ∧ i < 128
  · obtain ⟨n, rfl⟩ : ∃ n : Nat, i = (n : Int) := ⟨i.toNat, by omega⟩
    exact ⟨bitB b n, fun w => ghBit_any b n (by omega) w, fun w => refBit_any b n (by omega) w⟩
  · exact ⟨false, fun w => ghBit_out b i (by omega) w, fun w => refBit_out b i (by omega) w⟩
set_option maxRecDepth 100000 in
set_option maxHeartbeats 2000000 in
theorem ghashMuls_walk (a b : Nat → UInt8) (i : Int) (w : World) : Calls Try.prog 3 #[.agg (blk 16 a), .agg (blk 16 b), .int .i64 i] w fun e w' => e = .returned (.bool true) ∧ Below w.heap.size w w' := by
  obtain ⟨v, h1, h2⟩ := bits_any a i
  go_enter Try.func3, Try.ntmps3
  go_wp2_with fail
  have HC := Lib.hid ((((St.nil w).pushA (blk 16 a) 22 rfl).pushA (blk 16 b) 22 (g := w.heap.size + 1) (by simp)))
  refine St.region HC.out (by kernel_rfl) (by kernel_rfl) ?_
  (first
     | (apply head_skip rfl)
     | (apply head_step_g rfl
        focus
          intro w0 hC
          (exact eql_quiet 23 rfl rfl rfl Try.eqGuardType23 Try.underlying23 (by simp [go_sem]) (by simp [go_sem]) (by first | with_reducible assumption | with_reducible exact same_refl _ _)))
     | (apply head_step_g rfl
        focus
          intro w0 hC
          have hC' := Lib.hid hC
          obtain ⟨⟨r1, f1, i1, b1, l1⟩, ⟨r2, f2, i2, b2, l2⟩, m12, m21⟩ := St.facts2 hC
          clear hC
          go_simp
          have hC := hC'.out
          (first
             | with_reducible rfl
             | (skip
                (first
                   | (go_at_call 13; refine (ghMul_any _ _ _).mono ?_)
                   | (go_at_call 14; refine (refMul08_any _ _ _).mono ?_)
                   | (go_at_call 15; refine (h1 _).mono ?_)
                   | (go_at_call 16; refine (h2 _).mono ?_)
                   | (go_at_call 17; refine (awake08_any _).mono ?_))
                rintro e w' ⟨rfl, hw⟩
                exact ⟨rfl, St.call (by assumption) hw⟩)))
   try simp only [Act.put, List.setIfInBounds_toArray, List.set])
  (first
     | (apply head_skip rfl)
     | (apply head_step_g rfl
        focus
          intro w0 hC
          (exact eql_quiet 23 rfl rfl rfl Try.eqGuardType23 Try.underlying23 (by simp [go_sem]) (by simp [go_sem]) (by first | with_reducible assumption | with_reducible exact same_refl _ _)))
     | (apply head_step_g rfl
        focus
          intro w0 hC
          have hC' := Lib.hid hC
          obtain ⟨⟨r1, f1, i1, b1, l1⟩, ⟨r2, f2, i2, b2, l2⟩, m12, m21⟩ := St.facts2 hC
          clear hC
          go_simp
          have hC := hC'.out
          (first
             | with_reducible rfl
             | (skip
                (first
                   | (go_at_call 13; refine (ghMul_any _ _ _).mono ?_)
                   | (go_at_call 14; refine (refMul08_any _ _ _).mono ?_)
                   | (go_at_call 15; refine (h1 _).mono ?_)
                   | (go_at_call 16; refine (h2 _).mono ?_)
                   | (go_at_call 17; refine (awake08_any _).mono ?_))
                rintro e w' ⟨rfl, hw⟩
                exact ⟨rfl, St.call (by assumption) hw⟩)))
   try simp only [Act.put, List.setIfInBounds_toArray, List.set])
  (first
     | (apply head_skip rfl)
     | (apply head_step_g rfl
        focus
          intro w0 hC
          (exact eql_quiet 23 rfl rfl rfl Try.eqGuardType23 Try.underlying23 (by simp [go_sem]) (by simp [go_sem]) (by first | with_reducible assumption | with_reducible exact same_refl _ _)))
     | (apply head_step_g rfl
        focus
          intro w0 hC
          have hC' := Lib.hid hC
          obtain ⟨⟨r1, f1, i1, b1, l1⟩, ⟨r2, f2, i2, b2, l2⟩, m12, m21⟩ := St.facts2 hC
          clear hC
          go_simp
          have hC := hC'.out
          (first
             | with_reducible rfl
             | (skip
                (first
                   | (go_at_call 13; refine (ghMul_any _ _ _).mono ?_)
                   | (go_at_call 14; refine (refMul08_any _ _ _).mono ?_)
                   | (go_at_call 15; refine (h1 _).mono ?_)
                   | (go_at_call 16; refine (h2 _).mono ?_)
                   | (go_at_call 17; refine (awake08_any _).mono ?_))
                rintro e w' ⟨rfl, hw⟩
                exact ⟨rfl, St.call (by assumption) hw⟩)))
   try simp only [Act.put, List.setIfInBounds_toArray, List.set])
  (first
     | (apply head_skip rfl)
     | (apply head_step_g rfl
        focus
          intro w0 hC
          (exact eql_quiet 23 rfl rfl rfl Try.eqGuardType23 Try.underlying23 (by simp [go_sem]) (by simp [go_sem]) (by first | with_reducible assumption | with_reducible exact same_refl _ _)))
     | (apply head_step_g rfl
        focus
          intro w0 hC
          have hC' := Lib.hid hC
          obtain ⟨⟨r1, f1, i1, b1, l1⟩, ⟨r2, f2, i2, b2, l2⟩, m12, m21⟩ := St.facts2 hC
          clear hC
          go_simp
          have hC := hC'.out
          (first
             | with_reducible rfl
             | (skip
                (first
                   | (go_at_call 13; refine (ghMul_any _ _ _).mono ?_)
                   | (go_at_call 14; refine (refMul08_any _ _ _).mono ?_)
                   | (go_at_call 15; refine (h1 _).mono ?_)
                   | (go_at_call 16; refine (h2 _).mono ?_)
                   | (go_at_call 17; refine (awake08_any _).mono ?_))
                rintro e w' ⟨rfl, hw⟩
                exact ⟨rfl, St.call (by assumption) hw⟩)))
   try simp only [Act.put, List.setIfInBounds_toArray, List.set])
  (first
     | (apply head_skip rfl)
     | (apply head_step_g rfl
        focus
          intro w0 hC
          (exact eql_quiet 23 rfl rfl rfl Try.eqGuardType23 Try.underlying23 (by simp [go_sem]) (by simp [go_sem]) (by first | with_reducible assumption | with_reducible exact same_refl _ _)))
     | (apply head_step_g rfl
        focus
          intro w0 hC
          have hC' := Lib.hid hC
          obtain ⟨⟨r1, f1, i1, b1, l1⟩, ⟨r2, f2, i2, b2, l2⟩, m12, m21⟩ := St.facts2 hC
          clear hC
          go_simp
          have hC := hC'.out
          (first
             | with_reducible rfl
             | (skip
                (first
                   | (go_at_call 13; refine (ghMul_any _ _ _).mono ?_)
                   | (go_at_call 14; refine (refMul08_any _ _ _).mono ?_)
                   | (go_at_call 15; refine (h1 _).mono ?_)
                   | (go_at_call 16; refine (h2 _).mono ?_)
                   | (go_at_call 17; refine (awake08_any _).mono ?_))
                rintro e w' ⟨rfl, hw⟩
                exact ⟨rfl, St.call (by assumption) hw⟩)))
   try simp only [Act.put, List.setIfInBounds_toArray, List.set])
  (first
     | (apply head_skip rfl)
     | (apply head_step_g rfl
        focus
          intro w0 hC
          (exact eql_quiet 23 rfl rfl rfl Try.eqGuardType23 Try.underlying23 (by simp [go_sem]) (by simp [go_sem]) (by first | with_reducible assumption | with_reducible exact same_refl _ _)))
     | (apply head_step_g rfl
        focus
          intro w0 hC
          have hC' := Lib.hid hC
          obtain ⟨⟨r1, f1, i1, b1, l1⟩, ⟨r2, f2, i2, b2, l2⟩, m12, m21⟩ := St.facts2 hC
          clear hC
          go_simp
          have hC := hC'.out
          (first
             | with_reducible rfl
             | (skip
                (first
                   | (go_at_call 13; refine (ghMul_any _ _ _).mono ?_)
                   | (go_at_call 14; refine (refMul08_any _ _ _).mono ?_)
                   | (go_at_call 15; refine (h1 _).mono ?_)
                   | (go_at_call 16; refine (h2 _).mono ?_)
                   | (go_at_call 17; refine (awake08_any _).mono ?_))
                rintro e w' ⟨rfl, hw⟩
                exact ⟨rfl, St.call (by assumption) hw⟩)))
   try simp only [Act.put, List.setIfInBounds_toArray, List.set])
  (first
     | (apply head_skip rfl)
     | (apply head_step_g rfl
        focus
          intro w0 hC
          (exact eql_quiet 23 rfl rfl rfl Try.eqGuardType23 Try.underlying23 (by simp [go_sem]) (by simp [go_sem]) (by first | with_reducible assumption | with_reducible exact same_refl _ _)))
     | (apply head_step_g rfl
        focus
          intro w0 hC
          have hC' := Lib.hid hC
          obtain ⟨⟨r1, f1, i1, b1, l1⟩, ⟨r2, f2, i2, b2, l2⟩, m12, m21⟩ := St.facts2 hC
          clear hC
          go_simp
          have hC := hC'.out
          (first
             | with_reducible rfl
             | (skip
                (first
                   | (go_at_call 13; refine (ghMul_any _ _ _).mono ?_)
                   | (go_at_call 14; refine (refMul08_any _ _ _).mono ?_)
                   | (go_at_call 15; refine (h1 _).mono ?_)
                   | (go_at_call 16; refine (h2 _).mono ?_)
                   | (go_at_call 17; refine (awake08_any _).mono ?_))
                rintro e w' ⟨rfl, hw⟩
                exact ⟨rfl, St.call (by assumption) hw⟩)))
   try simp only [Act.put, List.setIfInBounds_toArray, List.set])
  (first
     | (apply head_skip rfl)
     | (apply head_step_g rfl
        focus
          intro w0 hC
          (exact eql_quiet 23 rfl rfl rfl Try.eqGuardType23 Try.underlying23 (by simp [go_sem]) (by simp [go_sem]) (by first | with_reducible assumption | with_reducible exact same_refl _ _)))
     | (apply head_step_g rfl
        focus
          intro w0 hC
          have hC' := Lib.hid hC
          obtain ⟨⟨r1, f1, i1, b1, l1⟩, ⟨r2, f2, i2, b2, l2⟩, m12, m21⟩ := St.facts2 hC
          clear hC
          go_simp
          have hC := hC'.out
          (first
             | with_reducible rfl
             | (skip
                (first
                   | (go_at_call 13; refine (ghMul_any _ _ _).mono ?_)
                   | (go_at_call 14; refine (refMul08_any _ _ _).mono ?_)
                   | (go_at_call 15; refine (h1 _).mono ?_)
                   | (go_at_call 16; refine (h2 _).mono ?_)
                   | (go_at_call 17; refine (awake08_any _).mono ?_))
                rintro e w' ⟨rfl, hw⟩
                exact ⟨rfl, St.call (by assumption) hw⟩)))
   try simp only [Act.put, List.setIfInBounds_toArray, List.set])
  (first
     | (apply head_skip rfl)
     | (apply head_step_g rfl
        focus
          intro w0 hC
          (exact eql_quiet 23 rfl rfl rfl Try.eqGuardType23 Try.underlying23 (by simp [go_sem]) (by simp [go_sem]) (by first | with_reducible assumption | with_reducible exact same_refl _ _)))
     | (apply head_step_g rfl
        focus
          intro w0 hC
          have hC' := Lib.hid hC
          obtain ⟨⟨r1, f1, i1, b1, l1⟩, ⟨r2, f2, i2, b2, l2⟩, m12, m21⟩ := St.facts2 hC
          clear hC
          go_simp
          have hC := hC'.out
          (first
             | with_reducible rfl
             | (skip
                (first
                   | (go_at_call 13; refine (ghMul_any _ _ _).mono ?_)
                   | (go_at_call 14; refine (refMul08_any _ _ _).mono ?_)
                   | (go_at_call 15; refine (h1 _).mono ?_)
                   | (go_at_call 16; refine (h2 _).mono ?_)
                   | (go_at_call 17; refine (awake08_any _).mono ?_))
                rintro e w' ⟨rfl, hw⟩
                exact ⟨rfl, St.call (by assumption) hw⟩)))
   try simp only [Act.put, List.setIfInBounds_toArray, List.set])
  (first
     | (apply head_skip rfl)
     | (apply head_step_g rfl
        focus
          intro w0 hC
          (exact eql_quiet 23 rfl rfl rfl Try.eqGuardType23 Try.underlying23 (by simp [go_sem]) (by simp [go_sem]) (by first | with_reducible assumption | with_reducible exact same_refl _ _)))
     | (apply head_step_g rfl
        focus
          intro w0 hC
          have hC' := Lib.hid hC
          obtain ⟨⟨r1, f1, i1, b1, l1⟩, ⟨r2, f2, i2, b2, l2⟩, m12, m21⟩ := St.facts2 hC
          clear hC
          go_simp
          have hC := hC'.out
          (first
             | with_reducible rfl
             | (skip
                (first
                   | (go_at_call 13; refine (ghMul_any _ _ _).mono ?_)
                   | (go_at_call 14; refine (refMul08_any _ _ _).mono ?_)
                   | (go_at_call 15; refine (h1 _).mono ?_)
                   | (go_at_call 16; refine (h2 _).mono ?_)
                   | (go_at_call 17; refine (awake08_any _).mono ?_))
                rintro e w' ⟨rfl, hw⟩
                exact ⟨rfl, St.call (by assumption) hw⟩)))
   try simp only [Act.put, List.setIfInBounds_toArray, List.set])
  (first
     | (apply head_skip rfl)
     | (apply head_step_g rfl
        focus
          intro w0 hC
          (exact eql_quiet 23 rfl rfl rfl Try.eqGuardType23 Try.underlying23 (by simp [go_sem]) (by simp [go_sem]) (by first | with_reducible assumption | with_reducible exact same_refl _ _)))
     | (apply head_step_g rfl
        focus
          intro w0 hC
          have hC' := Lib.hid hC
          obtain ⟨⟨r1, f1, i1, b1, l1⟩, ⟨r2, f2, i2, b2, l2⟩, m12, m21⟩ := St.facts2 hC
          clear hC
          go_simp
          have hC := hC'.out
          (first
             | with_reducible rfl
             | (skip
                (first
                   | (go_at_call 13; refine (ghMul_any _ _ _).mono ?_)
                   | (go_at_call 14; refine (refMul08_any _ _ _).mono ?_)
                   | (go_at_call 15; refine (h1 _).mono ?_)
                   | (go_at_call 16; refine (h2 _).mono ?_)
                   | (go_at_call 17; refine (awake08_any _).mono ?_))
                rintro e w' ⟨rfl, hw⟩
                exact ⟨rfl, St.call (by assumption) hw⟩)))
   try simp only [Act.put, List.setIfInBounds_toArray, List.set])
  (first
     | (apply head_skip rfl)
     | (apply head_step_g rfl
        focus
          intro w0 hC
          (exact eql_quiet 23 rfl rfl rfl Try.eqGuardType23 Try.underlying23 (by simp [go_sem]) (by simp [go_sem]) (by first | with_reducible assumption | with_reducible exact same_refl _ _)))
     | (apply head_step_g rfl
        focus
          intro w0 hC
          have hC' := Lib.hid hC
          obtain ⟨⟨r1, f1, i1, b1, l1⟩, ⟨r2, f2, i2, b2, l2⟩, m12, m21⟩ := St.facts2 hC
          clear hC
          go_simp
          have hC := hC'.out
          (first
             | with_reducible rfl
             | (skip
                (first
                   | (go_at_call 13; refine (ghMul_any _ _ _).mono ?_)
                   | (go_at_call 14; refine (refMul08_any _ _ _).mono ?_)
                   | (go_at_call 15; refine (h1 _).mono ?_)
                   | (go_at_call 16; refine (h2 _).mono ?_)
                   | (go_at_call 17; refine (awake08_any _).mono ?_))
                rintro e w' ⟨rfl, hw⟩
                exact ⟨rfl, St.call (by assumption) hw⟩)))
   try simp only [Act.put, List.setIfInBounds_toArray, List.set])
  (first
     | (apply head_skip rfl)
     | (apply head_step_g rfl
        focus
          intro w0 hC
          (exact eql_quiet 23 rfl rfl rfl Try.eqGuardType23 Try.underlying23 (by simp [go_sem]) (by simp [go_sem]) (by first | with_reducible assumption | with_reducible exact same_refl _ _)))
     | (apply head_step_g rfl
        focus
          intro w0 hC
          have hC' := Lib.hid hC
          obtain ⟨⟨r1, f1, i1, b1, l1⟩, ⟨r2, f2, i2, b2, l2⟩, m12, m21⟩ := St.facts2 hC
          clear hC
          go_simp
          have hC := hC'.out
          (first
             | with_reducible rfl
             | (skip
                (first
                   | (go_at_call 13; refine (ghMul_any _ _ _).mono ?_)
                   | (go_at_call 14; refine (refMul08_any _ _ _).mono ?_)
                   | (go_at_call 15; refine (h1 _).mono ?_)
                   | (go_at_call 16; refine (h2 _).mono ?_)
                   | (go_at_call 17; refine (awake08_any _).mono ?_))
                rintro e w' ⟨rfl, hw⟩
                exact ⟨rfl, St.call (by assumption) hw⟩)))
   try simp only [Act.put, List.setIfInBounds_toArray, List.set])
  (first
     | (apply head_skip rfl)
     | (apply head_step_g rfl
        focus
          intro w0 hC
          (exact eql_quiet 23 rfl rfl rfl Try.eqGuardType23 Try.underlying23 (by simp [go_sem]) (by simp [go_sem]) (by first | with_reducible assumption | with_reducible exact same_refl _ _)))
     | (apply head_step_g rfl
        focus
          intro w0 hC
          have hC' := Lib.hid hC
          obtain ⟨⟨r1, f1, i1, b1, l1⟩, ⟨r2, f2, i2, b2, l2⟩, m12, m21⟩ := St.facts2 hC
          clear hC
          go_simp
          have hC := hC'.out
          (first
             | with_reducible rfl
             | (skip
                (first
                   | (go_at_call 13; refine (ghMul_any _ _ _).mono ?_)
                   | (go_at_call 14; refine (refMul08_any _ _ _).mono ?_)
                   | (go_at_call 15; refine (h1 _).mono ?_)
                   | (go_at_call 16; refine (h2 _).mono ?_)
                   | (go_at_call 17; refine (awake08_any _).mono ?_))
                rintro e w' ⟨rfl, hw⟩
                exact ⟨rfl, St.call (by assumption) hw⟩)))
   try simp only [Act.put, List.setIfInBounds_toArray, List.set])
  (first
     | (apply head_skip rfl)
     | (apply head_step_g rfl
        focus
          intro w0 hC
          (exact eql_quiet 23 rfl rfl rfl Try.eqGuardType23 Try.underlying23 (by simp [go_sem]) (by simp [go_sem]) (by first | with_reducible assumption | with_reducible exact same_refl _ _)))
     | (apply head_step_g rfl
        focus
          intro w0 hC
          have hC' := Lib.hid hC
          obtain ⟨⟨r1, f1, i1, b1, l1⟩, ⟨r2, f2, i2, b2, l2⟩, m12, m21⟩ := St.facts2 hC
          clear hC
          go_simp
          have hC := hC'.out
          (first
             | with_reducible rfl
             | (skip
                (first
                   | (go_at_call 13; refine (ghMul_any _ _ _).mono ?_)
                   | (go_at_call 14; refine (refMul08_any _ _ _).mono ?_)
                   | (go_at_call 15; refine (h1 _).mono ?_)
                   | (go_at_call 16; refine (h2 _).mono ?_)
                   | (go_at_call 17; refine (awake08_any _).mono ?_))
                rintro e w' ⟨rfl, hw⟩
                exact ⟨rfl, St.call (by assumption) hw⟩)))
   try simp only [Act.put, List.setIfInBounds_toArray, List.set])
  (first
     | (apply head_skip rfl)
     | (apply head_step_g rfl
        focus
          intro w0 hC
          (exact eql_quiet 23 rfl rfl rfl Try.eqGuardType23 Try.underlying23 (by simp [go_sem]) (by simp [go_sem]) (by first | with_reducible assumption | with_reducible exact same_refl _ _)))
     | (apply head_step_g rfl
        focus
          intro w0 hC
          have hC' := Lib.hid hC
          obtain ⟨⟨r1, f1, i1, b1, l1⟩, ⟨r2, f2, i2, b2, l2⟩, m12, m21⟩ := St.facts2 hC
          clear hC
          go_simp
          have hC := hC'.out
          (first
             | with_reducible rfl
             | (skip
                (first
                   | (go_at_call 13; refine (ghMul_any _ _ _).mono ?_)
                   | (go_at_call 14; refine (refMul08_any _ _ _).mono ?_)
                   | (go_at_call 15; refine (h1 _).mono ?_)
                   | (go_at_call 16; refine (h2 _).mono ?_)
                   | (go_at_call 17; refine (awake08_any _).mono ?_))
                rintro e w' ⟨rfl, hw⟩
                exact ⟨rfl, St.call (by assumption) hw⟩)))
   try simp only [Act.put, List.setIfInBounds_toArray, List.set])
  (first
     | (apply head_skip rfl)
     | (apply head_step_g rfl
        focus
          intro w0 hC
          (exact eql_quiet 23 rfl rfl rfl Try.eqGuardType23 Try.underlying23 (by simp [go_sem]) (by simp [go_sem]) (by first | with_reducible assumption | with_reducible exact same_refl _ _)))
     | (apply head_step_g rfl
        focus
          intro w0 hC
          have hC' := Lib.hid hC
          obtain ⟨⟨r1, f1, i1, b1, l1⟩, ⟨r2, f2, i2, b2, l2⟩, m12, m21⟩ := St.facts2 hC
          clear hC
          go_simp
          have hC := hC'.out
          (first
             | with_reducible rfl
             | (skip
                (first
                   | (go_at_call 13; refine (ghMul_any _ _ _).mono ?_)
                   | (go_at_call 14; refine (refMul08_any _ _ _).mono ?_)
                   | (go_at_call 15; refine (h1 _).mono ?_)
                   | (go_at_call 16; refine (h2 _).mono ?_)
                   | (go_at_call 17; refine (awake08_any _).mono ?_))
                rintro e w' ⟨rfl, hw⟩
                exact ⟨rfl, St.call (by assumption) hw⟩)))
   try simp only [Act.put, List.setIfInBounds_toArray, List.set])
  (first
     | (apply head_skip rfl)
     | (apply head_step_g rfl
        focus
          intro w0 hC
          (exact eql_quiet 23 rfl rfl rfl Try.eqGuardType23 Try.underlying23 (by simp [go_sem]) (by simp [go_sem]) (by first | with_reducible assumption | with_reducible exact same_refl _ _)))
     | (apply head_step_g rfl
        focus
          intro w0 hC
          have hC' := Lib.hid hC
          obtain ⟨⟨r1, f1, i1, b1, l1⟩, ⟨r2, f2, i2, b2, l2⟩, m12, m21⟩ := St.facts2 hC
          clear hC
          go_simp
          have hC := hC'.out
          (first
             | with_reducible rfl
             | (skip
                (first
                   | (go_at_call 13; refine (ghMul_any _ _ _).mono ?_)
                   | (go_at_call 14; refine (refMul08_any _ _ _).mono ?_)
                   | (go_at_call 15; refine (h1 _).mono ?_)
                   | (go_at_call 16; refine (h2 _).mono ?_)
                   | (go_at_call 17; refine (awake08_any _).mono ?_))
                rintro e w' ⟨rfl, hw⟩
                exact ⟨rfl, St.call (by assumption) hw⟩)))
   try simp only [Act.put, List.setIfInBounds_toArray, List.set])
  (first
     | (apply head_skip rfl)
     | (apply head_step_g rfl
        focus
          intro w0 hC
          (exact eql_quiet 23 rfl rfl rfl Try.eqGuardType23 Try.underlying23 (by simp [go_sem]) (by simp [go_sem]) (by first | with_reducible assumption | with_reducible exact same_refl _ _)))
     | (apply head_step_g rfl
        focus
          intro w0 hC
          have hC' := Lib.hid hC
          obtain ⟨⟨r1, f1, i1, b1, l1⟩, ⟨r2, f2, i2, b2, l2⟩, m12, m21⟩ := St.facts2 hC
          clear hC
          go_simp
          have hC := hC'.out
          (first
             | with_reducible rfl
             | (skip
                (first
                   | (go_at_call 13; refine (ghMul_any _ _ _).mono ?_)
                   | (go_at_call 14; refine (refMul08_any _ _ _).mono ?_)
                   | (go_at_call 15; refine (h1 _).mono ?_)
                   | (go_at_call 16; refine (h2 _).mono ?_)
                   | (go_at_call 17; refine (awake08_any _).mono ?_))
                rintro e w' ⟨rfl, hw⟩
                exact ⟨rfl, St.call (by assumption) hw⟩)))
   try simp only [Act.put, List.setIfInBounds_toArray, List.set])
  (first
     | (apply head_skip rfl)
     | (apply head_step_g rfl
        focus
          intro w0 hC
          (exact eql_quiet 23 rfl rfl rfl Try.eqGuardType23 Try.underlying23 (by simp [go_sem]) (by simp [go_sem]) (by first | with_reducible assumption | with_reducible exact same_refl _ _)))
     | (apply head_step_g rfl
        focus
          intro w0 hC
          have hC' := Lib.hid hC
          obtain ⟨⟨r1, f1, i1, b1, l1⟩, ⟨r2, f2, i2, b2, l2⟩, m12, m21⟩ := St.facts2 hC
          clear hC
          go_simp
          have hC := hC'.out
          (first
             | with_reducible rfl
             | (skip
                (first
                   | (go_at_call 13; refine (ghMul_any _ _ _).mono ?_)
                   | (go_at_call 14; refine (refMul08_any _ _ _).mono ?_)
                   | (go_at_call 15; refine (h1 _).mono ?_)
                   | (go_at_call 16; refine (h2 _).mono ?_)
                   | (go_at_call 17; refine (awake08_any _).mono ?_))
                rintro e w' ⟨rfl, hw⟩
                exact ⟨rfl, St.call (by assumption) hw⟩)))
   try simp only [Act.put, List.setIfInBounds_toArray, List.set])
  refine wpQuiet_nil ?_
  intro w4 hC
  clear h1 h2
  go_wp2_with fail
  go_ret
  exact ⟨rfl, hC.below⟩
end Go.Proofs.Ytepooocdpifcfaa
