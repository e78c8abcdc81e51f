/- CipherKeys returns true at every two keys. No condition. -/
import Derived.Test.YtepooocdpifcfaaCiAwake
import Derived.Test.YtepooocdpifcfaaStores
import Derived.Test.YtepooocdpifcfaaEq2
namespace Go.Proofs.Ytepooocdpifcfaa
open Go.RowKit
attribute [local go_sem] B_xor B_or B_and
attribute [local go_sem] blk_set blk_size blk_get blk_getE upd_same oneCells_blk paste_blk cut_blk szOf
attribute [local go_sem high] paste_all cut_head
attribute [local go_sem] rowAt_alloc rowAt_drew rowAt_drewN isRow_alloc isRow_drew isRow_drewN freeRow_alloc freeRow_drew freeRow_drewN
attribute [local go_sem] setRow_alloc setRow_drew setRow_drewN setCell_drewN alloc_drewN rowAt_setRow isRow_setRow freeRow_setRow
attribute [local go_sem ↓] loadS_in storeS_in indexS_in copyS_in
attribute [local go_sem] loadS_row loadS_one storeS_row storeS_one indexS_blk copyS_rows run_equalIn_blk same_refl arrayAt_row
attribute [local go_sem] cell_row frozen_row st_setCell st_blk_ne stepAt stepUpon
attribute [local go_sem high] run_eql_blk run_neq_blk

/-! ### each round tells the one ahead of it -/
theorem next_inj {b c : Nat → UInt8} {m : UInt8} (h : Ci.EqB (Ci.next b m) (Ci.next c m)) : Ci.EqB b c := by
  have hn : ∀ (b : Nat → UInt8) (n i : Nat), i < 4 → n < 3 → Ci.next b m (4 * (n + 1) + i) = b (4 * (n + 1) + i) ^^^ Ci.next b m (4 * n + i) := fun b n i hi hn => by
    unfold Ci.next
    rw [show (4 * (n + 1) + i) / 4 = n + 1 by omega, show (4 * (n + 1) + i) % 4 = i by omega, show (4 * n + i) / 4 = n by omega, show (4 * n + i) % 4 = i by omega]
    rfl
  have h0 : ∀ (b : Nat → UInt8) (i : Nat), i < 4 → Ci.next b m i = b i ^^^ Ci.first b m i := fun b i hi => by
    unfold Ci.next
    rw [show i / 4 = 0 by omega, show i % 4 = i by omega]
    rfl
  have hup : ∀ i, 4 ≤ i → i < 16 → b i = c i := fun i h1 h2 => by
    have e1 := hn b (i / 4 - 1) (i % 4) (by omega) (by omega)
    have e2 := hn c (i / 4 - 1) (i % 4) (by omega) (by omega)
    rw [show 4 * (i / 4 - 1 + 1) + i % 4 = i by omega] at e1 e2
    rw [h i h2, h (4 * (i / 4 - 1) + i % 4) (by omega), e2] at e1
    have := congrArg (· ^^^ Ci.next c m (4 * (i / 4 - 1) + i % 4)) e1
    simp only [Ci.xor_cancel] at this
    exact this.symm
  intro i hi
  by_cases h4 : 4 ≤ i
  · exact hup i h4 hi
  · have e1 := h0 b i (by omega)
    have e2 := h0 c i (by omega)
    rw [h i hi, e2] at e1
    have hf : Ci.first b m i = Ci.first c m i := by
      unfold Ci.first
      rcases Ci.four_cases (show i < 4 by omega) with rfl | rfl | rfl | rfl <;> simp only [hup 12 (by decide) (by decide), hup 13 (by decide) (by decide), hup 14 (by decide) (by decide), hup 15 (by decide) (by decide)]
    rw [hf] at e1
    have := congrArg (· ^^^ Ci.first c m i) e1
    simp only [Ci.xor_cancel] at this
    exact this.symm
theorem first_congr {b c : Nat → UInt8} (m : UInt8) (h : Ci.EqB b c) (i : Nat) : Ci.first b m i = Ci.first c m i := by
  unfold Ci.first
  rw [h 12 (by decide), h 13 (by decide), h 14 (by decide), h 15 (by decide)]
theorem next_congr {b c : Nat → UInt8} (m : UInt8) (h : Ci.EqB b c) : Ci.EqB (Ci.next b m) (Ci.next c m) := fun j hj => by
  have : ∀ n i, i < 4 → n < 4 → Ci.nextAt b (Ci.first b m) n i = Ci.nextAt c (Ci.first c m) n i := fun n => by
    induction n with
    | zero => intro i hi _; show b i ^^^ _ = c i ^^^ _; rw [h i (by omega), first_congr m h]
    | succ n ih => intro i hi hn; show b _ ^^^ _ = c _ ^^^ _; rw [h _ (by omega), ih i hi (by omega)]
  exact this _ _ (Nat.mod_lt _ (by decide)) (by omega)
theorem expand_same (a b : Nat → UInt8) (n : Nat) : same 16 (Ci.expand a n) (Ci.expand b n) = same 16 a b := by
  rw [Bool.eq_iff_iff, same_iff, same_iff]
  induction n with
  | zero => exact Iff.rfl
  | succ n ih => exact ⟨fun h => ih.1 (next_inj h), fun h => next_congr _ (ih.2 h)⟩
theorem rd_rounds (a : Nat → UInt8) (n : Nat) : Ci.EqB (Ci.rd (Ci.rounds a) n) (Ci.expand a n) := fun i hi => by
  unfold Ci.rd Ci.rounds
  rw [show (16 * n + i) / 16 = n by omega, show (16 * n + i) % 16 = i by omega]
theorem rd_same (a b : Nat → UInt8) (n : Nat) : same 16 (Ci.rd (Ci.rounds a) n) (Ci.rd (Ci.rounds b) n) = same 16 a b := by
  rw [← expand_same a b n, Bool.eq_iff_iff, same_iff, same_iff]
  exact ⟨fun h => ((show Ci.EqB _ _ from (rd_rounds a n)).symm.trans h).trans (rd_rounds b n), fun h => ((rd_rounds a n).trans h).trans (Ci.EqB.symm (rd_rounds b n))⟩
theorem rounds_same (a b : Nat → UInt8) : same 176 (Ci.rounds a) (Ci.rounds b) = same 16 a b := by
  rw [Bool.eq_iff_iff]
  constructor
  · intro h
    rw [← rd_same a b 0, same_iff]
    exact fun i hi => (same_iff _ _ _).1 h _ (by omega)
  · intro h
    rw [same_iff]
    intro j hj
    have h1 := rd_same a b (j / 16)
    rw [h] at h1
    have h2 := (same_iff _ _ _).1 h1 (j % 16) (by omega)
    unfold Ci.rd at h2
    rwa [Nat.div_add_mod] at h2
theorem rounds_key (a : Nat → UInt8) : same 16 (Ci.rd (Ci.rounds a) 0) a = true := (same_iff _ _ _).2 (rd_rounds a 0)

set_option maxRecDepth 100000 in
set_option maxHeartbeats 1000000 in
theorem cipherKeys_walk (a b : Nat → UInt8) (w : World) : Calls Try.prog 12 #[.agg (blk 16 a), .agg (blk 16 b)] w fun e w' => e = .returned (.bool true) ∧ Below w.heap.size w w' := by
  have hz := zero16
  have hz3 := zero176
  have hr0 := rd_zero (Ci.rounds a)
  go_enter Try.func12, Try.ntmps12
  go_wp2_with fail
  have HC := Lib.hid ((((St.nil w).pushA (blk 16 a) 22 rfl).pushA (blk 16 b) 22 (g := w.heap.size + 1) (by simp)))
  refine St.region_store2 (w0 := w) 4 5 6 9 11 (blk 176 fun _ => 0) (blk 176 fun _ => 0) (blk 176 (Ci.rounds a)) (blk 176 (Ci.rounds b)) (.agg (blk 176 (Ci.rounds a))) (.agg (blk 176 (Ci.rounds b))) 46 46 HC.out (by kernel_rfl) (by decide +kernel) _ _ _ _ rfl rfl rfl rfl
    (fun w a => by simp [go_sem, ptrTo, hz3]) (fun w a => by simp [go_sem, ptrTo, hz3]) (stores_whole 46 _ _ (by simp [blk_size]) (fun w => by simp [go_sem]) (oneCells_blk _ _) rfl) (stores_whole 46 _ _ (by simp [blk_size]) (fun w => by simp [go_sem]) (oneCells_blk _ _) rfl) (by simp) ?_
  (simp only [List.take])
  (apply walkB_step
   focus
     intro w0 hC
     have hC' := Lib.hid hC
     obtain ⟨⟨r1, f1, i1, b1, l1⟩, ⟨r2, f2, i2, b2, l2⟩, m12, m21⟩ := St.facts2 hC
     clear hC
     go_simp
     (first
        | with_reducible rfl
        | exact expand_any _ _)
   try simp only [Act.put, List.setIfInBounds_toArray, List.set])
  (apply walkB_step
   focus
     intro w0 hC
     have hC' := Lib.hid hC
     obtain ⟨⟨r1, f1, i1, b1, l1⟩, ⟨r2, f2, i2, b2, l2⟩, m12, m21⟩ := St.facts2 hC
     clear hC
     go_simp
     (first
        | with_reducible rfl
        | exact expand_any _ _)
   try simp only [Act.put, List.setIfInBounds_toArray, List.set])
  (apply walkB_step
   focus
     intro w0 hC
     have hC' := Lib.hid hC
     obtain ⟨⟨r1, f1, i1, b1, l1⟩, ⟨r2, f2, i2, b2, l2⟩, m12, m21⟩ := St.facts2 hC
     clear hC
     go_simp
     (first
        | with_reducible rfl
        | exact expand_any _ _)
   try simp only [Act.put, List.setIfInBounds_toArray, List.set])
  (apply walkB_step
   focus
     intro w0 hC
     have hC' := Lib.hid hC
     obtain ⟨⟨r1, f1, i1, b1, l1⟩, ⟨r2, f2, i2, b2, l2⟩, m12, m21⟩ := St.facts2 hC
     clear hC
     go_simp
     (first
        | with_reducible rfl
        | exact expand_any _ _)
   try simp only [Act.put, List.setIfInBounds_toArray, List.set])
  refine walkB_nil ⟨⟨rfl, rfl⟩, ?_⟩
  intro w2 g1 g2 hC
  unfold ptrTo
  have e1 := rounds_key a
  have e2 := rounds_same a b
  (have HC := Lib.hid hC
   have sos := hC.below.os
   obtain ⟨⟨r1, f1, i1, b1, l1⟩, ⟨r2, f2, i2, b2, l2⟩, ⟨r3, f3, i3, b3, l3⟩, ⟨r4, f4, i4, b4, l4⟩, m12, m21, m13, m31, m14, m41, m23, m32, m24, m42, m34, m43⟩ := St.facts4 hC
   clear hC)
  go_wp2_with fail
  (clear r1 f1 i1 b1 l1 r2 f2 i2 b2 l2 r3 f3 i3 b3 l3 r4 f4 i4 b4 l4 m12 m21 m13 m31 m14 m41 m23 m32 m24 m42 m34 m43 sos)
  refine St.region HC.out (by kernel_rfl) (by kernel_rfl) ?_
  (first
     | (apply head_skip rfl)
     | (apply head_step_g rfl
        focus
          intro w0 hC
          (first
             | exact eql_quiet 23 rfl rfl rfl Try.eqGuardType23 Try.underlying23 (by simp [go_sem]) (by simp [go_sem]) (by first | assumption | rfl)
             | exact eql_quiet 22 rfl rfl rfl Try.eqGuardType22 Try.underlying22 (by simp [go_sem]) (by simp [go_sem]) (by first | assumption | rfl)
             | exact eql_quiet2 46 5 176 rfl rfl rfl (n := 11) (m := 16) rfl Try.eqGuardType46 Try.underlying46 (by simp [go_sem]) (by simp [go_sem]) Try.underlying23 (by simp [go_sem]) (by simp [go_sem]) Try.underlying5 (by first | assumption | rfl)
             | exact neq_quiet 23 rfl rfl rfl Try.eqGuardType23 Try.underlying23 (by simp [go_sem]) (by simp [go_sem]) (by first | assumption | rfl)))
     | (apply head_step_g rfl
        focus
          intro w0 hC
          have hC' := Lib.hid hC
          obtain ⟨⟨r1, f1, i1, b1, l1⟩, ⟨r2, f2, i2, b2, l2⟩, ⟨r3, f3, i3, b3, l3⟩, ⟨r4, f4, i4, b4, l4⟩, m12, m21, m13, m31, m14, m41, m23, m32, m24, m42, m34, m43⟩ := St.facts4 hC
          clear hC
          go_simp
          have hC := hC'.out
          (first
             | with_reducible rfl
             | (skip
                (first
                   | refine (awake_any _).mono ?_)
                rintro e w' ⟨rfl, hw⟩
                exact ⟨rfl, St.call (by assumption) hw⟩)))
   try simp only [Act.put, List.setIfInBounds_toArray, List.set])
  (first
     | (apply head_skip rfl)
     | (apply head_step_g rfl
        focus
          intro w0 hC
          (first
             | exact eql_quiet 23 rfl rfl rfl Try.eqGuardType23 Try.underlying23 (by simp [go_sem]) (by simp [go_sem]) (by first | assumption | rfl)
             | exact eql_quiet 22 rfl rfl rfl Try.eqGuardType22 Try.underlying22 (by simp [go_sem]) (by simp [go_sem]) (by first | assumption | rfl)
             | exact eql_quiet2 46 5 176 rfl rfl rfl (n := 11) (m := 16) rfl Try.eqGuardType46 Try.underlying46 (by simp [go_sem]) (by simp [go_sem]) Try.underlying23 (by simp [go_sem]) (by simp [go_sem]) Try.underlying5 (by first | assumption | rfl)
             | exact neq_quiet 23 rfl rfl rfl Try.eqGuardType23 Try.underlying23 (by simp [go_sem]) (by simp [go_sem]) (by first | assumption | rfl)))
     | (apply head_step_g rfl
        focus
          intro w0 hC
          have hC' := Lib.hid hC
          obtain ⟨⟨r1, f1, i1, b1, l1⟩, ⟨r2, f2, i2, b2, l2⟩, ⟨r3, f3, i3, b3, l3⟩, ⟨r4, f4, i4, b4, l4⟩, m12, m21, m13, m31, m14, m41, m23, m32, m24, m42, m34, m43⟩ := St.facts4 hC
          clear hC
          go_simp
          have hC := hC'.out
          (first
             | with_reducible rfl
             | (skip
                (first
                   | refine (awake_any _).mono ?_)
                rintro e w' ⟨rfl, hw⟩
                exact ⟨rfl, St.call (by assumption) hw⟩)))
   try simp only [Act.put, List.setIfInBounds_toArray, List.set])
  (first
     | (apply head_skip rfl)
     | (apply head_step_g rfl
        focus
          intro w0 hC
          (first
             | exact eql_quiet 23 rfl rfl rfl Try.eqGuardType23 Try.underlying23 (by simp [go_sem]) (by simp [go_sem]) (by first | assumption | rfl)
             | exact eql_quiet 22 rfl rfl rfl Try.eqGuardType22 Try.underlying22 (by simp [go_sem]) (by simp [go_sem]) (by first | assumption | rfl)
             | exact eql_quiet2 46 5 176 rfl rfl rfl (n := 11) (m := 16) rfl Try.eqGuardType46 Try.underlying46 (by simp [go_sem]) (by simp [go_sem]) Try.underlying23 (by simp [go_sem]) (by simp [go_sem]) Try.underlying5 (by first | assumption | rfl)
             | exact neq_quiet 23 rfl rfl rfl Try.eqGuardType23 Try.underlying23 (by simp [go_sem]) (by simp [go_sem]) (by first | assumption | rfl)))
     | (apply head_step_g rfl
        focus
          intro w0 hC
          have hC' := Lib.hid hC
          obtain ⟨⟨r1, f1, i1, b1, l1⟩, ⟨r2, f2, i2, b2, l2⟩, ⟨r3, f3, i3, b3, l3⟩, ⟨r4, f4, i4, b4, l4⟩, m12, m21, m13, m31, m14, m41, m23, m32, m24, m42, m34, m43⟩ := St.facts4 hC
          clear hC
          go_simp
          have hC := hC'.out
          (first
             | with_reducible rfl
             | (skip
                (first
                   | refine (awake_any _).mono ?_)
                rintro e w' ⟨rfl, hw⟩
                exact ⟨rfl, St.call (by assumption) hw⟩)))
   try simp only [Act.put, List.setIfInBounds_toArray, List.set])
  (first
     | (apply head_skip rfl)
     | (apply head_step_g rfl
        focus
          intro w0 hC
          (first
             | exact eql_quiet 23 rfl rfl rfl Try.eqGuardType23 Try.underlying23 (by simp [go_sem]) (by simp [go_sem]) (by first | assumption | rfl)
             | exact eql_quiet 22 rfl rfl rfl Try.eqGuardType22 Try.underlying22 (by simp [go_sem]) (by simp [go_sem]) (by first | assumption | rfl)
             | exact eql_quiet2 46 5 176 rfl rfl rfl (n := 11) (m := 16) rfl Try.eqGuardType46 Try.underlying46 (by simp [go_sem]) (by simp [go_sem]) Try.underlying23 (by simp [go_sem]) (by simp [go_sem]) Try.underlying5 (by first | assumption | rfl)
             | exact neq_quiet 23 rfl rfl rfl Try.eqGuardType23 Try.underlying23 (by simp [go_sem]) (by simp [go_sem]) (by first | assumption | rfl)))
     | (apply head_step_g rfl
        focus
          intro w0 hC
          have hC' := Lib.hid hC
          obtain ⟨⟨r1, f1, i1, b1, l1⟩, ⟨r2, f2, i2, b2, l2⟩, ⟨r3, f3, i3, b3, l3⟩, ⟨r4, f4, i4, b4, l4⟩, m12, m21, m13, m31, m14, m41, m23, m32, m24, m42, m34, m43⟩ := St.facts4 hC
          clear hC
          go_simp
          have hC := hC'.out
          (first
             | with_reducible rfl
             | (skip
                (first
                   | refine (awake_any _).mono ?_)
                rintro e w' ⟨rfl, hw⟩
                exact ⟨rfl, St.call (by assumption) hw⟩)))
   try simp only [Act.put, List.setIfInBounds_toArray, List.set])
  (first
     | (apply head_skip rfl)
     | (apply head_step_g rfl
        focus
          intro w0 hC
          (first
             | exact eql_quiet 23 rfl rfl rfl Try.eqGuardType23 Try.underlying23 (by simp [go_sem]) (by simp [go_sem]) (by first | assumption | rfl)
             | exact eql_quiet 22 rfl rfl rfl Try.eqGuardType22 Try.underlying22 (by simp [go_sem]) (by simp [go_sem]) (by first | assumption | rfl)
             | exact eql_quiet2 46 5 176 rfl rfl rfl (n := 11) (m := 16) rfl Try.eqGuardType46 Try.underlying46 (by simp [go_sem]) (by simp [go_sem]) Try.underlying23 (by simp [go_sem]) (by simp [go_sem]) Try.underlying5 (by first | assumption | rfl)
             | exact neq_quiet 23 rfl rfl rfl Try.eqGuardType23 Try.underlying23 (by simp [go_sem]) (by simp [go_sem]) (by first | assumption | rfl)))
     | (apply head_step_g rfl
        focus
          intro w0 hC
          have hC' := Lib.hid hC
          obtain ⟨⟨r1, f1, i1, b1, l1⟩, ⟨r2, f2, i2, b2, l2⟩, ⟨r3, f3, i3, b3, l3⟩, ⟨r4, f4, i4, b4, l4⟩, m12, m21, m13, m31, m14, m41, m23, m32, m24, m42, m34, m43⟩ := St.facts4 hC
          clear hC
          go_simp
          have hC := hC'.out
          (first
             | with_reducible rfl
             | (skip
                (first
                   | refine (awake_any _).mono ?_)
                rintro e w' ⟨rfl, hw⟩
                exact ⟨rfl, St.call (by assumption) hw⟩)))
   try simp only [Act.put, List.setIfInBounds_toArray, List.set])
  (first
     | (apply head_skip rfl)
     | (apply head_step_g rfl
        focus
          intro w0 hC
          (first
             | exact eql_quiet 23 rfl rfl rfl Try.eqGuardType23 Try.underlying23 (by simp [go_sem]) (by simp [go_sem]) (by first | assumption | rfl)
             | exact eql_quiet 22 rfl rfl rfl Try.eqGuardType22 Try.underlying22 (by simp [go_sem]) (by simp [go_sem]) (by first | assumption | rfl)
             | exact eql_quiet2 46 5 176 rfl rfl rfl (n := 11) (m := 16) rfl Try.eqGuardType46 Try.underlying46 (by simp [go_sem]) (by simp [go_sem]) Try.underlying23 (by simp [go_sem]) (by simp [go_sem]) Try.underlying5 (by first | assumption | rfl)
             | exact neq_quiet 23 rfl rfl rfl Try.eqGuardType23 Try.underlying23 (by simp [go_sem]) (by simp [go_sem]) (by first | assumption | rfl)))
     | (apply head_step_g rfl
        focus
          intro w0 hC
          have hC' := Lib.hid hC
          obtain ⟨⟨r1, f1, i1, b1, l1⟩, ⟨r2, f2, i2, b2, l2⟩, ⟨r3, f3, i3, b3, l3⟩, ⟨r4, f4, i4, b4, l4⟩, m12, m21, m13, m31, m14, m41, m23, m32, m24, m42, m34, m43⟩ := St.facts4 hC
          clear hC
          go_simp
          have hC := hC'.out
          (first
             | with_reducible rfl
             | (skip
                (first
                   | refine (awake_any _).mono ?_)
                rintro e w' ⟨rfl, hw⟩
                exact ⟨rfl, St.call (by assumption) hw⟩)))
   try simp only [Act.put, List.setIfInBounds_toArray, List.set])
  (first
     | (apply head_skip rfl)
     | (apply head_step_g rfl
        focus
          intro w0 hC
          (first
             | exact eql_quiet 23 rfl rfl rfl Try.eqGuardType23 Try.underlying23 (by simp [go_sem]) (by simp [go_sem]) (by first | assumption | rfl)
             | exact eql_quiet 22 rfl rfl rfl Try.eqGuardType22 Try.underlying22 (by simp [go_sem]) (by simp [go_sem]) (by first | assumption | rfl)
             | exact eql_quiet2 46 5 176 rfl rfl rfl (n := 11) (m := 16) rfl Try.eqGuardType46 Try.underlying46 (by simp [go_sem]) (by simp [go_sem]) Try.underlying23 (by simp [go_sem]) (by simp [go_sem]) Try.underlying5 (by first | assumption | rfl)
             | exact neq_quiet 23 rfl rfl rfl Try.eqGuardType23 Try.underlying23 (by simp [go_sem]) (by simp [go_sem]) (by first | assumption | rfl)))
     | (apply head_step_g rfl
        focus
          intro w0 hC
          have hC' := Lib.hid hC
          obtain ⟨⟨r1, f1, i1, b1, l1⟩, ⟨r2, f2, i2, b2, l2⟩, ⟨r3, f3, i3, b3, l3⟩, ⟨r4, f4, i4, b4, l4⟩, m12, m21, m13, m31, m14, m41, m23, m32, m24, m42, m34, m43⟩ := St.facts4 hC
          clear hC
          go_simp
          have hC := hC'.out
          (first
             | with_reducible rfl
             | (skip
                (first
                   | refine (awake_any _).mono ?_)
                rintro e w' ⟨rfl, hw⟩
                exact ⟨rfl, St.call (by assumption) hw⟩)))
   try simp only [Act.put, List.setIfInBounds_toArray, List.set])
  (first
     | (apply head_skip rfl)
     | (apply head_step_g rfl
        focus
          intro w0 hC
          (first
             | exact eql_quiet 23 rfl rfl rfl Try.eqGuardType23 Try.underlying23 (by simp [go_sem]) (by simp [go_sem]) (by first | assumption | rfl)
             | exact eql_quiet 22 rfl rfl rfl Try.eqGuardType22 Try.underlying22 (by simp [go_sem]) (by simp [go_sem]) (by first | assumption | rfl)
             | exact eql_quiet2 46 5 176 rfl rfl rfl (n := 11) (m := 16) rfl Try.eqGuardType46 Try.underlying46 (by simp [go_sem]) (by simp [go_sem]) Try.underlying23 (by simp [go_sem]) (by simp [go_sem]) Try.underlying5 (by first | assumption | rfl)
             | exact neq_quiet 23 rfl rfl rfl Try.eqGuardType23 Try.underlying23 (by simp [go_sem]) (by simp [go_sem]) (by first | assumption | rfl)))
     | (apply head_step_g rfl
        focus
          intro w0 hC
          have hC' := Lib.hid hC
          obtain ⟨⟨r1, f1, i1, b1, l1⟩, ⟨r2, f2, i2, b2, l2⟩, ⟨r3, f3, i3, b3, l3⟩, ⟨r4, f4, i4, b4, l4⟩, m12, m21, m13, m31, m14, m41, m23, m32, m24, m42, m34, m43⟩ := St.facts4 hC
          clear hC
          go_simp
          have hC := hC'.out
          (first
             | with_reducible rfl
             | (skip
                (first
                   | refine (awake_any _).mono ?_)
                rintro e w' ⟨rfl, hw⟩
                exact ⟨rfl, St.call (by assumption) hw⟩)))
   try simp only [Act.put, List.setIfInBounds_toArray, List.set])
  (first
     | (apply head_skip rfl)
     | (apply head_step_g rfl
        focus
          intro w0 hC
          (first
             | exact eql_quiet 23 rfl rfl rfl Try.eqGuardType23 Try.underlying23 (by simp [go_sem]) (by simp [go_sem]) (by first | assumption | rfl)
             | exact eql_quiet 22 rfl rfl rfl Try.eqGuardType22 Try.underlying22 (by simp [go_sem]) (by simp [go_sem]) (by first | assumption | rfl)
             | exact eql_quiet2 46 5 176 rfl rfl rfl (n := 11) (m := 16) rfl Try.eqGuardType46 Try.underlying46 (by simp [go_sem]) (by simp [go_sem]) Try.underlying23 (by simp [go_sem]) (by simp [go_sem]) Try.underlying5 (by first | assumption | rfl)
             | exact neq_quiet 23 rfl rfl rfl Try.eqGuardType23 Try.underlying23 (by simp [go_sem]) (by simp [go_sem]) (by first | assumption | rfl)))
     | (apply head_step_g rfl
        focus
          intro w0 hC
          have hC' := Lib.hid hC
          obtain ⟨⟨r1, f1, i1, b1, l1⟩, ⟨r2, f2, i2, b2, l2⟩, ⟨r3, f3, i3, b3, l3⟩, ⟨r4, f4, i4, b4, l4⟩, m12, m21, m13, m31, m14, m41, m23, m32, m24, m42, m34, m43⟩ := St.facts4 hC
          clear hC
          go_simp
          have hC := hC'.out
          (first
             | with_reducible rfl
             | (skip
                (first
                   | refine (awake_any _).mono ?_)
                rintro e w' ⟨rfl, hw⟩
                exact ⟨rfl, St.call (by assumption) hw⟩)))
   try simp only [Act.put, List.setIfInBounds_toArray, List.set])
  (first
     | (apply head_skip rfl)
     | (apply head_step_g rfl
        focus
          intro w0 hC
          (first
             | exact eql_quiet 23 rfl rfl rfl Try.eqGuardType23 Try.underlying23 (by simp [go_sem]) (by simp [go_sem]) (by first | assumption | rfl)
             | exact eql_quiet 22 rfl rfl rfl Try.eqGuardType22 Try.underlying22 (by simp [go_sem]) (by simp [go_sem]) (by first | assumption | rfl)
             | exact eql_quiet2 46 5 176 rfl rfl rfl (n := 11) (m := 16) rfl Try.eqGuardType46 Try.underlying46 (by simp [go_sem]) (by simp [go_sem]) Try.underlying23 (by simp [go_sem]) (by simp [go_sem]) Try.underlying5 (by first | assumption | rfl)
             | exact neq_quiet 23 rfl rfl rfl Try.eqGuardType23 Try.underlying23 (by simp [go_sem]) (by simp [go_sem]) (by first | assumption | rfl)))
     | (apply head_step_g rfl
        focus
          intro w0 hC
          have hC' := Lib.hid hC
          obtain ⟨⟨r1, f1, i1, b1, l1⟩, ⟨r2, f2, i2, b2, l2⟩, ⟨r3, f3, i3, b3, l3⟩, ⟨r4, f4, i4, b4, l4⟩, m12, m21, m13, m31, m14, m41, m23, m32, m24, m42, m34, m43⟩ := St.facts4 hC
          clear hC
          go_simp
          have hC := hC'.out
          (first
             | with_reducible rfl
             | (skip
                (first
                   | refine (awake_any _).mono ?_)
                rintro e w' ⟨rfl, hw⟩
                exact ⟨rfl, St.call (by assumption) hw⟩)))
   try simp only [Act.put, List.setIfInBounds_toArray, List.set])
  (first
     | (apply head_skip rfl)
     | (apply head_step_g rfl
        focus
          intro w0 hC
          (first
             | exact eql_quiet 23 rfl rfl rfl Try.eqGuardType23 Try.underlying23 (by simp [go_sem]) (by simp [go_sem]) (by first | assumption | rfl)
             | exact eql_quiet 22 rfl rfl rfl Try.eqGuardType22 Try.underlying22 (by simp [go_sem]) (by simp [go_sem]) (by first | assumption | rfl)
             | exact eql_quiet2 46 5 176 rfl rfl rfl (n := 11) (m := 16) rfl Try.eqGuardType46 Try.underlying46 (by simp [go_sem]) (by simp [go_sem]) Try.underlying23 (by simp [go_sem]) (by simp [go_sem]) Try.underlying5 (by first | assumption | rfl)
             | exact neq_quiet 23 rfl rfl rfl Try.eqGuardType23 Try.underlying23 (by simp [go_sem]) (by simp [go_sem]) (by first | assumption | rfl)))
     | (apply head_step_g rfl
        focus
          intro w0 hC
          have hC' := Lib.hid hC
          obtain ⟨⟨r1, f1, i1, b1, l1⟩, ⟨r2, f2, i2, b2, l2⟩, ⟨r3, f3, i3, b3, l3⟩, ⟨r4, f4, i4, b4, l4⟩, m12, m21, m13, m31, m14, m41, m23, m32, m24, m42, m34, m43⟩ := St.facts4 hC
          clear hC
          go_simp
          have hC := hC'.out
          (first
             | with_reducible rfl
             | (skip
                (first
                   | refine (awake_any _).mono ?_)
                rintro e w' ⟨rfl, hw⟩
                exact ⟨rfl, St.call (by assumption) hw⟩)))
   try simp only [Act.put, List.setIfInBounds_toArray, List.set])
  (first
     | (apply head_skip rfl)
     | (apply head_step_g rfl
        focus
          intro w0 hC
          (first
             | exact eql_quiet 23 rfl rfl rfl Try.eqGuardType23 Try.underlying23 (by simp [go_sem]) (by simp [go_sem]) (by first | assumption | rfl)
             | exact eql_quiet 22 rfl rfl rfl Try.eqGuardType22 Try.underlying22 (by simp [go_sem]) (by simp [go_sem]) (by first | assumption | rfl)
             | exact eql_quiet2 46 5 176 rfl rfl rfl (n := 11) (m := 16) rfl Try.eqGuardType46 Try.underlying46 (by simp [go_sem]) (by simp [go_sem]) Try.underlying23 (by simp [go_sem]) (by simp [go_sem]) Try.underlying5 (by first | assumption | rfl)
             | exact neq_quiet 23 rfl rfl rfl Try.eqGuardType23 Try.underlying23 (by simp [go_sem]) (by simp [go_sem]) (by first | assumption | rfl)))
     | (apply head_step_g rfl
        focus
          intro w0 hC
          have hC' := Lib.hid hC
          obtain ⟨⟨r1, f1, i1, b1, l1⟩, ⟨r2, f2, i2, b2, l2⟩, ⟨r3, f3, i3, b3, l3⟩, ⟨r4, f4, i4, b4, l4⟩, m12, m21, m13, m31, m14, m41, m23, m32, m24, m42, m34, m43⟩ := St.facts4 hC
          clear hC
          go_simp
          have hC := hC'.out
          (first
             | with_reducible rfl
             | (skip
                (first
                   | refine (awake_any _).mono ?_)
                rintro e w' ⟨rfl, hw⟩
                exact ⟨rfl, St.call (by assumption) hw⟩)))
   try simp only [Act.put, List.setIfInBounds_toArray, List.set])
  (first
     | (apply head_skip rfl)
     | (apply head_step_g rfl
        focus
          intro w0 hC
          (first
             | exact eql_quiet 23 rfl rfl rfl Try.eqGuardType23 Try.underlying23 (by simp [go_sem]) (by simp [go_sem]) (by first | assumption | rfl)
             | exact eql_quiet 22 rfl rfl rfl Try.eqGuardType22 Try.underlying22 (by simp [go_sem]) (by simp [go_sem]) (by first | assumption | rfl)
             | exact eql_quiet2 46 5 176 rfl rfl rfl (n := 11) (m := 16) rfl Try.eqGuardType46 Try.underlying46 (by simp [go_sem]) (by simp [go_sem]) Try.underlying23 (by simp [go_sem]) (by simp [go_sem]) Try.underlying5 (by first | assumption | rfl)
             | exact neq_quiet 23 rfl rfl rfl Try.eqGuardType23 Try.underlying23 (by simp [go_sem]) (by simp [go_sem]) (by first | assumption | rfl)))
     | (apply head_step_g rfl
        focus
          intro w0 hC
          have hC' := Lib.hid hC
          obtain ⟨⟨r1, f1, i1, b1, l1⟩, ⟨r2, f2, i2, b2, l2⟩, ⟨r3, f3, i3, b3, l3⟩, ⟨r4, f4, i4, b4, l4⟩, m12, m21, m13, m31, m14, m41, m23, m32, m24, m42, m34, m43⟩ := St.facts4 hC
          clear hC
          go_simp
          have hC := hC'.out
          (first
             | with_reducible rfl
             | (skip
                (first
                   | refine (awake_any _).mono ?_)
                rintro e w' ⟨rfl, hw⟩
                exact ⟨rfl, St.call (by assumption) hw⟩)))
   try simp only [Act.put, List.setIfInBounds_toArray, List.set])
  refine wpQuiet_nil ?_
  intro w3 hC
  clear e1 e2
  (have HC := Lib.hid hC
   have sos := hC.below.os
   obtain ⟨⟨r1, f1, i1, b1, l1⟩, ⟨r2, f2, i2, b2, l2⟩, ⟨r3, f3, i3, b3, l3⟩, ⟨r4, f4, i4, b4, l4⟩, m12, m21, m13, m31, m14, m41, m23, m32, m24, m42, m34, m43⟩ := St.facts4 hC
   clear hC)
  go_wp2_with fail
  (clear r1 f1 i1 b1 l1 r2 f2 i2 b2 l2 r3 f3 i3 b3 l3 r4 f4 i4 b4 l4 m12 m21 m13 m31 m14 m41 m23 m32 m24 m42 m34 m43 sos)
  go_loopw [7] (fun i wr => ∃ k : Nat, k ≤ 11 ∧ i = .int .i64 (k : Int) ∧ Hid (St w [(g2, blk 176 (Ci.rounds b)), (g1, blk 176 (Ci.rounds a)), (w.heap.size + 1, blk 16 b), (w.heap.size, blk 16 a)] wr)) (fun i _ => 11 - (intOf i).toNat)
  case atStart => exact ⟨0, by omega, rfl, HC⟩
  case round =>
    clear HC hr0
    obtain ⟨k, hk, rfl, HR⟩ := hrel
    by_cases hlt : k < 11
    · have hd : ((k : Int) < 11) := by omega
      have b2 : k * 16 + 16 ≤ 176 := by omega
      have hra := rd_at (Ci.rounds a) k
      have hrb := rd_at (Ci.rounds b) k
      have e1 := rd_same a b k
      go_wp2_with fail
      refine St.region HR.out (by kernel_rfl) (by kernel_rfl) ?_
      (first
         | (apply head_skip rfl)
         | (apply head_step_g rfl
            focus
              intro w0 hC
              (first
                 | exact eql_quiet 23 rfl rfl rfl Try.eqGuardType23 Try.underlying23 (by simp [go_sem]) (by simp [go_sem]) (by first | assumption | rfl)
                 | exact eql_quiet 22 rfl rfl rfl Try.eqGuardType22 Try.underlying22 (by simp [go_sem]) (by simp [go_sem]) (by first | assumption | rfl)
                 | exact eql_quiet2 46 5 176 rfl rfl rfl (n := 11) (m := 16) rfl Try.eqGuardType46 Try.underlying46 (by simp [go_sem]) (by simp [go_sem]) Try.underlying23 (by simp [go_sem]) (by simp [go_sem]) Try.underlying5 (by first | assumption | rfl)
                 | exact neq_quiet 23 rfl rfl rfl Try.eqGuardType23 Try.underlying23 (by simp [go_sem]) (by simp [go_sem]) (by first | assumption | rfl)))
         | (apply head_step_g rfl
            focus
              intro w0 hC
              have hC' := Lib.hid hC
              obtain ⟨⟨r1, f1, i1, b1, l1⟩, ⟨r2, f2, i2, b2, l2⟩, ⟨r3, f3, i3, b3, l3⟩, ⟨r4, f4, i4, b4, l4⟩, m12, m21, m13, m31, m14, m41, m23, m32, m24, m42, m34, m43⟩ := St.facts4 hC
              clear hC
              go_simp
              have hC := hC'.out
              (first
                 | with_reducible rfl
                 | (skip
                    (first
                       | refine (awake_any _).mono ?_)
                    rintro e w' ⟨rfl, hw⟩
                    exact ⟨rfl, St.call (by assumption) hw⟩)))
       try simp only [Act.put, List.setIfInBounds_toArray, List.set])
      (first
         | (apply head_skip rfl)
         | (apply head_step_g rfl
            focus
              intro w0 hC
              (first
                 | exact eql_quiet 23 rfl rfl rfl Try.eqGuardType23 Try.underlying23 (by simp [go_sem]) (by simp [go_sem]) (by first | assumption | rfl)
                 | exact eql_quiet 22 rfl rfl rfl Try.eqGuardType22 Try.underlying22 (by simp [go_sem]) (by simp [go_sem]) (by first | assumption | rfl)
                 | exact eql_quiet2 46 5 176 rfl rfl rfl (n := 11) (m := 16) rfl Try.eqGuardType46 Try.underlying46 (by simp [go_sem]) (by simp [go_sem]) Try.underlying23 (by simp [go_sem]) (by simp [go_sem]) Try.underlying5 (by first | assumption | rfl)
                 | exact neq_quiet 23 rfl rfl rfl Try.eqGuardType23 Try.underlying23 (by simp [go_sem]) (by simp [go_sem]) (by first | assumption | rfl)))
         | (apply head_step_g rfl
            focus
              intro w0 hC
              have hC' := Lib.hid hC
              obtain ⟨⟨r1, f1, i1, b1, l1⟩, ⟨r2, f2, i2, b2, l2⟩, ⟨r3, f3, i3, b3, l3⟩, ⟨r4, f4, i4, b4, l4⟩, m12, m21, m13, m31, m14, m41, m23, m32, m24, m42, m34, m43⟩ := St.facts4 hC
              clear hC
              go_simp
              have hC := hC'.out
              (first
                 | with_reducible rfl
                 | (skip
                    (first
                       | refine (awake_any _).mono ?_)
                    rintro e w' ⟨rfl, hw⟩
                    exact ⟨rfl, St.call (by assumption) hw⟩)))
       try simp only [Act.put, List.setIfInBounds_toArray, List.set])
      (first
         | (apply head_skip rfl)
         | (apply head_step_g rfl
            focus
              intro w0 hC
              (first
                 | exact eql_quiet 23 rfl rfl rfl Try.eqGuardType23 Try.underlying23 (by simp [go_sem]) (by simp [go_sem]) (by first | assumption | rfl)
                 | exact eql_quiet 22 rfl rfl rfl Try.eqGuardType22 Try.underlying22 (by simp [go_sem]) (by simp [go_sem]) (by first | assumption | rfl)
                 | exact eql_quiet2 46 5 176 rfl rfl rfl (n := 11) (m := 16) rfl Try.eqGuardType46 Try.underlying46 (by simp [go_sem]) (by simp [go_sem]) Try.underlying23 (by simp [go_sem]) (by simp [go_sem]) Try.underlying5 (by first | assumption | rfl)
                 | exact neq_quiet 23 rfl rfl rfl Try.eqGuardType23 Try.underlying23 (by simp [go_sem]) (by simp [go_sem]) (by first | assumption | rfl)))
         | (apply head_step_g rfl
            focus
              intro w0 hC
              have hC' := Lib.hid hC
              obtain ⟨⟨r1, f1, i1, b1, l1⟩, ⟨r2, f2, i2, b2, l2⟩, ⟨r3, f3, i3, b3, l3⟩, ⟨r4, f4, i4, b4, l4⟩, m12, m21, m13, m31, m14, m41, m23, m32, m24, m42, m34, m43⟩ := St.facts4 hC
              clear hC
              go_simp
              have hC := hC'.out
              (first
                 | with_reducible rfl
                 | (skip
                    (first
                       | refine (awake_any _).mono ?_)
                    rintro e w' ⟨rfl, hw⟩
                    exact ⟨rfl, St.call (by assumption) hw⟩)))
       try simp only [Act.put, List.setIfInBounds_toArray, List.set])
      (first
         | (apply head_skip rfl)
         | (apply head_step_g rfl
            focus
              intro w0 hC
              (first
                 | exact eql_quiet 23 rfl rfl rfl Try.eqGuardType23 Try.underlying23 (by simp [go_sem]) (by simp [go_sem]) (by first | assumption | rfl)
                 | exact eql_quiet 22 rfl rfl rfl Try.eqGuardType22 Try.underlying22 (by simp [go_sem]) (by simp [go_sem]) (by first | assumption | rfl)
                 | exact eql_quiet2 46 5 176 rfl rfl rfl (n := 11) (m := 16) rfl Try.eqGuardType46 Try.underlying46 (by simp [go_sem]) (by simp [go_sem]) Try.underlying23 (by simp [go_sem]) (by simp [go_sem]) Try.underlying5 (by first | assumption | rfl)
                 | exact neq_quiet 23 rfl rfl rfl Try.eqGuardType23 Try.underlying23 (by simp [go_sem]) (by simp [go_sem]) (by first | assumption | rfl)))
         | (apply head_step_g rfl
            focus
              intro w0 hC
              have hC' := Lib.hid hC
              obtain ⟨⟨r1, f1, i1, b1, l1⟩, ⟨r2, f2, i2, b2, l2⟩, ⟨r3, f3, i3, b3, l3⟩, ⟨r4, f4, i4, b4, l4⟩, m12, m21, m13, m31, m14, m41, m23, m32, m24, m42, m34, m43⟩ := St.facts4 hC
              clear hC
              go_simp
              have hC := hC'.out
              (first
                 | with_reducible rfl
                 | (skip
                    (first
                       | refine (awake_any _).mono ?_)
                    rintro e w' ⟨rfl, hw⟩
                    exact ⟨rfl, St.call (by assumption) hw⟩)))
       try simp only [Act.put, List.setIfInBounds_toArray, List.set])
      (first
         | (apply head_skip rfl)
         | (apply head_step_g rfl
            focus
              intro w0 hC
              (first
                 | exact eql_quiet 23 rfl rfl rfl Try.eqGuardType23 Try.underlying23 (by simp [go_sem]) (by simp [go_sem]) (by first | assumption | rfl)
                 | exact eql_quiet 22 rfl rfl rfl Try.eqGuardType22 Try.underlying22 (by simp [go_sem]) (by simp [go_sem]) (by first | assumption | rfl)
                 | exact eql_quiet2 46 5 176 rfl rfl rfl (n := 11) (m := 16) rfl Try.eqGuardType46 Try.underlying46 (by simp [go_sem]) (by simp [go_sem]) Try.underlying23 (by simp [go_sem]) (by simp [go_sem]) Try.underlying5 (by first | assumption | rfl)
                 | exact neq_quiet 23 rfl rfl rfl Try.eqGuardType23 Try.underlying23 (by simp [go_sem]) (by simp [go_sem]) (by first | assumption | rfl)))
         | (apply head_step_g rfl
            focus
              intro w0 hC
              have hC' := Lib.hid hC
              obtain ⟨⟨r1, f1, i1, b1, l1⟩, ⟨r2, f2, i2, b2, l2⟩, ⟨r3, f3, i3, b3, l3⟩, ⟨r4, f4, i4, b4, l4⟩, m12, m21, m13, m31, m14, m41, m23, m32, m24, m42, m34, m43⟩ := St.facts4 hC
              clear hC
              go_simp
              have hC := hC'.out
              (first
                 | with_reducible rfl
                 | (skip
                    (first
                       | refine (awake_any _).mono ?_)
                    rintro e w' ⟨rfl, hw⟩
                    exact ⟨rfl, St.call (by assumption) hw⟩)))
       try simp only [Act.put, List.setIfInBounds_toArray, List.set])
      (first
         | (apply head_skip rfl)
         | (apply head_step_g rfl
            focus
              intro w0 hC
              (first
                 | exact eql_quiet 23 rfl rfl rfl Try.eqGuardType23 Try.underlying23 (by simp [go_sem]) (by simp [go_sem]) (by first | assumption | rfl)
                 | exact eql_quiet 22 rfl rfl rfl Try.eqGuardType22 Try.underlying22 (by simp [go_sem]) (by simp [go_sem]) (by first | assumption | rfl)
                 | exact eql_quiet2 46 5 176 rfl rfl rfl (n := 11) (m := 16) rfl Try.eqGuardType46 Try.underlying46 (by simp [go_sem]) (by simp [go_sem]) Try.underlying23 (by simp [go_sem]) (by simp [go_sem]) Try.underlying5 (by first | assumption | rfl)
                 | exact neq_quiet 23 rfl rfl rfl Try.eqGuardType23 Try.underlying23 (by simp [go_sem]) (by simp [go_sem]) (by first | assumption | rfl)))
         | (apply head_step_g rfl
            focus
              intro w0 hC
              have hC' := Lib.hid hC
              obtain ⟨⟨r1, f1, i1, b1, l1⟩, ⟨r2, f2, i2, b2, l2⟩, ⟨r3, f3, i3, b3, l3⟩, ⟨r4, f4, i4, b4, l4⟩, m12, m21, m13, m31, m14, m41, m23, m32, m24, m42, m34, m43⟩ := St.facts4 hC
              clear hC
              go_simp
              have hC := hC'.out
              (first
                 | with_reducible rfl
                 | (skip
                    (first
                       | refine (awake_any _).mono ?_)
                    rintro e w' ⟨rfl, hw⟩
                    exact ⟨rfl, St.call (by assumption) hw⟩)))
       try simp only [Act.put, List.setIfInBounds_toArray, List.set])
      (first
         | (apply head_skip rfl)
         | (apply head_step_g rfl
            focus
              intro w0 hC
              (first
                 | exact eql_quiet 23 rfl rfl rfl Try.eqGuardType23 Try.underlying23 (by simp [go_sem]) (by simp [go_sem]) (by first | assumption | rfl)
                 | exact eql_quiet 22 rfl rfl rfl Try.eqGuardType22 Try.underlying22 (by simp [go_sem]) (by simp [go_sem]) (by first | assumption | rfl)
                 | exact eql_quiet2 46 5 176 rfl rfl rfl (n := 11) (m := 16) rfl Try.eqGuardType46 Try.underlying46 (by simp [go_sem]) (by simp [go_sem]) Try.underlying23 (by simp [go_sem]) (by simp [go_sem]) Try.underlying5 (by first | assumption | rfl)
                 | exact neq_quiet 23 rfl rfl rfl Try.eqGuardType23 Try.underlying23 (by simp [go_sem]) (by simp [go_sem]) (by first | assumption | rfl)))
         | (apply head_step_g rfl
            focus
              intro w0 hC
              have hC' := Lib.hid hC
              obtain ⟨⟨r1, f1, i1, b1, l1⟩, ⟨r2, f2, i2, b2, l2⟩, ⟨r3, f3, i3, b3, l3⟩, ⟨r4, f4, i4, b4, l4⟩, m12, m21, m13, m31, m14, m41, m23, m32, m24, m42, m34, m43⟩ := St.facts4 hC
              clear hC
              go_simp
              have hC := hC'.out
              (first
                 | with_reducible rfl
                 | (skip
                    (first
                       | refine (awake_any _).mono ?_)
                    rintro e w' ⟨rfl, hw⟩
                    exact ⟨rfl, St.call (by assumption) hw⟩)))
       try simp only [Act.put, List.setIfInBounds_toArray, List.set])
      (first
         | (apply head_skip rfl)
         | (apply head_step_g rfl
            focus
              intro w0 hC
              (first
                 | exact eql_quiet 23 rfl rfl rfl Try.eqGuardType23 Try.underlying23 (by simp [go_sem]) (by simp [go_sem]) (by first | assumption | rfl)
                 | exact eql_quiet 22 rfl rfl rfl Try.eqGuardType22 Try.underlying22 (by simp [go_sem]) (by simp [go_sem]) (by first | assumption | rfl)
                 | exact eql_quiet2 46 5 176 rfl rfl rfl (n := 11) (m := 16) rfl Try.eqGuardType46 Try.underlying46 (by simp [go_sem]) (by simp [go_sem]) Try.underlying23 (by simp [go_sem]) (by simp [go_sem]) Try.underlying5 (by first | assumption | rfl)
                 | exact neq_quiet 23 rfl rfl rfl Try.eqGuardType23 Try.underlying23 (by simp [go_sem]) (by simp [go_sem]) (by first | assumption | rfl)))
         | (apply head_step_g rfl
            focus
              intro w0 hC
              have hC' := Lib.hid hC
              obtain ⟨⟨r1, f1, i1, b1, l1⟩, ⟨r2, f2, i2, b2, l2⟩, ⟨r3, f3, i3, b3, l3⟩, ⟨r4, f4, i4, b4, l4⟩, m12, m21, m13, m31, m14, m41, m23, m32, m24, m42, m34, m43⟩ := St.facts4 hC
              clear hC
              go_simp
              have hC := hC'.out
              (first
                 | with_reducible rfl
                 | (skip
                    (first
                       | refine (awake_any _).mono ?_)
                    rintro e w' ⟨rfl, hw⟩
                    exact ⟨rfl, St.call (by assumption) hw⟩)))
       try simp only [Act.put, List.setIfInBounds_toArray, List.set])
      (first
         | (apply head_skip rfl)
         | (apply head_step_g rfl
            focus
              intro w0 hC
              (first
                 | exact eql_quiet 23 rfl rfl rfl Try.eqGuardType23 Try.underlying23 (by simp [go_sem]) (by simp [go_sem]) (by first | assumption | rfl)
                 | exact eql_quiet 22 rfl rfl rfl Try.eqGuardType22 Try.underlying22 (by simp [go_sem]) (by simp [go_sem]) (by first | assumption | rfl)
                 | exact eql_quiet2 46 5 176 rfl rfl rfl (n := 11) (m := 16) rfl Try.eqGuardType46 Try.underlying46 (by simp [go_sem]) (by simp [go_sem]) Try.underlying23 (by simp [go_sem]) (by simp [go_sem]) Try.underlying5 (by first | assumption | rfl)
                 | exact neq_quiet 23 rfl rfl rfl Try.eqGuardType23 Try.underlying23 (by simp [go_sem]) (by simp [go_sem]) (by first | assumption | rfl)))
         | (apply head_step_g rfl
            focus
              intro w0 hC
              have hC' := Lib.hid hC
              obtain ⟨⟨r1, f1, i1, b1, l1⟩, ⟨r2, f2, i2, b2, l2⟩, ⟨r3, f3, i3, b3, l3⟩, ⟨r4, f4, i4, b4, l4⟩, m12, m21, m13, m31, m14, m41, m23, m32, m24, m42, m34, m43⟩ := St.facts4 hC
              clear hC
              go_simp
              have hC := hC'.out
              (first
                 | with_reducible rfl
                 | (skip
                    (first
                       | refine (awake_any _).mono ?_)
                    rintro e w' ⟨rfl, hw⟩
                    exact ⟨rfl, St.call (by assumption) hw⟩)))
       try simp only [Act.put, List.setIfInBounds_toArray, List.set])
      (first
         | (apply head_skip rfl)
         | (apply head_step_g rfl
            focus
              intro w0 hC
              (first
                 | exact eql_quiet 23 rfl rfl rfl Try.eqGuardType23 Try.underlying23 (by simp [go_sem]) (by simp [go_sem]) (by first | assumption | rfl)
                 | exact eql_quiet 22 rfl rfl rfl Try.eqGuardType22 Try.underlying22 (by simp [go_sem]) (by simp [go_sem]) (by first | assumption | rfl)
                 | exact eql_quiet2 46 5 176 rfl rfl rfl (n := 11) (m := 16) rfl Try.eqGuardType46 Try.underlying46 (by simp [go_sem]) (by simp [go_sem]) Try.underlying23 (by simp [go_sem]) (by simp [go_sem]) Try.underlying5 (by first | assumption | rfl)
                 | exact neq_quiet 23 rfl rfl rfl Try.eqGuardType23 Try.underlying23 (by simp [go_sem]) (by simp [go_sem]) (by first | assumption | rfl)))
         | (apply head_step_g rfl
            focus
              intro w0 hC
              have hC' := Lib.hid hC
              obtain ⟨⟨r1, f1, i1, b1, l1⟩, ⟨r2, f2, i2, b2, l2⟩, ⟨r3, f3, i3, b3, l3⟩, ⟨r4, f4, i4, b4, l4⟩, m12, m21, m13, m31, m14, m41, m23, m32, m24, m42, m34, m43⟩ := St.facts4 hC
              clear hC
              go_simp
              have hC := hC'.out
              (first
                 | with_reducible rfl
                 | (skip
                    (first
                       | refine (awake_any _).mono ?_)
                    rintro e w' ⟨rfl, hw⟩
                    exact ⟨rfl, St.call (by assumption) hw⟩)))
       try simp only [Act.put, List.setIfInBounds_toArray, List.set])
      (first
         | (apply head_skip rfl)
         | (apply head_step_g rfl
            focus
              intro w0 hC
              (first
                 | exact eql_quiet 23 rfl rfl rfl Try.eqGuardType23 Try.underlying23 (by simp [go_sem]) (by simp [go_sem]) (by first | assumption | rfl)
                 | exact eql_quiet 22 rfl rfl rfl Try.eqGuardType22 Try.underlying22 (by simp [go_sem]) (by simp [go_sem]) (by first | assumption | rfl)
                 | exact eql_quiet2 46 5 176 rfl rfl rfl (n := 11) (m := 16) rfl Try.eqGuardType46 Try.underlying46 (by simp [go_sem]) (by simp [go_sem]) Try.underlying23 (by simp [go_sem]) (by simp [go_sem]) Try.underlying5 (by first | assumption | rfl)
                 | exact neq_quiet 23 rfl rfl rfl Try.eqGuardType23 Try.underlying23 (by simp [go_sem]) (by simp [go_sem]) (by first | assumption | rfl)))
         | (apply head_step_g rfl
            focus
              intro w0 hC
              have hC' := Lib.hid hC
              obtain ⟨⟨r1, f1, i1, b1, l1⟩, ⟨r2, f2, i2, b2, l2⟩, ⟨r3, f3, i3, b3, l3⟩, ⟨r4, f4, i4, b4, l4⟩, m12, m21, m13, m31, m14, m41, m23, m32, m24, m42, m34, m43⟩ := St.facts4 hC
              clear hC
              go_simp
              have hC := hC'.out
              (first
                 | with_reducible rfl
                 | (skip
                    (first
                       | refine (awake_any _).mono ?_)
                    rintro e w' ⟨rfl, hw⟩
                    exact ⟨rfl, St.call (by assumption) hw⟩)))
       try simp only [Act.put, List.setIfInBounds_toArray, List.set])
      refine wpQuiet_nil ?_
      intro w4 hC
      have HC := Lib.hid hC
      clear e1 hC
      go_wp2_with fail
      exact ⟨⟨k + 1, by omega, by go_num, HC⟩, by simp [intOf]; omega⟩
    · obtain rfl : k = 11 := by omega
      have sos := HR.out.os
      go_wp2_with fail
      refine (awake_any _).mono ?_; rintro e w5 ⟨rfl, hw⟩
      have HC := Lib.hid (HR.out.call hw)
      clear hw
      have sos := HC.out.os
      go_wp2_with fail
      go_ret
      exact ⟨rfl, HC.out.below⟩
end Go.Proofs.Ytepooocdpifcfaa
