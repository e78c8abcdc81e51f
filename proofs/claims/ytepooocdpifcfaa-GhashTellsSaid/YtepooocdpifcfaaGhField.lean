/- GhashField returns true at every three blocks. No condition. -/
import Derived.Test.YtepooocdpifcfaaGhAwake
import Derived.Test.YtepooocdpifcfaaStore3
import Derived.Test.YtepooocdpifcfaaCiPlain
namespace Go.Proofs.Ytepooocdpifcfaa
open Go.RowKit
attribute [local go_sem] B_xor B_or B_and
attribute [local go_sem] blk_set blk_size blk_get blk_getE upd_same oneCells_blk paste_blk cut_blk szOf
attribute [local go_sem high] paste_all cut_head
attribute [local go_sem] rowAt_alloc rowAt_drew rowAt_drewN isRow_alloc isRow_drew isRow_drewN freeRow_alloc freeRow_end freeRow_drew freeRow_drewN
attribute [local go_sem] setRow_alloc setRow_drew setRow_drewN setCell_drewN alloc_drewN rowAt_put isRow_setRow freeRow_put
attribute [local go_sem ↓] loadS_in storeS_in indexS_in copyS_in
attribute [local go_sem] loadS_row loadS_one storeS_row storeS_one indexS_blk copyS_rows run_equalIn_blk same_refl arrayAt_row
attribute [local go_sem] cell_row frozen_row st_setCell st_blk_ne stepAt stepUpon
attribute [local go_sem high] run_eql_blk run_neq_blk

/-! ### sums of blocks as numbers -/
theorem cat_xor (x y p q : Nat) (hp : p < 256) (hq : q < 256) : (x * 256 + p) ^^^ (y * 256 + q) = (x ^^^ y) * 256 + (p ^^^ q) := by
  have h1 := Nat.xor_div_two_pow (a := x * 256 + p) (b := y * 256 + q) (n := 8)
  have h2 := Nat.xor_mod_two_pow (a := x * 256 + p) (b := y * 256 + q) (n := 8)
  rw [show (x * 256 + p) / 2 ^ 8 = x by omega, show (y * 256 + q) / 2 ^ 8 = y by omega] at h1
  rw [show (x * 256 + p) % 2 ^ 8 = p by omega, show (y * 256 + q) % 2 ^ 8 = q by omega] at h2
  have h3 := Nat.div_add_mod ((x * 256 + p) ^^^ (y * 256 + q)) (2 ^ 8)
  rw [h1, h2] at h3
  omega
theorem numTo_xor (a b : Nat → UInt8) : ∀ k, numTo (Ci.xorB a b) k = numTo a k ^^^ numTo b k
  | 0 => by simp [numTo]
  | k + 1 => by
    simp only [numTo]
    rw [numTo_xor a b k, cat_xor _ _ _ _ (a k).toNat_lt (b k).toNat_lt]
    unfold Ci.xorB
    rw [UInt8.toNat_xor]
theorem num_xor (a b : Nat → UInt8) : num (Ci.xorB a b) = num a ^^^ num b := numTo_xor a b 16
theorem same_num (a b : Nat → UInt8) : same 16 a b = decide (num a = num b) := by
  rw [Bool.eq_iff_iff, same_iff, decide_eq_true_eq]
  exact ⟨fun h => numTo_congr h, fun h i hi => num_inj h i hi⟩
theorem same_num_of {a b : Nat → UInt8} (h : num a = num b) : same 16 a b = true := by rw [same_num]; exact decide_eq_true h
theorem num_zero : num (fun _ => 0) = 0 := by decide
theorem mulB_zero (a b : Nat → UInt8) : same 16 (mulB a b) (fun _ => 0) = (same 16 a (fun _ => 0) || same 16 b (fun _ => 0)) := by
  rw [same_num, same_num, same_num, num_mulB, num_zero, Bool.eq_iff_iff, Bool.or_eq_true, decide_eq_true_eq, decide_eq_true_eq, decide_eq_true_eq]
  exact Gh.mul_eq_zero (num_lt a) (num_lt b)

set_option maxRecDepth 100000 in
set_option maxHeartbeats 2000000 in
theorem ghashField_walk (l : Nat → UInt8) (w : World) : Calls Try.prog 6 #[.agg (blk 48 l)] w fun e w' => e = .returned (.bool true) ∧ Below w.heap.size w w' := by
  have hz := zero16
  have hr1 : (fun j => l (16 + j)) = Ci.rd l 1 := rfl
  have hr2 : (fun j => l (32 + j)) = Ci.rd l 2 := rfl
  go_enter Try.func6, Try.ntmps6
  go_wp2_with fail
  refine St.region_store3 (w0 := w) (L := [(w.heap.size, blk 48 l)]) 6 3 4 5 8 10 12 (blk 16 fun _ => 0) (blk 16 fun _ => 0) (blk 16 fun _ => 0) (blk 16 l) (blk 16 (Ci.rd l 1)) (blk 16 (Ci.rd l 2)) (.agg (blk 16 l)) (.agg (blk 16 (Ci.rd l 1))) (.agg (blk 16 (Ci.rd l 2))) 23 23 23 ((St.nil w).pushA _ _ rfl) (by kernel_rfl) (by decide +kernel) _ _ _ _ _ _ rfl rfl rfl rfl rfl rfl
    (fun w a => by simp [go_sem, ptrTo, hz]) (fun w a => by simp [go_sem, ptrTo, hz]) (fun w a => by simp [go_sem, ptrTo, hz]) (stores_whole 23 _ _ (by simp [blk_size]) (fun w => by simp [go_sem]) (oneCells_blk _ _) rfl) (stores_whole 23 _ _ (by simp [blk_size]) (fun w => by simp [go_sem]) (oneCells_blk _ _) rfl) (stores_whole 23 _ _ (by simp [blk_size]) (fun w => by simp [go_sem]) (oneCells_blk _ _) rfl) (by simp) ?_
  (simp only [List.take])
  (apply walkB_step
   focus
     intro w0 hC
     have hC' := Lib.hid hC
     obtain ⟨r1, f1, i1, b1, l1⟩ := St.facts1 hC
     clear hC
     go_simp
     (with_reducible rfl)
   try simp only [Act.put, List.setIfInBounds_toArray, List.set])
  (apply walkB_step
   focus
     intro w0 hC
     have hC' := Lib.hid hC
     obtain ⟨r1, f1, i1, b1, l1⟩ := St.facts1 hC
     clear hC
     go_simp
     (with_reducible rfl)
   try simp only [Act.put, List.setIfInBounds_toArray, List.set])
  (apply walkB_step
   focus
     intro w0 hC
     have hC' := Lib.hid hC
     obtain ⟨r1, f1, i1, b1, l1⟩ := St.facts1 hC
     clear hC
     go_simp
     (with_reducible rfl)
   try simp only [Act.put, List.setIfInBounds_toArray, List.set])
  (apply walkB_step
   focus
     intro w0 hC
     have hC' := Lib.hid hC
     obtain ⟨r1, f1, i1, b1, l1⟩ := St.facts1 hC
     clear hC
     go_simp
     (with_reducible rfl)
   try simp only [Act.put, List.setIfInBounds_toArray, List.set])
  (apply walkB_step
   focus
     intro w0 hC
     have hC' := Lib.hid hC
     obtain ⟨r1, f1, i1, b1, l1⟩ := St.facts1 hC
     clear hC
     go_simp
     (with_reducible rfl)
   try simp only [Act.put, List.setIfInBounds_toArray, List.set])
  (apply walkB_step
   focus
     intro w0 hC
     have hC' := Lib.hid hC
     obtain ⟨r1, f1, i1, b1, l1⟩ := St.facts1 hC
     clear hC
     go_simp
     (with_reducible rfl)
   try simp only [Act.put, List.setIfInBounds_toArray, List.set])
  refine walkB_nil ⟨⟨rfl, rfl, rfl⟩, ?_⟩
  intro w1 g1 g2 g3 hC
  unfold ptrTo
  have HC := Lib.hid hC
  clear hC hr1 hr2
  generalize Ci.rd l 1 = b at HC ⊢
  generalize Ci.rd l 2 = c at HC ⊢
  have f1 : same 16 (mulB l b) (mulB b l) = true := same_num_of (by rw [num_mulB, num_mulB, Gh.mul_comm (num_lt l) (num_lt b)])
  have f2 : same 16 (mulB (mulB l b) c) (mulB l (mulB b c)) = true := same_num_of (by rw [num_mulB, num_mulB, num_mulB, num_mulB, Gh.mul_assoc (num_lt l) (num_lt b)])
  have f3 : same 16 (mulB l (Ci.xorB b c)) (Ci.xorB (mulB l b) (mulB l c)) = true := same_num_of (by rw [num_mulB, num_xor, num_xor, num_mulB, num_mulB, Gh.mul_xor_right])
  have f4 : same 16 (mulB l (unum Gh.one)) l = true := same_num_of (by rw [num_mulB, num_unum Gh.ok_one, Gh.mul_one (num_lt l)])
  have f5 := mulB_zero l b
  go_wp2_with fail
  refine St.region HC.out (by kernel_rfl) (by kernel_rfl) ?_
  (first
     | (apply head_skip rfl)
     | (apply head_step_g rfl
        focus
          intro w0 hC
          (first
             | exact neq_quiet 23 rfl rfl rfl Try.eqGuardType23 Try.underlying23 (by simp [go_sem]) (by simp [go_sem]) (by first | with_reducible assumption | with_reducible rfl)
             | exact eql_quiet 23 rfl rfl rfl Try.eqGuardType23 Try.underlying23 (by simp [go_sem]) (by simp [go_sem]) (by first | with_reducible assumption | with_reducible rfl)))
     | (apply head_step_g rfl
        focus
          intro w0 hC
          have hC' := Lib.hid hC
          obtain ⟨⟨r1, f1, i1, b1, l1⟩, ⟨r2, f2, i2, b2, l2⟩, ⟨r3, f3, i3, b3, l3⟩, ⟨r4, f4, i4, b4, l4⟩, m12, m21, m13, m31, m14, m41, m23, m32, m24, m42, m34, m43⟩ := St.facts4 hC
          clear hC
          go_simp
          have hC := hC'.out
          (first
             | with_reducible rfl
             | (skip
                (first
                   | (go_at_call 13; refine (ghMul_any _ _ _).mono ?_)
                   | (go_at_call 22; refine (xor_any _ _ _).mono ?_)
                   | (go_at_call 23; refine (one_any _).mono ?_)
                   | (go_at_call 17; refine (awake08_any _).mono ?_))
                rintro e w' ⟨rfl, hw⟩
                exact ⟨rfl, St.call (by assumption) hw⟩)))
   try simp only [Act.put, List.setIfInBounds_toArray, List.set])
  (first
     | (apply head_skip rfl)
     | (apply head_step_g rfl
        focus
          intro w0 hC
          (first
             | exact neq_quiet 23 rfl rfl rfl Try.eqGuardType23 Try.underlying23 (by simp [go_sem]) (by simp [go_sem]) (by first | with_reducible assumption | with_reducible rfl)
             | exact eql_quiet 23 rfl rfl rfl Try.eqGuardType23 Try.underlying23 (by simp [go_sem]) (by simp [go_sem]) (by first | with_reducible assumption | with_reducible rfl)))
     | (apply head_step_g rfl
        focus
          intro w0 hC
          have hC' := Lib.hid hC
          obtain ⟨⟨r1, f1, i1, b1, l1⟩, ⟨r2, f2, i2, b2, l2⟩, ⟨r3, f3, i3, b3, l3⟩, ⟨r4, f4, i4, b4, l4⟩, m12, m21, m13, m31, m14, m41, m23, m32, m24, m42, m34, m43⟩ := St.facts4 hC
          clear hC
          go_simp
          have hC := hC'.out
          (first
             | with_reducible rfl
             | (skip
                (first
                   | (go_at_call 13; refine (ghMul_any _ _ _).mono ?_)
                   | (go_at_call 22; refine (xor_any _ _ _).mono ?_)
                   | (go_at_call 23; refine (one_any _).mono ?_)
                   | (go_at_call 17; refine (awake08_any _).mono ?_))
                rintro e w' ⟨rfl, hw⟩
                exact ⟨rfl, St.call (by assumption) hw⟩)))
   try simp only [Act.put, List.setIfInBounds_toArray, List.set])
  (first
     | (apply head_skip rfl)
     | (apply head_step_g rfl
        focus
          intro w0 hC
          (first
             | exact neq_quiet 23 rfl rfl rfl Try.eqGuardType23 Try.underlying23 (by simp [go_sem]) (by simp [go_sem]) (by first | with_reducible assumption | with_reducible rfl)
             | exact eql_quiet 23 rfl rfl rfl Try.eqGuardType23 Try.underlying23 (by simp [go_sem]) (by simp [go_sem]) (by first | with_reducible assumption | with_reducible rfl)))
     | (apply head_step_g rfl
        focus
          intro w0 hC
          have hC' := Lib.hid hC
          obtain ⟨⟨r1, f1, i1, b1, l1⟩, ⟨r2, f2, i2, b2, l2⟩, ⟨r3, f3, i3, b3, l3⟩, ⟨r4, f4, i4, b4, l4⟩, m12, m21, m13, m31, m14, m41, m23, m32, m24, m42, m34, m43⟩ := St.facts4 hC
          clear hC
          go_simp
          have hC := hC'.out
          (first
             | with_reducible rfl
             | (skip
                (first
                   | (go_at_call 13; refine (ghMul_any _ _ _).mono ?_)
                   | (go_at_call 22; refine (xor_any _ _ _).mono ?_)
                   | (go_at_call 23; refine (one_any _).mono ?_)
                   | (go_at_call 17; refine (awake08_any _).mono ?_))
                rintro e w' ⟨rfl, hw⟩
                exact ⟨rfl, St.call (by assumption) hw⟩)))
   try simp only [Act.put, List.setIfInBounds_toArray, List.set])
  (first
     | (apply head_skip rfl)
     | (apply head_step_g rfl
        focus
          intro w0 hC
          (first
             | exact neq_quiet 23 rfl rfl rfl Try.eqGuardType23 Try.underlying23 (by simp [go_sem]) (by simp [go_sem]) (by first | with_reducible assumption | with_reducible rfl)
             | exact eql_quiet 23 rfl rfl rfl Try.eqGuardType23 Try.underlying23 (by simp [go_sem]) (by simp [go_sem]) (by first | with_reducible assumption | with_reducible rfl)))
     | (apply head_step_g rfl
        focus
          intro w0 hC
          have hC' := Lib.hid hC
          obtain ⟨⟨r1, f1, i1, b1, l1⟩, ⟨r2, f2, i2, b2, l2⟩, ⟨r3, f3, i3, b3, l3⟩, ⟨r4, f4, i4, b4, l4⟩, m12, m21, m13, m31, m14, m41, m23, m32, m24, m42, m34, m43⟩ := St.facts4 hC
          clear hC
          go_simp
          have hC := hC'.out
          (first
             | with_reducible rfl
             | (skip
                (first
                   | (go_at_call 13; refine (ghMul_any _ _ _).mono ?_)
                   | (go_at_call 22; refine (xor_any _ _ _).mono ?_)
                   | (go_at_call 23; refine (one_any _).mono ?_)
                   | (go_at_call 17; refine (awake08_any _).mono ?_))
                rintro e w' ⟨rfl, hw⟩
                exact ⟨rfl, St.call (by assumption) hw⟩)))
   try simp only [Act.put, List.setIfInBounds_toArray, List.set])
  (first
     | (apply head_skip rfl)
     | (apply head_step_g rfl
        focus
          intro w0 hC
          (first
             | exact neq_quiet 23 rfl rfl rfl Try.eqGuardType23 Try.underlying23 (by simp [go_sem]) (by simp [go_sem]) (by first | with_reducible assumption | with_reducible rfl)
             | exact eql_quiet 23 rfl rfl rfl Try.eqGuardType23 Try.underlying23 (by simp [go_sem]) (by simp [go_sem]) (by first | with_reducible assumption | with_reducible rfl)))
     | (apply head_step_g rfl
        focus
          intro w0 hC
          have hC' := Lib.hid hC
          obtain ⟨⟨r1, f1, i1, b1, l1⟩, ⟨r2, f2, i2, b2, l2⟩, ⟨r3, f3, i3, b3, l3⟩, ⟨r4, f4, i4, b4, l4⟩, m12, m21, m13, m31, m14, m41, m23, m32, m24, m42, m34, m43⟩ := St.facts4 hC
          clear hC
          go_simp
          have hC := hC'.out
          (first
             | with_reducible rfl
             | (skip
                (first
                   | (go_at_call 13; refine (ghMul_any _ _ _).mono ?_)
                   | (go_at_call 22; refine (xor_any _ _ _).mono ?_)
                   | (go_at_call 23; refine (one_any _).mono ?_)
                   | (go_at_call 17; refine (awake08_any _).mono ?_))
                rintro e w' ⟨rfl, hw⟩
                exact ⟨rfl, St.call (by assumption) hw⟩)))
   try simp only [Act.put, List.setIfInBounds_toArray, List.set])
  (first
     | (apply head_skip rfl)
     | (apply head_step_g rfl
        focus
          intro w0 hC
          (first
             | exact neq_quiet 23 rfl rfl rfl Try.eqGuardType23 Try.underlying23 (by simp [go_sem]) (by simp [go_sem]) (by first | with_reducible assumption | with_reducible rfl)
             | exact eql_quiet 23 rfl rfl rfl Try.eqGuardType23 Try.underlying23 (by simp [go_sem]) (by simp [go_sem]) (by first | with_reducible assumption | with_reducible rfl)))
     | (apply head_step_g rfl
        focus
          intro w0 hC
          have hC' := Lib.hid hC
          obtain ⟨⟨r1, f1, i1, b1, l1⟩, ⟨r2, f2, i2, b2, l2⟩, ⟨r3, f3, i3, b3, l3⟩, ⟨r4, f4, i4, b4, l4⟩, m12, m21, m13, m31, m14, m41, m23, m32, m24, m42, m34, m43⟩ := St.facts4 hC
          clear hC
          go_simp
          have hC := hC'.out
          (first
             | with_reducible rfl
             | (skip
                (first
                   | (go_at_call 13; refine (ghMul_any _ _ _).mono ?_)
                   | (go_at_call 22; refine (xor_any _ _ _).mono ?_)
                   | (go_at_call 23; refine (one_any _).mono ?_)
                   | (go_at_call 17; refine (awake08_any _).mono ?_))
                rintro e w' ⟨rfl, hw⟩
                exact ⟨rfl, St.call (by assumption) hw⟩)))
   try simp only [Act.put, List.setIfInBounds_toArray, List.set])
  (first
     | (apply head_skip rfl)
     | (apply head_step_g rfl
        focus
          intro w0 hC
          (first
             | exact neq_quiet 23 rfl rfl rfl Try.eqGuardType23 Try.underlying23 (by simp [go_sem]) (by simp [go_sem]) (by first | with_reducible assumption | with_reducible rfl)
             | exact eql_quiet 23 rfl rfl rfl Try.eqGuardType23 Try.underlying23 (by simp [go_sem]) (by simp [go_sem]) (by first | with_reducible assumption | with_reducible rfl)))
     | (apply head_step_g rfl
        focus
          intro w0 hC
          have hC' := Lib.hid hC
          obtain ⟨⟨r1, f1, i1, b1, l1⟩, ⟨r2, f2, i2, b2, l2⟩, ⟨r3, f3, i3, b3, l3⟩, ⟨r4, f4, i4, b4, l4⟩, m12, m21, m13, m31, m14, m41, m23, m32, m24, m42, m34, m43⟩ := St.facts4 hC
          clear hC
          go_simp
          have hC := hC'.out
          (first
             | with_reducible rfl
             | (skip
                (first
                   | (go_at_call 13; refine (ghMul_any _ _ _).mono ?_)
                   | (go_at_call 22; refine (xor_any _ _ _).mono ?_)
                   | (go_at_call 23; refine (one_any _).mono ?_)
                   | (go_at_call 17; refine (awake08_any _).mono ?_))
                rintro e w' ⟨rfl, hw⟩
                exact ⟨rfl, St.call (by assumption) hw⟩)))
   try simp only [Act.put, List.setIfInBounds_toArray, List.set])
  (first
     | (apply head_skip rfl)
     | (apply head_step_g rfl
        focus
          intro w0 hC
          (first
             | exact neq_quiet 23 rfl rfl rfl Try.eqGuardType23 Try.underlying23 (by simp [go_sem]) (by simp [go_sem]) (by first | with_reducible assumption | with_reducible rfl)
             | exact eql_quiet 23 rfl rfl rfl Try.eqGuardType23 Try.underlying23 (by simp [go_sem]) (by simp [go_sem]) (by first | with_reducible assumption | with_reducible rfl)))
     | (apply head_step_g rfl
        focus
          intro w0 hC
          have hC' := Lib.hid hC
          obtain ⟨⟨r1, f1, i1, b1, l1⟩, ⟨r2, f2, i2, b2, l2⟩, ⟨r3, f3, i3, b3, l3⟩, ⟨r4, f4, i4, b4, l4⟩, m12, m21, m13, m31, m14, m41, m23, m32, m24, m42, m34, m43⟩ := St.facts4 hC
          clear hC
          go_simp
          have hC := hC'.out
          (first
             | with_reducible rfl
             | (skip
                (first
                   | (go_at_call 13; refine (ghMul_any _ _ _).mono ?_)
                   | (go_at_call 22; refine (xor_any _ _ _).mono ?_)
                   | (go_at_call 23; refine (one_any _).mono ?_)
                   | (go_at_call 17; refine (awake08_any _).mono ?_))
                rintro e w' ⟨rfl, hw⟩
                exact ⟨rfl, St.call (by assumption) hw⟩)))
   try simp only [Act.put, List.setIfInBounds_toArray, List.set])
  (first
     | (apply head_skip rfl)
     | (apply head_step_g rfl
        focus
          intro w0 hC
          (first
             | exact neq_quiet 23 rfl rfl rfl Try.eqGuardType23 Try.underlying23 (by simp [go_sem]) (by simp [go_sem]) (by first | with_reducible assumption | with_reducible rfl)
             | exact eql_quiet 23 rfl rfl rfl Try.eqGuardType23 Try.underlying23 (by simp [go_sem]) (by simp [go_sem]) (by first | with_reducible assumption | with_reducible rfl)))
     | (apply head_step_g rfl
        focus
          intro w0 hC
          have hC' := Lib.hid hC
          obtain ⟨⟨r1, f1, i1, b1, l1⟩, ⟨r2, f2, i2, b2, l2⟩, ⟨r3, f3, i3, b3, l3⟩, ⟨r4, f4, i4, b4, l4⟩, m12, m21, m13, m31, m14, m41, m23, m32, m24, m42, m34, m43⟩ := St.facts4 hC
          clear hC
          go_simp
          have hC := hC'.out
          (first
             | with_reducible rfl
             | (skip
                (first
                   | (go_at_call 13; refine (ghMul_any _ _ _).mono ?_)
                   | (go_at_call 22; refine (xor_any _ _ _).mono ?_)
                   | (go_at_call 23; refine (one_any _).mono ?_)
                   | (go_at_call 17; refine (awake08_any _).mono ?_))
                rintro e w' ⟨rfl, hw⟩
                exact ⟨rfl, St.call (by assumption) hw⟩)))
   try simp only [Act.put, List.setIfInBounds_toArray, List.set])
  (first
     | (apply head_skip rfl)
     | (apply head_step_g rfl
        focus
          intro w0 hC
          (first
             | exact neq_quiet 23 rfl rfl rfl Try.eqGuardType23 Try.underlying23 (by simp [go_sem]) (by simp [go_sem]) (by first | with_reducible assumption | with_reducible rfl)
             | exact eql_quiet 23 rfl rfl rfl Try.eqGuardType23 Try.underlying23 (by simp [go_sem]) (by simp [go_sem]) (by first | with_reducible assumption | with_reducible rfl)))
     | (apply head_step_g rfl
        focus
          intro w0 hC
          have hC' := Lib.hid hC
          obtain ⟨⟨r1, f1, i1, b1, l1⟩, ⟨r2, f2, i2, b2, l2⟩, ⟨r3, f3, i3, b3, l3⟩, ⟨r4, f4, i4, b4, l4⟩, m12, m21, m13, m31, m14, m41, m23, m32, m24, m42, m34, m43⟩ := St.facts4 hC
          clear hC
          go_simp
          have hC := hC'.out
          (first
             | with_reducible rfl
             | (skip
                (first
                   | (go_at_call 13; refine (ghMul_any _ _ _).mono ?_)
                   | (go_at_call 22; refine (xor_any _ _ _).mono ?_)
                   | (go_at_call 23; refine (one_any _).mono ?_)
                   | (go_at_call 17; refine (awake08_any _).mono ?_))
                rintro e w' ⟨rfl, hw⟩
                exact ⟨rfl, St.call (by assumption) hw⟩)))
   try simp only [Act.put, List.setIfInBounds_toArray, List.set])
  (first
     | (apply head_skip rfl)
     | (apply head_step_g rfl
        focus
          intro w0 hC
          (first
             | exact neq_quiet 23 rfl rfl rfl Try.eqGuardType23 Try.underlying23 (by simp [go_sem]) (by simp [go_sem]) (by first | with_reducible assumption | with_reducible rfl)
             | exact eql_quiet 23 rfl rfl rfl Try.eqGuardType23 Try.underlying23 (by simp [go_sem]) (by simp [go_sem]) (by first | with_reducible assumption | with_reducible rfl)))
     | (apply head_step_g rfl
        focus
          intro w0 hC
          have hC' := Lib.hid hC
          obtain ⟨⟨r1, f1, i1, b1, l1⟩, ⟨r2, f2, i2, b2, l2⟩, ⟨r3, f3, i3, b3, l3⟩, ⟨r4, f4, i4, b4, l4⟩, m12, m21, m13, m31, m14, m41, m23, m32, m24, m42, m34, m43⟩ := St.facts4 hC
          clear hC
          go_simp
          have hC := hC'.out
          (first
             | with_reducible rfl
             | (skip
                (first
                   | (go_at_call 13; refine (ghMul_any _ _ _).mono ?_)
                   | (go_at_call 22; refine (xor_any _ _ _).mono ?_)
                   | (go_at_call 23; refine (one_any _).mono ?_)
                   | (go_at_call 17; refine (awake08_any _).mono ?_))
                rintro e w' ⟨rfl, hw⟩
                exact ⟨rfl, St.call (by assumption) hw⟩)))
   try simp only [Act.put, List.setIfInBounds_toArray, List.set])
  (first
     | (apply head_skip rfl)
     | (apply head_step_g rfl
        focus
          intro w0 hC
          (first
             | exact neq_quiet 23 rfl rfl rfl Try.eqGuardType23 Try.underlying23 (by simp [go_sem]) (by simp [go_sem]) (by first | with_reducible assumption | with_reducible rfl)
             | exact eql_quiet 23 rfl rfl rfl Try.eqGuardType23 Try.underlying23 (by simp [go_sem]) (by simp [go_sem]) (by first | with_reducible assumption | with_reducible rfl)))
     | (apply head_step_g rfl
        focus
          intro w0 hC
          have hC' := Lib.hid hC
          obtain ⟨⟨r1, f1, i1, b1, l1⟩, ⟨r2, f2, i2, b2, l2⟩, ⟨r3, f3, i3, b3, l3⟩, ⟨r4, f4, i4, b4, l4⟩, m12, m21, m13, m31, m14, m41, m23, m32, m24, m42, m34, m43⟩ := St.facts4 hC
          clear hC
          go_simp
          have hC := hC'.out
          (first
             | with_reducible rfl
             | (skip
                (first
                   | (go_at_call 13; refine (ghMul_any _ _ _).mono ?_)
                   | (go_at_call 22; refine (xor_any _ _ _).mono ?_)
                   | (go_at_call 23; refine (one_any _).mono ?_)
                   | (go_at_call 17; refine (awake08_any _).mono ?_))
                rintro e w' ⟨rfl, hw⟩
                exact ⟨rfl, St.call (by assumption) hw⟩)))
   try simp only [Act.put, List.setIfInBounds_toArray, List.set])
  (first
     | (apply head_skip rfl)
     | (apply head_step_g rfl
        focus
          intro w0 hC
          (first
             | exact neq_quiet 23 rfl rfl rfl Try.eqGuardType23 Try.underlying23 (by simp [go_sem]) (by simp [go_sem]) (by first | with_reducible assumption | with_reducible rfl)
             | exact eql_quiet 23 rfl rfl rfl Try.eqGuardType23 Try.underlying23 (by simp [go_sem]) (by simp [go_sem]) (by first | with_reducible assumption | with_reducible rfl)))
     | (apply head_step_g rfl
        focus
          intro w0 hC
          have hC' := Lib.hid hC
          obtain ⟨⟨r1, f1, i1, b1, l1⟩, ⟨r2, f2, i2, b2, l2⟩, ⟨r3, f3, i3, b3, l3⟩, ⟨r4, f4, i4, b4, l4⟩, m12, m21, m13, m31, m14, m41, m23, m32, m24, m42, m34, m43⟩ := St.facts4 hC
          clear hC
          go_simp
          have hC := hC'.out
          (first
             | with_reducible rfl
             | (skip
                (first
                   | (go_at_call 13; refine (ghMul_any _ _ _).mono ?_)
                   | (go_at_call 22; refine (xor_any _ _ _).mono ?_)
                   | (go_at_call 23; refine (one_any _).mono ?_)
                   | (go_at_call 17; refine (awake08_any _).mono ?_))
                rintro e w' ⟨rfl, hw⟩
                exact ⟨rfl, St.call (by assumption) hw⟩)))
   try simp only [Act.put, List.setIfInBounds_toArray, List.set])
  (first
     | (apply head_skip rfl)
     | (apply head_step_g rfl
        focus
          intro w0 hC
          (first
             | exact neq_quiet 23 rfl rfl rfl Try.eqGuardType23 Try.underlying23 (by simp [go_sem]) (by simp [go_sem]) (by first | with_reducible assumption | with_reducible rfl)
             | exact eql_quiet 23 rfl rfl rfl Try.eqGuardType23 Try.underlying23 (by simp [go_sem]) (by simp [go_sem]) (by first | with_reducible assumption | with_reducible rfl)))
     | (apply head_step_g rfl
        focus
          intro w0 hC
          have hC' := Lib.hid hC
          obtain ⟨⟨r1, f1, i1, b1, l1⟩, ⟨r2, f2, i2, b2, l2⟩, ⟨r3, f3, i3, b3, l3⟩, ⟨r4, f4, i4, b4, l4⟩, m12, m21, m13, m31, m14, m41, m23, m32, m24, m42, m34, m43⟩ := St.facts4 hC
          clear hC
          go_simp
          have hC := hC'.out
          (first
             | with_reducible rfl
             | (skip
                (first
                   | (go_at_call 13; refine (ghMul_any _ _ _).mono ?_)
                   | (go_at_call 22; refine (xor_any _ _ _).mono ?_)
                   | (go_at_call 23; refine (one_any _).mono ?_)
                   | (go_at_call 17; refine (awake08_any _).mono ?_))
                rintro e w' ⟨rfl, hw⟩
                exact ⟨rfl, St.call (by assumption) hw⟩)))
   try simp only [Act.put, List.setIfInBounds_toArray, List.set])
  (first
     | (apply head_skip rfl)
     | (apply head_step_g rfl
        focus
          intro w0 hC
          (first
             | exact neq_quiet 23 rfl rfl rfl Try.eqGuardType23 Try.underlying23 (by simp [go_sem]) (by simp [go_sem]) (by first | with_reducible assumption | with_reducible rfl)
             | exact eql_quiet 23 rfl rfl rfl Try.eqGuardType23 Try.underlying23 (by simp [go_sem]) (by simp [go_sem]) (by first | with_reducible assumption | with_reducible rfl)))
     | (apply head_step_g rfl
        focus
          intro w0 hC
          have hC' := Lib.hid hC
          obtain ⟨⟨r1, f1, i1, b1, l1⟩, ⟨r2, f2, i2, b2, l2⟩, ⟨r3, f3, i3, b3, l3⟩, ⟨r4, f4, i4, b4, l4⟩, m12, m21, m13, m31, m14, m41, m23, m32, m24, m42, m34, m43⟩ := St.facts4 hC
          clear hC
          go_simp
          have hC := hC'.out
          (first
             | with_reducible rfl
             | (skip
                (first
                   | (go_at_call 13; refine (ghMul_any _ _ _).mono ?_)
                   | (go_at_call 22; refine (xor_any _ _ _).mono ?_)
                   | (go_at_call 23; refine (one_any _).mono ?_)
                   | (go_at_call 17; refine (awake08_any _).mono ?_))
                rintro e w' ⟨rfl, hw⟩
                exact ⟨rfl, St.call (by assumption) hw⟩)))
   try simp only [Act.put, List.setIfInBounds_toArray, List.set])
  (first
     | (apply head_skip rfl)
     | (apply head_step_g rfl
        focus
          intro w0 hC
          (first
             | exact neq_quiet 23 rfl rfl rfl Try.eqGuardType23 Try.underlying23 (by simp [go_sem]) (by simp [go_sem]) (by first | with_reducible assumption | with_reducible rfl)
             | exact eql_quiet 23 rfl rfl rfl Try.eqGuardType23 Try.underlying23 (by simp [go_sem]) (by simp [go_sem]) (by first | with_reducible assumption | with_reducible rfl)))
     | (apply head_step_g rfl
        focus
          intro w0 hC
          have hC' := Lib.hid hC
          obtain ⟨⟨r1, f1, i1, b1, l1⟩, ⟨r2, f2, i2, b2, l2⟩, ⟨r3, f3, i3, b3, l3⟩, ⟨r4, f4, i4, b4, l4⟩, m12, m21, m13, m31, m14, m41, m23, m32, m24, m42, m34, m43⟩ := St.facts4 hC
          clear hC
          go_simp
          have hC := hC'.out
          (first
             | with_reducible rfl
             | (skip
                (first
                   | (go_at_call 13; refine (ghMul_any _ _ _).mono ?_)
                   | (go_at_call 22; refine (xor_any _ _ _).mono ?_)
                   | (go_at_call 23; refine (one_any _).mono ?_)
                   | (go_at_call 17; refine (awake08_any _).mono ?_))
                rintro e w' ⟨rfl, hw⟩
                exact ⟨rfl, St.call (by assumption) hw⟩)))
   try simp only [Act.put, List.setIfInBounds_toArray, List.set])
  (first
     | (apply head_skip rfl)
     | (apply head_step_g rfl
        focus
          intro w0 hC
          (first
             | exact neq_quiet 23 rfl rfl rfl Try.eqGuardType23 Try.underlying23 (by simp [go_sem]) (by simp [go_sem]) (by first | with_reducible assumption | with_reducible rfl)
             | exact eql_quiet 23 rfl rfl rfl Try.eqGuardType23 Try.underlying23 (by simp [go_sem]) (by simp [go_sem]) (by first | with_reducible assumption | with_reducible rfl)))
     | (apply head_step_g rfl
        focus
          intro w0 hC
          have hC' := Lib.hid hC
          obtain ⟨⟨r1, f1, i1, b1, l1⟩, ⟨r2, f2, i2, b2, l2⟩, ⟨r3, f3, i3, b3, l3⟩, ⟨r4, f4, i4, b4, l4⟩, m12, m21, m13, m31, m14, m41, m23, m32, m24, m42, m34, m43⟩ := St.facts4 hC
          clear hC
          go_simp
          have hC := hC'.out
          (first
             | with_reducible rfl
             | (skip
                (first
                   | (go_at_call 13; refine (ghMul_any _ _ _).mono ?_)
                   | (go_at_call 22; refine (xor_any _ _ _).mono ?_)
                   | (go_at_call 23; refine (one_any _).mono ?_)
                   | (go_at_call 17; refine (awake08_any _).mono ?_))
                rintro e w' ⟨rfl, hw⟩
                exact ⟨rfl, St.call (by assumption) hw⟩)))
   try simp only [Act.put, List.setIfInBounds_toArray, List.set])
  (first
     | (apply head_skip rfl)
     | (apply head_step_g rfl
        focus
          intro w0 hC
          (first
             | exact neq_quiet 23 rfl rfl rfl Try.eqGuardType23 Try.underlying23 (by simp [go_sem]) (by simp [go_sem]) (by first | with_reducible assumption | with_reducible rfl)
             | exact eql_quiet 23 rfl rfl rfl Try.eqGuardType23 Try.underlying23 (by simp [go_sem]) (by simp [go_sem]) (by first | with_reducible assumption | with_reducible rfl)))
     | (apply head_step_g rfl
        focus
          intro w0 hC
          have hC' := Lib.hid hC
          obtain ⟨⟨r1, f1, i1, b1, l1⟩, ⟨r2, f2, i2, b2, l2⟩, ⟨r3, f3, i3, b3, l3⟩, ⟨r4, f4, i4, b4, l4⟩, m12, m21, m13, m31, m14, m41, m23, m32, m24, m42, m34, m43⟩ := St.facts4 hC
          clear hC
          go_simp
          have hC := hC'.out
          (first
             | with_reducible rfl
             | (skip
                (first
                   | (go_at_call 13; refine (ghMul_any _ _ _).mono ?_)
                   | (go_at_call 22; refine (xor_any _ _ _).mono ?_)
                   | (go_at_call 23; refine (one_any _).mono ?_)
                   | (go_at_call 17; refine (awake08_any _).mono ?_))
                rintro e w' ⟨rfl, hw⟩
                exact ⟨rfl, St.call (by assumption) hw⟩)))
   try simp only [Act.put, List.setIfInBounds_toArray, List.set])
  (first
     | (apply head_skip rfl)
     | (apply head_step_g rfl
        focus
          intro w0 hC
          (first
             | exact neq_quiet 23 rfl rfl rfl Try.eqGuardType23 Try.underlying23 (by simp [go_sem]) (by simp [go_sem]) (by first | with_reducible assumption | with_reducible rfl)
             | exact eql_quiet 23 rfl rfl rfl Try.eqGuardType23 Try.underlying23 (by simp [go_sem]) (by simp [go_sem]) (by first | with_reducible assumption | with_reducible rfl)))
     | (apply head_step_g rfl
        focus
          intro w0 hC
          have hC' := Lib.hid hC
          obtain ⟨⟨r1, f1, i1, b1, l1⟩, ⟨r2, f2, i2, b2, l2⟩, ⟨r3, f3, i3, b3, l3⟩, ⟨r4, f4, i4, b4, l4⟩, m12, m21, m13, m31, m14, m41, m23, m32, m24, m42, m34, m43⟩ := St.facts4 hC
          clear hC
          go_simp
          have hC := hC'.out
          (first
             | with_reducible rfl
             | (skip
                (first
                   | (go_at_call 13; refine (ghMul_any _ _ _).mono ?_)
                   | (go_at_call 22; refine (xor_any _ _ _).mono ?_)
                   | (go_at_call 23; refine (one_any _).mono ?_)
                   | (go_at_call 17; refine (awake08_any _).mono ?_))
                rintro e w' ⟨rfl, hw⟩
                exact ⟨rfl, St.call (by assumption) hw⟩)))
   try simp only [Act.put, List.setIfInBounds_toArray, List.set])
  (first
     | (apply head_skip rfl)
     | (apply head_step_g rfl
        focus
          intro w0 hC
          (first
             | exact neq_quiet 23 rfl rfl rfl Try.eqGuardType23 Try.underlying23 (by simp [go_sem]) (by simp [go_sem]) (by first | with_reducible assumption | with_reducible rfl)
             | exact eql_quiet 23 rfl rfl rfl Try.eqGuardType23 Try.underlying23 (by simp [go_sem]) (by simp [go_sem]) (by first | with_reducible assumption | with_reducible rfl)))
     | (apply head_step_g rfl
        focus
          intro w0 hC
          have hC' := Lib.hid hC
          obtain ⟨⟨r1, f1, i1, b1, l1⟩, ⟨r2, f2, i2, b2, l2⟩, ⟨r3, f3, i3, b3, l3⟩, ⟨r4, f4, i4, b4, l4⟩, m12, m21, m13, m31, m14, m41, m23, m32, m24, m42, m34, m43⟩ := St.facts4 hC
          clear hC
          go_simp
          have hC := hC'.out
          (first
             | with_reducible rfl
             | (skip
                (first
                   | (go_at_call 13; refine (ghMul_any _ _ _).mono ?_)
                   | (go_at_call 22; refine (xor_any _ _ _).mono ?_)
                   | (go_at_call 23; refine (one_any _).mono ?_)
                   | (go_at_call 17; refine (awake08_any _).mono ?_))
                rintro e w' ⟨rfl, hw⟩
                exact ⟨rfl, St.call (by assumption) hw⟩)))
   try simp only [Act.put, List.setIfInBounds_toArray, List.set])
  refine wpQuiet_nil ?_
  intro w2 hC
  clear f1 f2
  have HC := Lib.hid hC
  clear hC
  go_wp2_with fail
  refine St.region HC.out (by kernel_rfl) (by kernel_rfl) ?_
  (first
     | (apply head_skip rfl)
     | (apply head_step_g rfl
        focus
          intro w0 hC
          (first
             | exact neq_quiet 23 rfl rfl rfl Try.eqGuardType23 Try.underlying23 (by simp [go_sem]) (by simp [go_sem]) (by first | with_reducible assumption | with_reducible rfl)
             | exact eql_quiet 23 rfl rfl rfl Try.eqGuardType23 Try.underlying23 (by simp [go_sem]) (by simp [go_sem]) (by first | with_reducible assumption | with_reducible rfl)))
     | (apply head_step_g rfl
        focus
          intro w0 hC
          have hC' := Lib.hid hC
          obtain ⟨⟨r1, f1, i1, b1, l1⟩, ⟨r2, f2, i2, b2, l2⟩, ⟨r3, f3, i3, b3, l3⟩, ⟨r4, f4, i4, b4, l4⟩, m12, m21, m13, m31, m14, m41, m23, m32, m24, m42, m34, m43⟩ := St.facts4 hC
          clear hC
          go_simp
          have hC := hC'.out
          (first
             | with_reducible rfl
             | (skip
                (first
                   | (go_at_call 13; refine (ghMul_any _ _ _).mono ?_)
                   | (go_at_call 22; refine (xor_any _ _ _).mono ?_)
                   | (go_at_call 23; refine (one_any _).mono ?_)
                   | (go_at_call 17; refine (awake08_any _).mono ?_))
                rintro e w' ⟨rfl, hw⟩
                exact ⟨rfl, St.call (by assumption) hw⟩)))
   try simp only [Act.put, List.setIfInBounds_toArray, List.set])
  (first
     | (apply head_skip rfl)
     | (apply head_step_g rfl
        focus
          intro w0 hC
          (first
             | exact neq_quiet 23 rfl rfl rfl Try.eqGuardType23 Try.underlying23 (by simp [go_sem]) (by simp [go_sem]) (by first | with_reducible assumption | with_reducible rfl)
             | exact eql_quiet 23 rfl rfl rfl Try.eqGuardType23 Try.underlying23 (by simp [go_sem]) (by simp [go_sem]) (by first | with_reducible assumption | with_reducible rfl)))
     | (apply head_step_g rfl
        focus
          intro w0 hC
          have hC' := Lib.hid hC
          obtain ⟨⟨r1, f1, i1, b1, l1⟩, ⟨r2, f2, i2, b2, l2⟩, ⟨r3, f3, i3, b3, l3⟩, ⟨r4, f4, i4, b4, l4⟩, m12, m21, m13, m31, m14, m41, m23, m32, m24, m42, m34, m43⟩ := St.facts4 hC
          clear hC
          go_simp
          have hC := hC'.out
          (first
             | with_reducible rfl
             | (skip
                (first
                   | (go_at_call 13; refine (ghMul_any _ _ _).mono ?_)
                   | (go_at_call 22; refine (xor_any _ _ _).mono ?_)
                   | (go_at_call 23; refine (one_any _).mono ?_)
                   | (go_at_call 17; refine (awake08_any _).mono ?_))
                rintro e w' ⟨rfl, hw⟩
                exact ⟨rfl, St.call (by assumption) hw⟩)))
   try simp only [Act.put, List.setIfInBounds_toArray, List.set])
  (first
     | (apply head_skip rfl)
     | (apply head_step_g rfl
        focus
          intro w0 hC
          (first
             | exact neq_quiet 23 rfl rfl rfl Try.eqGuardType23 Try.underlying23 (by simp [go_sem]) (by simp [go_sem]) (by first | with_reducible assumption | with_reducible rfl)
             | exact eql_quiet 23 rfl rfl rfl Try.eqGuardType23 Try.underlying23 (by simp [go_sem]) (by simp [go_sem]) (by first | with_reducible assumption | with_reducible rfl)))
     | (apply head_step_g rfl
        focus
          intro w0 hC
          have hC' := Lib.hid hC
          obtain ⟨⟨r1, f1, i1, b1, l1⟩, ⟨r2, f2, i2, b2, l2⟩, ⟨r3, f3, i3, b3, l3⟩, ⟨r4, f4, i4, b4, l4⟩, m12, m21, m13, m31, m14, m41, m23, m32, m24, m42, m34, m43⟩ := St.facts4 hC
          clear hC
          go_simp
          have hC := hC'.out
          (first
             | with_reducible rfl
             | (skip
                (first
                   | (go_at_call 13; refine (ghMul_any _ _ _).mono ?_)
                   | (go_at_call 22; refine (xor_any _ _ _).mono ?_)
                   | (go_at_call 23; refine (one_any _).mono ?_)
                   | (go_at_call 17; refine (awake08_any _).mono ?_))
                rintro e w' ⟨rfl, hw⟩
                exact ⟨rfl, St.call (by assumption) hw⟩)))
   try simp only [Act.put, List.setIfInBounds_toArray, List.set])
  (first
     | (apply head_skip rfl)
     | (apply head_step_g rfl
        focus
          intro w0 hC
          (first
             | exact neq_quiet 23 rfl rfl rfl Try.eqGuardType23 Try.underlying23 (by simp [go_sem]) (by simp [go_sem]) (by first | with_reducible assumption | with_reducible rfl)
             | exact eql_quiet 23 rfl rfl rfl Try.eqGuardType23 Try.underlying23 (by simp [go_sem]) (by simp [go_sem]) (by first | with_reducible assumption | with_reducible rfl)))
     | (apply head_step_g rfl
        focus
          intro w0 hC
          have hC' := Lib.hid hC
          obtain ⟨⟨r1, f1, i1, b1, l1⟩, ⟨r2, f2, i2, b2, l2⟩, ⟨r3, f3, i3, b3, l3⟩, ⟨r4, f4, i4, b4, l4⟩, m12, m21, m13, m31, m14, m41, m23, m32, m24, m42, m34, m43⟩ := St.facts4 hC
          clear hC
          go_simp
          have hC := hC'.out
          (first
             | with_reducible rfl
             | (skip
                (first
                   | (go_at_call 13; refine (ghMul_any _ _ _).mono ?_)
                   | (go_at_call 22; refine (xor_any _ _ _).mono ?_)
                   | (go_at_call 23; refine (one_any _).mono ?_)
                   | (go_at_call 17; refine (awake08_any _).mono ?_))
                rintro e w' ⟨rfl, hw⟩
                exact ⟨rfl, St.call (by assumption) hw⟩)))
   try simp only [Act.put, List.setIfInBounds_toArray, List.set])
  (first
     | (apply head_skip rfl)
     | (apply head_step_g rfl
        focus
          intro w0 hC
          (first
             | exact neq_quiet 23 rfl rfl rfl Try.eqGuardType23 Try.underlying23 (by simp [go_sem]) (by simp [go_sem]) (by first | with_reducible assumption | with_reducible rfl)
             | exact eql_quiet 23 rfl rfl rfl Try.eqGuardType23 Try.underlying23 (by simp [go_sem]) (by simp [go_sem]) (by first | with_reducible assumption | with_reducible rfl)))
     | (apply head_step_g rfl
        focus
          intro w0 hC
          have hC' := Lib.hid hC
          obtain ⟨⟨r1, f1, i1, b1, l1⟩, ⟨r2, f2, i2, b2, l2⟩, ⟨r3, f3, i3, b3, l3⟩, ⟨r4, f4, i4, b4, l4⟩, m12, m21, m13, m31, m14, m41, m23, m32, m24, m42, m34, m43⟩ := St.facts4 hC
          clear hC
          go_simp
          have hC := hC'.out
          (first
             | with_reducible rfl
             | (skip
                (first
                   | (go_at_call 13; refine (ghMul_any _ _ _).mono ?_)
                   | (go_at_call 22; refine (xor_any _ _ _).mono ?_)
                   | (go_at_call 23; refine (one_any _).mono ?_)
                   | (go_at_call 17; refine (awake08_any _).mono ?_))
                rintro e w' ⟨rfl, hw⟩
                exact ⟨rfl, St.call (by assumption) hw⟩)))
   try simp only [Act.put, List.setIfInBounds_toArray, List.set])
  (first
     | (apply head_skip rfl)
     | (apply head_step_g rfl
        focus
          intro w0 hC
          (first
             | exact neq_quiet 23 rfl rfl rfl Try.eqGuardType23 Try.underlying23 (by simp [go_sem]) (by simp [go_sem]) (by first | with_reducible assumption | with_reducible rfl)
             | exact eql_quiet 23 rfl rfl rfl Try.eqGuardType23 Try.underlying23 (by simp [go_sem]) (by simp [go_sem]) (by first | with_reducible assumption | with_reducible rfl)))
     | (apply head_step_g rfl
        focus
          intro w0 hC
          have hC' := Lib.hid hC
          obtain ⟨⟨r1, f1, i1, b1, l1⟩, ⟨r2, f2, i2, b2, l2⟩, ⟨r3, f3, i3, b3, l3⟩, ⟨r4, f4, i4, b4, l4⟩, m12, m21, m13, m31, m14, m41, m23, m32, m24, m42, m34, m43⟩ := St.facts4 hC
          clear hC
          go_simp
          have hC := hC'.out
          (first
             | with_reducible rfl
             | (skip
                (first
                   | (go_at_call 13; refine (ghMul_any _ _ _).mono ?_)
                   | (go_at_call 22; refine (xor_any _ _ _).mono ?_)
                   | (go_at_call 23; refine (one_any _).mono ?_)
                   | (go_at_call 17; refine (awake08_any _).mono ?_))
                rintro e w' ⟨rfl, hw⟩
                exact ⟨rfl, St.call (by assumption) hw⟩)))
   try simp only [Act.put, List.setIfInBounds_toArray, List.set])
  (first
     | (apply head_skip rfl)
     | (apply head_step_g rfl
        focus
          intro w0 hC
          (first
             | exact neq_quiet 23 rfl rfl rfl Try.eqGuardType23 Try.underlying23 (by simp [go_sem]) (by simp [go_sem]) (by first | with_reducible assumption | with_reducible rfl)
             | exact eql_quiet 23 rfl rfl rfl Try.eqGuardType23 Try.underlying23 (by simp [go_sem]) (by simp [go_sem]) (by first | with_reducible assumption | with_reducible rfl)))
     | (apply head_step_g rfl
        focus
          intro w0 hC
          have hC' := Lib.hid hC
          obtain ⟨⟨r1, f1, i1, b1, l1⟩, ⟨r2, f2, i2, b2, l2⟩, ⟨r3, f3, i3, b3, l3⟩, ⟨r4, f4, i4, b4, l4⟩, m12, m21, m13, m31, m14, m41, m23, m32, m24, m42, m34, m43⟩ := St.facts4 hC
          clear hC
          go_simp
          have hC := hC'.out
          (first
             | with_reducible rfl
             | (skip
                (first
                   | (go_at_call 13; refine (ghMul_any _ _ _).mono ?_)
                   | (go_at_call 22; refine (xor_any _ _ _).mono ?_)
                   | (go_at_call 23; refine (one_any _).mono ?_)
                   | (go_at_call 17; refine (awake08_any _).mono ?_))
                rintro e w' ⟨rfl, hw⟩
                exact ⟨rfl, St.call (by assumption) hw⟩)))
   try simp only [Act.put, List.setIfInBounds_toArray, List.set])
  (first
     | (apply head_skip rfl)
     | (apply head_step_g rfl
        focus
          intro w0 hC
          (first
             | exact neq_quiet 23 rfl rfl rfl Try.eqGuardType23 Try.underlying23 (by simp [go_sem]) (by simp [go_sem]) (by first | with_reducible assumption | with_reducible rfl)
             | exact eql_quiet 23 rfl rfl rfl Try.eqGuardType23 Try.underlying23 (by simp [go_sem]) (by simp [go_sem]) (by first | with_reducible assumption | with_reducible rfl)))
     | (apply head_step_g rfl
        focus
          intro w0 hC
          have hC' := Lib.hid hC
          obtain ⟨⟨r1, f1, i1, b1, l1⟩, ⟨r2, f2, i2, b2, l2⟩, ⟨r3, f3, i3, b3, l3⟩, ⟨r4, f4, i4, b4, l4⟩, m12, m21, m13, m31, m14, m41, m23, m32, m24, m42, m34, m43⟩ := St.facts4 hC
          clear hC
          go_simp
          have hC := hC'.out
          (first
             | with_reducible rfl
             | (skip
                (first
                   | (go_at_call 13; refine (ghMul_any _ _ _).mono ?_)
                   | (go_at_call 22; refine (xor_any _ _ _).mono ?_)
                   | (go_at_call 23; refine (one_any _).mono ?_)
                   | (go_at_call 17; refine (awake08_any _).mono ?_))
                rintro e w' ⟨rfl, hw⟩
                exact ⟨rfl, St.call (by assumption) hw⟩)))
   try simp only [Act.put, List.setIfInBounds_toArray, List.set])
  (first
     | (apply head_skip rfl)
     | (apply head_step_g rfl
        focus
          intro w0 hC
          (first
             | exact neq_quiet 23 rfl rfl rfl Try.eqGuardType23 Try.underlying23 (by simp [go_sem]) (by simp [go_sem]) (by first | with_reducible assumption | with_reducible rfl)
             | exact eql_quiet 23 rfl rfl rfl Try.eqGuardType23 Try.underlying23 (by simp [go_sem]) (by simp [go_sem]) (by first | with_reducible assumption | with_reducible rfl)))
     | (apply head_step_g rfl
        focus
          intro w0 hC
          have hC' := Lib.hid hC
          obtain ⟨⟨r1, f1, i1, b1, l1⟩, ⟨r2, f2, i2, b2, l2⟩, ⟨r3, f3, i3, b3, l3⟩, ⟨r4, f4, i4, b4, l4⟩, m12, m21, m13, m31, m14, m41, m23, m32, m24, m42, m34, m43⟩ := St.facts4 hC
          clear hC
          go_simp
          have hC := hC'.out
          (first
             | with_reducible rfl
             | (skip
                (first
                   | (go_at_call 13; refine (ghMul_any _ _ _).mono ?_)
                   | (go_at_call 22; refine (xor_any _ _ _).mono ?_)
                   | (go_at_call 23; refine (one_any _).mono ?_)
                   | (go_at_call 17; refine (awake08_any _).mono ?_))
                rintro e w' ⟨rfl, hw⟩
                exact ⟨rfl, St.call (by assumption) hw⟩)))
   try simp only [Act.put, List.setIfInBounds_toArray, List.set])
  (first
     | (apply head_skip rfl)
     | (apply head_step_g rfl
        focus
          intro w0 hC
          (first
             | exact neq_quiet 23 rfl rfl rfl Try.eqGuardType23 Try.underlying23 (by simp [go_sem]) (by simp [go_sem]) (by first | with_reducible assumption | with_reducible rfl)
             | exact eql_quiet 23 rfl rfl rfl Try.eqGuardType23 Try.underlying23 (by simp [go_sem]) (by simp [go_sem]) (by first | with_reducible assumption | with_reducible rfl)))
     | (apply head_step_g rfl
        focus
          intro w0 hC
          have hC' := Lib.hid hC
          obtain ⟨⟨r1, f1, i1, b1, l1⟩, ⟨r2, f2, i2, b2, l2⟩, ⟨r3, f3, i3, b3, l3⟩, ⟨r4, f4, i4, b4, l4⟩, m12, m21, m13, m31, m14, m41, m23, m32, m24, m42, m34, m43⟩ := St.facts4 hC
          clear hC
          go_simp
          have hC := hC'.out
          (first
             | with_reducible rfl
             | (skip
                (first
                   | (go_at_call 13; refine (ghMul_any _ _ _).mono ?_)
                   | (go_at_call 22; refine (xor_any _ _ _).mono ?_)
                   | (go_at_call 23; refine (one_any _).mono ?_)
                   | (go_at_call 17; refine (awake08_any _).mono ?_))
                rintro e w' ⟨rfl, hw⟩
                exact ⟨rfl, St.call (by assumption) hw⟩)))
   try simp only [Act.put, List.setIfInBounds_toArray, List.set])
  (first
     | (apply head_skip rfl)
     | (apply head_step_g rfl
        focus
          intro w0 hC
          (first
             | exact neq_quiet 23 rfl rfl rfl Try.eqGuardType23 Try.underlying23 (by simp [go_sem]) (by simp [go_sem]) (by first | with_reducible assumption | with_reducible rfl)
             | exact eql_quiet 23 rfl rfl rfl Try.eqGuardType23 Try.underlying23 (by simp [go_sem]) (by simp [go_sem]) (by first | with_reducible assumption | with_reducible rfl)))
     | (apply head_step_g rfl
        focus
          intro w0 hC
          have hC' := Lib.hid hC
          obtain ⟨⟨r1, f1, i1, b1, l1⟩, ⟨r2, f2, i2, b2, l2⟩, ⟨r3, f3, i3, b3, l3⟩, ⟨r4, f4, i4, b4, l4⟩, m12, m21, m13, m31, m14, m41, m23, m32, m24, m42, m34, m43⟩ := St.facts4 hC
          clear hC
          go_simp
          have hC := hC'.out
          (first
             | with_reducible rfl
             | (skip
                (first
                   | (go_at_call 13; refine (ghMul_any _ _ _).mono ?_)
                   | (go_at_call 22; refine (xor_any _ _ _).mono ?_)
                   | (go_at_call 23; refine (one_any _).mono ?_)
                   | (go_at_call 17; refine (awake08_any _).mono ?_))
                rintro e w' ⟨rfl, hw⟩
                exact ⟨rfl, St.call (by assumption) hw⟩)))
   try simp only [Act.put, List.setIfInBounds_toArray, List.set])
  (first
     | (apply head_skip rfl)
     | (apply head_step_g rfl
        focus
          intro w0 hC
          (first
             | exact neq_quiet 23 rfl rfl rfl Try.eqGuardType23 Try.underlying23 (by simp [go_sem]) (by simp [go_sem]) (by first | with_reducible assumption | with_reducible rfl)
             | exact eql_quiet 23 rfl rfl rfl Try.eqGuardType23 Try.underlying23 (by simp [go_sem]) (by simp [go_sem]) (by first | with_reducible assumption | with_reducible rfl)))
     | (apply head_step_g rfl
        focus
          intro w0 hC
          have hC' := Lib.hid hC
          obtain ⟨⟨r1, f1, i1, b1, l1⟩, ⟨r2, f2, i2, b2, l2⟩, ⟨r3, f3, i3, b3, l3⟩, ⟨r4, f4, i4, b4, l4⟩, m12, m21, m13, m31, m14, m41, m23, m32, m24, m42, m34, m43⟩ := St.facts4 hC
          clear hC
          go_simp
          have hC := hC'.out
          (first
             | with_reducible rfl
             | (skip
                (first
                   | (go_at_call 13; refine (ghMul_any _ _ _).mono ?_)
                   | (go_at_call 22; refine (xor_any _ _ _).mono ?_)
                   | (go_at_call 23; refine (one_any _).mono ?_)
                   | (go_at_call 17; refine (awake08_any _).mono ?_))
                rintro e w' ⟨rfl, hw⟩
                exact ⟨rfl, St.call (by assumption) hw⟩)))
   try simp only [Act.put, List.setIfInBounds_toArray, List.set])
  (first
     | (apply head_skip rfl)
     | (apply head_step_g rfl
        focus
          intro w0 hC
          (first
             | exact neq_quiet 23 rfl rfl rfl Try.eqGuardType23 Try.underlying23 (by simp [go_sem]) (by simp [go_sem]) (by first | with_reducible assumption | with_reducible rfl)
             | exact eql_quiet 23 rfl rfl rfl Try.eqGuardType23 Try.underlying23 (by simp [go_sem]) (by simp [go_sem]) (by first | with_reducible assumption | with_reducible rfl)))
     | (apply head_step_g rfl
        focus
          intro w0 hC
          have hC' := Lib.hid hC
          obtain ⟨⟨r1, f1, i1, b1, l1⟩, ⟨r2, f2, i2, b2, l2⟩, ⟨r3, f3, i3, b3, l3⟩, ⟨r4, f4, i4, b4, l4⟩, m12, m21, m13, m31, m14, m41, m23, m32, m24, m42, m34, m43⟩ := St.facts4 hC
          clear hC
          go_simp
          have hC := hC'.out
          (first
             | with_reducible rfl
             | (skip
                (first
                   | (go_at_call 13; refine (ghMul_any _ _ _).mono ?_)
                   | (go_at_call 22; refine (xor_any _ _ _).mono ?_)
                   | (go_at_call 23; refine (one_any _).mono ?_)
                   | (go_at_call 17; refine (awake08_any _).mono ?_))
                rintro e w' ⟨rfl, hw⟩
                exact ⟨rfl, St.call (by assumption) hw⟩)))
   try simp only [Act.put, List.setIfInBounds_toArray, List.set])
  (first
     | (apply head_skip rfl)
     | (apply head_step_g rfl
        focus
          intro w0 hC
          (first
             | exact neq_quiet 23 rfl rfl rfl Try.eqGuardType23 Try.underlying23 (by simp [go_sem]) (by simp [go_sem]) (by first | with_reducible assumption | with_reducible rfl)
             | exact eql_quiet 23 rfl rfl rfl Try.eqGuardType23 Try.underlying23 (by simp [go_sem]) (by simp [go_sem]) (by first | with_reducible assumption | with_reducible rfl)))
     | (apply head_step_g rfl
        focus
          intro w0 hC
          have hC' := Lib.hid hC
          obtain ⟨⟨r1, f1, i1, b1, l1⟩, ⟨r2, f2, i2, b2, l2⟩, ⟨r3, f3, i3, b3, l3⟩, ⟨r4, f4, i4, b4, l4⟩, m12, m21, m13, m31, m14, m41, m23, m32, m24, m42, m34, m43⟩ := St.facts4 hC
          clear hC
          go_simp
          have hC := hC'.out
          (first
             | with_reducible rfl
             | (skip
                (first
                   | (go_at_call 13; refine (ghMul_any _ _ _).mono ?_)
                   | (go_at_call 22; refine (xor_any _ _ _).mono ?_)
                   | (go_at_call 23; refine (one_any _).mono ?_)
                   | (go_at_call 17; refine (awake08_any _).mono ?_))
                rintro e w' ⟨rfl, hw⟩
                exact ⟨rfl, St.call (by assumption) hw⟩)))
   try simp only [Act.put, List.setIfInBounds_toArray, List.set])
  (first
     | (apply head_skip rfl)
     | (apply head_step_g rfl
        focus
          intro w0 hC
          (first
             | exact neq_quiet 23 rfl rfl rfl Try.eqGuardType23 Try.underlying23 (by simp [go_sem]) (by simp [go_sem]) (by first | with_reducible assumption | with_reducible rfl)
             | exact eql_quiet 23 rfl rfl rfl Try.eqGuardType23 Try.underlying23 (by simp [go_sem]) (by simp [go_sem]) (by first | with_reducible assumption | with_reducible rfl)))
     | (apply head_step_g rfl
        focus
          intro w0 hC
          have hC' := Lib.hid hC
          obtain ⟨⟨r1, f1, i1, b1, l1⟩, ⟨r2, f2, i2, b2, l2⟩, ⟨r3, f3, i3, b3, l3⟩, ⟨r4, f4, i4, b4, l4⟩, m12, m21, m13, m31, m14, m41, m23, m32, m24, m42, m34, m43⟩ := St.facts4 hC
          clear hC
          go_simp
          have hC := hC'.out
          (first
             | with_reducible rfl
             | (skip
                (first
                   | (go_at_call 13; refine (ghMul_any _ _ _).mono ?_)
                   | (go_at_call 22; refine (xor_any _ _ _).mono ?_)
                   | (go_at_call 23; refine (one_any _).mono ?_)
                   | (go_at_call 17; refine (awake08_any _).mono ?_))
                rintro e w' ⟨rfl, hw⟩
                exact ⟨rfl, St.call (by assumption) hw⟩)))
   try simp only [Act.put, List.setIfInBounds_toArray, List.set])
  (first
     | (apply head_skip rfl)
     | (apply head_step_g rfl
        focus
          intro w0 hC
          (first
             | exact neq_quiet 23 rfl rfl rfl Try.eqGuardType23 Try.underlying23 (by simp [go_sem]) (by simp [go_sem]) (by first | with_reducible assumption | with_reducible rfl)
             | exact eql_quiet 23 rfl rfl rfl Try.eqGuardType23 Try.underlying23 (by simp [go_sem]) (by simp [go_sem]) (by first | with_reducible assumption | with_reducible rfl)))
     | (apply head_step_g rfl
        focus
          intro w0 hC
          have hC' := Lib.hid hC
          obtain ⟨⟨r1, f1, i1, b1, l1⟩, ⟨r2, f2, i2, b2, l2⟩, ⟨r3, f3, i3, b3, l3⟩, ⟨r4, f4, i4, b4, l4⟩, m12, m21, m13, m31, m14, m41, m23, m32, m24, m42, m34, m43⟩ := St.facts4 hC
          clear hC
          go_simp
          have hC := hC'.out
          (first
             | with_reducible rfl
             | (skip
                (first
                   | (go_at_call 13; refine (ghMul_any _ _ _).mono ?_)
                   | (go_at_call 22; refine (xor_any _ _ _).mono ?_)
                   | (go_at_call 23; refine (one_any _).mono ?_)
                   | (go_at_call 17; refine (awake08_any _).mono ?_))
                rintro e w' ⟨rfl, hw⟩
                exact ⟨rfl, St.call (by assumption) hw⟩)))
   try simp only [Act.put, List.setIfInBounds_toArray, List.set])
  (first
     | (apply head_skip rfl)
     | (apply head_step_g rfl
        focus
          intro w0 hC
          (first
             | exact neq_quiet 23 rfl rfl rfl Try.eqGuardType23 Try.underlying23 (by simp [go_sem]) (by simp [go_sem]) (by first | with_reducible assumption | with_reducible rfl)
             | exact eql_quiet 23 rfl rfl rfl Try.eqGuardType23 Try.underlying23 (by simp [go_sem]) (by simp [go_sem]) (by first | with_reducible assumption | with_reducible rfl)))
     | (apply head_step_g rfl
        focus
          intro w0 hC
          have hC' := Lib.hid hC
          obtain ⟨⟨r1, f1, i1, b1, l1⟩, ⟨r2, f2, i2, b2, l2⟩, ⟨r3, f3, i3, b3, l3⟩, ⟨r4, f4, i4, b4, l4⟩, m12, m21, m13, m31, m14, m41, m23, m32, m24, m42, m34, m43⟩ := St.facts4 hC
          clear hC
          go_simp
          have hC := hC'.out
          (first
             | with_reducible rfl
             | (skip
                (first
                   | (go_at_call 13; refine (ghMul_any _ _ _).mono ?_)
                   | (go_at_call 22; refine (xor_any _ _ _).mono ?_)
                   | (go_at_call 23; refine (one_any _).mono ?_)
                   | (go_at_call 17; refine (awake08_any _).mono ?_))
                rintro e w' ⟨rfl, hw⟩
                exact ⟨rfl, St.call (by assumption) hw⟩)))
   try simp only [Act.put, List.setIfInBounds_toArray, List.set])
  (first
     | (apply head_skip rfl)
     | (apply head_step_g rfl
        focus
          intro w0 hC
          (first
             | exact neq_quiet 23 rfl rfl rfl Try.eqGuardType23 Try.underlying23 (by simp [go_sem]) (by simp [go_sem]) (by first | with_reducible assumption | with_reducible rfl)
             | exact eql_quiet 23 rfl rfl rfl Try.eqGuardType23 Try.underlying23 (by simp [go_sem]) (by simp [go_sem]) (by first | with_reducible assumption | with_reducible rfl)))
     | (apply head_step_g rfl
        focus
          intro w0 hC
          have hC' := Lib.hid hC
          obtain ⟨⟨r1, f1, i1, b1, l1⟩, ⟨r2, f2, i2, b2, l2⟩, ⟨r3, f3, i3, b3, l3⟩, ⟨r4, f4, i4, b4, l4⟩, m12, m21, m13, m31, m14, m41, m23, m32, m24, m42, m34, m43⟩ := St.facts4 hC
          clear hC
          go_simp
          have hC := hC'.out
          (first
             | with_reducible rfl
             | (skip
                (first
                   | (go_at_call 13; refine (ghMul_any _ _ _).mono ?_)
                   | (go_at_call 22; refine (xor_any _ _ _).mono ?_)
                   | (go_at_call 23; refine (one_any _).mono ?_)
                   | (go_at_call 17; refine (awake08_any _).mono ?_))
                rintro e w' ⟨rfl, hw⟩
                exact ⟨rfl, St.call (by assumption) hw⟩)))
   try simp only [Act.put, List.setIfInBounds_toArray, List.set])
  (first
     | (apply head_skip rfl)
     | (apply head_step_g rfl
        focus
          intro w0 hC
          (first
             | exact neq_quiet 23 rfl rfl rfl Try.eqGuardType23 Try.underlying23 (by simp [go_sem]) (by simp [go_sem]) (by first | with_reducible assumption | with_reducible rfl)
             | exact eql_quiet 23 rfl rfl rfl Try.eqGuardType23 Try.underlying23 (by simp [go_sem]) (by simp [go_sem]) (by first | with_reducible assumption | with_reducible rfl)))
     | (apply head_step_g rfl
        focus
          intro w0 hC
          have hC' := Lib.hid hC
          obtain ⟨⟨r1, f1, i1, b1, l1⟩, ⟨r2, f2, i2, b2, l2⟩, ⟨r3, f3, i3, b3, l3⟩, ⟨r4, f4, i4, b4, l4⟩, m12, m21, m13, m31, m14, m41, m23, m32, m24, m42, m34, m43⟩ := St.facts4 hC
          clear hC
          go_simp
          have hC := hC'.out
          (first
             | with_reducible rfl
             | (skip
                (first
                   | (go_at_call 13; refine (ghMul_any _ _ _).mono ?_)
                   | (go_at_call 22; refine (xor_any _ _ _).mono ?_)
                   | (go_at_call 23; refine (one_any _).mono ?_)
                   | (go_at_call 17; refine (awake08_any _).mono ?_))
                rintro e w' ⟨rfl, hw⟩
                exact ⟨rfl, St.call (by assumption) hw⟩)))
   try simp only [Act.put, List.setIfInBounds_toArray, List.set])
  (first
     | (apply head_skip rfl)
     | (apply head_step_g rfl
        focus
          intro w0 hC
          (first
             | exact neq_quiet 23 rfl rfl rfl Try.eqGuardType23 Try.underlying23 (by simp [go_sem]) (by simp [go_sem]) (by first | with_reducible assumption | with_reducible rfl)
             | exact eql_quiet 23 rfl rfl rfl Try.eqGuardType23 Try.underlying23 (by simp [go_sem]) (by simp [go_sem]) (by first | with_reducible assumption | with_reducible rfl)))
     | (apply head_step_g rfl
        focus
          intro w0 hC
          have hC' := Lib.hid hC
          obtain ⟨⟨r1, f1, i1, b1, l1⟩, ⟨r2, f2, i2, b2, l2⟩, ⟨r3, f3, i3, b3, l3⟩, ⟨r4, f4, i4, b4, l4⟩, m12, m21, m13, m31, m14, m41, m23, m32, m24, m42, m34, m43⟩ := St.facts4 hC
          clear hC
          go_simp
          have hC := hC'.out
          (first
             | with_reducible rfl
             | (skip
                (first
                   | (go_at_call 13; refine (ghMul_any _ _ _).mono ?_)
                   | (go_at_call 22; refine (xor_any _ _ _).mono ?_)
                   | (go_at_call 23; refine (one_any _).mono ?_)
                   | (go_at_call 17; refine (awake08_any _).mono ?_))
                rintro e w' ⟨rfl, hw⟩
                exact ⟨rfl, St.call (by assumption) hw⟩)))
   try simp only [Act.put, List.setIfInBounds_toArray, List.set])
  refine wpQuiet_nil ?_
  intro w3 hC
  clear f3 f4
  have HC := Lib.hid hC
  have sos := hC.below.os
  clear hC
  go_wp2_with fail
  have HC := Lib.hid (HC.out.push (blk 16 fun _ => 0) 23)
  clear sos
  cases h0 : same 16 l (fun _ => 0) with
  | true =>
    have f6 : same 16 (mulB l b) (fun _ => 0) = true := by rw [f5, h0]; rfl
    clear f5
    refine St.region HC.out (by kernel_rfl) (by kernel_rfl) ?_
    (first
       | (apply head_skip rfl)
       | (apply head_step_g rfl
          focus
            intro w0 hC
            (first
               | exact neq_quiet 23 rfl rfl rfl Try.eqGuardType23 Try.underlying23 (by simp [go_sem]) (by simp [go_sem]) (by first | with_reducible assumption | with_reducible rfl)
               | exact eql_quiet 23 rfl rfl rfl Try.eqGuardType23 Try.underlying23 (by simp [go_sem]) (by simp [go_sem]) (by first | with_reducible assumption | with_reducible rfl)))
       | (apply head_step_g rfl
          focus
            intro w0 hC
            have hC' := Lib.hid hC
            obtain ⟨⟨r1, f1, i1, b1, l1⟩, ⟨r2, f2, i2, b2, l2⟩, ⟨r3, f3, i3, b3, l3⟩, ⟨r4, f4, i4, b4, l4⟩, ⟨r5, f5, i5, b5, l5⟩, m12, m21, m13, m31, m14, m41, m15, m51, m23, m32, m24, m42, m25, m52, m34, m43, m35, m53, m45, m54⟩ := St.facts5 hC
            clear hC
            go_simp
            have hC := hC'.out
            (first
               | with_reducible rfl
               | (skip
                  (first
                     | (go_at_call 13; refine (ghMul_any _ _ _).mono ?_)
                     | (go_at_call 22; refine (xor_any _ _ _).mono ?_)
                     | (go_at_call 23; refine (one_any _).mono ?_)
                     | (go_at_call 17; refine (awake08_any _).mono ?_))
                  rintro e w' ⟨rfl, hw⟩
                  exact ⟨rfl, St.call (by assumption) hw⟩)))
     try simp only [Act.put, List.setIfInBounds_toArray, List.set])
    (first
       | (apply head_skip rfl)
       | (apply head_step_g rfl
          focus
            intro w0 hC
            (first
               | exact neq_quiet 23 rfl rfl rfl Try.eqGuardType23 Try.underlying23 (by simp [go_sem]) (by simp [go_sem]) (by first | with_reducible assumption | with_reducible rfl)
               | exact eql_quiet 23 rfl rfl rfl Try.eqGuardType23 Try.underlying23 (by simp [go_sem]) (by simp [go_sem]) (by first | with_reducible assumption | with_reducible rfl)))
       | (apply head_step_g rfl
          focus
            intro w0 hC
            have hC' := Lib.hid hC
            obtain ⟨⟨r1, f1, i1, b1, l1⟩, ⟨r2, f2, i2, b2, l2⟩, ⟨r3, f3, i3, b3, l3⟩, ⟨r4, f4, i4, b4, l4⟩, ⟨r5, f5, i5, b5, l5⟩, m12, m21, m13, m31, m14, m41, m15, m51, m23, m32, m24, m42, m25, m52, m34, m43, m35, m53, m45, m54⟩ := St.facts5 hC
            clear hC
            go_simp
            have hC := hC'.out
            (first
               | with_reducible rfl
               | (skip
                  (first
                     | (go_at_call 13; refine (ghMul_any _ _ _).mono ?_)
                     | (go_at_call 22; refine (xor_any _ _ _).mono ?_)
                     | (go_at_call 23; refine (one_any _).mono ?_)
                     | (go_at_call 17; refine (awake08_any _).mono ?_))
                  rintro e w' ⟨rfl, hw⟩
                  exact ⟨rfl, St.call (by assumption) hw⟩)))
     try simp only [Act.put, List.setIfInBounds_toArray, List.set])
    (first
       | (apply head_skip rfl)
       | (apply head_step_g rfl
          focus
            intro w0 hC
            (first
               | exact neq_quiet 23 rfl rfl rfl Try.eqGuardType23 Try.underlying23 (by simp [go_sem]) (by simp [go_sem]) (by first | with_reducible assumption | with_reducible rfl)
               | exact eql_quiet 23 rfl rfl rfl Try.eqGuardType23 Try.underlying23 (by simp [go_sem]) (by simp [go_sem]) (by first | with_reducible assumption | with_reducible rfl)))
       | (apply head_step_g rfl
          focus
            intro w0 hC
            have hC' := Lib.hid hC
            obtain ⟨⟨r1, f1, i1, b1, l1⟩, ⟨r2, f2, i2, b2, l2⟩, ⟨r3, f3, i3, b3, l3⟩, ⟨r4, f4, i4, b4, l4⟩, ⟨r5, f5, i5, b5, l5⟩, m12, m21, m13, m31, m14, m41, m15, m51, m23, m32, m24, m42, m25, m52, m34, m43, m35, m53, m45, m54⟩ := St.facts5 hC
            clear hC
            go_simp
            have hC := hC'.out
            (first
               | with_reducible rfl
               | (skip
                  (first
                     | (go_at_call 13; refine (ghMul_any _ _ _).mono ?_)
                     | (go_at_call 22; refine (xor_any _ _ _).mono ?_)
                     | (go_at_call 23; refine (one_any _).mono ?_)
                     | (go_at_call 17; refine (awake08_any _).mono ?_))
                  rintro e w' ⟨rfl, hw⟩
                  exact ⟨rfl, St.call (by assumption) hw⟩)))
     try simp only [Act.put, List.setIfInBounds_toArray, List.set])
    (first
       | (apply head_skip rfl)
       | (apply head_step_g rfl
          focus
            intro w0 hC
            (first
               | exact neq_quiet 23 rfl rfl rfl Try.eqGuardType23 Try.underlying23 (by simp [go_sem]) (by simp [go_sem]) (by first | with_reducible assumption | with_reducible rfl)
               | exact eql_quiet 23 rfl rfl rfl Try.eqGuardType23 Try.underlying23 (by simp [go_sem]) (by simp [go_sem]) (by first | with_reducible assumption | with_reducible rfl)))
       | (apply head_step_g rfl
          focus
            intro w0 hC
            have hC' := Lib.hid hC
            obtain ⟨⟨r1, f1, i1, b1, l1⟩, ⟨r2, f2, i2, b2, l2⟩, ⟨r3, f3, i3, b3, l3⟩, ⟨r4, f4, i4, b4, l4⟩, ⟨r5, f5, i5, b5, l5⟩, m12, m21, m13, m31, m14, m41, m15, m51, m23, m32, m24, m42, m25, m52, m34, m43, m35, m53, m45, m54⟩ := St.facts5 hC
            clear hC
            go_simp
            have hC := hC'.out
            (first
               | with_reducible rfl
               | (skip
                  (first
                     | (go_at_call 13; refine (ghMul_any _ _ _).mono ?_)
                     | (go_at_call 22; refine (xor_any _ _ _).mono ?_)
                     | (go_at_call 23; refine (one_any _).mono ?_)
                     | (go_at_call 17; refine (awake08_any _).mono ?_))
                  rintro e w' ⟨rfl, hw⟩
                  exact ⟨rfl, St.call (by assumption) hw⟩)))
     try simp only [Act.put, List.setIfInBounds_toArray, List.set])
    (first
       | (apply head_skip rfl)
       | (apply head_step_g rfl
          focus
            intro w0 hC
            (first
               | exact neq_quiet 23 rfl rfl rfl Try.eqGuardType23 Try.underlying23 (by simp [go_sem]) (by simp [go_sem]) (by first | with_reducible assumption | with_reducible rfl)
               | exact eql_quiet 23 rfl rfl rfl Try.eqGuardType23 Try.underlying23 (by simp [go_sem]) (by simp [go_sem]) (by first | with_reducible assumption | with_reducible rfl)))
       | (apply head_step_g rfl
          focus
            intro w0 hC
            have hC' := Lib.hid hC
            obtain ⟨⟨r1, f1, i1, b1, l1⟩, ⟨r2, f2, i2, b2, l2⟩, ⟨r3, f3, i3, b3, l3⟩, ⟨r4, f4, i4, b4, l4⟩, ⟨r5, f5, i5, b5, l5⟩, m12, m21, m13, m31, m14, m41, m15, m51, m23, m32, m24, m42, m25, m52, m34, m43, m35, m53, m45, m54⟩ := St.facts5 hC
            clear hC
            go_simp
            have hC := hC'.out
            (first
               | with_reducible rfl
               | (skip
                  (first
                     | (go_at_call 13; refine (ghMul_any _ _ _).mono ?_)
                     | (go_at_call 22; refine (xor_any _ _ _).mono ?_)
                     | (go_at_call 23; refine (one_any _).mono ?_)
                     | (go_at_call 17; refine (awake08_any _).mono ?_))
                  rintro e w' ⟨rfl, hw⟩
                  exact ⟨rfl, St.call (by assumption) hw⟩)))
     try simp only [Act.put, List.setIfInBounds_toArray, List.set])
    (first
       | (apply head_skip rfl)
       | (apply head_step_g rfl
          focus
            intro w0 hC
            (first
               | exact neq_quiet 23 rfl rfl rfl Try.eqGuardType23 Try.underlying23 (by simp [go_sem]) (by simp [go_sem]) (by first | with_reducible assumption | with_reducible rfl)
               | exact eql_quiet 23 rfl rfl rfl Try.eqGuardType23 Try.underlying23 (by simp [go_sem]) (by simp [go_sem]) (by first | with_reducible assumption | with_reducible rfl)))
       | (apply head_step_g rfl
          focus
            intro w0 hC
            have hC' := Lib.hid hC
            obtain ⟨⟨r1, f1, i1, b1, l1⟩, ⟨r2, f2, i2, b2, l2⟩, ⟨r3, f3, i3, b3, l3⟩, ⟨r4, f4, i4, b4, l4⟩, ⟨r5, f5, i5, b5, l5⟩, m12, m21, m13, m31, m14, m41, m15, m51, m23, m32, m24, m42, m25, m52, m34, m43, m35, m53, m45, m54⟩ := St.facts5 hC
            clear hC
            go_simp
            have hC := hC'.out
            (first
               | with_reducible rfl
               | (skip
                  (first
                     | (go_at_call 13; refine (ghMul_any _ _ _).mono ?_)
                     | (go_at_call 22; refine (xor_any _ _ _).mono ?_)
                     | (go_at_call 23; refine (one_any _).mono ?_)
                     | (go_at_call 17; refine (awake08_any _).mono ?_))
                  rintro e w' ⟨rfl, hw⟩
                  exact ⟨rfl, St.call (by assumption) hw⟩)))
     try simp only [Act.put, List.setIfInBounds_toArray, List.set])
    (first
       | (apply head_skip rfl)
       | (apply head_step_g rfl
          focus
            intro w0 hC
            (first
               | exact neq_quiet 23 rfl rfl rfl Try.eqGuardType23 Try.underlying23 (by simp [go_sem]) (by simp [go_sem]) (by first | with_reducible assumption | with_reducible rfl)
               | exact eql_quiet 23 rfl rfl rfl Try.eqGuardType23 Try.underlying23 (by simp [go_sem]) (by simp [go_sem]) (by first | with_reducible assumption | with_reducible rfl)))
       | (apply head_step_g rfl
          focus
            intro w0 hC
            have hC' := Lib.hid hC
            obtain ⟨⟨r1, f1, i1, b1, l1⟩, ⟨r2, f2, i2, b2, l2⟩, ⟨r3, f3, i3, b3, l3⟩, ⟨r4, f4, i4, b4, l4⟩, ⟨r5, f5, i5, b5, l5⟩, m12, m21, m13, m31, m14, m41, m15, m51, m23, m32, m24, m42, m25, m52, m34, m43, m35, m53, m45, m54⟩ := St.facts5 hC
            clear hC
            go_simp
            have hC := hC'.out
            (first
               | with_reducible rfl
               | (skip
                  (first
                     | (go_at_call 13; refine (ghMul_any _ _ _).mono ?_)
                     | (go_at_call 22; refine (xor_any _ _ _).mono ?_)
                     | (go_at_call 23; refine (one_any _).mono ?_)
                     | (go_at_call 17; refine (awake08_any _).mono ?_))
                  rintro e w' ⟨rfl, hw⟩
                  exact ⟨rfl, St.call (by assumption) hw⟩)))
     try simp only [Act.put, List.setIfInBounds_toArray, List.set])
    (first
       | (apply head_skip rfl)
       | (apply head_step_g rfl
          focus
            intro w0 hC
            (first
               | exact neq_quiet 23 rfl rfl rfl Try.eqGuardType23 Try.underlying23 (by simp [go_sem]) (by simp [go_sem]) (by first | with_reducible assumption | with_reducible rfl)
               | exact eql_quiet 23 rfl rfl rfl Try.eqGuardType23 Try.underlying23 (by simp [go_sem]) (by simp [go_sem]) (by first | with_reducible assumption | with_reducible rfl)))
       | (apply head_step_g rfl
          focus
            intro w0 hC
            have hC' := Lib.hid hC
            obtain ⟨⟨r1, f1, i1, b1, l1⟩, ⟨r2, f2, i2, b2, l2⟩, ⟨r3, f3, i3, b3, l3⟩, ⟨r4, f4, i4, b4, l4⟩, ⟨r5, f5, i5, b5, l5⟩, m12, m21, m13, m31, m14, m41, m15, m51, m23, m32, m24, m42, m25, m52, m34, m43, m35, m53, m45, m54⟩ := St.facts5 hC
            clear hC
            go_simp
            have hC := hC'.out
            (first
               | with_reducible rfl
               | (skip
                  (first
                     | (go_at_call 13; refine (ghMul_any _ _ _).mono ?_)
                     | (go_at_call 22; refine (xor_any _ _ _).mono ?_)
                     | (go_at_call 23; refine (one_any _).mono ?_)
                     | (go_at_call 17; refine (awake08_any _).mono ?_))
                  rintro e w' ⟨rfl, hw⟩
                  exact ⟨rfl, St.call (by assumption) hw⟩)))
     try simp only [Act.put, List.setIfInBounds_toArray, List.set])
    (first
       | (apply head_skip rfl)
       | (apply head_step_g rfl
          focus
            intro w0 hC
            (first
               | exact neq_quiet 23 rfl rfl rfl Try.eqGuardType23 Try.underlying23 (by simp [go_sem]) (by simp [go_sem]) (by first | with_reducible assumption | with_reducible rfl)
               | exact eql_quiet 23 rfl rfl rfl Try.eqGuardType23 Try.underlying23 (by simp [go_sem]) (by simp [go_sem]) (by first | with_reducible assumption | with_reducible rfl)))
       | (apply head_step_g rfl
          focus
            intro w0 hC
            have hC' := Lib.hid hC
            obtain ⟨⟨r1, f1, i1, b1, l1⟩, ⟨r2, f2, i2, b2, l2⟩, ⟨r3, f3, i3, b3, l3⟩, ⟨r4, f4, i4, b4, l4⟩, ⟨r5, f5, i5, b5, l5⟩, m12, m21, m13, m31, m14, m41, m15, m51, m23, m32, m24, m42, m25, m52, m34, m43, m35, m53, m45, m54⟩ := St.facts5 hC
            clear hC
            go_simp
            have hC := hC'.out
            (first
               | with_reducible rfl
               | (skip
                  (first
                     | (go_at_call 13; refine (ghMul_any _ _ _).mono ?_)
                     | (go_at_call 22; refine (xor_any _ _ _).mono ?_)
                     | (go_at_call 23; refine (one_any _).mono ?_)
                     | (go_at_call 17; refine (awake08_any _).mono ?_))
                  rintro e w' ⟨rfl, hw⟩
                  exact ⟨rfl, St.call (by assumption) hw⟩)))
     try simp only [Act.put, List.setIfInBounds_toArray, List.set])
    (first
       | (apply head_skip rfl)
       | (apply head_step_g rfl
          focus
            intro w0 hC
            (first
               | exact neq_quiet 23 rfl rfl rfl Try.eqGuardType23 Try.underlying23 (by simp [go_sem]) (by simp [go_sem]) (by first | with_reducible assumption | with_reducible rfl)
               | exact eql_quiet 23 rfl rfl rfl Try.eqGuardType23 Try.underlying23 (by simp [go_sem]) (by simp [go_sem]) (by first | with_reducible assumption | with_reducible rfl)))
       | (apply head_step_g rfl
          focus
            intro w0 hC
            have hC' := Lib.hid hC
            obtain ⟨⟨r1, f1, i1, b1, l1⟩, ⟨r2, f2, i2, b2, l2⟩, ⟨r3, f3, i3, b3, l3⟩, ⟨r4, f4, i4, b4, l4⟩, ⟨r5, f5, i5, b5, l5⟩, m12, m21, m13, m31, m14, m41, m15, m51, m23, m32, m24, m42, m25, m52, m34, m43, m35, m53, m45, m54⟩ := St.facts5 hC
            clear hC
            go_simp
            have hC := hC'.out
            (first
               | with_reducible rfl
               | (skip
                  (first
                     | (go_at_call 13; refine (ghMul_any _ _ _).mono ?_)
                     | (go_at_call 22; refine (xor_any _ _ _).mono ?_)
                     | (go_at_call 23; refine (one_any _).mono ?_)
                     | (go_at_call 17; refine (awake08_any _).mono ?_))
                  rintro e w' ⟨rfl, hw⟩
                  exact ⟨rfl, St.call (by assumption) hw⟩)))
     try simp only [Act.put, List.setIfInBounds_toArray, List.set])
    (first
       | (apply head_skip rfl)
       | (apply head_step_g rfl
          focus
            intro w0 hC
            (first
               | exact neq_quiet 23 rfl rfl rfl Try.eqGuardType23 Try.underlying23 (by simp [go_sem]) (by simp [go_sem]) (by first | with_reducible assumption | with_reducible rfl)
               | exact eql_quiet 23 rfl rfl rfl Try.eqGuardType23 Try.underlying23 (by simp [go_sem]) (by simp [go_sem]) (by first | with_reducible assumption | with_reducible rfl)))
       | (apply head_step_g rfl
          focus
            intro w0 hC
            have hC' := Lib.hid hC
            obtain ⟨⟨r1, f1, i1, b1, l1⟩, ⟨r2, f2, i2, b2, l2⟩, ⟨r3, f3, i3, b3, l3⟩, ⟨r4, f4, i4, b4, l4⟩, ⟨r5, f5, i5, b5, l5⟩, m12, m21, m13, m31, m14, m41, m15, m51, m23, m32, m24, m42, m25, m52, m34, m43, m35, m53, m45, m54⟩ := St.facts5 hC
            clear hC
            go_simp
            have hC := hC'.out
            (first
               | with_reducible rfl
               | (skip
                  (first
                     | (go_at_call 13; refine (ghMul_any _ _ _).mono ?_)
                     | (go_at_call 22; refine (xor_any _ _ _).mono ?_)
                     | (go_at_call 23; refine (one_any _).mono ?_)
                     | (go_at_call 17; refine (awake08_any _).mono ?_))
                  rintro e w' ⟨rfl, hw⟩
                  exact ⟨rfl, St.call (by assumption) hw⟩)))
     try simp only [Act.put, List.setIfInBounds_toArray, List.set])
    (first
       | (apply head_skip rfl)
       | (apply head_step_g rfl
          focus
            intro w0 hC
            (first
               | exact neq_quiet 23 rfl rfl rfl Try.eqGuardType23 Try.underlying23 (by simp [go_sem]) (by simp [go_sem]) (by first | with_reducible assumption | with_reducible rfl)
               | exact eql_quiet 23 rfl rfl rfl Try.eqGuardType23 Try.underlying23 (by simp [go_sem]) (by simp [go_sem]) (by first | with_reducible assumption | with_reducible rfl)))
       | (apply head_step_g rfl
          focus
            intro w0 hC
            have hC' := Lib.hid hC
            obtain ⟨⟨r1, f1, i1, b1, l1⟩, ⟨r2, f2, i2, b2, l2⟩, ⟨r3, f3, i3, b3, l3⟩, ⟨r4, f4, i4, b4, l4⟩, ⟨r5, f5, i5, b5, l5⟩, m12, m21, m13, m31, m14, m41, m15, m51, m23, m32, m24, m42, m25, m52, m34, m43, m35, m53, m45, m54⟩ := St.facts5 hC
            clear hC
            go_simp
            have hC := hC'.out
            (first
               | with_reducible rfl
               | (skip
                  (first
                     | (go_at_call 13; refine (ghMul_any _ _ _).mono ?_)
                     | (go_at_call 22; refine (xor_any _ _ _).mono ?_)
                     | (go_at_call 23; refine (one_any _).mono ?_)
                     | (go_at_call 17; refine (awake08_any _).mono ?_))
                  rintro e w' ⟨rfl, hw⟩
                  exact ⟨rfl, St.call (by assumption) hw⟩)))
     try simp only [Act.put, List.setIfInBounds_toArray, List.set])
    (first
       | (apply head_skip rfl)
       | (apply head_step_g rfl
          focus
            intro w0 hC
            (first
               | exact neq_quiet 23 rfl rfl rfl Try.eqGuardType23 Try.underlying23 (by simp [go_sem]) (by simp [go_sem]) (by first | with_reducible assumption | with_reducible rfl)
               | exact eql_quiet 23 rfl rfl rfl Try.eqGuardType23 Try.underlying23 (by simp [go_sem]) (by simp [go_sem]) (by first | with_reducible assumption | with_reducible rfl)))
       | (apply head_step_g rfl
          focus
            intro w0 hC
            have hC' := Lib.hid hC
            obtain ⟨⟨r1, f1, i1, b1, l1⟩, ⟨r2, f2, i2, b2, l2⟩, ⟨r3, f3, i3, b3, l3⟩, ⟨r4, f4, i4, b4, l4⟩, ⟨r5, f5, i5, b5, l5⟩, m12, m21, m13, m31, m14, m41, m15, m51, m23, m32, m24, m42, m25, m52, m34, m43, m35, m53, m45, m54⟩ := St.facts5 hC
            clear hC
            go_simp
            have hC := hC'.out
            (first
               | with_reducible rfl
               | (skip
                  (first
                     | (go_at_call 13; refine (ghMul_any _ _ _).mono ?_)
                     | (go_at_call 22; refine (xor_any _ _ _).mono ?_)
                     | (go_at_call 23; refine (one_any _).mono ?_)
                     | (go_at_call 17; refine (awake08_any _).mono ?_))
                  rintro e w' ⟨rfl, hw⟩
                  exact ⟨rfl, St.call (by assumption) hw⟩)))
     try simp only [Act.put, List.setIfInBounds_toArray, List.set])
    (first
       | (apply head_skip rfl)
       | (apply head_step_g rfl
          focus
            intro w0 hC
            (first
               | exact neq_quiet 23 rfl rfl rfl Try.eqGuardType23 Try.underlying23 (by simp [go_sem]) (by simp [go_sem]) (by first | with_reducible assumption | with_reducible rfl)
               | exact eql_quiet 23 rfl rfl rfl Try.eqGuardType23 Try.underlying23 (by simp [go_sem]) (by simp [go_sem]) (by first | with_reducible assumption | with_reducible rfl)))
       | (apply head_step_g rfl
          focus
            intro w0 hC
            have hC' := Lib.hid hC
            obtain ⟨⟨r1, f1, i1, b1, l1⟩, ⟨r2, f2, i2, b2, l2⟩, ⟨r3, f3, i3, b3, l3⟩, ⟨r4, f4, i4, b4, l4⟩, ⟨r5, f5, i5, b5, l5⟩, m12, m21, m13, m31, m14, m41, m15, m51, m23, m32, m24, m42, m25, m52, m34, m43, m35, m53, m45, m54⟩ := St.facts5 hC
            clear hC
            go_simp
            have hC := hC'.out
            (first
               | with_reducible rfl
               | (skip
                  (first
                     | (go_at_call 13; refine (ghMul_any _ _ _).mono ?_)
                     | (go_at_call 22; refine (xor_any _ _ _).mono ?_)
                     | (go_at_call 23; refine (one_any _).mono ?_)
                     | (go_at_call 17; refine (awake08_any _).mono ?_))
                  rintro e w' ⟨rfl, hw⟩
                  exact ⟨rfl, St.call (by assumption) hw⟩)))
     try simp only [Act.put, List.setIfInBounds_toArray, List.set])
    (first
       | (apply head_skip rfl)
       | (apply head_step_g rfl
          focus
            intro w0 hC
            (first
               | exact neq_quiet 23 rfl rfl rfl Try.eqGuardType23 Try.underlying23 (by simp [go_sem]) (by simp [go_sem]) (by first | with_reducible assumption | with_reducible rfl)
               | exact eql_quiet 23 rfl rfl rfl Try.eqGuardType23 Try.underlying23 (by simp [go_sem]) (by simp [go_sem]) (by first | with_reducible assumption | with_reducible rfl)))
       | (apply head_step_g rfl
          focus
            intro w0 hC
            have hC' := Lib.hid hC
            obtain ⟨⟨r1, f1, i1, b1, l1⟩, ⟨r2, f2, i2, b2, l2⟩, ⟨r3, f3, i3, b3, l3⟩, ⟨r4, f4, i4, b4, l4⟩, ⟨r5, f5, i5, b5, l5⟩, m12, m21, m13, m31, m14, m41, m15, m51, m23, m32, m24, m42, m25, m52, m34, m43, m35, m53, m45, m54⟩ := St.facts5 hC
            clear hC
            go_simp
            have hC := hC'.out
            (first
               | with_reducible rfl
               | (skip
                  (first
                     | (go_at_call 13; refine (ghMul_any _ _ _).mono ?_)
                     | (go_at_call 22; refine (xor_any _ _ _).mono ?_)
                     | (go_at_call 23; refine (one_any _).mono ?_)
                     | (go_at_call 17; refine (awake08_any _).mono ?_))
                  rintro e w' ⟨rfl, hw⟩
                  exact ⟨rfl, St.call (by assumption) hw⟩)))
     try simp only [Act.put, List.setIfInBounds_toArray, List.set])
    (first
       | (apply head_skip rfl)
       | (apply head_step_g rfl
          focus
            intro w0 hC
            (first
               | exact neq_quiet 23 rfl rfl rfl Try.eqGuardType23 Try.underlying23 (by simp [go_sem]) (by simp [go_sem]) (by first | with_reducible assumption | with_reducible rfl)
               | exact eql_quiet 23 rfl rfl rfl Try.eqGuardType23 Try.underlying23 (by simp [go_sem]) (by simp [go_sem]) (by first | with_reducible assumption | with_reducible rfl)))
       | (apply head_step_g rfl
          focus
            intro w0 hC
            have hC' := Lib.hid hC
            obtain ⟨⟨r1, f1, i1, b1, l1⟩, ⟨r2, f2, i2, b2, l2⟩, ⟨r3, f3, i3, b3, l3⟩, ⟨r4, f4, i4, b4, l4⟩, ⟨r5, f5, i5, b5, l5⟩, m12, m21, m13, m31, m14, m41, m15, m51, m23, m32, m24, m42, m25, m52, m34, m43, m35, m53, m45, m54⟩ := St.facts5 hC
            clear hC
            go_simp
            have hC := hC'.out
            (first
               | with_reducible rfl
               | (skip
                  (first
                     | (go_at_call 13; refine (ghMul_any _ _ _).mono ?_)
                     | (go_at_call 22; refine (xor_any _ _ _).mono ?_)
                     | (go_at_call 23; refine (one_any _).mono ?_)
                     | (go_at_call 17; refine (awake08_any _).mono ?_))
                  rintro e w' ⟨rfl, hw⟩
                  exact ⟨rfl, St.call (by assumption) hw⟩)))
     try simp only [Act.put, List.setIfInBounds_toArray, List.set])
    (first
       | (apply head_skip rfl)
       | (apply head_step_g rfl
          focus
            intro w0 hC
            (first
               | exact neq_quiet 23 rfl rfl rfl Try.eqGuardType23 Try.underlying23 (by simp [go_sem]) (by simp [go_sem]) (by first | with_reducible assumption | with_reducible rfl)
               | exact eql_quiet 23 rfl rfl rfl Try.eqGuardType23 Try.underlying23 (by simp [go_sem]) (by simp [go_sem]) (by first | with_reducible assumption | with_reducible rfl)))
       | (apply head_step_g rfl
          focus
            intro w0 hC
            have hC' := Lib.hid hC
            obtain ⟨⟨r1, f1, i1, b1, l1⟩, ⟨r2, f2, i2, b2, l2⟩, ⟨r3, f3, i3, b3, l3⟩, ⟨r4, f4, i4, b4, l4⟩, ⟨r5, f5, i5, b5, l5⟩, m12, m21, m13, m31, m14, m41, m15, m51, m23, m32, m24, m42, m25, m52, m34, m43, m35, m53, m45, m54⟩ := St.facts5 hC
            clear hC
            go_simp
            have hC := hC'.out
            (first
               | with_reducible rfl
               | (skip
                  (first
                     | (go_at_call 13; refine (ghMul_any _ _ _).mono ?_)
                     | (go_at_call 22; refine (xor_any _ _ _).mono ?_)
                     | (go_at_call 23; refine (one_any _).mono ?_)
                     | (go_at_call 17; refine (awake08_any _).mono ?_))
                  rintro e w' ⟨rfl, hw⟩
                  exact ⟨rfl, St.call (by assumption) hw⟩)))
     try simp only [Act.put, List.setIfInBounds_toArray, List.set])
    (first
       | (apply head_skip rfl)
       | (apply head_step_g rfl
          focus
            intro w0 hC
            (first
               | exact neq_quiet 23 rfl rfl rfl Try.eqGuardType23 Try.underlying23 (by simp [go_sem]) (by simp [go_sem]) (by first | with_reducible assumption | with_reducible rfl)
               | exact eql_quiet 23 rfl rfl rfl Try.eqGuardType23 Try.underlying23 (by simp [go_sem]) (by simp [go_sem]) (by first | with_reducible assumption | with_reducible rfl)))
       | (apply head_step_g rfl
          focus
            intro w0 hC
            have hC' := Lib.hid hC
            obtain ⟨⟨r1, f1, i1, b1, l1⟩, ⟨r2, f2, i2, b2, l2⟩, ⟨r3, f3, i3, b3, l3⟩, ⟨r4, f4, i4, b4, l4⟩, ⟨r5, f5, i5, b5, l5⟩, m12, m21, m13, m31, m14, m41, m15, m51, m23, m32, m24, m42, m25, m52, m34, m43, m35, m53, m45, m54⟩ := St.facts5 hC
            clear hC
            go_simp
            have hC := hC'.out
            (first
               | with_reducible rfl
               | (skip
                  (first
                     | (go_at_call 13; refine (ghMul_any _ _ _).mono ?_)
                     | (go_at_call 22; refine (xor_any _ _ _).mono ?_)
                     | (go_at_call 23; refine (one_any _).mono ?_)
                     | (go_at_call 17; refine (awake08_any _).mono ?_))
                  rintro e w' ⟨rfl, hw⟩
                  exact ⟨rfl, St.call (by assumption) hw⟩)))
     try simp only [Act.put, List.setIfInBounds_toArray, List.set])
    refine wpQuiet_nil ?_
    intro w4 hC
    go_wp2_with fail
    go_ret
    exact ⟨rfl, hC.below⟩
  | false =>
    have f6 : same 16 (mulB l b) (fun _ => 0) = same 16 b (fun _ => 0) := by rw [f5, h0]; rfl
    clear f5
    refine St.region HC.out (by kernel_rfl) (by kernel_rfl) ?_
    (first
       | (apply head_skip rfl)
       | (apply head_step_g rfl
          focus
            intro w0 hC
            (first
               | exact neq_quiet 23 rfl rfl rfl Try.eqGuardType23 Try.underlying23 (by simp [go_sem]) (by simp [go_sem]) (by first | with_reducible assumption | with_reducible rfl)
               | exact eql_quiet 23 rfl rfl rfl Try.eqGuardType23 Try.underlying23 (by simp [go_sem]) (by simp [go_sem]) (by first | with_reducible assumption | with_reducible rfl)))
       | (apply head_step_g rfl
          focus
            intro w0 hC
            have hC' := Lib.hid hC
            obtain ⟨⟨r1, f1, i1, b1, l1⟩, ⟨r2, f2, i2, b2, l2⟩, ⟨r3, f3, i3, b3, l3⟩, ⟨r4, f4, i4, b4, l4⟩, ⟨r5, f5, i5, b5, l5⟩, m12, m21, m13, m31, m14, m41, m15, m51, m23, m32, m24, m42, m25, m52, m34, m43, m35, m53, m45, m54⟩ := St.facts5 hC
            clear hC
            go_simp
            have hC := hC'.out
            (first
               | with_reducible rfl
               | (skip
                  (first
                     | (go_at_call 13; refine (ghMul_any _ _ _).mono ?_)
                     | (go_at_call 22; refine (xor_any _ _ _).mono ?_)
                     | (go_at_call 23; refine (one_any _).mono ?_)
                     | (go_at_call 17; refine (awake08_any _).mono ?_))
                  rintro e w' ⟨rfl, hw⟩
                  exact ⟨rfl, St.call (by assumption) hw⟩)))
     try simp only [Act.put, List.setIfInBounds_toArray, List.set])
    (first
       | (apply head_skip rfl)
       | (apply head_step_g rfl
          focus
            intro w0 hC
            (first
               | exact neq_quiet 23 rfl rfl rfl Try.eqGuardType23 Try.underlying23 (by simp [go_sem]) (by simp [go_sem]) (by first | with_reducible assumption | with_reducible rfl)
               | exact eql_quiet 23 rfl rfl rfl Try.eqGuardType23 Try.underlying23 (by simp [go_sem]) (by simp [go_sem]) (by first | with_reducible assumption | with_reducible rfl)))
       | (apply head_step_g rfl
          focus
            intro w0 hC
            have hC' := Lib.hid hC
            obtain ⟨⟨r1, f1, i1, b1, l1⟩, ⟨r2, f2, i2, b2, l2⟩, ⟨r3, f3, i3, b3, l3⟩, ⟨r4, f4, i4, b4, l4⟩, ⟨r5, f5, i5, b5, l5⟩, m12, m21, m13, m31, m14, m41, m15, m51, m23, m32, m24, m42, m25, m52, m34, m43, m35, m53, m45, m54⟩ := St.facts5 hC
            clear hC
            go_simp
            have hC := hC'.out
            (first
               | with_reducible rfl
               | (skip
                  (first
                     | (go_at_call 13; refine (ghMul_any _ _ _).mono ?_)
                     | (go_at_call 22; refine (xor_any _ _ _).mono ?_)
                     | (go_at_call 23; refine (one_any _).mono ?_)
                     | (go_at_call 17; refine (awake08_any _).mono ?_))
                  rintro e w' ⟨rfl, hw⟩
                  exact ⟨rfl, St.call (by assumption) hw⟩)))
     try simp only [Act.put, List.setIfInBounds_toArray, List.set])
    (first
       | (apply head_skip rfl)
       | (apply head_step_g rfl
          focus
            intro w0 hC
            (first
               | exact neq_quiet 23 rfl rfl rfl Try.eqGuardType23 Try.underlying23 (by simp [go_sem]) (by simp [go_sem]) (by first | with_reducible assumption | with_reducible rfl)
               | exact eql_quiet 23 rfl rfl rfl Try.eqGuardType23 Try.underlying23 (by simp [go_sem]) (by simp [go_sem]) (by first | with_reducible assumption | with_reducible rfl)))
       | (apply head_step_g rfl
          focus
            intro w0 hC
            have hC' := Lib.hid hC
            obtain ⟨⟨r1, f1, i1, b1, l1⟩, ⟨r2, f2, i2, b2, l2⟩, ⟨r3, f3, i3, b3, l3⟩, ⟨r4, f4, i4, b4, l4⟩, ⟨r5, f5, i5, b5, l5⟩, m12, m21, m13, m31, m14, m41, m15, m51, m23, m32, m24, m42, m25, m52, m34, m43, m35, m53, m45, m54⟩ := St.facts5 hC
            clear hC
            go_simp
            have hC := hC'.out
            (first
               | with_reducible rfl
               | (skip
                  (first
                     | (go_at_call 13; refine (ghMul_any _ _ _).mono ?_)
                     | (go_at_call 22; refine (xor_any _ _ _).mono ?_)
                     | (go_at_call 23; refine (one_any _).mono ?_)
                     | (go_at_call 17; refine (awake08_any _).mono ?_))
                  rintro e w' ⟨rfl, hw⟩
                  exact ⟨rfl, St.call (by assumption) hw⟩)))
     try simp only [Act.put, List.setIfInBounds_toArray, List.set])
    (first
       | (apply head_skip rfl)
       | (apply head_step_g rfl
          focus
            intro w0 hC
            (first
               | exact neq_quiet 23 rfl rfl rfl Try.eqGuardType23 Try.underlying23 (by simp [go_sem]) (by simp [go_sem]) (by first | with_reducible assumption | with_reducible rfl)
               | exact eql_quiet 23 rfl rfl rfl Try.eqGuardType23 Try.underlying23 (by simp [go_sem]) (by simp [go_sem]) (by first | with_reducible assumption | with_reducible rfl)))
       | (apply head_step_g rfl
          focus
            intro w0 hC
            have hC' := Lib.hid hC
            obtain ⟨⟨r1, f1, i1, b1, l1⟩, ⟨r2, f2, i2, b2, l2⟩, ⟨r3, f3, i3, b3, l3⟩, ⟨r4, f4, i4, b4, l4⟩, ⟨r5, f5, i5, b5, l5⟩, m12, m21, m13, m31, m14, m41, m15, m51, m23, m32, m24, m42, m25, m52, m34, m43, m35, m53, m45, m54⟩ := St.facts5 hC
            clear hC
            go_simp
            have hC := hC'.out
            (first
               | with_reducible rfl
               | (skip
                  (first
                     | (go_at_call 13; refine (ghMul_any _ _ _).mono ?_)
                     | (go_at_call 22; refine (xor_any _ _ _).mono ?_)
                     | (go_at_call 23; refine (one_any _).mono ?_)
                     | (go_at_call 17; refine (awake08_any _).mono ?_))
                  rintro e w' ⟨rfl, hw⟩
                  exact ⟨rfl, St.call (by assumption) hw⟩)))
     try simp only [Act.put, List.setIfInBounds_toArray, List.set])
    (first
       | (apply head_skip rfl)
       | (apply head_step_g rfl
          focus
            intro w0 hC
            (first
               | exact neq_quiet 23 rfl rfl rfl Try.eqGuardType23 Try.underlying23 (by simp [go_sem]) (by simp [go_sem]) (by first | with_reducible assumption | with_reducible rfl)
               | exact eql_quiet 23 rfl rfl rfl Try.eqGuardType23 Try.underlying23 (by simp [go_sem]) (by simp [go_sem]) (by first | with_reducible assumption | with_reducible rfl)))
       | (apply head_step_g rfl
          focus
            intro w0 hC
            have hC' := Lib.hid hC
            obtain ⟨⟨r1, f1, i1, b1, l1⟩, ⟨r2, f2, i2, b2, l2⟩, ⟨r3, f3, i3, b3, l3⟩, ⟨r4, f4, i4, b4, l4⟩, ⟨r5, f5, i5, b5, l5⟩, m12, m21, m13, m31, m14, m41, m15, m51, m23, m32, m24, m42, m25, m52, m34, m43, m35, m53, m45, m54⟩ := St.facts5 hC
            clear hC
            go_simp
            have hC := hC'.out
            (first
               | with_reducible rfl
               | (skip
                  (first
                     | (go_at_call 13; refine (ghMul_any _ _ _).mono ?_)
                     | (go_at_call 22; refine (xor_any _ _ _).mono ?_)
                     | (go_at_call 23; refine (one_any _).mono ?_)
                     | (go_at_call 17; refine (awake08_any _).mono ?_))
                  rintro e w' ⟨rfl, hw⟩
                  exact ⟨rfl, St.call (by assumption) hw⟩)))
     try simp only [Act.put, List.setIfInBounds_toArray, List.set])
    (first
       | (apply head_skip rfl)
       | (apply head_step_g rfl
          focus
            intro w0 hC
            (first
               | exact neq_quiet 23 rfl rfl rfl Try.eqGuardType23 Try.underlying23 (by simp [go_sem]) (by simp [go_sem]) (by first | with_reducible assumption | with_reducible rfl)
               | exact eql_quiet 23 rfl rfl rfl Try.eqGuardType23 Try.underlying23 (by simp [go_sem]) (by simp [go_sem]) (by first | with_reducible assumption | with_reducible rfl)))
       | (apply head_step_g rfl
          focus
            intro w0 hC
            have hC' := Lib.hid hC
            obtain ⟨⟨r1, f1, i1, b1, l1⟩, ⟨r2, f2, i2, b2, l2⟩, ⟨r3, f3, i3, b3, l3⟩, ⟨r4, f4, i4, b4, l4⟩, ⟨r5, f5, i5, b5, l5⟩, m12, m21, m13, m31, m14, m41, m15, m51, m23, m32, m24, m42, m25, m52, m34, m43, m35, m53, m45, m54⟩ := St.facts5 hC
            clear hC
            go_simp
            have hC := hC'.out
            (first
               | with_reducible rfl
               | (skip
                  (first
                     | (go_at_call 13; refine (ghMul_any _ _ _).mono ?_)
                     | (go_at_call 22; refine (xor_any _ _ _).mono ?_)
                     | (go_at_call 23; refine (one_any _).mono ?_)
                     | (go_at_call 17; refine (awake08_any _).mono ?_))
                  rintro e w' ⟨rfl, hw⟩
                  exact ⟨rfl, St.call (by assumption) hw⟩)))
     try simp only [Act.put, List.setIfInBounds_toArray, List.set])
    (first
       | (apply head_skip rfl)
       | (apply head_step_g rfl
          focus
            intro w0 hC
            (first
               | exact neq_quiet 23 rfl rfl rfl Try.eqGuardType23 Try.underlying23 (by simp [go_sem]) (by simp [go_sem]) (by first | with_reducible assumption | with_reducible rfl)
               | exact eql_quiet 23 rfl rfl rfl Try.eqGuardType23 Try.underlying23 (by simp [go_sem]) (by simp [go_sem]) (by first | with_reducible assumption | with_reducible rfl)))
       | (apply head_step_g rfl
          focus
            intro w0 hC
            have hC' := Lib.hid hC
            obtain ⟨⟨r1, f1, i1, b1, l1⟩, ⟨r2, f2, i2, b2, l2⟩, ⟨r3, f3, i3, b3, l3⟩, ⟨r4, f4, i4, b4, l4⟩, ⟨r5, f5, i5, b5, l5⟩, m12, m21, m13, m31, m14, m41, m15, m51, m23, m32, m24, m42, m25, m52, m34, m43, m35, m53, m45, m54⟩ := St.facts5 hC
            clear hC
            go_simp
            have hC := hC'.out
            (first
               | with_reducible rfl
               | (skip
                  (first
                     | (go_at_call 13; refine (ghMul_any _ _ _).mono ?_)
                     | (go_at_call 22; refine (xor_any _ _ _).mono ?_)
                     | (go_at_call 23; refine (one_any _).mono ?_)
                     | (go_at_call 17; refine (awake08_any _).mono ?_))
                  rintro e w' ⟨rfl, hw⟩
                  exact ⟨rfl, St.call (by assumption) hw⟩)))
     try simp only [Act.put, List.setIfInBounds_toArray, List.set])
    (first
       | (apply head_skip rfl)
       | (apply head_step_g rfl
          focus
            intro w0 hC
            (first
               | exact neq_quiet 23 rfl rfl rfl Try.eqGuardType23 Try.underlying23 (by simp [go_sem]) (by simp [go_sem]) (by first | with_reducible assumption | with_reducible rfl)
               | exact eql_quiet 23 rfl rfl rfl Try.eqGuardType23 Try.underlying23 (by simp [go_sem]) (by simp [go_sem]) (by first | with_reducible assumption | with_reducible rfl)))
       | (apply head_step_g rfl
          focus
            intro w0 hC
            have hC' := Lib.hid hC
            obtain ⟨⟨r1, f1, i1, b1, l1⟩, ⟨r2, f2, i2, b2, l2⟩, ⟨r3, f3, i3, b3, l3⟩, ⟨r4, f4, i4, b4, l4⟩, ⟨r5, f5, i5, b5, l5⟩, m12, m21, m13, m31, m14, m41, m15, m51, m23, m32, m24, m42, m25, m52, m34, m43, m35, m53, m45, m54⟩ := St.facts5 hC
            clear hC
            go_simp
            have hC := hC'.out
            (first
               | with_reducible rfl
               | (skip
                  (first
                     | (go_at_call 13; refine (ghMul_any _ _ _).mono ?_)
                     | (go_at_call 22; refine (xor_any _ _ _).mono ?_)
                     | (go_at_call 23; refine (one_any _).mono ?_)
                     | (go_at_call 17; refine (awake08_any _).mono ?_))
                  rintro e w' ⟨rfl, hw⟩
                  exact ⟨rfl, St.call (by assumption) hw⟩)))
     try simp only [Act.put, List.setIfInBounds_toArray, List.set])
    (first
       | (apply head_skip rfl)
       | (apply head_step_g rfl
          focus
            intro w0 hC
            (first
               | exact neq_quiet 23 rfl rfl rfl Try.eqGuardType23 Try.underlying23 (by simp [go_sem]) (by simp [go_sem]) (by first | with_reducible assumption | with_reducible rfl)
               | exact eql_quiet 23 rfl rfl rfl Try.eqGuardType23 Try.underlying23 (by simp [go_sem]) (by simp [go_sem]) (by first | with_reducible assumption | with_reducible rfl)))
       | (apply head_step_g rfl
          focus
            intro w0 hC
            have hC' := Lib.hid hC
            obtain ⟨⟨r1, f1, i1, b1, l1⟩, ⟨r2, f2, i2, b2, l2⟩, ⟨r3, f3, i3, b3, l3⟩, ⟨r4, f4, i4, b4, l4⟩, ⟨r5, f5, i5, b5, l5⟩, m12, m21, m13, m31, m14, m41, m15, m51, m23, m32, m24, m42, m25, m52, m34, m43, m35, m53, m45, m54⟩ := St.facts5 hC
            clear hC
            go_simp
            have hC := hC'.out
            (first
               | with_reducible rfl
               | (skip
                  (first
                     | (go_at_call 13; refine (ghMul_any _ _ _).mono ?_)
                     | (go_at_call 22; refine (xor_any _ _ _).mono ?_)
                     | (go_at_call 23; refine (one_any _).mono ?_)
                     | (go_at_call 17; refine (awake08_any _).mono ?_))
                  rintro e w' ⟨rfl, hw⟩
                  exact ⟨rfl, St.call (by assumption) hw⟩)))
     try simp only [Act.put, List.setIfInBounds_toArray, List.set])
    (first
       | (apply head_skip rfl)
       | (apply head_step_g rfl
          focus
            intro w0 hC
            (first
               | exact neq_quiet 23 rfl rfl rfl Try.eqGuardType23 Try.underlying23 (by simp [go_sem]) (by simp [go_sem]) (by first | with_reducible assumption | with_reducible rfl)
               | exact eql_quiet 23 rfl rfl rfl Try.eqGuardType23 Try.underlying23 (by simp [go_sem]) (by simp [go_sem]) (by first | with_reducible assumption | with_reducible rfl)))
       | (apply head_step_g rfl
          focus
            intro w0 hC
            have hC' := Lib.hid hC
            obtain ⟨⟨r1, f1, i1, b1, l1⟩, ⟨r2, f2, i2, b2, l2⟩, ⟨r3, f3, i3, b3, l3⟩, ⟨r4, f4, i4, b4, l4⟩, ⟨r5, f5, i5, b5, l5⟩, m12, m21, m13, m31, m14, m41, m15, m51, m23, m32, m24, m42, m25, m52, m34, m43, m35, m53, m45, m54⟩ := St.facts5 hC
            clear hC
            go_simp
            have hC := hC'.out
            (first
               | with_reducible rfl
               | (skip
                  (first
                     | (go_at_call 13; refine (ghMul_any _ _ _).mono ?_)
                     | (go_at_call 22; refine (xor_any _ _ _).mono ?_)
                     | (go_at_call 23; refine (one_any _).mono ?_)
                     | (go_at_call 17; refine (awake08_any _).mono ?_))
                  rintro e w' ⟨rfl, hw⟩
                  exact ⟨rfl, St.call (by assumption) hw⟩)))
     try simp only [Act.put, List.setIfInBounds_toArray, List.set])
    (first
       | (apply head_skip rfl)
       | (apply head_step_g rfl
          focus
            intro w0 hC
            (first
               | exact neq_quiet 23 rfl rfl rfl Try.eqGuardType23 Try.underlying23 (by simp [go_sem]) (by simp [go_sem]) (by first | with_reducible assumption | with_reducible rfl)
               | exact eql_quiet 23 rfl rfl rfl Try.eqGuardType23 Try.underlying23 (by simp [go_sem]) (by simp [go_sem]) (by first | with_reducible assumption | with_reducible rfl)))
       | (apply head_step_g rfl
          focus
            intro w0 hC
            have hC' := Lib.hid hC
            obtain ⟨⟨r1, f1, i1, b1, l1⟩, ⟨r2, f2, i2, b2, l2⟩, ⟨r3, f3, i3, b3, l3⟩, ⟨r4, f4, i4, b4, l4⟩, ⟨r5, f5, i5, b5, l5⟩, m12, m21, m13, m31, m14, m41, m15, m51, m23, m32, m24, m42, m25, m52, m34, m43, m35, m53, m45, m54⟩ := St.facts5 hC
            clear hC
            go_simp
            have hC := hC'.out
            (first
               | with_reducible rfl
               | (skip
                  (first
                     | (go_at_call 13; refine (ghMul_any _ _ _).mono ?_)
                     | (go_at_call 22; refine (xor_any _ _ _).mono ?_)
                     | (go_at_call 23; refine (one_any _).mono ?_)
                     | (go_at_call 17; refine (awake08_any _).mono ?_))
                  rintro e w' ⟨rfl, hw⟩
                  exact ⟨rfl, St.call (by assumption) hw⟩)))
     try simp only [Act.put, List.setIfInBounds_toArray, List.set])
    (first
       | (apply head_skip rfl)
       | (apply head_step_g rfl
          focus
            intro w0 hC
            (first
               | exact neq_quiet 23 rfl rfl rfl Try.eqGuardType23 Try.underlying23 (by simp [go_sem]) (by simp [go_sem]) (by first | with_reducible assumption | with_reducible rfl)
               | exact eql_quiet 23 rfl rfl rfl Try.eqGuardType23 Try.underlying23 (by simp [go_sem]) (by simp [go_sem]) (by first | with_reducible assumption | with_reducible rfl)))
       | (apply head_step_g rfl
          focus
            intro w0 hC
            have hC' := Lib.hid hC
            obtain ⟨⟨r1, f1, i1, b1, l1⟩, ⟨r2, f2, i2, b2, l2⟩, ⟨r3, f3, i3, b3, l3⟩, ⟨r4, f4, i4, b4, l4⟩, ⟨r5, f5, i5, b5, l5⟩, m12, m21, m13, m31, m14, m41, m15, m51, m23, m32, m24, m42, m25, m52, m34, m43, m35, m53, m45, m54⟩ := St.facts5 hC
            clear hC
            go_simp
            have hC := hC'.out
            (first
               | with_reducible rfl
               | (skip
                  (first
                     | (go_at_call 13; refine (ghMul_any _ _ _).mono ?_)
                     | (go_at_call 22; refine (xor_any _ _ _).mono ?_)
                     | (go_at_call 23; refine (one_any _).mono ?_)
                     | (go_at_call 17; refine (awake08_any _).mono ?_))
                  rintro e w' ⟨rfl, hw⟩
                  exact ⟨rfl, St.call (by assumption) hw⟩)))
     try simp only [Act.put, List.setIfInBounds_toArray, List.set])
    (first
       | (apply head_skip rfl)
       | (apply head_step_g rfl
          focus
            intro w0 hC
            (first
               | exact neq_quiet 23 rfl rfl rfl Try.eqGuardType23 Try.underlying23 (by simp [go_sem]) (by simp [go_sem]) (by first | with_reducible assumption | with_reducible rfl)
               | exact eql_quiet 23 rfl rfl rfl Try.eqGuardType23 Try.underlying23 (by simp [go_sem]) (by simp [go_sem]) (by first | with_reducible assumption | with_reducible rfl)))
       | (apply head_step_g rfl
          focus
            intro w0 hC
            have hC' := Lib.hid hC
            obtain ⟨⟨r1, f1, i1, b1, l1⟩, ⟨r2, f2, i2, b2, l2⟩, ⟨r3, f3, i3, b3, l3⟩, ⟨r4, f4, i4, b4, l4⟩, ⟨r5, f5, i5, b5, l5⟩, m12, m21, m13, m31, m14, m41, m15, m51, m23, m32, m24, m42, m25, m52, m34, m43, m35, m53, m45, m54⟩ := St.facts5 hC
            clear hC
            go_simp
            have hC := hC'.out
            (first
               | with_reducible rfl
               | (skip
                  (first
                     | (go_at_call 13; refine (ghMul_any _ _ _).mono ?_)
                     | (go_at_call 22; refine (xor_any _ _ _).mono ?_)
                     | (go_at_call 23; refine (one_any _).mono ?_)
                     | (go_at_call 17; refine (awake08_any _).mono ?_))
                  rintro e w' ⟨rfl, hw⟩
                  exact ⟨rfl, St.call (by assumption) hw⟩)))
     try simp only [Act.put, List.setIfInBounds_toArray, List.set])
    (first
       | (apply head_skip rfl)
       | (apply head_step_g rfl
          focus
            intro w0 hC
            (first
               | exact neq_quiet 23 rfl rfl rfl Try.eqGuardType23 Try.underlying23 (by simp [go_sem]) (by simp [go_sem]) (by first | with_reducible assumption | with_reducible rfl)
               | exact eql_quiet 23 rfl rfl rfl Try.eqGuardType23 Try.underlying23 (by simp [go_sem]) (by simp [go_sem]) (by first | with_reducible assumption | with_reducible rfl)))
       | (apply head_step_g rfl
          focus
            intro w0 hC
            have hC' := Lib.hid hC
            obtain ⟨⟨r1, f1, i1, b1, l1⟩, ⟨r2, f2, i2, b2, l2⟩, ⟨r3, f3, i3, b3, l3⟩, ⟨r4, f4, i4, b4, l4⟩, ⟨r5, f5, i5, b5, l5⟩, m12, m21, m13, m31, m14, m41, m15, m51, m23, m32, m24, m42, m25, m52, m34, m43, m35, m53, m45, m54⟩ := St.facts5 hC
            clear hC
            go_simp
            have hC := hC'.out
            (first
               | with_reducible rfl
               | (skip
                  (first
                     | (go_at_call 13; refine (ghMul_any _ _ _).mono ?_)
                     | (go_at_call 22; refine (xor_any _ _ _).mono ?_)
                     | (go_at_call 23; refine (one_any _).mono ?_)
                     | (go_at_call 17; refine (awake08_any _).mono ?_))
                  rintro e w' ⟨rfl, hw⟩
                  exact ⟨rfl, St.call (by assumption) hw⟩)))
     try simp only [Act.put, List.setIfInBounds_toArray, List.set])
    (first
       | (apply head_skip rfl)
       | (apply head_step_g rfl
          focus
            intro w0 hC
            (first
               | exact neq_quiet 23 rfl rfl rfl Try.eqGuardType23 Try.underlying23 (by simp [go_sem]) (by simp [go_sem]) (by first | with_reducible assumption | with_reducible rfl)
               | exact eql_quiet 23 rfl rfl rfl Try.eqGuardType23 Try.underlying23 (by simp [go_sem]) (by simp [go_sem]) (by first | with_reducible assumption | with_reducible rfl)))
       | (apply head_step_g rfl
          focus
            intro w0 hC
            have hC' := Lib.hid hC
            obtain ⟨⟨r1, f1, i1, b1, l1⟩, ⟨r2, f2, i2, b2, l2⟩, ⟨r3, f3, i3, b3, l3⟩, ⟨r4, f4, i4, b4, l4⟩, ⟨r5, f5, i5, b5, l5⟩, m12, m21, m13, m31, m14, m41, m15, m51, m23, m32, m24, m42, m25, m52, m34, m43, m35, m53, m45, m54⟩ := St.facts5 hC
            clear hC
            go_simp
            have hC := hC'.out
            (first
               | with_reducible rfl
               | (skip
                  (first
                     | (go_at_call 13; refine (ghMul_any _ _ _).mono ?_)
                     | (go_at_call 22; refine (xor_any _ _ _).mono ?_)
                     | (go_at_call 23; refine (one_any _).mono ?_)
                     | (go_at_call 17; refine (awake08_any _).mono ?_))
                  rintro e w' ⟨rfl, hw⟩
                  exact ⟨rfl, St.call (by assumption) hw⟩)))
     try simp only [Act.put, List.setIfInBounds_toArray, List.set])
    (first
       | (apply head_skip rfl)
       | (apply head_step_g rfl
          focus
            intro w0 hC
            (first
               | exact neq_quiet 23 rfl rfl rfl Try.eqGuardType23 Try.underlying23 (by simp [go_sem]) (by simp [go_sem]) (by first | with_reducible assumption | with_reducible rfl)
               | exact eql_quiet 23 rfl rfl rfl Try.eqGuardType23 Try.underlying23 (by simp [go_sem]) (by simp [go_sem]) (by first | with_reducible assumption | with_reducible rfl)))
       | (apply head_step_g rfl
          focus
            intro w0 hC
            have hC' := Lib.hid hC
            obtain ⟨⟨r1, f1, i1, b1, l1⟩, ⟨r2, f2, i2, b2, l2⟩, ⟨r3, f3, i3, b3, l3⟩, ⟨r4, f4, i4, b4, l4⟩, ⟨r5, f5, i5, b5, l5⟩, m12, m21, m13, m31, m14, m41, m15, m51, m23, m32, m24, m42, m25, m52, m34, m43, m35, m53, m45, m54⟩ := St.facts5 hC
            clear hC
            go_simp
            have hC := hC'.out
            (first
               | with_reducible rfl
               | (skip
                  (first
                     | (go_at_call 13; refine (ghMul_any _ _ _).mono ?_)
                     | (go_at_call 22; refine (xor_any _ _ _).mono ?_)
                     | (go_at_call 23; refine (one_any _).mono ?_)
                     | (go_at_call 17; refine (awake08_any _).mono ?_))
                  rintro e w' ⟨rfl, hw⟩
                  exact ⟨rfl, St.call (by assumption) hw⟩)))
     try simp only [Act.put, List.setIfInBounds_toArray, List.set])
    (first
       | (apply head_skip rfl)
       | (apply head_step_g rfl
          focus
            intro w0 hC
            (first
               | exact neq_quiet 23 rfl rfl rfl Try.eqGuardType23 Try.underlying23 (by simp [go_sem]) (by simp [go_sem]) (by first | with_reducible assumption | with_reducible rfl)
               | exact eql_quiet 23 rfl rfl rfl Try.eqGuardType23 Try.underlying23 (by simp [go_sem]) (by simp [go_sem]) (by first | with_reducible assumption | with_reducible rfl)))
       | (apply head_step_g rfl
          focus
            intro w0 hC
            have hC' := Lib.hid hC
            obtain ⟨⟨r1, f1, i1, b1, l1⟩, ⟨r2, f2, i2, b2, l2⟩, ⟨r3, f3, i3, b3, l3⟩, ⟨r4, f4, i4, b4, l4⟩, ⟨r5, f5, i5, b5, l5⟩, m12, m21, m13, m31, m14, m41, m15, m51, m23, m32, m24, m42, m25, m52, m34, m43, m35, m53, m45, m54⟩ := St.facts5 hC
            clear hC
            go_simp
            have hC := hC'.out
            (first
               | with_reducible rfl
               | (skip
                  (first
                     | (go_at_call 13; refine (ghMul_any _ _ _).mono ?_)
                     | (go_at_call 22; refine (xor_any _ _ _).mono ?_)
                     | (go_at_call 23; refine (one_any _).mono ?_)
                     | (go_at_call 17; refine (awake08_any _).mono ?_))
                  rintro e w' ⟨rfl, hw⟩
                  exact ⟨rfl, St.call (by assumption) hw⟩)))
     try simp only [Act.put, List.setIfInBounds_toArray, List.set])
    (first
       | (apply head_skip rfl)
       | (apply head_step_g rfl
          focus
            intro w0 hC
            (first
               | exact neq_quiet 23 rfl rfl rfl Try.eqGuardType23 Try.underlying23 (by simp [go_sem]) (by simp [go_sem]) (by first | with_reducible assumption | with_reducible rfl)
               | exact eql_quiet 23 rfl rfl rfl Try.eqGuardType23 Try.underlying23 (by simp [go_sem]) (by simp [go_sem]) (by first | with_reducible assumption | with_reducible rfl)))
       | (apply head_step_g rfl
          focus
            intro w0 hC
            have hC' := Lib.hid hC
            obtain ⟨⟨r1, f1, i1, b1, l1⟩, ⟨r2, f2, i2, b2, l2⟩, ⟨r3, f3, i3, b3, l3⟩, ⟨r4, f4, i4, b4, l4⟩, ⟨r5, f5, i5, b5, l5⟩, m12, m21, m13, m31, m14, m41, m15, m51, m23, m32, m24, m42, m25, m52, m34, m43, m35, m53, m45, m54⟩ := St.facts5 hC
            clear hC
            go_simp
            have hC := hC'.out
            (first
               | with_reducible rfl
               | (skip
                  (first
                     | (go_at_call 13; refine (ghMul_any _ _ _).mono ?_)
                     | (go_at_call 22; refine (xor_any _ _ _).mono ?_)
                     | (go_at_call 23; refine (one_any _).mono ?_)
                     | (go_at_call 17; refine (awake08_any _).mono ?_))
                  rintro e w' ⟨rfl, hw⟩
                  exact ⟨rfl, St.call (by assumption) hw⟩)))
     try simp only [Act.put, List.setIfInBounds_toArray, List.set])
    refine wpQuiet_nil ?_
    intro w4 hC
    go_wp2_with fail
    go_ret
    exact ⟨rfl, hC.below⟩
end Go.Proofs.Ytepooocdpifcfaa
