/- Products, 1, powers and coefficients of blocks, as the program tells them. Powers: up to 65536 factors. -/
import Derived.Test.YtepooocdpifcfaaGhTimes
namespace Go.Proofs.Ytepooocdpifcfaa
open Go.RowKit
attribute [local go_sem] B_xor B_or B_and
attribute [local go_sem] blk_set blk_size blk_get blk_getE upd_same oneCells_blk paste_blk cut_blk szOf
attribute [local go_sem high] paste_all cut_head
attribute [local go_sem] rowAt_alloc rowAt_drew rowAt_drewN isRow_alloc isRow_drew isRow_drewN freeRow_alloc freeRow_end freeRow_drew freeRow_drewN
attribute [local go_sem] setRow_alloc setRow_drew setRow_drewN setCell_drewN alloc_drewN rowAt_put isRow_setRow freeRow_put
attribute [local go_sem ↓] loadS_in storeS_in indexS_in copyS_in
attribute [local go_sem] loadS_row loadS_one storeS_row storeS_one indexS_blk copyS_rows run_equalIn_blk same_refl arrayAt_row
attribute [local go_sem] cell_row frozen_row st_setCell st_blk_ne stepAt stepUpon
attribute [local go_sem high] run_eql_blk run_neq_blk
attribute [local go_sem] U_xor U_or U_and U_and1 U_tail U_neg U_half U_shr U_shl8 U_shl63 U_of U_to pr_size pr_get0 pr_get1 pr_getE0 pr_getE1 pr_set0 pr_set1 pr_ne oneCells_pr paste_pr cut_pr
attribute [local go_sem] wide_size wide_get0 wide_get1 wide_getE0 wide_getE1 wide_ne oneCells_wide paste_wide cut_wide
attribute [local go_sem] size_wide agg_wide wide_build

/-- the product of two blocks -/
def mulB (a b : Nat → UInt8) : Nat → UInt8 := unum (Gh.mul (num a) (num b))
theorem num_mulB (a b : Nat → UInt8) : num (mulB a b) = Gh.mul (num a) (num b) := num_unum (Gh.mul_lt (num_lt a) _)
set_option maxRecDepth 100000 in
set_option maxHeartbeats 1000000 in
theorem ghMul_any (a b : Nat → UInt8) (w : World) : Calls Try.prog 13 #[.agg (blk 16 a), .agg (blk 16 b)] w fun e w' => e = .returned (.agg (blk 16 (mulB a b))) ∧ Below w.heap.size w w' := by
  have hz := zero16
  go_enter Try.func13, Try.ntmps13
  go_wp2_with fail
  refine St.region_tail 6 (w0 := w) (L := [(w.heap.size + 1 + 1, blk 16 fun _ => 0), (w.heap.size + 1, blk 16 b), (w.heap.size, blk 16 a)]) ((((St.nil w).pushA _ _ rfl).pushA _ _ (by simp)).pushA _ _ (by simp)) (by kernel_rfl) (by decide +kernel) ?_
  (simp only [List.take, List.drop])
  (first
     | (apply head_skip rfl)
     | (apply head_step_g rfl
        focus
          intro w0 hC
          (fail))
     | (apply head_step_g rfl
        focus
          intro w0 hC
          have hC' := Lib.hid hC
          obtain ⟨⟨r1, f1, i1, b1, l1⟩, ⟨r2, f2, i2, b2, l2⟩, ⟨r3, f3, i3, b3, l3⟩, m12, m21, m13, m31, m23, m32⟩ := St.facts3 hC
          clear hC
          go_simp
          have hC := hC'.out
          (first
             | with_reducible rfl
             | (skip
                (first
                   | refine (load_any _ _).mono ?_
                   | refine (times_any _ _ (num_lt _) (num_lt _) _).mono ?_
                   | refine (block_any _ (Gh.mul_lt (num_lt a) _) _).mono ?_)
                rintro e w' ⟨rfl, hw⟩
                exact ⟨rfl, St.call (by assumption) hw⟩)))
   try simp only [Act.put, List.setIfInBounds_toArray, List.set])
  (first
     | (apply head_skip rfl)
     | (apply head_step_g rfl
        focus
          intro w0 hC
          (fail))
     | (apply head_step_g rfl
        focus
          intro w0 hC
          have hC' := Lib.hid hC
          obtain ⟨⟨r1, f1, i1, b1, l1⟩, ⟨r2, f2, i2, b2, l2⟩, ⟨r3, f3, i3, b3, l3⟩, m12, m21, m13, m31, m23, m32⟩ := St.facts3 hC
          clear hC
          go_simp
          have hC := hC'.out
          (first
             | with_reducible rfl
             | (skip
                (first
                   | refine (load_any _ _).mono ?_
                   | refine (times_any _ _ (num_lt _) (num_lt _) _).mono ?_
                   | refine (block_any _ (Gh.mul_lt (num_lt a) _) _).mono ?_)
                rintro e w' ⟨rfl, hw⟩
                exact ⟨rfl, St.call (by assumption) hw⟩)))
   try simp only [Act.put, List.setIfInBounds_toArray, List.set])
  (first
     | (apply head_skip rfl)
     | (apply head_step_g rfl
        focus
          intro w0 hC
          (fail))
     | (apply head_step_g rfl
        focus
          intro w0 hC
          have hC' := Lib.hid hC
          obtain ⟨⟨r1, f1, i1, b1, l1⟩, ⟨r2, f2, i2, b2, l2⟩, ⟨r3, f3, i3, b3, l3⟩, m12, m21, m13, m31, m23, m32⟩ := St.facts3 hC
          clear hC
          go_simp
          have hC := hC'.out
          (first
             | with_reducible rfl
             | (skip
                (first
                   | refine (load_any _ _).mono ?_
                   | refine (times_any _ _ (num_lt _) (num_lt _) _).mono ?_
                   | refine (block_any _ (Gh.mul_lt (num_lt a) _) _).mono ?_)
                rintro e w' ⟨rfl, hw⟩
                exact ⟨rfl, St.call (by assumption) hw⟩)))
   try simp only [Act.put, List.setIfInBounds_toArray, List.set])
  (first
     | (apply head_skip rfl)
     | (apply head_step_g rfl
        focus
          intro w0 hC
          (fail))
     | (apply head_step_g rfl
        focus
          intro w0 hC
          have hC' := Lib.hid hC
          obtain ⟨⟨r1, f1, i1, b1, l1⟩, ⟨r2, f2, i2, b2, l2⟩, ⟨r3, f3, i3, b3, l3⟩, m12, m21, m13, m31, m23, m32⟩ := St.facts3 hC
          clear hC
          go_simp
          have hC := hC'.out
          (first
             | with_reducible rfl
             | (skip
                (first
                   | refine (load_any _ _).mono ?_
                   | refine (times_any _ _ (num_lt _) (num_lt _) _).mono ?_
                   | refine (block_any _ (Gh.mul_lt (num_lt a) _) _).mono ?_)
                rintro e w' ⟨rfl, hw⟩
                exact ⟨rfl, St.call (by assumption) hw⟩)))
   try simp only [Act.put, List.setIfInBounds_toArray, List.set])
  (first
     | (apply head_skip rfl)
     | (apply head_step_g rfl
        focus
          intro w0 hC
          (fail))
     | (apply head_step_g rfl
        focus
          intro w0 hC
          have hC' := Lib.hid hC
          obtain ⟨⟨r1, f1, i1, b1, l1⟩, ⟨r2, f2, i2, b2, l2⟩, ⟨r3, f3, i3, b3, l3⟩, m12, m21, m13, m31, m23, m32⟩ := St.facts3 hC
          clear hC
          go_simp
          have hC := hC'.out
          (first
             | with_reducible rfl
             | (skip
                (first
                   | refine (load_any _ _).mono ?_
                   | refine (times_any _ _ (num_lt _) (num_lt _) _).mono ?_
                   | refine (block_any _ (Gh.mul_lt (num_lt a) _) _).mono ?_)
                rintro e w' ⟨rfl, hw⟩
                exact ⟨rfl, St.call (by assumption) hw⟩)))
   try simp only [Act.put, List.setIfInBounds_toArray, List.set])
  (first
     | (apply head_skip rfl)
     | (apply head_step_g rfl
        focus
          intro w0 hC
          (fail))
     | (apply head_step_g rfl
        focus
          intro w0 hC
          have hC' := Lib.hid hC
          obtain ⟨⟨r1, f1, i1, b1, l1⟩, ⟨r2, f2, i2, b2, l2⟩, ⟨r3, f3, i3, b3, l3⟩, m12, m21, m13, m31, m23, m32⟩ := St.facts3 hC
          clear hC
          go_simp
          have hC := hC'.out
          (first
             | with_reducible rfl
             | (skip
                (first
                   | refine (load_any _ _).mono ?_
                   | refine (times_any _ _ (num_lt _) (num_lt _) _).mono ?_
                   | refine (block_any _ (Gh.mul_lt (num_lt a) _) _).mono ?_)
                rintro e w' ⟨rfl, hw⟩
                exact ⟨rfl, St.call (by assumption) hw⟩)))
   try simp only [Act.put, List.setIfInBounds_toArray, List.set])
  refine wpQuiet_nil ?_
  intro w1 hC
  (have HC := Lib.hid hC
   have sos := hC.below.os
   obtain ⟨⟨r1, f1, i1, b1, l1⟩, ⟨r2, f2, i2, b2, l2⟩, ⟨r3, f3, i3, b3, l3⟩, m12, m21, m13, m31, m23, m32⟩ := St.facts3 hC
   clear hC)
  go_wp2_with fail
  refine bodyPost_ret (results_row rfl _ (w.heap.size + 1 + 1) rfl (blk 16 (mulB a b)) ?_ ?_ ?_ ?_) rfl ⟨rfl, ?_⟩
  · simp [go_sem, *]; rfl
  · simp [go_sem]
  · simp [go_sem]
  · simp [go_sem, *]
  · exact below_setRow' HC.out.below (by omega) _

/-- a block whose first byte is x, and all others 0 -/
theorem lead_blk (x : UInt8) : blk 16 (upd (fun _ => 0) 0 x) = blk 16 (unum (x.toNat * 2 ^ 120)) := blk_congr fun i hi => by
  unfold upd unum byteN
  by_cases h : i = 0
  · subst h
    rw [if_pos rfl]
    apply UInt8.toNat_inj.1
    rw [UInt8.toNat_ofNat']
    have := x.toNat_lt
    omega
  · rw [if_neg h]
    apply UInt8.toNat_inj.1
    rw [UInt8.toNat_ofNat']
    have hp : x.toNat * 2 ^ 120 / 256 ^ (16 - 1 - i) = x.toNat * 256 ^ i := by
      rw [show (2 : Nat) ^ 120 = 256 ^ i * 256 ^ (16 - 1 - i) by rw [← Nat.pow_add, show i + (16 - 1 - i) = 15 by omega], ← Nat.mul_assoc]
      exact Nat.mul_div_cancel _ (Nat.pow_pos (by decide))
    rw [hp]
    obtain ⟨j, rfl⟩ : ∃ j, i = j + 1 := ⟨i - 1, by omega⟩
    rw [Nat.pow_succ, ← Nat.mul_assoc]
    show 0 = _ * 256 % 256
    omega
theorem lead_lit (x : UInt8) (n : Int) (h : n = B x) : (blk 16 fun _ => 0).setIfInBounds 0 (.int .u8 n) = blk 16 (unum (x.toNat * 2 ^ 120)) := by
  subst h; rw [blk_set]; exact lead_blk x
theorem lead_ok (x : UInt8) : Gh.Ok (x.toNat * 2 ^ 120) := by
  have := x.toNat_lt
  unfold Gh.Ok
  omega

set_option maxRecDepth 100000 in
theorem one_any (w : World) : Calls Try.prog 23 #[] w fun e w' => e = .returned (.agg (blk 16 (unum Gh.one))) ∧ Below w.heap.size w w' := by
  have hz := zero16
  have hl : (blk 16 fun _ => 0).setIfInBounds 0 (.int .u8 128) = blk 16 (unum Gh.one) := lead_lit 128 128 rfl
  go_enter Try.func23, Try.ntmps23
  go_wp2_with fail
  refine bodyPost_ret (results_row rfl _ w.heap.size rfl (blk 16 (unum Gh.one)) (by simp [go_sem]) (by simp [go_sem]) (by simp [go_sem]) (by simp [go_sem])) rfl ⟨rfl, ?_⟩
  exact (Below.refl _ _).alloc (Nat.le_refl _) _

/-- n factors -/
def powB (h : Nat → UInt8) (n : Nat) : Nat → UInt8 := unum (Gh.pw (num h) n)
def PowInv (h : Nat → UInt8) (n o y m : Nat) : Prop := Gh.Ok o ∧ Gh.Ok y ∧ Gh.mul o (Gh.pw y m) = Gh.pw (num h) n
theorem powInv_start (h : Nat → UInt8) (n : Nat) : PowInv h n Gh.one (num h) n := ⟨Gh.ok_one, num_lt h, Gh.one_mul (Gh.pw_lt n)⟩
theorem powInv_odd {h : Nat → UInt8} {n o y m : Nat} (i : PowInv h n o y m) (hm : m % 2 = 1) : PowInv h n (Gh.mul o y) (Gh.mul y y) (m / 2) := by
  obtain ⟨h1, h2, h3⟩ := i
  refine ⟨Gh.mul_lt h1 y, Gh.mul_lt h2 y, ?_⟩
  rw [Gh.pw_double h2, Gh.mul_assoc h1 h2, ← h3]
  refine congrArg (Gh.mul o) ?_
  have e : 2 * (m / 2) + 1 = m := by omega
  have e2 : Gh.pw y (2 * (m / 2) + 1) = Gh.mul (Gh.pw y (2 * (m / 2))) y := rfl
  have e3 : Gh.pw y m = Gh.mul (Gh.pw y (2 * (m / 2))) y := (congrArg (Gh.pw y) e.symm).trans e2
  exact (Gh.mul_comm h2 (Gh.pw_lt _)).trans e3.symm
theorem powInv_even {h : Nat → UInt8} {n o y m : Nat} (i : PowInv h n o y m) (hm : m % 2 ≠ 1) : PowInv h n o (Gh.mul y y) (m / 2) := by
  obtain ⟨h1, h2, h3⟩ := i
  refine ⟨h1, Gh.mul_lt h2 y, ?_⟩
  rw [Gh.pw_double h2, show 2 * (m / 2) = m by omega]; exact h3
def half2 (m : Nat) : Nat := m / 2
set_option maxRecDepth 100000 in
set_option maxHeartbeats 1000000 in
theorem ghPow_any (h : Nat → UInt8) (n : Nat) (hn : n ≤ 65536) (w : World) : Calls Try.prog 24 #[.agg (blk 16 h), .int .i64 (n : Int)] w fun e w' => e = .returned (.agg (blk 16 (powB h n))) ∧ Below w.heap.size w w' := by
  have hz := zero16
  have hz2 := pr_zero
  have h1 := num_unum Gh.ok_one
  have hn' : (n : Int) ≤ 65536 := by omega
  go_enter Try.func24, Try.ntmps24
  go_wp2_with fail
  have HC := Lib.hid (((St.nil w).pushA (blk 16 h) 23 rfl).pushA (blk 16 fun _ => 0) 23 (g := w.heap.size + 1) (by simp))
  refine St.region_store2 (w0 := w) 4 5 6 9 11 (pr 0 0) (pr 0 0) (wide Gh.one) (wide (num h)) (.agg (wide Gh.one)) (.agg (wide (num h))) 63 63 HC.out (by kernel_rfl) (by decide +kernel) _ _ _ _ rfl rfl rfl rfl
    (fun w a => by simp [go_sem, ptrTo, hz2]) (fun w a => by simp [go_sem, ptrTo, hz2]) (stores_whole 63 (pr 0 0) (wide Gh.one) rfl (fun w => size_wide w) (oneCells_wide _) rfl) (stores_whole 63 (pr 0 0) (wide (num h)) rfl (fun w => size_wide w) (oneCells_wide _) rfl) (by simp) ?_
  (simp only [List.take])
  (apply walkB_step
   focus
     intro w0 hC
     have hC' := Lib.hid hC
     obtain ⟨⟨r1, f1, i1, b1, l1⟩, ⟨r2, f2, i2, b2, l2⟩, m12, m21⟩ := St.facts2 hC
     clear hC
     go_simp
     (first
        | with_reducible rfl
        | exact one_any _
        | exact load_any _ _)
   try simp only [Act.put, List.setIfInBounds_toArray, List.set])
  (apply walkB_step
   focus
     intro w0 hC
     have hC' := Lib.hid hC
     obtain ⟨⟨r1, f1, i1, b1, l1⟩, ⟨r2, f2, i2, b2, l2⟩, m12, m21⟩ := St.facts2 hC
     clear hC
     go_simp
     (first
        | with_reducible rfl
        | exact one_any _
        | exact load_any _ _)
   try simp only [Act.put, List.setIfInBounds_toArray, List.set])
  (apply walkB_step
   focus
     intro w0 hC
     have hC' := Lib.hid hC
     obtain ⟨⟨r1, f1, i1, b1, l1⟩, ⟨r2, f2, i2, b2, l2⟩, m12, m21⟩ := St.facts2 hC
     clear hC
     go_simp
     (first
        | with_reducible rfl
        | exact one_any _
        | exact load_any _ _)
   try simp only [Act.put, List.setIfInBounds_toArray, List.set])
  (apply walkB_step
   focus
     intro w0 hC
     have hC' := Lib.hid hC
     obtain ⟨⟨r1, f1, i1, b1, l1⟩, ⟨r2, f2, i2, b2, l2⟩, m12, m21⟩ := St.facts2 hC
     clear hC
     go_simp
     (first
        | with_reducible rfl
        | exact one_any _
        | exact load_any _ _)
   try simp only [Act.put, List.setIfInBounds_toArray, List.set])
  refine walkB_nil ⟨⟨rfl, rfl⟩, ?_⟩
  intro w1 g1 g2 hC
  unfold ptrTo
  have HC := Lib.hid hC
  clear hC
  go_wp2_with fail
  go_loopw [7] (fun i wr => ∃ m o y : Nat, m ≤ n ∧ i = .int .i64 (m : Int) ∧ Hid (PowInv h n o y m) ∧ Hid (St w [(g2, wide y), (g1, wide o), (w.heap.size + 1, blk 16 fun _ => 0), (w.heap.size, blk 16 h)] wr)) (fun i _ => (intOf i).toNat)
  case atStart => exact ⟨n, Gh.one, num h, Nat.le_refl _, by first | rfl | (simp; done) | (congr 1; omega), Lib.hid (powInv_start h n), HC⟩
  case round =>
    clear HC
    obtain ⟨m, o, y, hm, rfl, HI, HR⟩ := hrel
    have ok1 := HI.out.1
    have ok2 := HI.out.2.1
    have hC := HR.out
    by_cases h0 : 0 < m
    · have e0 : (0 : Int) < (m : Int) := by omega
      have e1 : (m : Int) ≤ 65536 := by omega
      have v1 : (m : Int) / 2 = (half2 m : Int) := by unfold half2; omega
      have v2 : (m : Int).tdiv 2 = (half2 m : Int) := by rw [Int.tdiv_eq_ediv_of_nonneg (by omega)]; exact v1
      by_cases ho : m % 2 = 1
      · have t1 : ((m : Int) % 2 == 1) = true := by simp; omega
        (have HC := Lib.hid hC
         have sos := hC.below.os
         obtain ⟨⟨r1, f1, i1, b1, l1⟩, ⟨r2, f2, i2, b2, l2⟩, ⟨r3, f3, i3, b3, l3⟩, ⟨r4, f4, i4, b4, l4⟩, m12, m21, m13, m31, m14, m41, m23, m32, m24, m42, m34, m43⟩ := St.facts4 hC
         clear hC)
        go_wp2_with fail
        refine (times_any o y ok1 ok2 _).mono ?_; rintro e w3 ⟨rfl, hw⟩
        have HC := Lib.hid (HC.out.call hw)
        clear hw
        (clear r1 f1 i1 b1 l1 r2 f2 i2 b2 l2 r3 f3 i3 b3 l3 r4 f4 i4 b4 l4 m12 m21 m13 m31 m14 m41 m23 m32 m24 m42 m34 m43 sos)
        have hC := HC.out
        (have HC := Lib.hid hC
         have sos := hC.below.os
         obtain ⟨⟨r1, f1, i1, b1, l1⟩, ⟨r2, f2, i2, b2, l2⟩, ⟨r3, f3, i3, b3, l3⟩, ⟨r4, f4, i4, b4, l4⟩, m12, m21, m13, m31, m14, m41, m23, m32, m24, m42, m34, m43⟩ := St.facts4 hC
         clear hC)
        go_wp2_with fail
        have HC := Lib.hid ((HC.out.swap.set_head (wide (Gh.mul o y))).swap)
        (clear r1 f1 i1 b1 l1 r2 f2 i2 b2 l2 r3 f3 i3 b3 l3 r4 f4 i4 b4 l4 m12 m21 m13 m31 m14 m41 m23 m32 m24 m42 m34 m43 sos)
        refine (times_any y y ok2 ok2 _).mono ?_; rintro e w4 ⟨rfl, hw⟩
        have HC := Lib.hid (HC.out.call hw)
        clear hw
        have hC := HC.out
        (have HC := Lib.hid hC
         have sos := hC.below.os
         obtain ⟨⟨r1, f1, i1, b1, l1⟩, ⟨r2, f2, i2, b2, l2⟩, ⟨r3, f3, i3, b3, l3⟩, ⟨r4, f4, i4, b4, l4⟩, m12, m21, m13, m31, m14, m41, m23, m32, m24, m42, m34, m43⟩ := St.facts4 hC
         clear hC)
        go_wp2_with fail
        have HC := Lib.hid (HC.out.set_head (wide (Gh.mul y y)))
        exact ⟨⟨half2 m, Gh.mul o y, Gh.mul y y, by unfold half2; omega, rfl, Lib.hid (powInv_odd HI.out ho), HC⟩, by simp [intOf]; unfold half2; omega⟩
      · have t1 : ((m : Int) % 2 == 1) = false := by simp; omega
        (have HC := Lib.hid hC
         have sos := hC.below.os
         obtain ⟨⟨r1, f1, i1, b1, l1⟩, ⟨r2, f2, i2, b2, l2⟩, ⟨r3, f3, i3, b3, l3⟩, ⟨r4, f4, i4, b4, l4⟩, m12, m21, m13, m31, m14, m41, m23, m32, m24, m42, m34, m43⟩ := St.facts4 hC
         clear hC)
        go_wp2_with fail
        refine (times_any y y ok2 ok2 _).mono ?_; rintro e w4 ⟨rfl, hw⟩
        have HC := Lib.hid (HC.out.call hw)
        clear hw
        (clear r1 f1 i1 b1 l1 r2 f2 i2 b2 l2 r3 f3 i3 b3 l3 r4 f4 i4 b4 l4 m12 m21 m13 m31 m14 m41 m23 m32 m24 m42 m34 m43 sos)
        have hC := HC.out
        (have HC := Lib.hid hC
         have sos := hC.below.os
         obtain ⟨⟨r1, f1, i1, b1, l1⟩, ⟨r2, f2, i2, b2, l2⟩, ⟨r3, f3, i3, b3, l3⟩, ⟨r4, f4, i4, b4, l4⟩, m12, m21, m13, m31, m14, m41, m23, m32, m24, m42, m34, m43⟩ := St.facts4 hC
         clear hC)
        go_wp2_with fail
        have HC := Lib.hid (HC.out.set_head (wide (Gh.mul y y)))
        exact ⟨⟨half2 m, o, Gh.mul y y, by unfold half2; omega, rfl, Lib.hid (powInv_even HI.out ho), HC⟩, by simp [intOf]; unfold half2; omega⟩
    · obtain rfl : m = 0 := by omega
      have hend : Gh.mul o (Gh.pw y 0) = Gh.pw (num h) n := HI.out.2.2
      have hend' : o = Gh.pw (num h) n := by rw [← hend]; exact (Gh.mul_one ok1).symm
      subst hend'
      (have HC := Lib.hid hC
       have sos := hC.below.os
       obtain ⟨⟨r1, f1, i1, b1, l1⟩, ⟨r2, f2, i2, b2, l2⟩, ⟨r3, f3, i3, b3, l3⟩, ⟨r4, f4, i4, b4, l4⟩, m12, m21, m13, m31, m14, m41, m23, m32, m24, m42, m34, m43⟩ := St.facts4 hC
       clear hC)
      go_wp2_with fail
      refine (block_any _ (Gh.pw_lt n) _).mono ?_; rintro e w3 ⟨rfl, hw⟩
      have HC := Lib.hid (HC.out.call hw)
      clear hw
      (clear r1 f1 i1 b1 l1 r2 f2 i2 b2 l2 r3 f3 i3 b3 l3 r4 f4 i4 b4 l4 m12 m21 m13 m31 m14 m41 m23 m32 m24 m42 m34 m43 sos)
      have hC := HC.out
      (have HC := Lib.hid hC
       have sos := hC.below.os
       obtain ⟨⟨r1, f1, i1, b1, l1⟩, ⟨r2, f2, i2, b2, l2⟩, ⟨r3, f3, i3, b3, l3⟩, ⟨r4, f4, i4, b4, l4⟩, m12, m21, m13, m31, m14, m41, m23, m32, m24, m42, m34, m43⟩ := St.facts4 hC
       clear hC)
      go_wp2_with fail
      refine bodyPost_ret (results_row rfl _ (w.heap.size + 1) rfl (blk 16 (powB h n)) ?_ ?_ ?_ ?_) rfl ⟨rfl, ?_⟩
      · simp [go_sem, *]; rfl
      · simp [go_sem]
      · simp [go_sem]
      · simp [go_sem, *]
      · exact below_setRow' HC.out.below (by omega) _
end Go.Proofs.Ytepooocdpifcfaa
