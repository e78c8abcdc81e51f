/- A block as its halves, and back. No condition. -/
import Derived.Test.YtepooocdpifcfaaGhLeaf
namespace Go.Proofs.Ytepooocdpifcfaa
open Go.RowKit
attribute [local go_sem] B_xor B_or B_and
attribute [local go_sem] blk_set blk_size blk_get blk_getE upd_same oneCells_blk paste_blk cut_blk szOf
attribute [local go_sem high] paste_all cut_head
attribute [local go_sem] rowAt_alloc rowAt_drew rowAt_drewN isRow_alloc isRow_drew isRow_drewN freeRow_alloc freeRow_end freeRow_drew freeRow_drewN
attribute [local go_sem] setRow_alloc setRow_drew setRow_drewN setCell_drewN alloc_drewN rowAt_put isRow_setRow freeRow_put
attribute [local go_sem ↓] loadS_in storeS_in indexS_in copyS_in
attribute [local go_sem] loadS_row loadS_one storeS_row storeS_one indexS_blk copyS_rows run_equalIn_blk same_refl arrayAt_row
attribute [local go_sem] cell_row frozen_row st_setCell st_blk_ne stepAt stepUpon
attribute [local go_sem high] run_eql_blk run_neq_blk
attribute [local go_sem] U_xor U_or U_and U_and1 U_tail U_neg U_half U_shr U_shl8 U_shl63 U_of U_to pr_size pr_get0 pr_get1 pr_getE0 pr_getE1 pr_set0 pr_set1 pr_ne oneCells_pr paste_pr cut_pr
attribute [local go_sem] wide_size wide_get0 wide_get1 wide_getE0 wide_getE1 wide_ne oneCells_wide paste_wide cut_wide
attribute [local go_sem] size_wide agg_wide

def packU (b : Nat → UInt8) : Nat → UInt64
  | 0 => 0
  | k + 1 => packU b k <<< 8 ||| (b k).toUInt64
theorem packU_nat (b : Nat → UInt8) : ∀ k, k ≤ 8 → (packU b k).toNat = numTo b k
  | 0, _ => rfl
  | k + 1, h => by
    have ih := packU_nat b k (by omega)
    have h1 := numTo_lt b k
    have h2 : 256 ^ k ≤ 256 ^ 7 := Nat.pow_le_pow_right (by decide) (by omega)
    have h3 := (b k).toNat_lt
    simp only [packU, numTo]
    rw [UInt64.toNat_or, UInt64.toNat_shiftLeft, UInt8.toNat_toUInt64, ih]
    show (numTo b k <<< 8) % 2 ^ 64 ||| (b k).toNat = _
    rw [Nat.mod_eq_of_lt (by rw [Nat.shiftLeft_eq]; omega), ← Nat.shiftLeft_add_eq_or_of_lt (by omega), Nat.shiftLeft_eq]
theorem packU_hi (b : Nat → UInt8) : packU b 8 = hiU (num b) := by
  apply UInt64.toNat_inj.1
  rw [packU_nat b 8 (Nat.le_refl _), hi_nat (num_lt b), Nat.shiftRight_eq_div_pow]
  unfold num
  exact (numTo_div b 8 8).symm
theorem packU_lo (b : Nat → UInt8) : packU (fun j => b (8 + j)) 8 = loU (num b) := by
  apply UInt64.toNat_inj.1
  rw [packU_nat _ 8 (Nat.le_refl _), lo_nat]
  unfold num
  have h := numTo_add b 8 8
  have h1 := numTo_lt (fun j => b (8 + j)) 8
  rw [show (16 : Nat) = 8 + 8 from rfl, h]
  omega

set_option maxRecDepth 100000 in
set_option maxHeartbeats 1000000 in
theorem load_any (b : Nat → UInt8) (w : World) : Calls Try.prog 37 #[.agg (blk 16 b)] w fun e w' => e = .returned (.agg (wide (num b))) ∧ Below w.heap.size w w' := by
  have hz := pr_zero
  go_enter Try.func37, Try.ntmps37
  go_wp2_with fail
  go_loopw [5] (fun i wr => ∃ k : Nat, k ≤ 8 ∧ i = .int .i64 (k : Int) ∧ Hid (St w [(w.heap.size + 1 + 1, pr (U (packU b k)) (U (packU (fun j => b (8 + j)) k))), (w.heap.size + 1, pr 0 0), (w.heap.size, blk 16 b)] wr)) (fun i _ => 8 - (intOf i).toNat)
  case atStart => exact ⟨0, by omega, rfl, Lib.hid ((((St.nil w).pushA _ _ rfl).pushA _ _ (by simp)).pushA _ _ (by simp))⟩
  case round =>
    obtain ⟨k, hk, rfl, HR⟩ := hrel
    by_cases hlt : k < 8
    · have e1 : (k : Int) < 8 := by omega
      have e2 : (k : Int) < 16 := by omega
      have e3 : k < 16 := by omega
      have v1 : IntKind.i64.wrap (8 + (k : Int)) = ((8 + k : Nat) : Int) := by rw [IntWalk.i64_in _ (by omega)]; omega
      have e4 : ((8 + k : Nat) : Int) < 16 := by omega
      have e5 : 8 + k < 16 := by omega
      generalize hq : 8 + k = q at v1 e4 e5
      have p1 : packU b k <<< 8 ||| (b k).toUInt64 = packU b (k + 1) := rfl
      have p2 : packU (fun j => b (8 + j)) k <<< 8 ||| (b q).toUInt64 = packU (fun j => b (8 + j)) (k + 1) := by subst hq; rfl
      clear hq
      go_wp2_with fail
      refine St.region_tail 9 HR.out (by kernel_rfl) (by decide +kernel) ?_
      (simp only [List.take, List.drop])
      (first
         | (apply head_skip rfl)
         | (apply head_step_g rfl
            focus
              intro w0 hC
              (fail))
         | (apply head_step_g rfl
            focus
              intro w0 hC
              have hC' := Lib.hid hC
              obtain ⟨⟨r1, f1, i1, b1, l1⟩, ⟨r2, f2, i2, b2, l2⟩, ⟨r3, f3, i3, b3, l3⟩, m12, m21, m13, m31, m23, m32⟩ := St.facts3 hC
              clear hC
              go_simp
              have hC := hC'.out
              (first
                 | with_reducible rfl
                 | (skip
                    (fail)
                    rintro e w' ⟨rfl, hw⟩
                    exact ⟨rfl, St.call (by assumption) hw⟩)))
       try simp only [Act.put, List.setIfInBounds_toArray, List.set])
      (first
         | (apply head_skip rfl)
         | (apply head_step_g rfl
            focus
              intro w0 hC
              (fail))
         | (apply head_step_g rfl
            focus
              intro w0 hC
              have hC' := Lib.hid hC
              obtain ⟨⟨r1, f1, i1, b1, l1⟩, ⟨r2, f2, i2, b2, l2⟩, ⟨r3, f3, i3, b3, l3⟩, m12, m21, m13, m31, m23, m32⟩ := St.facts3 hC
              clear hC
              go_simp
              have hC := hC'.out
              (first
                 | with_reducible rfl
                 | (skip
                    (fail)
                    rintro e w' ⟨rfl, hw⟩
                    exact ⟨rfl, St.call (by assumption) hw⟩)))
       try simp only [Act.put, List.setIfInBounds_toArray, List.set])
      (first
         | (apply head_skip rfl)
         | (apply head_step_g rfl
            focus
              intro w0 hC
              (fail))
         | (apply head_step_g rfl
            focus
              intro w0 hC
              have hC' := Lib.hid hC
              obtain ⟨⟨r1, f1, i1, b1, l1⟩, ⟨r2, f2, i2, b2, l2⟩, ⟨r3, f3, i3, b3, l3⟩, m12, m21, m13, m31, m23, m32⟩ := St.facts3 hC
              clear hC
              go_simp
              have hC := hC'.out
              (first
                 | with_reducible rfl
                 | (skip
                    (fail)
                    rintro e w' ⟨rfl, hw⟩
                    exact ⟨rfl, St.call (by assumption) hw⟩)))
       try simp only [Act.put, List.setIfInBounds_toArray, List.set])
      (first
         | (apply head_skip rfl)
         | (apply head_step_g rfl
            focus
              intro w0 hC
              (fail))
         | (apply head_step_g rfl
            focus
              intro w0 hC
              have hC' := Lib.hid hC
              obtain ⟨⟨r1, f1, i1, b1, l1⟩, ⟨r2, f2, i2, b2, l2⟩, ⟨r3, f3, i3, b3, l3⟩, m12, m21, m13, m31, m23, m32⟩ := St.facts3 hC
              clear hC
              go_simp
              have hC := hC'.out
              (first
                 | with_reducible rfl
                 | (skip
                    (fail)
                    rintro e w' ⟨rfl, hw⟩
                    exact ⟨rfl, St.call (by assumption) hw⟩)))
       try simp only [Act.put, List.setIfInBounds_toArray, List.set])
      (first
         | (apply head_skip rfl)
         | (apply head_step_g rfl
            focus
              intro w0 hC
              (fail))
         | (apply head_step_g rfl
            focus
              intro w0 hC
              have hC' := Lib.hid hC
              obtain ⟨⟨r1, f1, i1, b1, l1⟩, ⟨r2, f2, i2, b2, l2⟩, ⟨r3, f3, i3, b3, l3⟩, m12, m21, m13, m31, m23, m32⟩ := St.facts3 hC
              clear hC
              go_simp
              have hC := hC'.out
              (first
                 | with_reducible rfl
                 | (skip
                    (fail)
                    rintro e w' ⟨rfl, hw⟩
                    exact ⟨rfl, St.call (by assumption) hw⟩)))
       try simp only [Act.put, List.setIfInBounds_toArray, List.set])
      (first
         | (apply head_skip rfl)
         | (apply head_step_g rfl
            focus
              intro w0 hC
              (fail))
         | (apply head_step_g rfl
            focus
              intro w0 hC
              have hC' := Lib.hid hC
              obtain ⟨⟨r1, f1, i1, b1, l1⟩, ⟨r2, f2, i2, b2, l2⟩, ⟨r3, f3, i3, b3, l3⟩, m12, m21, m13, m31, m23, m32⟩ := St.facts3 hC
              clear hC
              go_simp
              have hC := hC'.out
              (first
                 | with_reducible rfl
                 | (skip
                    (fail)
                    rintro e w' ⟨rfl, hw⟩
                    exact ⟨rfl, St.call (by assumption) hw⟩)))
       try simp only [Act.put, List.setIfInBounds_toArray, List.set])
      (first
         | (apply head_skip rfl)
         | (apply head_step_g rfl
            focus
              intro w0 hC
              (fail))
         | (apply head_step_g rfl
            focus
              intro w0 hC
              have hC' := Lib.hid hC
              obtain ⟨⟨r1, f1, i1, b1, l1⟩, ⟨r2, f2, i2, b2, l2⟩, ⟨r3, f3, i3, b3, l3⟩, m12, m21, m13, m31, m23, m32⟩ := St.facts3 hC
              clear hC
              go_simp
              have hC := hC'.out
              (first
                 | with_reducible rfl
                 | (skip
                    (fail)
                    rintro e w' ⟨rfl, hw⟩
                    exact ⟨rfl, St.call (by assumption) hw⟩)))
       try simp only [Act.put, List.setIfInBounds_toArray, List.set])
      (first
         | (apply head_skip rfl)
         | (apply head_step_g rfl
            focus
              intro w0 hC
              (fail))
         | (apply head_step_g rfl
            focus
              intro w0 hC
              have hC' := Lib.hid hC
              obtain ⟨⟨r1, f1, i1, b1, l1⟩, ⟨r2, f2, i2, b2, l2⟩, ⟨r3, f3, i3, b3, l3⟩, m12, m21, m13, m31, m23, m32⟩ := St.facts3 hC
              clear hC
              go_simp
              have hC := hC'.out
              (first
                 | with_reducible rfl
                 | (skip
                    (fail)
                    rintro e w' ⟨rfl, hw⟩
                    exact ⟨rfl, St.call (by assumption) hw⟩)))
       try simp only [Act.put, List.setIfInBounds_toArray, List.set])
      (first
         | (apply head_skip rfl)
         | (apply head_step_g rfl
            focus
              intro w0 hC
              (fail))
         | (apply head_step_g rfl
            focus
              intro w0 hC
              have hC' := Lib.hid hC
              obtain ⟨⟨r1, f1, i1, b1, l1⟩, ⟨r2, f2, i2, b2, l2⟩, ⟨r3, f3, i3, b3, l3⟩, m12, m21, m13, m31, m23, m32⟩ := St.facts3 hC
              clear hC
              go_simp
              have hC := hC'.out
              (first
                 | with_reducible rfl
                 | (skip
                    (fail)
                    rintro e w' ⟨rfl, hw⟩
                    exact ⟨rfl, St.call (by assumption) hw⟩)))
       try simp only [Act.put, List.setIfInBounds_toArray, List.set])
      refine wpQuiet_nil ?_
      intro w1 hC
      (have HC := Lib.hid hC
       have sos := hC.below.os
       obtain ⟨⟨r1, f1, i1, b1, l1⟩, ⟨r2, f2, i2, b2, l2⟩, ⟨r3, f3, i3, b3, l3⟩, m12, m21, m13, m31, m23, m32⟩ := St.facts3 hC
       clear hC)
      go_wp2_with fail
      have HC := Lib.hid (HC.out.set_head (pr (U (packU b (k + 1))) (U (packU (fun j => b (8 + j)) k))))
      (clear r1 f1 i1 b1 l1 r2 f2 i2 b2 l2 r3 f3 i3 b3 l3 m12 m21 m13 m31 m23 m32 sos)
      refine St.region_tail 10 HC.out (by kernel_rfl) (by decide +kernel) ?_
      (simp only [List.take, List.drop])
      (first
         | (apply head_skip rfl)
         | (apply head_step_g rfl
            focus
              intro w0 hC
              (fail))
         | (apply head_step_g rfl
            focus
              intro w0 hC
              have hC' := Lib.hid hC
              obtain ⟨⟨r1, f1, i1, b1, l1⟩, ⟨r2, f2, i2, b2, l2⟩, ⟨r3, f3, i3, b3, l3⟩, m12, m21, m13, m31, m23, m32⟩ := St.facts3 hC
              clear hC
              go_simp
              have hC := hC'.out
              (first
                 | with_reducible rfl
                 | (skip
                    (fail)
                    rintro e w' ⟨rfl, hw⟩
                    exact ⟨rfl, St.call (by assumption) hw⟩)))
       try simp only [Act.put, List.setIfInBounds_toArray, List.set])
      (first
         | (apply head_skip rfl)
         | (apply head_step_g rfl
            focus
              intro w0 hC
              (fail))
         | (apply head_step_g rfl
            focus
              intro w0 hC
              have hC' := Lib.hid hC
              obtain ⟨⟨r1, f1, i1, b1, l1⟩, ⟨r2, f2, i2, b2, l2⟩, ⟨r3, f3, i3, b3, l3⟩, m12, m21, m13, m31, m23, m32⟩ := St.facts3 hC
              clear hC
              go_simp
              have hC := hC'.out
              (first
                 | with_reducible rfl
                 | (skip
                    (fail)
                    rintro e w' ⟨rfl, hw⟩
                    exact ⟨rfl, St.call (by assumption) hw⟩)))
       try simp only [Act.put, List.setIfInBounds_toArray, List.set])
      (first
         | (apply head_skip rfl)
         | (apply head_step_g rfl
            focus
              intro w0 hC
              (fail))
         | (apply head_step_g rfl
            focus
              intro w0 hC
              have hC' := Lib.hid hC
              obtain ⟨⟨r1, f1, i1, b1, l1⟩, ⟨r2, f2, i2, b2, l2⟩, ⟨r3, f3, i3, b3, l3⟩, m12, m21, m13, m31, m23, m32⟩ := St.facts3 hC
              clear hC
              go_simp
              have hC := hC'.out
              (first
                 | with_reducible rfl
                 | (skip
                    (fail)
                    rintro e w' ⟨rfl, hw⟩
                    exact ⟨rfl, St.call (by assumption) hw⟩)))
       try simp only [Act.put, List.setIfInBounds_toArray, List.set])
      (first
         | (apply head_skip rfl)
         | (apply head_step_g rfl
            focus
              intro w0 hC
              (fail))
         | (apply head_step_g rfl
            focus
              intro w0 hC
              have hC' := Lib.hid hC
              obtain ⟨⟨r1, f1, i1, b1, l1⟩, ⟨r2, f2, i2, b2, l2⟩, ⟨r3, f3, i3, b3, l3⟩, m12, m21, m13, m31, m23, m32⟩ := St.facts3 hC
              clear hC
              go_simp
              have hC := hC'.out
              (first
                 | with_reducible rfl
                 | (skip
                    (fail)
                    rintro e w' ⟨rfl, hw⟩
                    exact ⟨rfl, St.call (by assumption) hw⟩)))
       try simp only [Act.put, List.setIfInBounds_toArray, List.set])
      (first
         | (apply head_skip rfl)
         | (apply head_step_g rfl
            focus
              intro w0 hC
              (fail))
         | (apply head_step_g rfl
            focus
              intro w0 hC
              have hC' := Lib.hid hC
              obtain ⟨⟨r1, f1, i1, b1, l1⟩, ⟨r2, f2, i2, b2, l2⟩, ⟨r3, f3, i3, b3, l3⟩, m12, m21, m13, m31, m23, m32⟩ := St.facts3 hC
              clear hC
              go_simp
              have hC := hC'.out
              (first
                 | with_reducible rfl
                 | (skip
                    (fail)
                    rintro e w' ⟨rfl, hw⟩
                    exact ⟨rfl, St.call (by assumption) hw⟩)))
       try simp only [Act.put, List.setIfInBounds_toArray, List.set])
      (first
         | (apply head_skip rfl)
         | (apply head_step_g rfl
            focus
              intro w0 hC
              (fail))
         | (apply head_step_g rfl
            focus
              intro w0 hC
              have hC' := Lib.hid hC
              obtain ⟨⟨r1, f1, i1, b1, l1⟩, ⟨r2, f2, i2, b2, l2⟩, ⟨r3, f3, i3, b3, l3⟩, m12, m21, m13, m31, m23, m32⟩ := St.facts3 hC
              clear hC
              go_simp
              have hC := hC'.out
              (first
                 | with_reducible rfl
                 | (skip
                    (fail)
                    rintro e w' ⟨rfl, hw⟩
                    exact ⟨rfl, St.call (by assumption) hw⟩)))
       try simp only [Act.put, List.setIfInBounds_toArray, List.set])
      (first
         | (apply head_skip rfl)
         | (apply head_step_g rfl
            focus
              intro w0 hC
              (fail))
         | (apply head_step_g rfl
            focus
              intro w0 hC
              have hC' := Lib.hid hC
              obtain ⟨⟨r1, f1, i1, b1, l1⟩, ⟨r2, f2, i2, b2, l2⟩, ⟨r3, f3, i3, b3, l3⟩, m12, m21, m13, m31, m23, m32⟩ := St.facts3 hC
              clear hC
              go_simp
              have hC := hC'.out
              (first
                 | with_reducible rfl
                 | (skip
                    (fail)
                    rintro e w' ⟨rfl, hw⟩
                    exact ⟨rfl, St.call (by assumption) hw⟩)))
       try simp only [Act.put, List.setIfInBounds_toArray, List.set])
      (first
         | (apply head_skip rfl)
         | (apply head_step_g rfl
            focus
              intro w0 hC
              (fail))
         | (apply head_step_g rfl
            focus
              intro w0 hC
              have hC' := Lib.hid hC
              obtain ⟨⟨r1, f1, i1, b1, l1⟩, ⟨r2, f2, i2, b2, l2⟩, ⟨r3, f3, i3, b3, l3⟩, m12, m21, m13, m31, m23, m32⟩ := St.facts3 hC
              clear hC
              go_simp
              have hC := hC'.out
              (first
                 | with_reducible rfl
                 | (skip
                    (fail)
                    rintro e w' ⟨rfl, hw⟩
                    exact ⟨rfl, St.call (by assumption) hw⟩)))
       try simp only [Act.put, List.setIfInBounds_toArray, List.set])
      (first
         | (apply head_skip rfl)
         | (apply head_step_g rfl
            focus
              intro w0 hC
              (fail))
         | (apply head_step_g rfl
            focus
              intro w0 hC
              have hC' := Lib.hid hC
              obtain ⟨⟨r1, f1, i1, b1, l1⟩, ⟨r2, f2, i2, b2, l2⟩, ⟨r3, f3, i3, b3, l3⟩, m12, m21, m13, m31, m23, m32⟩ := St.facts3 hC
              clear hC
              go_simp
              have hC := hC'.out
              (first
                 | with_reducible rfl
                 | (skip
                    (fail)
                    rintro e w' ⟨rfl, hw⟩
                    exact ⟨rfl, St.call (by assumption) hw⟩)))
       try simp only [Act.put, List.setIfInBounds_toArray, List.set])
      (first
         | (apply head_skip rfl)
         | (apply head_step_g rfl
            focus
              intro w0 hC
              (fail))
         | (apply head_step_g rfl
            focus
              intro w0 hC
              have hC' := Lib.hid hC
              obtain ⟨⟨r1, f1, i1, b1, l1⟩, ⟨r2, f2, i2, b2, l2⟩, ⟨r3, f3, i3, b3, l3⟩, m12, m21, m13, m31, m23, m32⟩ := St.facts3 hC
              clear hC
              go_simp
              have hC := hC'.out
              (first
                 | with_reducible rfl
                 | (skip
                    (fail)
                    rintro e w' ⟨rfl, hw⟩
                    exact ⟨rfl, St.call (by assumption) hw⟩)))
       try simp only [Act.put, List.setIfInBounds_toArray, List.set])
      refine wpQuiet_nil ?_
      intro w2 hC
      (have HC := Lib.hid hC
       have sos := hC.below.os
       obtain ⟨⟨r1, f1, i1, b1, l1⟩, ⟨r2, f2, i2, b2, l2⟩, ⟨r3, f3, i3, b3, l3⟩, m12, m21, m13, m31, m23, m32⟩ := St.facts3 hC
       clear hC)
      go_wp2_with fail
      have HC := Lib.hid (HC.out.set_head (pr (U (packU b (k + 1))) (U (packU (fun j => b (8 + j)) (k + 1)))))
      exact ⟨⟨k + 1, by omega, by go_num, HC⟩, by simp [intOf]; omega⟩
    · obtain rfl : k = 8 := by omega
      rw [packU_hi, packU_lo] at HR
      have hC := HR.out
      (have HC := Lib.hid hC
       have sos := hC.below.os
       obtain ⟨⟨r1, f1, i1, b1, l1⟩, ⟨r2, f2, i2, b2, l2⟩, ⟨r3, f3, i3, b3, l3⟩, m12, m21, m13, m31, m23, m32⟩ := St.facts3 hC
       clear hC)
      go_wp2_with fail
      refine bodyPost_ret (results_row rfl _ (w.heap.size + 1) rfl (wide (num b)) ?_ ?_ ?_ ?_) rfl ⟨rfl, ?_⟩
      · simp [go_sem, *]; rfl
      · simp [go_sem]
      · simp [go_sem]
      · simp [go_sem, *]
      · exact below_setRow' HR.out.below (by omega) _

def at8 (k : Nat) : Nat := 8 * k
def sh8 (k : Nat) : Nat := 56 - 8 * k
theorem hi_byte {v : Nat} (h : Gh.Ok v) (k : Nat) (hk : k < 8) : (hiU v >>> UInt64.ofNat (sh8 k)).toUInt8 = unum v k := by
  apply UInt8.toNat_inj.1
  rw [UInt64.toNat_toUInt8, UInt64.toNat_shiftRight, hi_nat h, UInt64.toNat_ofNat_of_lt' (by have : UInt64.size = 18446744073709551616 := rfl; unfold sh8; omega), show sh8 k % 64 = sh8 k from Nat.mod_eq_of_lt (by unfold sh8; omega)]
  unfold unum byteN
  rw [UInt8.toNat_ofNat', ← Nat.shiftRight_add, Nat.shiftRight_eq_div_pow, show 64 + sh8 k = 8 * (16 - 1 - k) by unfold sh8; omega, Nat.pow_mul]
theorem lo_byte (v : Nat) (k : Nat) (hk : k < 8) : (loU v >>> UInt64.ofNat (sh8 k)).toUInt8 = unum v (8 + k) := by
  apply UInt8.toNat_inj.1
  rw [UInt64.toNat_toUInt8, UInt64.toNat_shiftRight, lo_nat, UInt64.toNat_ofNat_of_lt' (by have : UInt64.size = 18446744073709551616 := rfl; unfold sh8; omega), show sh8 k % 64 = sh8 k from Nat.mod_eq_of_lt (by unfold sh8; omega)]
  unfold unum byteN
  rw [UInt8.toNat_ofNat', show 16 - 1 - (8 + k) = 7 - k by omega]
  apply Nat.eq_of_testBit_eq
  intro i
  rw [show (256 : Nat) = 2 ^ 8 from rfl, ← Nat.pow_mul, ← Nat.shiftRight_eq_div_pow]
  simp only [Nat.testBit_mod_two_pow, Nat.testBit_shiftRight]
  by_cases hi : i < 8
  · have e : sh8 k + i = 8 * (7 - k) + i := by unfold sh8; omega
    have e2 : 8 * (7 - k) + i < 64 := by omega
    simp [hi, e, e2]
  · simp [hi]
/-- bytes k, 8 + k of the first k are laid -/
def laidB (v k : Nat) : Nat → UInt8 := fun i => if i % 8 < k then unum v i else 0
theorem laidB_step (v k : Nat) (hk : k < 8) : blk 16 (upd (upd (laidB v k) k (unum v k)) (8 + k) (unum v (8 + k))) = blk 16 (laidB v (k + 1)) := blk_congr fun i hi => by
  unfold upd laidB
  by_cases h1 : i = 8 + k
  · subst h1; rw [if_pos rfl, if_pos (by omega)]
  · rw [if_neg h1]
    by_cases h2 : i = k
    · subst h2; rw [if_pos rfl, if_pos (by omega)]
    · rw [if_neg h2]
      by_cases h3 : i % 8 < k
      · rw [if_pos h3, if_pos (by omega)]
      · rw [if_neg h3, if_neg (by omega)]

set_option maxRecDepth 100000 in
set_option maxHeartbeats 1000000 in
theorem block_any (v : Nat) (hv : Gh.Ok v) (w : World) : Calls Try.prog 39 #[.agg (wide v)] w fun e w' => e = .returned (.agg (blk 16 (unum v))) ∧ Below w.heap.size w w' := by
  have hz := zero16
  go_enter Try.func39, Try.ntmps39
  go_wp2_with fail
  go_loopw [6] (fun i wr => ∃ k : Nat, k ≤ 8 ∧ i = .int .i64 (k : Int) ∧ Hid (St w [(w.heap.size + 1 + 1, blk 16 (laidB v k)), (w.heap.size + 1, blk 16 (fun _ => 0)), (w.heap.size, wide v)] wr)) (fun i _ => 8 - (intOf i).toNat)
  case atStart =>
    refine ⟨0, by omega, rfl, Lib.hid ?_⟩
    rw [show blk 16 (laidB v 0) = blk 16 (fun _ => 0) from blk_congr fun i _ => by simp [laidB]]
    exact (((St.nil w).pushA _ _ rfl).pushA _ _ (by simp)).pushA _ _ (by simp)
  case round =>
    obtain ⟨k, hk, rfl, HR⟩ := hrel
    by_cases hlt : k < 8
    · have e1 : (k : Int) < 8 := by omega
      have e2 : (k : Int) < 16 := by omega
      have e3 : k < 16 := by omega
      have v1 : IntKind.i64.wrap (8 * (k : Int)) = (at8 k : Int) := by rw [IntWalk.i64_in _ (by omega)]; unfold at8; omega
      have v2 : IntKind.i64.wrap (56 - (at8 k : Int)) = (sh8 k : Int) := by unfold at8 sh8; rw [IntWalk.i64_in _ (by omega)]; omega
      have v3 : IntKind.i64.wrap (8 + (k : Int)) = ((8 + k : Nat) : Int) := by rw [IntWalk.i64_in _ (by omega)]; omega
      have e4 : ((8 + k : Nat) : Int) < 16 := by omega
      have e5 : 8 + k < 16 := by omega
      have e6 : sh8 k < 64 := by unfold sh8; omega
      have e7 : (sh8 k : Int) ≤ 64 := by omega
      have b1 := hi_byte hv k hlt
      have b2 := lo_byte v k hlt
      have b3 := laidB_step v k hlt
      have hqk : (k = 8 + k) = False := by simp
      have hC := HR.out
      generalize hq : 8 + k = q at v3 e4 e5 b2 b3 hqk
      clear hq
      (have HC := Lib.hid hC
       have sos := hC.below.os
       obtain ⟨⟨r1, f1, i1, b1, l1⟩, ⟨r2, f2, i2, b2, l2⟩, ⟨r3, f3, i3, b3, l3⟩, m12, m21, m13, m31, m23, m32⟩ := St.facts3 hC
       clear hC)
      go_wp2_with fail
      go_region_held3 (fun w' => rowAt w' w.heap.size = wide v ∧ isRow w' w.heap.size = true ∧ rowAt w' (w.heap.size + 1) = blk 16 (fun _ => 0)) (first | assumption | (simp [go_sem, *]; done)) (fail)
      all_goals
        have HC := Lib.hid ((HC.out.set_head (blk 16 (upd (laidB v k) k (unum v k)))).set_head (blk 16 (laidB v (k + 1)))).drew
        go_wp2_with fail
        exact ⟨⟨k + 1, by omega, by go_num, HC⟩, by simp [intOf]; omega⟩
    · obtain rfl : k = 8 := by omega
      rw [show blk 16 (laidB v 8) = blk 16 (unum v) from blk_congr fun i _ => by unfold laidB; rw [if_pos (by omega)]] at HR
      have hC := HR.out
      (have HC := Lib.hid hC
       have sos := hC.below.os
       obtain ⟨⟨r1, f1, i1, b1, l1⟩, ⟨r2, f2, i2, b2, l2⟩, ⟨r3, f3, i3, b3, l3⟩, m12, m21, m13, m31, m23, m32⟩ := St.facts3 hC
       clear hC)
      go_wp2_with fail
      refine bodyPost_ret (results_row rfl _ (w.heap.size + 1) rfl (blk 16 (unum v)) ?_ ?_ ?_ ?_) rfl ⟨rfl, ?_⟩
      · simp [go_sem, *]
      · simp [go_sem]
      · simp [go_sem]
      · simp [go_sem, *]
      · exact below_setRow' HR.out.below (by omega) _
end Go.Proofs.Ytepooocdpifcfaa
