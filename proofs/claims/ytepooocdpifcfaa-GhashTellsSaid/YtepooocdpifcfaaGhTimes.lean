/- The product of two blocks, as the program reckons it. No condition. -/
import Derived.Test.YtepooocdpifcfaaGhLoad
namespace Go.Proofs.Ytepooocdpifcfaa
open Go.RowKit
attribute [local go_sem] B_xor B_or B_and
attribute [local go_sem] blk_set blk_size blk_get blk_getE upd_same oneCells_blk paste_blk cut_blk szOf
attribute [local go_sem high] paste_all cut_head
attribute [local go_sem] rowAt_alloc rowAt_drew rowAt_drewN isRow_alloc isRow_drew isRow_drewN freeRow_alloc freeRow_end freeRow_drew freeRow_drewN
attribute [local go_sem] setRow_alloc setRow_drew setRow_drewN setCell_drewN alloc_drewN rowAt_put isRow_setRow freeRow_put
attribute [local go_sem ↓] loadS_in storeS_in indexS_in copyS_in
attribute [local go_sem] loadS_row loadS_one storeS_row storeS_one indexS_blk copyS_rows run_equalIn_blk same_refl arrayAt_row
attribute [local go_sem] cell_row frozen_row st_setCell st_blk_ne stepAt stepUpon
attribute [local go_sem high] run_eql_blk run_neq_blk
attribute [local go_sem] U_xor U_or U_and U_and1 U_tail U_neg U_half U_shr U_shl8 U_shl63 U_of U_to pr_size pr_get0 pr_get1 pr_getE0 pr_getE1 pr_set0 pr_set1 pr_ne oneCells_pr paste_pr cut_pr
attribute [local go_sem] wide_size wide_get0 wide_get1 wide_getE0 wide_getE1 wide_ne oneCells_wide paste_wide cut_wide
attribute [local go_sem] size_wide agg_wide wide_build

section
variable {P : Program} {w : World}
theorem indexS_pr0 (t : TypeId) (a b : Int) (hu : P.underlying t = some (.array 2 (P.elem t))) (hs : (sizeOf (P.elem t)).run P w = .ok 1 w) (ha : (isAgg (P.elem t)).run P w = .ok false w) :
    (indexS t (.agg (pr a b)) (.int .i64 0)).run P w = .ok (.int .u64 a) w := by
  simp [indexS, Instr.index, asIntOf, Sem.run_bind, run_underlying hu, part, hs, ha, pr]
theorem indexS_pr1 (t : TypeId) (a b : Int) (hu : P.underlying t = some (.array 2 (P.elem t))) (hs : (sizeOf (P.elem t)).run P w = .ok 1 w) (ha : (isAgg (P.elem t)).run P w = .ok false w) :
    (indexS t (.agg (pr a b)) (.int .i64 1)).run P w = .ok (.int .u64 b) w := by
  simp [indexS, Instr.index, asIntOf, Sem.run_bind, run_underlying hu, part, hs, ha, pr]
end
attribute [local go_sem] indexS_pr0 indexS_pr1
/-- half k of a block -/
def halfU (v k : Nat) : UInt64 := if k = 0 then hiU v else loU v
/-- which coefficient comes next -/
def at64 (k m : Nat) : Nat := 64 * k + m
theorem half_bit {v : Nat} (hv : Gh.Ok v) (k m : Nat) (hk : k < 2) (hm : m < 64) : halfU v k >>> UInt64.ofNat (63 - m) &&& 1 = if v.testBit (127 - at64 k m) = true then 1 else 0 := by
  have e : (halfU v k).toNat.testBit (63 - m) = v.testBit (127 - at64 k m) := by
    unfold halfU at64
    by_cases h : k = 0
    · subst h
      rw [if_pos rfl, hi_bit hv]
      congr 1; omega
    · obtain rfl : k = 1 := by omega
      rw [if_neg (by decide), lo_bit' v _ (by omega)]
      congr 1; omega
  apply UInt64.toNat_inj.1
  rw [UInt64.toNat_and, UInt64.toNat_shiftRight, UInt64.toNat_ofNat_of_lt' (by have : UInt64.size = 18446744073709551616 := rfl; omega), show (63 - m) % 64 = 63 - m from Nat.mod_eq_of_lt (by omega), ← e]
  show (halfU v k).toNat >>> (63 - m) &&& 1 = _
  rw [Nat.and_one_is_mod, Nat.testBit_eq_decide_div_mod_eq, Nat.shiftRight_eq_div_pow]
  by_cases h : (halfU v k).toNat / 2 ^ (63 - m) % 2 = 1
  · simp [h]
  · have h0 : (halfU v k).toNat / 2 ^ (63 - m) % 2 = 0 := by omega
    simp [h0]

theorem at64_on (k m : Nat) : at64 k (m + 1) = at64 k m + 1 := rfl
theorem at64_end (k : Nat) : at64 k 64 = at64 (k + 1) 0 := by unfold at64; omega
theorem wide_0 : wide 0 = pr 0 0 := by
  unfold wide
  rw [hi_zero, lo_zero]; rfl
theorem plus_step (x v M : Nat) (hx : Gh.Ok x) (b : UInt64) (hb : Hid (b = if v.testBit (127 - M) = true then 1 else 0)) (w : World) : Calls Try.prog 42 #[.agg (wide (Gh.tm x v M)), .agg (wide (Gh.dblN M x)), .int .u64 (U b)] w fun e w' => e = .returned (.agg (wide (Gh.tm x v (M + 1)))) ∧ Below w.heap.size w w' :=
  plus_any _ _ (Gh.tm_lt hx v _) (Gh.dblN_lt hx _) _ _ hb.out w
set_option maxRecDepth 100000 in
set_option maxHeartbeats 1000000 in
theorem times_any (x v : Nat) (hx : Gh.Ok x) (hv : Gh.Ok v) (w : World) : Calls Try.prog 38 #[.agg (wide x), .agg (wide v)] w fun e w' => e = .returned (.agg (wide (Gh.mul x v))) ∧ Below w.heap.size w w' := by
  have hz := pr_zero
  go_enter Try.func38, Try.ntmps38
  go_wp2_with fail
  go_loopw [14] (fun i wr => ∃ k : Nat, k ≤ 2 ∧ i = .int .i64 (k : Int) ∧ Hid (St w [(w.heap.size + 1 + 1 + 1, wide (Gh.tm x v (at64 k 0))), (w.heap.size + 1 + 1, pr 0 0), (w.heap.size + 1, wide v), (w.heap.size, wide (Gh.dblN (at64 k 0) x))] wr)) (fun i _ => 2 - (intOf i).toNat)
  case atStart =>
    refine ⟨0, by omega, rfl, Lib.hid ?_⟩
    show St w [(w.heap.size + 1 + 1 + 1, wide 0), (w.heap.size + 1 + 1, pr 0 0), (w.heap.size + 1, wide v), (w.heap.size, wide x)] _
    rw [wide_0]
    exact ((((St.nil w).pushA _ _ rfl).pushA _ _ (by simp)).pushA _ _ (by simp)).pushA _ _ (by simp)
  case round =>
    obtain ⟨k, hk, rfl, HR⟩ := hrel
    by_cases hlt : k < 2
    · have e1 : (k : Int) < 2 := by omega
      have hidx : ∀ w, (indexS 85 (.agg (wide v)) (.int .i64 (k : Int))).run Try.prog w = .ok (.int .u64 (U (halfU v k))) w := fun w => by
        have h2 : k = 0 ∨ k = 1 := by omega
        rcases h2 with rfl | rfl
        · exact indexS_pr0 _ _ _ (by simp [go_sem]) (by simp [go_sem]) (by simp [go_sem])
        · exact indexS_pr1 _ _ _ (by simp [go_sem]) (by simp [go_sem]) (by simp [go_sem])
      go_wp2_with fail
      clear hidx
      go_loopw [8] (fun i wr => ∃ n : Nat, n ≤ 64 ∧ i = .int .i64 ((n : Int) - 1) ∧ Hid (St w [(w.heap.size + 1 + 1 + 1, wide (Gh.tm x v (at64 k (64 - n)))), (w.heap.size + 1 + 1, pr 0 0), (w.heap.size + 1, wide v), (w.heap.size, wide (Gh.dblN (at64 k (64 - n)) x))] wr)) (fun i _ => (intOf i + 1).toNat)
      case atStart => exact ⟨64, by omega, rfl, HR⟩
      case round =>
        clear HR
        obtain ⟨n, hn, rfl, HJ⟩ := hrel
        cases n with
        | zero =>
          have hJ := HJ.out
          rw [Nat.sub_zero, at64_end] at hJ
          go_wp2_with fail
          exact ⟨⟨k + 1, by omega, by go_num, Lib.hid hJ⟩, by simp [intOf]; omega⟩
        | succ n =>
          rw [show (((n + 1 : Nat) : Int) - 1) = (n : Int) by omega]
          have e2 : n < 64 := by omega
          have e3 : (n : Int) ≤ 64 := by omega
          have e5 : (0 : Int) ≤ (n : Int) := by omega
          have v1 : IntKind.i64.wrap ((n : Int) - 1) = (n : Int) - 1 := IntWalk.i64_in _ (by omega)
          have hhb := half_bit hv k (64 - (n + 1)) hlt (by omega)
          rw [show 63 - (64 - (n + 1)) = n by omega] at hhb
          replace hhb := Lib.hid hhb
          have hend : at64 k (64 - n) = at64 k (64 - (n + 1)) + 1 := by unfold at64; omega
          generalize hM : at64 k (64 - (n + 1)) = M at HJ hhb hend
          clear hM
          go_wp2_with fail
          refine St.region_tail 7 HJ.out (by kernel_rfl) (by decide +kernel) ?_
          (simp only [List.take, List.drop])
          (first
             | (apply head_skip rfl)
             | (apply head_step_g rfl
                focus
                  intro w0 hC
                  (fail))
             | (apply head_step_g rfl
                focus
                  intro w0 hC
                  have hC' := Lib.hid hC
                  obtain ⟨⟨r1, f1, i1, b1, l1⟩, ⟨r2, f2, i2, b2, l2⟩, ⟨r3, f3, i3, b3, l3⟩, ⟨r4, f4, i4, b4, l4⟩, m12, m21, m13, m31, m14, m41, m23, m32, m24, m42, m34, m43⟩ := St.facts4 hC
                  clear hC
                  go_simp
                  have hC := hC'.out
                  (first
                     | with_reducible rfl
                     | (skip
                        (refine (plus_step x v M hx _ hhb _).mono ?_)
                        rintro e w' ⟨rfl, hw⟩
                        exact ⟨rfl, St.call (by assumption) hw⟩)))
           try simp only [Act.put, List.setIfInBounds_toArray, List.set])
          (first
             | (apply head_skip rfl)
             | (apply head_step_g rfl
                focus
                  intro w0 hC
                  (fail))
             | (apply head_step_g rfl
                focus
                  intro w0 hC
                  have hC' := Lib.hid hC
                  obtain ⟨⟨r1, f1, i1, b1, l1⟩, ⟨r2, f2, i2, b2, l2⟩, ⟨r3, f3, i3, b3, l3⟩, ⟨r4, f4, i4, b4, l4⟩, m12, m21, m13, m31, m14, m41, m23, m32, m24, m42, m34, m43⟩ := St.facts4 hC
                  clear hC
                  go_simp
                  have hC := hC'.out
                  (first
                     | with_reducible rfl
                     | (skip
                        (refine (plus_step x v M hx _ hhb _).mono ?_)
                        rintro e w' ⟨rfl, hw⟩
                        exact ⟨rfl, St.call (by assumption) hw⟩)))
           try simp only [Act.put, List.setIfInBounds_toArray, List.set])
          (first
             | (apply head_skip rfl)
             | (apply head_step_g rfl
                focus
                  intro w0 hC
                  (fail))
             | (apply head_step_g rfl
                focus
                  intro w0 hC
                  have hC' := Lib.hid hC
                  obtain ⟨⟨r1, f1, i1, b1, l1⟩, ⟨r2, f2, i2, b2, l2⟩, ⟨r3, f3, i3, b3, l3⟩, ⟨r4, f4, i4, b4, l4⟩, m12, m21, m13, m31, m14, m41, m23, m32, m24, m42, m34, m43⟩ := St.facts4 hC
                  clear hC
                  go_simp
                  have hC := hC'.out
                  (first
                     | with_reducible rfl
                     | (skip
                        (refine (plus_step x v M hx _ hhb _).mono ?_)
                        rintro e w' ⟨rfl, hw⟩
                        exact ⟨rfl, St.call (by assumption) hw⟩)))
           try simp only [Act.put, List.setIfInBounds_toArray, List.set])
          (first
             | (apply head_skip rfl)
             | (apply head_step_g rfl
                focus
                  intro w0 hC
                  (fail))
             | (apply head_step_g rfl
                focus
                  intro w0 hC
                  have hC' := Lib.hid hC
                  obtain ⟨⟨r1, f1, i1, b1, l1⟩, ⟨r2, f2, i2, b2, l2⟩, ⟨r3, f3, i3, b3, l3⟩, ⟨r4, f4, i4, b4, l4⟩, m12, m21, m13, m31, m14, m41, m23, m32, m24, m42, m34, m43⟩ := St.facts4 hC
                  clear hC
                  go_simp
                  have hC := hC'.out
                  (first
                     | with_reducible rfl
                     | (skip
                        (refine (plus_step x v M hx _ hhb _).mono ?_)
                        rintro e w' ⟨rfl, hw⟩
                        exact ⟨rfl, St.call (by assumption) hw⟩)))
           try simp only [Act.put, List.setIfInBounds_toArray, List.set])
          (first
             | (apply head_skip rfl)
             | (apply head_step_g rfl
                focus
                  intro w0 hC
                  (fail))
             | (apply head_step_g rfl
                focus
                  intro w0 hC
                  have hC' := Lib.hid hC
                  obtain ⟨⟨r1, f1, i1, b1, l1⟩, ⟨r2, f2, i2, b2, l2⟩, ⟨r3, f3, i3, b3, l3⟩, ⟨r4, f4, i4, b4, l4⟩, m12, m21, m13, m31, m14, m41, m23, m32, m24, m42, m34, m43⟩ := St.facts4 hC
                  clear hC
                  go_simp
                  have hC := hC'.out
                  (first
                     | with_reducible rfl
                     | (skip
                        (refine (plus_step x v M hx _ hhb _).mono ?_)
                        rintro e w' ⟨rfl, hw⟩
                        exact ⟨rfl, St.call (by assumption) hw⟩)))
           try simp only [Act.put, List.setIfInBounds_toArray, List.set])
          (first
             | (apply head_skip rfl)
             | (apply head_step_g rfl
                focus
                  intro w0 hC
                  (fail))
             | (apply head_step_g rfl
                focus
                  intro w0 hC
                  have hC' := Lib.hid hC
                  obtain ⟨⟨r1, f1, i1, b1, l1⟩, ⟨r2, f2, i2, b2, l2⟩, ⟨r3, f3, i3, b3, l3⟩, ⟨r4, f4, i4, b4, l4⟩, m12, m21, m13, m31, m14, m41, m23, m32, m24, m42, m34, m43⟩ := St.facts4 hC
                  clear hC
                  go_simp
                  have hC := hC'.out
                  (first
                     | with_reducible rfl
                     | (skip
                        (refine (plus_step x v M hx _ hhb _).mono ?_)
                        rintro e w' ⟨rfl, hw⟩
                        exact ⟨rfl, St.call (by assumption) hw⟩)))
           try simp only [Act.put, List.setIfInBounds_toArray, List.set])
          (first
             | (apply head_skip rfl)
             | (apply head_step_g rfl
                focus
                  intro w0 hC
                  (fail))
             | (apply head_step_g rfl
                focus
                  intro w0 hC
                  have hC' := Lib.hid hC
                  obtain ⟨⟨r1, f1, i1, b1, l1⟩, ⟨r2, f2, i2, b2, l2⟩, ⟨r3, f3, i3, b3, l3⟩, ⟨r4, f4, i4, b4, l4⟩, m12, m21, m13, m31, m14, m41, m23, m32, m24, m42, m34, m43⟩ := St.facts4 hC
                  clear hC
                  go_simp
                  have hC := hC'.out
                  (first
                     | with_reducible rfl
                     | (skip
                        (refine (plus_step x v M hx _ hhb _).mono ?_)
                        rintro e w' ⟨rfl, hw⟩
                        exact ⟨rfl, St.call (by assumption) hw⟩)))
           try simp only [Act.put, List.setIfInBounds_toArray, List.set])
          refine wpQuiet_nil ?_
          intro w1 hC
          clear hhb
          (have HC := Lib.hid hC
           have sos := hC.below.os
           obtain ⟨⟨r1, f1, i1, b1, l1⟩, ⟨r2, f2, i2, b2, l2⟩, ⟨r3, f3, i3, b3, l3⟩, ⟨r4, f4, i4, b4, l4⟩, m12, m21, m13, m31, m14, m41, m23, m32, m24, m42, m34, m43⟩ := St.facts4 hC
           clear hC)
          go_wp2_with fail
          have HC := Lib.hid (HC.out.set_head (wide (Gh.tm x v (M + 1))))
          (clear r1 f1 i1 b1 l1 r2 f2 i2 b2 l2 r3 f3 i3 b3 l3 r4 f4 i4 b4 l4 m12 m21 m13 m31 m14 m41 m23 m32 m24 m42 m34 m43 sos)
          refine (double_any _ (Gh.dblN_lt hx M) _).mono ?_; rintro e w3 ⟨rfl, hw⟩
          have HC := Lib.hid (HC.out.call hw)
          clear hw
          have hC := HC.out
          (have HC := Lib.hid hC
           have sos := hC.below.os
           obtain ⟨⟨r1, f1, i1, b1, l1⟩, ⟨r2, f2, i2, b2, l2⟩, ⟨r3, f3, i3, b3, l3⟩, ⟨r4, f4, i4, b4, l4⟩, m12, m21, m13, m31, m14, m41, m23, m32, m24, m42, m34, m43⟩ := St.facts4 hC
           clear hC)
          go_wp2_with fail
          have HC := Lib.hid (HC.out.set w.heap.size (wide (Gh.dblN (M + 1) x)) (by simp) (by rw [r4, wide_size, wide_size]))
          simp only [setL, m14, m24, m34, if_false, if_true] at HC
          refine ⟨⟨n, by omega, rfl, ?_⟩, by simp [intOf]⟩
          rw [hend]; exact HC
    · obtain rfl : k = 2 := by omega
      have hC := HR.out
      have hend : Gh.tm x v (at64 2 0) = Gh.mul x v := rfl
      rw [hend] at hC
      have HR := Lib.hid hC
      (have HC := Lib.hid hC
       have sos := hC.below.os
       obtain ⟨⟨r1, f1, i1, b1, l1⟩, ⟨r2, f2, i2, b2, l2⟩, ⟨r3, f3, i3, b3, l3⟩, ⟨r4, f4, i4, b4, l4⟩, m12, m21, m13, m31, m14, m41, m23, m32, m24, m42, m34, m43⟩ := St.facts4 hC
       clear hC)
      go_wp2_with fail
      refine bodyPost_ret (results_row rfl _ (w.heap.size + 1 + 1) rfl (wide (Gh.mul x v)) ?_ ?_ ?_ ?_) rfl ⟨rfl, ?_⟩
      · simp [go_sem, *]; rfl
      · simp [go_sem]
      · simp [go_sem]
      · simp [go_sem, *]
      · exact below_setRow' HR.out.below (by omega) _
end Go.Proofs.Ytepooocdpifcfaa
