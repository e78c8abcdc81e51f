/- A ring held against the reference's list of keys (Like). Rings of no more than six keys. -/
import Derived.Test.YtgaecjhghpkcoaaGreatRefParse
namespace Go.Proofs.YtgaecjhghpkcoaaGreat
open Go.RowKit
attribute [local go_sem] B_xor B_or B_and
attribute [local go_sem] blk_set blk_size blk_get blk_getE upd_same oneCells_blk paste_blk cut_blk szOf
attribute [local go_sem high] paste_all cut_head
attribute [local go_sem] rowAt_alloc rowAt_drew rowAt_drewN isRow_alloc isRow_drew isRow_drewN freeRow_alloc freeRow_end freeRow_drew freeRow_drewN
attribute [local go_sem] setRow_alloc setRow_drew setRow_drewN setCell_drewN alloc_drewN rowAt_put isRow_setRow freeRow_put
attribute [local go_sem ↓] loadS_in storeS_in indexS_in copyS_in
attribute [local go_sem] loadS_row loadS_one storeS_row storeS_one indexS_blk copyS_rows run_equalIn_blk same_refl arrayAt_row
attribute [local go_sem] cell_row frozen_row st_setCell st_blk_ne stepAt stepUpon
attribute [local go_sem high] run_eql_blk run_neq_blk
attribute [local go_sem ↓] convBS_in
attribute [local go_sem] convBS_row convBS_nil allBytes_blk bytesOf_blk
attribute [local go_sem] rg_size rg_get0 rg_getE0 rg_ne rg_set0 rg_one rg_cut rg_key rg_put rg_paste part_rg0 part_rg1

theorem cut_at16 (c u : Nat) (F : Nat → UInt8) (h : u * 16 + 16 ≤ c * 16) : cut (blk (c * 16) F) (u * 16) (u * 16 + 16) = blk 16 fun j => F (u * 16 + j) := by
  rw [cut_blk _ _ _ _ h, Nat.add_sub_cancel_left]
set_option maxRecDepth 100000 in
set_option maxHeartbeats 4000000 in
theorem like_any (v : Value) (n : Nat) (f : Nat → UInt8) (h : n ≤ 6) (w : World) (hv : Keys16 w v n f) : Calls Tryz.prog 34 #[.agg (rg n f), v] w fun e w' => e = .returned (.bool true) ∧ Below w.heap.size w w' := by
  have hz := zero16
  have n6 : (n : Int) ≤ 6 := by omega
  have n0 : ((n : Int) != (n : Int)) = false := by simp
  have HV := Lib.hid hv
  obtain ⟨a, c, rfl⟩ := hv.form
  clear hv
  have HC := Lib.hid ((St.nil w).pushA (rg n f) 44 rfl)
  go_enter Tryz.func34, Tryz.ntmps34
  go_wp2_with fail
  refine (term_any n f _).mono ?_; rintro e w1 ⟨rfl, hw⟩
  have HC := Lib.hid (HC.out.call hw)
  clear hw
  go_wp2_with fail
  go_loopw [5] (fun i wr => ∃ t : Int, -1 ≤ t ∧ t ≤ (n : Int) + 2 ∧ i = .int .i64 t ∧ Hid (St w [(w.heap.size, rg n f)] wr)) (fun i _ => ((n : Int) + 2 - intOf i).toNat)
  case atStart => exact ⟨-1, by omega, by omega, rfl, HC⟩
  case round =>
    clear HC
    obtain ⟨t, ht1, ht2, rfl, HJ⟩ := hrel
    by_cases hlt : t ≤ (n : Int) + 1
    · by_cases hin : 1 ≤ t ∧ t ≤ (n : Int)
      · obtain ⟨T, u, rfl, hTu⟩ : ∃ T u : Nat, t = (T : Int) ∧ T = u + 1 := ⟨t.toNat, t.toNat - 1, by omega, by omega⟩
        have HT := Lib.hid hTu
        have t1 : (1 : Int) ≤ (T : Int) := by omega
        have t2 : (T : Int) ≤ (n : Int) := by omega
        have v1 : (T : Int) - 1 = (u : Int) := by omega
        have v2 : IntKind.i64.wrap ((T : Int) - 1) = (u : Int) := by rw [IntWalk.i64_in _ (by omega)]; exact v1
        have v3 : u < n := by omega
        have v4 : IntKind.i64.wrap (u : Int) = (u : Int) := IntWalk.i64_in _ (by omega)
        have v5 : (u : Int) < (n : Int) := by omega
        obtain ⟨g0, F0, rfl, q1, q2, q3, q4, q5⟩ := HV.out.open (by omega)
        have Q := Lib.hid (And.intro q2 (And.intro q3 q4))
        have b1 : u * 16 + 16 ≤ c * 16 := by omega
        have hcut := cut_at16 c u F0 b1
        have hs : same 16 (keyB f u) (fun j => F0 (u * 16 + j)) = true := (same_iff _ _ _).2 fun i hi => by
          unfold keyB
          exact (q5 _ (by omega)).symm
        clear q1 q2 q3 q4 q5 hTu hin
        have hC := HJ.out
        (have HC := Lib.hid hC
         have sos := hC.below.os
         obtain ⟨r1, f1, i1, b1, l1⟩ := St.facts1 hC
         clear hC)
        go_wp2_with fail
        (clear r1 f1 i1 b1 l1 sos)
        refine (key_yes n f T u HT.out (by omega) h _).mono ?_; rintro e w2 ⟨rfl, hw⟩
        have HC := Lib.hid (HJ.out.call hw)
        clear hw
        go_wp2_with fail
        have HC := Lib.hid (HC.out.push (blk 16 (keyB f u)) 41)
        generalize w2.alloc (Obj.cells (blk 16 (keyB f u)) 41) = w3 at HC ⊢
        generalize w2.heap.size = q at HC ⊢
        refine St.region HC.out (by kernel_rfl) (by decide +kernel) ?_
        (first
           | (apply head_skip rfl)
           | (apply head_step_g rfl
              focus
                intro w0 hC
                (exact neq_quiet 41 rfl rfl rfl Tryz.eqGuardType41 Tryz.underlying41 (by simp [go_sem]) (by simp [go_sem]) (by with_reducible assumption)))
           | (apply head_step_g rfl
              focus
                intro w0 hC
                have hC' := Lib.hid hC
                have r0 := (below_rowAt hC.below Q.out.1).trans Q.out.2.1
                have i0 := (below_isRow hC.below Q.out.1).trans Q.out.2.2
                obtain ⟨⟨r1, f1, i1, b1, l1⟩, ⟨r2, f2, i2, b2, l2⟩, m12, m21⟩ := St.facts2 hC
                clear hC
                go_simp
                with_reducible rfl)
         try simp only [Act.put, List.setIfInBounds_toArray, List.set])
        (first
           | (apply head_skip rfl)
           | (apply head_step_g rfl
              focus
                intro w0 hC
                (exact neq_quiet 41 rfl rfl rfl Tryz.eqGuardType41 Tryz.underlying41 (by simp [go_sem]) (by simp [go_sem]) (by with_reducible assumption)))
           | (apply head_step_g rfl
              focus
                intro w0 hC
                have hC' := Lib.hid hC
                have r0 := (below_rowAt hC.below Q.out.1).trans Q.out.2.1
                have i0 := (below_isRow hC.below Q.out.1).trans Q.out.2.2
                obtain ⟨⟨r1, f1, i1, b1, l1⟩, ⟨r2, f2, i2, b2, l2⟩, m12, m21⟩ := St.facts2 hC
                clear hC
                go_simp
                with_reducible rfl)
         try simp only [Act.put, List.setIfInBounds_toArray, List.set])
        (first
           | (apply head_skip rfl)
           | (apply head_step_g rfl
              focus
                intro w0 hC
                (exact neq_quiet 41 rfl rfl rfl Tryz.eqGuardType41 Tryz.underlying41 (by simp [go_sem]) (by simp [go_sem]) (by with_reducible assumption)))
           | (apply head_step_g rfl
              focus
                intro w0 hC
                have hC' := Lib.hid hC
                have r0 := (below_rowAt hC.below Q.out.1).trans Q.out.2.1
                have i0 := (below_isRow hC.below Q.out.1).trans Q.out.2.2
                obtain ⟨⟨r1, f1, i1, b1, l1⟩, ⟨r2, f2, i2, b2, l2⟩, m12, m21⟩ := St.facts2 hC
                clear hC
                go_simp
                with_reducible rfl)
         try simp only [Act.put, List.setIfInBounds_toArray, List.set])
        (first
           | (apply head_skip rfl)
           | (apply head_step_g rfl
              focus
                intro w0 hC
                (exact neq_quiet 41 rfl rfl rfl Tryz.eqGuardType41 Tryz.underlying41 (by simp [go_sem]) (by simp [go_sem]) (by with_reducible assumption)))
           | (apply head_step_g rfl
              focus
                intro w0 hC
                have hC' := Lib.hid hC
                have r0 := (below_rowAt hC.below Q.out.1).trans Q.out.2.1
                have i0 := (below_isRow hC.below Q.out.1).trans Q.out.2.2
                obtain ⟨⟨r1, f1, i1, b1, l1⟩, ⟨r2, f2, i2, b2, l2⟩, m12, m21⟩ := St.facts2 hC
                clear hC
                go_simp
                with_reducible rfl)
         try simp only [Act.put, List.setIfInBounds_toArray, List.set])
        (first
           | (apply head_skip rfl)
           | (apply head_step_g rfl
              focus
                intro w0 hC
                (exact neq_quiet 41 rfl rfl rfl Tryz.eqGuardType41 Tryz.underlying41 (by simp [go_sem]) (by simp [go_sem]) (by with_reducible assumption)))
           | (apply head_step_g rfl
              focus
                intro w0 hC
                have hC' := Lib.hid hC
                have r0 := (below_rowAt hC.below Q.out.1).trans Q.out.2.1
                have i0 := (below_isRow hC.below Q.out.1).trans Q.out.2.2
                obtain ⟨⟨r1, f1, i1, b1, l1⟩, ⟨r2, f2, i2, b2, l2⟩, m12, m21⟩ := St.facts2 hC
                clear hC
                go_simp
                with_reducible rfl)
         try simp only [Act.put, List.setIfInBounds_toArray, List.set])
        (first
           | (apply head_skip rfl)
           | (apply head_step_g rfl
              focus
                intro w0 hC
                (exact neq_quiet 41 rfl rfl rfl Tryz.eqGuardType41 Tryz.underlying41 (by simp [go_sem]) (by simp [go_sem]) (by with_reducible assumption)))
           | (apply head_step_g rfl
              focus
                intro w0 hC
                have hC' := Lib.hid hC
                have r0 := (below_rowAt hC.below Q.out.1).trans Q.out.2.1
                have i0 := (below_isRow hC.below Q.out.1).trans Q.out.2.2
                obtain ⟨⟨r1, f1, i1, b1, l1⟩, ⟨r2, f2, i2, b2, l2⟩, m12, m21⟩ := St.facts2 hC
                clear hC
                go_simp
                with_reducible rfl)
         try simp only [Act.put, List.setIfInBounds_toArray, List.set])
        (first
           | (apply head_skip rfl)
           | (apply head_step_g rfl
              focus
                intro w0 hC
                (exact neq_quiet 41 rfl rfl rfl Tryz.eqGuardType41 Tryz.underlying41 (by simp [go_sem]) (by simp [go_sem]) (by with_reducible assumption)))
           | (apply head_step_g rfl
              focus
                intro w0 hC
                have hC' := Lib.hid hC
                have r0 := (below_rowAt hC.below Q.out.1).trans Q.out.2.1
                have i0 := (below_isRow hC.below Q.out.1).trans Q.out.2.2
                obtain ⟨⟨r1, f1, i1, b1, l1⟩, ⟨r2, f2, i2, b2, l2⟩, m12, m21⟩ := St.facts2 hC
                clear hC
                go_simp
                with_reducible rfl)
         try simp only [Act.put, List.setIfInBounds_toArray, List.set])
        (first
           | (apply head_skip rfl)
           | (apply head_step_g rfl
              focus
                intro w0 hC
                (exact neq_quiet 41 rfl rfl rfl Tryz.eqGuardType41 Tryz.underlying41 (by simp [go_sem]) (by simp [go_sem]) (by with_reducible assumption)))
           | (apply head_step_g rfl
              focus
                intro w0 hC
                have hC' := Lib.hid hC
                have r0 := (below_rowAt hC.below Q.out.1).trans Q.out.2.1
                have i0 := (below_isRow hC.below Q.out.1).trans Q.out.2.2
                obtain ⟨⟨r1, f1, i1, b1, l1⟩, ⟨r2, f2, i2, b2, l2⟩, m12, m21⟩ := St.facts2 hC
                clear hC
                go_simp
                with_reducible rfl)
         try simp only [Act.put, List.setIfInBounds_toArray, List.set])
        (first
           | (apply head_skip rfl)
           | (apply head_step_g rfl
              focus
                intro w0 hC
                (exact neq_quiet 41 rfl rfl rfl Tryz.eqGuardType41 Tryz.underlying41 (by simp [go_sem]) (by simp [go_sem]) (by with_reducible assumption)))
           | (apply head_step_g rfl
              focus
                intro w0 hC
                have hC' := Lib.hid hC
                have r0 := (below_rowAt hC.below Q.out.1).trans Q.out.2.1
                have i0 := (below_isRow hC.below Q.out.1).trans Q.out.2.2
                obtain ⟨⟨r1, f1, i1, b1, l1⟩, ⟨r2, f2, i2, b2, l2⟩, m12, m21⟩ := St.facts2 hC
                clear hC
                go_simp
                with_reducible rfl)
         try simp only [Act.put, List.setIfInBounds_toArray, List.set])
        (first
           | (apply head_skip rfl)
           | (apply head_step_g rfl
              focus
                intro w0 hC
                (exact neq_quiet 41 rfl rfl rfl Tryz.eqGuardType41 Tryz.underlying41 (by simp [go_sem]) (by simp [go_sem]) (by with_reducible assumption)))
           | (apply head_step_g rfl
              focus
                intro w0 hC
                have hC' := Lib.hid hC
                have r0 := (below_rowAt hC.below Q.out.1).trans Q.out.2.1
                have i0 := (below_isRow hC.below Q.out.1).trans Q.out.2.2
                obtain ⟨⟨r1, f1, i1, b1, l1⟩, ⟨r2, f2, i2, b2, l2⟩, m12, m21⟩ := St.facts2 hC
                clear hC
                go_simp
                with_reducible rfl)
         try simp only [Act.put, List.setIfInBounds_toArray, List.set])
        (first
           | (apply head_skip rfl)
           | (apply head_step_g rfl
              focus
                intro w0 hC
                (exact neq_quiet 41 rfl rfl rfl Tryz.eqGuardType41 Tryz.underlying41 (by simp [go_sem]) (by simp [go_sem]) (by with_reducible assumption)))
           | (apply head_step_g rfl
              focus
                intro w0 hC
                have hC' := Lib.hid hC
                have r0 := (below_rowAt hC.below Q.out.1).trans Q.out.2.1
                have i0 := (below_isRow hC.below Q.out.1).trans Q.out.2.2
                obtain ⟨⟨r1, f1, i1, b1, l1⟩, ⟨r2, f2, i2, b2, l2⟩, m12, m21⟩ := St.facts2 hC
                clear hC
                go_simp
                with_reducible rfl)
         try simp only [Act.put, List.setIfInBounds_toArray, List.set])
        refine wpQuiet_nil ?_
        intro w4 hC
        have HC := Lib.hid hC.tail
        clear hC
        go_wp2_with fail
        go_roundw
        case rel => exact ⟨(T : Int) + 1, by omega, by omega, by go_num, HC⟩
        case measure => simp [intOf]; omega
      · have hs : same 16 (fun _ => 0) (fun _ => 0) = true := same_refl _ _
        have HS := Lib.hid hs
        have hno : t < 1 ∨ 6 < t ∨ (n : Int) < t := by omega
        have HN := Lib.hid hno
        have hC := HJ.out
        have hd : (decide (1 ≤ t) && decide (t ≤ (n : Int))) = false := by
          rw [Bool.and_eq_false_iff, decide_eq_false_iff_not, decide_eq_false_iff_not]; omega
        clear hno
        by_cases h1 : 1 ≤ t
        · have h2 : decide (t ≤ (n : Int)) = false := decide_eq_false (by omega)
          clear hin hd
          (have HC := Lib.hid hC
           have sos := hC.below.os
           obtain ⟨r1, f1, i1, b1, l1⟩ := St.facts1 hC
           clear hC)
          go_wp2_with fail
          (clear r1 f1 i1 b1 l1 sos)
          refine (key_no n f t HN.out _).mono ?_; rintro e w2 ⟨rfl, hw⟩
          have HC := Lib.hid (HJ.out.call hw)
          clear hw
          go_wp2_with fail
          go_roundw
          case rel => exact ⟨t + 1, by omega, by omega, by go_num, Lib.hid (HC.out.skip _)⟩
          case measure => simp [intOf]; omega
        · have h2 : decide (1 ≤ t) = false := decide_eq_false (by omega)
          clear hin hd
          (have HC := Lib.hid hC
           have sos := hC.below.os
           obtain ⟨r1, f1, i1, b1, l1⟩ := St.facts1 hC
           clear hC)
          go_wp2_with fail
          (clear r1 f1 i1 b1 l1 sos)
          refine (key_no n f t HN.out _).mono ?_; rintro e w2 ⟨rfl, hw⟩
          have HC := Lib.hid (HJ.out.call hw)
          clear hw
          go_wp2_with fail
          go_roundw
          case rel => exact ⟨t + 1, by omega, by omega, by go_num, Lib.hid (HC.out.skip _)⟩
          case measure => simp [intOf]; omega
    · obtain rfl : t = (n : Int) + 2 := by omega
      have hC := HJ.out
      (have HC := Lib.hid hC
       have sos := hC.below.os
       obtain ⟨r1, f1, i1, b1, l1⟩ := St.facts1 hC
       clear hC)
      go_wp2_with fail
      (clear r1 f1 i1 b1 l1 sos)
      refine (text_any n f h _).mono ?_; rintro e w2 ⟨rfl, hw⟩
      have HC := Lib.hid (HJ.out.call hw)
      clear hw
      go_wp2_with fail
      refine (refText_any _ n f h _ (HV.out.call HC.out.below)).mono ?_; rintro e w3 ⟨rfl, hw⟩
      have HC := Lib.hid (HC.out.call hw)
      have hss := text_same (strOf (1 + n * 16) (ringB n f))
      clear hw
      go_wp2_with fail
      go_ret
      exact ⟨rfl, HC.out.below⟩
end Go.Proofs.YtgaecjhghpkcoaaGreat
