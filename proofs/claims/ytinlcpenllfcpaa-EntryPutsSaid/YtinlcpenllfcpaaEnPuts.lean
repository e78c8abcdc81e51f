/- EntryPuts: the walk. -/
import Derived.Test.YtinlcpenllfcpaaEnAwake
import Derived.Test.YtinlcpenllfcpaaEnRefPut
namespace Go.Proofs.Ytinlcpenllfcpaa
open Go.RowKit
attribute [local go_sem] B_xor B_or B_and
attribute [local go_sem] blk_set blk_size blk_get blk_getE upd_same oneCells_blk paste_blk cut_blk szOf
attribute [local go_sem high] paste_all cut_head
attribute [local go_sem] rowAt_alloc rowAt_drew rowAt_drewN isRow_alloc isRow_drew isRow_drewN freeRow_alloc freeRow_end freeRow_drew freeRow_drewN
attribute [local go_sem] setRow_alloc setRow_drew setRow_drewN setCell_drewN alloc_drewN rowAt_put isRow_setRow freeRow_put
attribute [local go_sem ↓] loadS_in storeS_in indexS_in copyS_in
attribute [local go_sem] loadS_row loadS_one storeS_row storeS_one indexS_blk copyS_rows run_equalIn_blk same_refl arrayAt_row
attribute [local go_sem] cell_row frozen_row st_setCell st_blk_ne stepAt stepUpon
attribute [local go_sem high] run_eql_blk run_neq_blk
attribute [local go_sem ↓] convBS_in
attribute [local go_sem] convBS_row convBS_nil allBytes_blk bytesOf_blk
attribute [local go_sem] ndC_size ndC_get0 ndC_get1 ndC_get2 ndC_get3 ndC_get4 ndC_getE0 ndC_getE1 ndC_getE2 ndC_getE3 ndC_getE4 ndC_ne ndC_one ndC_cut ndC_paste ndC_set0 ndC_set1 ndC_set2 ndC_set3 ndC_set4 size_nd agg_nd
set_option maxRecDepth 100000 in
set_option maxHeartbeats 400000 in
theorem entryPuts_walk (x : Nd) (c : NdC) (w : World) (h : NodeAt w c x) : Calls Try.prog 3 #[.agg (ndC c)] w fun e w' => e = .returned (.bool true) ∧ Below w.heap.size w w' := by
  have HC := Lib.hid ((St.nil w).pushA (ndC c) 26 rfl)
  have HX := Lib.hid (fun w' (hb : Below w.heap.size w w') => over_any x c w' (h.call hb (Nat.le_refl _)))
  by_cases ho : 150 < ovN x 0 150
  · have HO := Lib.hid (fun w' hb => HX.out w' hb true (decide_eq_true ho))
    clear HX h ho
    go_enter Try.func3, Try.ntmps3
    (obtain ⟨r1, f1, i1, b1, l1⟩ := St.facts1 (HC.out.pick [0] (by decide) rfl))
    go_wp2_with fail
    (clear r1 f1 i1 b1 l1)
    refine (HO.out _ HC.out.below).mono ?_; rintro e w2 ⟨rfl, hw⟩
    have HC := Lib.hid (HC.out.call hw)
    clear hw
    go_wp2_with fail
    refine (awake10_any _).mono ?_; rintro e w9 ⟨rfl, hw⟩
    have HC := Lib.hid (HC.out.call hw)
    clear hw
    go_wp2_with fail
    go_ret
    exact ⟨rfl, HC.out.below⟩
  · have HO := Lib.hid (fun w' hb => HX.out w' hb false (decide_eq_false ho))
    obtain ⟨sm, _, hcnt⟩ := small_of x 0 150 (Nat.le_refl _) (by omega)
    have hlen : (ndPut x).length ≤ 2 ^ 30 := by have := ndPut_len x sm; omega
    have HW := Lib.hid (fun w' (hb : Below w.heap.size w w') => own10_any x sm c w' (h.call hb (Nat.le_refl _)))
    have HR := Lib.hid (fun w' (hb : Below w.heap.size w w') => refCheck_any x c 0 (by omega) w' (h.call hb (Nat.le_refl _)))
    have HM := Lib.hid (fun (hc : ndChk x 0 = 0) w' (hb : Below w.heap.size w w') => refPut_any x sm 0 hc hlen c w' (h.call hb (Nat.le_refl _)))
    have HP := Lib.hid (fun w' v (hv : AnyAt w' v x) => put10_any x sm hlen v w' hv)
    have HK := Lib.hid (fun w' v (hv : AnyAt w' v x) => checkTop_any x v w' hv)
    obtain ⟨C, hC⟩ : ∃ C, ndChk x 0 = C := ⟨_, rfl⟩
    rw [hC] at HR HM HP HK
    clear HX h ho hcnt sm hlen hC
    go_enter Try.func3, Try.ntmps3
    (obtain ⟨r1, f1, i1, b1, l1⟩ := St.facts1 (HC.out.pick [0] (by decide) rfl))
    go_wp2_with fail
    (clear r1 f1 i1 b1 l1)
    refine (HO.out _ HC.out.below).mono ?_; rintro e w2 ⟨rfl, hw⟩
    have HC := Lib.hid (HC.out.call hw)
    clear hw HO
    (obtain ⟨r1, f1, i1, b1, l1⟩ := St.facts1 (HC.out.pick [0] (by decide) rfl))
    go_wp2_with fail
    (clear r1 f1 i1 b1 l1)
    refine (HW.out _ HC.out.below).mono ?_; rintro e w3 ⟨v, L', rfl, hv, hL⟩
    have HV := Lib.hid (hv.at hL)
    have HC := Lib.hid (HC.out.call hL.below)
    clear hv hL HW
    go_wp2_with fail
    refine (HP.out _ _ HV.out).mono ?_; rintro e w4 ⟨bv, E, rfl, hp⟩
    cases hp with
    | bad hne h1 h2 hw =>
      subst h1 h2
      have HV := Lib.hid (HV.out.call hw (Nat.le_refl _))
      have HC := Lib.hid (HC.out.call hw)
      have d1 : ((E : Int) != 0) = true := by rw [bne_iff_ne]; omega
      clear hw HP
      (obtain ⟨r1, f1, i1, b1, l1⟩ := St.facts1 (HC.out.pick [0] (by decide) rfl))
      go_wp2_with fail
      (clear r1 f1 i1 b1 l1)
      refine (HR.out _ HC.out.below).mono ?_; rintro e w5 ⟨rfl, hw⟩
      have HV := Lib.hid (HV.out.call hw (Nat.le_refl _))
      have HC := Lib.hid (HC.out.call hw)
      clear hw
      go_wp2_with fail
      refine (HK.out _ _ HV.out).mono ?_; rintro e w6 ⟨rfl, hw⟩
      have HC := Lib.hid (HC.out.call hw)
      clear hw
      go_upto_region 8 with fail
      refine St.qregion HC.out (by kernel_rfl) (by decide +kernel) ?_
      (first
         | (apply qw_skip rfl)
         | (apply qw_step rfl
            focus
              intro w0 hC
              (fail))
         | (apply qw_step rfl
            focus
              intro w0 hC
              have hC' := Lib.hid hC
              obtain ⟨r1, f1, i1, b1, l1⟩ := St.facts1 hC
              clear hC
              go_simp
              have hC := hC'.out
              (first
                 | with_reducible rfl
                 | (skip
                    (first
                       | (go_at_call 9; refine (awake10_any _).mono ?_)
                       | (go_at_call 14; refine (HM2.out _ hC.below).mono ?_))
                    rintro e w' ⟨rfl, hw⟩
                    exact ⟨rfl, St.call (by assumption) hw⟩)))
       try simp only [Act.put, List.setIfInBounds_toArray, List.set])
      (first
         | (apply qw_skip rfl)
         | (apply qw_step rfl
            focus
              intro w0 hC
              (fail))
         | (apply qw_step rfl
            focus
              intro w0 hC
              have hC' := Lib.hid hC
              obtain ⟨r1, f1, i1, b1, l1⟩ := St.facts1 hC
              clear hC
              go_simp
              have hC := hC'.out
              (first
                 | with_reducible rfl
                 | (skip
                    (first
                       | (go_at_call 9; refine (awake10_any _).mono ?_)
                       | (go_at_call 14; refine (HM2.out _ hC.below).mono ?_))
                    rintro e w' ⟨rfl, hw⟩
                    exact ⟨rfl, St.call (by assumption) hw⟩)))
       try simp only [Act.put, List.setIfInBounds_toArray, List.set])
      (first
         | (apply qw_skip rfl)
         | (apply qw_step rfl
            focus
              intro w0 hC
              (fail))
         | (apply qw_step rfl
            focus
              intro w0 hC
              have hC' := Lib.hid hC
              obtain ⟨r1, f1, i1, b1, l1⟩ := St.facts1 hC
              clear hC
              go_simp
              have hC := hC'.out
              (first
                 | with_reducible rfl
                 | (skip
                    (first
                       | (go_at_call 9; refine (awake10_any _).mono ?_)
                       | (go_at_call 14; refine (HM2.out _ hC.below).mono ?_))
                    rintro e w' ⟨rfl, hw⟩
                    exact ⟨rfl, St.call (by assumption) hw⟩)))
       try simp only [Act.put, List.setIfInBounds_toArray, List.set])
      (first
         | (apply qw_skip rfl)
         | (apply qw_step rfl
            focus
              intro w0 hC
              (fail))
         | (apply qw_step rfl
            focus
              intro w0 hC
              have hC' := Lib.hid hC
              obtain ⟨r1, f1, i1, b1, l1⟩ := St.facts1 hC
              clear hC
              go_simp
              have hC := hC'.out
              (first
                 | with_reducible rfl
                 | (skip
                    (first
                       | (go_at_call 9; refine (awake10_any _).mono ?_)
                       | (go_at_call 14; refine (HM2.out _ hC.below).mono ?_))
                    rintro e w' ⟨rfl, hw⟩
                    exact ⟨rfl, St.call (by assumption) hw⟩)))
       try simp only [Act.put, List.setIfInBounds_toArray, List.set])
      (first
         | (apply qw_skip rfl)
         | (apply qw_step rfl
            focus
              intro w0 hC
              (fail))
         | (apply qw_step rfl
            focus
              intro w0 hC
              have hC' := Lib.hid hC
              obtain ⟨r1, f1, i1, b1, l1⟩ := St.facts1 hC
              clear hC
              go_simp
              have hC := hC'.out
              (first
                 | with_reducible rfl
                 | (skip
                    (first
                       | (go_at_call 9; refine (awake10_any _).mono ?_)
                       | (go_at_call 14; refine (HM2.out _ hC.below).mono ?_))
                    rintro e w' ⟨rfl, hw⟩
                    exact ⟨rfl, St.call (by assumption) hw⟩)))
       try simp only [Act.put, List.setIfInBounds_toArray, List.set])
      (first
         | (apply qw_skip rfl)
         | (apply qw_step rfl
            focus
              intro w0 hC
              (fail))
         | (apply qw_step rfl
            focus
              intro w0 hC
              have hC' := Lib.hid hC
              obtain ⟨r1, f1, i1, b1, l1⟩ := St.facts1 hC
              clear hC
              go_simp
              have hC := hC'.out
              (first
                 | with_reducible rfl
                 | (skip
                    (first
                       | (go_at_call 9; refine (awake10_any _).mono ?_)
                       | (go_at_call 14; refine (HM2.out _ hC.below).mono ?_))
                    rintro e w' ⟨rfl, hw⟩
                    exact ⟨rfl, St.call (by assumption) hw⟩)))
       try simp only [Act.put, List.setIfInBounds_toArray, List.set])
      (first
         | (apply qw_skip rfl)
         | (apply qw_step rfl
            focus
              intro w0 hC
              (fail))
         | (apply qw_step rfl
            focus
              intro w0 hC
              have hC' := Lib.hid hC
              obtain ⟨r1, f1, i1, b1, l1⟩ := St.facts1 hC
              clear hC
              go_simp
              have hC := hC'.out
              (first
                 | with_reducible rfl
                 | (skip
                    (first
                       | (go_at_call 9; refine (awake10_any _).mono ?_)
                       | (go_at_call 14; refine (HM2.out _ hC.below).mono ?_))
                    rintro e w' ⟨rfl, hw⟩
                    exact ⟨rfl, St.call (by assumption) hw⟩)))
       try simp only [Act.put, List.setIfInBounds_toArray, List.set])
      (first
         | (apply qw_skip rfl)
         | (apply qw_step rfl
            focus
              intro w0 hC
              (fail))
         | (apply qw_step rfl
            focus
              intro w0 hC
              have hC' := Lib.hid hC
              obtain ⟨r1, f1, i1, b1, l1⟩ := St.facts1 hC
              clear hC
              go_simp
              have hC := hC'.out
              (first
                 | with_reducible rfl
                 | (skip
                    (first
                       | (go_at_call 9; refine (awake10_any _).mono ?_)
                       | (go_at_call 14; refine (HM2.out _ hC.below).mono ?_))
                    rintro e w' ⟨rfl, hw⟩
                    exact ⟨rfl, St.call (by assumption) hw⟩)))
       try simp only [Act.put, List.setIfInBounds_toArray, List.set])
      (first
         | (apply qw_skip rfl)
         | (apply qw_step rfl
            focus
              intro w0 hC
              (fail))
         | (apply qw_step rfl
            focus
              intro w0 hC
              have hC' := Lib.hid hC
              obtain ⟨r1, f1, i1, b1, l1⟩ := St.facts1 hC
              clear hC
              go_simp
              have hC := hC'.out
              (first
                 | with_reducible rfl
                 | (skip
                    (first
                       | (go_at_call 9; refine (awake10_any _).mono ?_)
                       | (go_at_call 14; refine (HM2.out _ hC.below).mono ?_))
                    rintro e w' ⟨rfl, hw⟩
                    exact ⟨rfl, St.call (by assumption) hw⟩)))
       try simp only [Act.put, List.setIfInBounds_toArray, List.set])
      (first
         | (apply qw_skip rfl)
         | (apply qw_step rfl
            focus
              intro w0 hC
              (fail))
         | (apply qw_step rfl
            focus
              intro w0 hC
              have hC' := Lib.hid hC
              obtain ⟨r1, f1, i1, b1, l1⟩ := St.facts1 hC
              clear hC
              go_simp
              have hC := hC'.out
              (first
                 | with_reducible rfl
                 | (skip
                    (first
                       | (go_at_call 9; refine (awake10_any _).mono ?_)
                       | (go_at_call 14; refine (HM2.out _ hC.below).mono ?_))
                    rintro e w' ⟨rfl, hw⟩
                    exact ⟨rfl, St.call (by assumption) hw⟩)))
       try simp only [Act.put, List.setIfInBounds_toArray, List.set])
      (first
         | (apply qw_skip rfl)
         | (apply qw_step rfl
            focus
              intro w0 hC
              (fail))
         | (apply qw_step rfl
            focus
              intro w0 hC
              have hC' := Lib.hid hC
              obtain ⟨r1, f1, i1, b1, l1⟩ := St.facts1 hC
              clear hC
              go_simp
              have hC := hC'.out
              (first
                 | with_reducible rfl
                 | (skip
                    (first
                       | (go_at_call 9; refine (awake10_any _).mono ?_)
                       | (go_at_call 14; refine (HM2.out _ hC.below).mono ?_))
                    rintro e w' ⟨rfl, hw⟩
                    exact ⟨rfl, St.call (by assumption) hw⟩)))
       try simp only [Act.put, List.setIfInBounds_toArray, List.set])
      (first
         | (apply qw_skip rfl)
         | (apply qw_step rfl
            focus
              intro w0 hC
              (fail))
         | (apply qw_step rfl
            focus
              intro w0 hC
              have hC' := Lib.hid hC
              obtain ⟨r1, f1, i1, b1, l1⟩ := St.facts1 hC
              clear hC
              go_simp
              have hC := hC'.out
              (first
                 | with_reducible rfl
                 | (skip
                    (first
                       | (go_at_call 9; refine (awake10_any _).mono ?_)
                       | (go_at_call 14; refine (HM2.out _ hC.below).mono ?_))
                    rintro e w' ⟨rfl, hw⟩
                    exact ⟨rfl, St.call (by assumption) hw⟩)))
       try simp only [Act.put, List.setIfInBounds_toArray, List.set])
      (first
         | (apply qw_skip rfl)
         | (apply qw_step rfl
            focus
              intro w0 hC
              (fail))
         | (apply qw_step rfl
            focus
              intro w0 hC
              have hC' := Lib.hid hC
              obtain ⟨r1, f1, i1, b1, l1⟩ := St.facts1 hC
              clear hC
              go_simp
              have hC := hC'.out
              (first
                 | with_reducible rfl
                 | (skip
                    (first
                       | (go_at_call 9; refine (awake10_any _).mono ?_)
                       | (go_at_call 14; refine (HM2.out _ hC.below).mono ?_))
                    rintro e w' ⟨rfl, hw⟩
                    exact ⟨rfl, St.call (by assumption) hw⟩)))
       try simp only [Act.put, List.setIfInBounds_toArray, List.set])
      (first
         | (apply qw_skip rfl)
         | (apply qw_step rfl
            focus
              intro w0 hC
              (fail))
         | (apply qw_step rfl
            focus
              intro w0 hC
              have hC' := Lib.hid hC
              obtain ⟨r1, f1, i1, b1, l1⟩ := St.facts1 hC
              clear hC
              go_simp
              have hC := hC'.out
              (first
                 | with_reducible rfl
                 | (skip
                    (first
                       | (go_at_call 9; refine (awake10_any _).mono ?_)
                       | (go_at_call 14; refine (HM2.out _ hC.below).mono ?_))
                    rintro e w' ⟨rfl, hw⟩
                    exact ⟨rfl, St.call (by assumption) hw⟩)))
       try simp only [Act.put, List.setIfInBounds_toArray, List.set])
      (first
         | (apply qw_skip rfl)
         | (apply qw_step rfl
            focus
              intro w0 hC
              (fail))
         | (apply qw_step rfl
            focus
              intro w0 hC
              have hC' := Lib.hid hC
              obtain ⟨r1, f1, i1, b1, l1⟩ := St.facts1 hC
              clear hC
              go_simp
              have hC := hC'.out
              (first
                 | with_reducible rfl
                 | (skip
                    (first
                       | (go_at_call 9; refine (awake10_any _).mono ?_)
                       | (go_at_call 14; refine (HM2.out _ hC.below).mono ?_))
                    rintro e w' ⟨rfl, hw⟩
                    exact ⟨rfl, St.call (by assumption) hw⟩)))
       try simp only [Act.put, List.setIfInBounds_toArray, List.set])
      (first
         | (apply qw_skip rfl)
         | (apply qw_step rfl
            focus
              intro w0 hC
              (fail))
         | (apply qw_step rfl
            focus
              intro w0 hC
              have hC' := Lib.hid hC
              obtain ⟨r1, f1, i1, b1, l1⟩ := St.facts1 hC
              clear hC
              go_simp
              have hC := hC'.out
              (first
                 | with_reducible rfl
                 | (skip
                    (first
                       | (go_at_call 9; refine (awake10_any _).mono ?_)
                       | (go_at_call 14; refine (HM2.out _ hC.below).mono ?_))
                    rintro e w' ⟨rfl, hw⟩
                    exact ⟨rfl, St.call (by assumption) hw⟩)))
       try simp only [Act.put, List.setIfInBounds_toArray, List.set])
      (first
         | (apply qw_skip rfl)
         | (apply qw_step rfl
            focus
              intro w0 hC
              (fail))
         | (apply qw_step rfl
            focus
              intro w0 hC
              have hC' := Lib.hid hC
              obtain ⟨r1, f1, i1, b1, l1⟩ := St.facts1 hC
              clear hC
              go_simp
              have hC := hC'.out
              (first
                 | with_reducible rfl
                 | (skip
                    (first
                       | (go_at_call 9; refine (awake10_any _).mono ?_)
                       | (go_at_call 14; refine (HM2.out _ hC.below).mono ?_))
                    rintro e w' ⟨rfl, hw⟩
                    exact ⟨rfl, St.call (by assumption) hw⟩)))
       try simp only [Act.put, List.setIfInBounds_toArray, List.set])
      (first
         | (apply qw_skip rfl)
         | (apply qw_step rfl
            focus
              intro w0 hC
              (fail))
         | (apply qw_step rfl
            focus
              intro w0 hC
              have hC' := Lib.hid hC
              obtain ⟨r1, f1, i1, b1, l1⟩ := St.facts1 hC
              clear hC
              go_simp
              have hC := hC'.out
              (first
                 | with_reducible rfl
                 | (skip
                    (first
                       | (go_at_call 9; refine (awake10_any _).mono ?_)
                       | (go_at_call 14; refine (HM2.out _ hC.below).mono ?_))
                    rintro e w' ⟨rfl, hw⟩
                    exact ⟨rfl, St.call (by assumption) hw⟩)))
       try simp only [Act.put, List.setIfInBounds_toArray, List.set])
      (first
         | (apply qw_skip rfl)
         | (apply qw_step rfl
            focus
              intro w0 hC
              (fail))
         | (apply qw_step rfl
            focus
              intro w0 hC
              have hC' := Lib.hid hC
              obtain ⟨r1, f1, i1, b1, l1⟩ := St.facts1 hC
              clear hC
              go_simp
              have hC := hC'.out
              (first
                 | with_reducible rfl
                 | (skip
                    (first
                       | (go_at_call 9; refine (awake10_any _).mono ?_)
                       | (go_at_call 14; refine (HM2.out _ hC.below).mono ?_))
                    rintro e w' ⟨rfl, hw⟩
                    exact ⟨rfl, St.call (by assumption) hw⟩)))
       try simp only [Act.put, List.setIfInBounds_toArray, List.set])
      (first
         | (apply qw_skip rfl)
         | (apply qw_step rfl
            focus
              intro w0 hC
              (fail))
         | (apply qw_step rfl
            focus
              intro w0 hC
              have hC' := Lib.hid hC
              obtain ⟨r1, f1, i1, b1, l1⟩ := St.facts1 hC
              clear hC
              go_simp
              have hC := hC'.out
              (first
                 | with_reducible rfl
                 | (skip
                    (first
                       | (go_at_call 9; refine (awake10_any _).mono ?_)
                       | (go_at_call 14; refine (HM2.out _ hC.below).mono ?_))
                    rintro e w' ⟨rfl, hw⟩
                    exact ⟨rfl, St.call (by assumption) hw⟩)))
       try simp only [Act.put, List.setIfInBounds_toArray, List.set])
      (first
         | (apply qw_skip rfl)
         | (apply qw_step rfl
            focus
              intro w0 hC
              (fail))
         | (apply qw_step rfl
            focus
              intro w0 hC
              have hC' := Lib.hid hC
              obtain ⟨r1, f1, i1, b1, l1⟩ := St.facts1 hC
              clear hC
              go_simp
              have hC := hC'.out
              (first
                 | with_reducible rfl
                 | (skip
                    (first
                       | (go_at_call 9; refine (awake10_any _).mono ?_)
                       | (go_at_call 14; refine (HM2.out _ hC.below).mono ?_))
                    rintro e w' ⟨rfl, hw⟩
                    exact ⟨rfl, St.call (by assumption) hw⟩)))
       try simp only [Act.put, List.setIfInBounds_toArray, List.set])
      (first
         | (apply qw_skip rfl)
         | (apply qw_step rfl
            focus
              intro w0 hC
              (fail))
         | (apply qw_step rfl
            focus
              intro w0 hC
              have hC' := Lib.hid hC
              obtain ⟨r1, f1, i1, b1, l1⟩ := St.facts1 hC
              clear hC
              go_simp
              have hC := hC'.out
              (first
                 | with_reducible rfl
                 | (skip
                    (first
                       | (go_at_call 9; refine (awake10_any _).mono ?_)
                       | (go_at_call 14; refine (HM2.out _ hC.below).mono ?_))
                    rintro e w' ⟨rfl, hw⟩
                    exact ⟨rfl, St.call (by assumption) hw⟩)))
       try simp only [Act.put, List.setIfInBounds_toArray, List.set])
      refine qw_nil ?_
      intro w7 hC
      have HC := Lib.hid hC
      clear hC
      go_wp2_with fail
      go_ret
      exact ⟨rfl, HC.out.below⟩
    | ok hc0 g c1 F h1 h2 hc hF hS =>
      subst h1 h2 hc0
      have HV := Lib.hid (HV.out.call hS.below (Nat.le_refl _))
      have HC := Lib.hid (HC.out.joins hS)
      have hs1 : strOf (ndPut x).length F = strL (ndPut x) := strOf_strL rfl hF
      have HM2 := Lib.hid (fun w' hb => HM.out rfl w' hb)
      clear HM
      obtain ⟨N, hN⟩ : ∃ N, (ndPut x).length = N := ⟨_, rfl⟩
      rw [hN] at hc hs1 ⊢
      generalize strL (ndPut x) = T at hs1 HM2
      clear hF hS HP hN
      have HQ := Lib.hid (HC.out.pick [1] (by decide) rfl)
      obtain ⟨r1, f1, i1, b1, l1⟩ := St.facts1 HQ.out
      go_wp2_with fail
      clear r1 f1 i1 b1 l1 HQ
      refine (HR.out _ HC.out.below).mono ?_; rintro e w5 ⟨rfl, hw⟩
      have HV := Lib.hid (HV.out.call hw (Nat.le_refl _))
      have HC := Lib.hid (HC.out.call hw)
      clear hw
      go_wp2_with fail
      refine (HK.out _ _ HV.out).mono ?_; rintro e w6 ⟨rfl, hw⟩
      have HC := Lib.hid (HC.out.call hw)
      clear hw
      go_upto_region 8 with fail
      refine St.qregion HC.out (by kernel_rfl) (by decide +kernel) ?_
      (first
         | (apply qw_skip rfl)
         | (apply qw_step rfl
            focus
              intro w0 hC
              (fail))
         | (apply qw_step rfl
            focus
              intro w0 hC
              have hC' := Lib.hid hC
              obtain ⟨⟨r1, f1, i1, b1, l1⟩, ⟨r2, f2, i2, b2, l2⟩, m12, m21⟩ := St.facts2 hC
              clear hC
              go_simp
              have hC := hC'.out
              (first
                 | with_reducible rfl
                 | (skip
                    (first
                       | (go_at_call 9; refine (awake10_any _).mono ?_)
                       | (go_at_call 14; refine (HM2.out _ hC.below).mono ?_))
                    rintro e w' ⟨rfl, hw⟩
                    exact ⟨rfl, St.call (by assumption) hw⟩)))
       try simp only [Act.put, List.setIfInBounds_toArray, List.set])
      (first
         | (apply qw_skip rfl)
         | (apply qw_step rfl
            focus
              intro w0 hC
              (fail))
         | (apply qw_step rfl
            focus
              intro w0 hC
              have hC' := Lib.hid hC
              obtain ⟨⟨r1, f1, i1, b1, l1⟩, ⟨r2, f2, i2, b2, l2⟩, m12, m21⟩ := St.facts2 hC
              clear hC
              go_simp
              have hC := hC'.out
              (first
                 | with_reducible rfl
                 | (skip
                    (first
                       | (go_at_call 9; refine (awake10_any _).mono ?_)
                       | (go_at_call 14; refine (HM2.out _ hC.below).mono ?_))
                    rintro e w' ⟨rfl, hw⟩
                    exact ⟨rfl, St.call (by assumption) hw⟩)))
       try simp only [Act.put, List.setIfInBounds_toArray, List.set])
      (first
         | (apply qw_skip rfl)
         | (apply qw_step rfl
            focus
              intro w0 hC
              (fail))
         | (apply qw_step rfl
            focus
              intro w0 hC
              have hC' := Lib.hid hC
              obtain ⟨⟨r1, f1, i1, b1, l1⟩, ⟨r2, f2, i2, b2, l2⟩, m12, m21⟩ := St.facts2 hC
              clear hC
              go_simp
              have hC := hC'.out
              (first
                 | with_reducible rfl
                 | (skip
                    (first
                       | (go_at_call 9; refine (awake10_any _).mono ?_)
                       | (go_at_call 14; refine (HM2.out _ hC.below).mono ?_))
                    rintro e w' ⟨rfl, hw⟩
                    exact ⟨rfl, St.call (by assumption) hw⟩)))
       try simp only [Act.put, List.setIfInBounds_toArray, List.set])
      (first
         | (apply qw_skip rfl)
         | (apply qw_step rfl
            focus
              intro w0 hC
              (fail))
         | (apply qw_step rfl
            focus
              intro w0 hC
              have hC' := Lib.hid hC
              obtain ⟨⟨r1, f1, i1, b1, l1⟩, ⟨r2, f2, i2, b2, l2⟩, m12, m21⟩ := St.facts2 hC
              clear hC
              go_simp
              have hC := hC'.out
              (first
                 | with_reducible rfl
                 | (skip
                    (first
                       | (go_at_call 9; refine (awake10_any _).mono ?_)
                       | (go_at_call 14; refine (HM2.out _ hC.below).mono ?_))
                    rintro e w' ⟨rfl, hw⟩
                    exact ⟨rfl, St.call (by assumption) hw⟩)))
       try simp only [Act.put, List.setIfInBounds_toArray, List.set])
      (first
         | (apply qw_skip rfl)
         | (apply qw_step rfl
            focus
              intro w0 hC
              (fail))
         | (apply qw_step rfl
            focus
              intro w0 hC
              have hC' := Lib.hid hC
              obtain ⟨⟨r1, f1, i1, b1, l1⟩, ⟨r2, f2, i2, b2, l2⟩, m12, m21⟩ := St.facts2 hC
              clear hC
              go_simp
              have hC := hC'.out
              (first
                 | with_reducible rfl
                 | (skip
                    (first
                       | (go_at_call 9; refine (awake10_any _).mono ?_)
                       | (go_at_call 14; refine (HM2.out _ hC.below).mono ?_))
                    rintro e w' ⟨rfl, hw⟩
                    exact ⟨rfl, St.call (by assumption) hw⟩)))
       try simp only [Act.put, List.setIfInBounds_toArray, List.set])
      (first
         | (apply qw_skip rfl)
         | (apply qw_step rfl
            focus
              intro w0 hC
              (fail))
         | (apply qw_step rfl
            focus
              intro w0 hC
              have hC' := Lib.hid hC
              obtain ⟨⟨r1, f1, i1, b1, l1⟩, ⟨r2, f2, i2, b2, l2⟩, m12, m21⟩ := St.facts2 hC
              clear hC
              go_simp
              have hC := hC'.out
              (first
                 | with_reducible rfl
                 | (skip
                    (first
                       | (go_at_call 9; refine (awake10_any _).mono ?_)
                       | (go_at_call 14; refine (HM2.out _ hC.below).mono ?_))
                    rintro e w' ⟨rfl, hw⟩
                    exact ⟨rfl, St.call (by assumption) hw⟩)))
       try simp only [Act.put, List.setIfInBounds_toArray, List.set])
      (first
         | (apply qw_skip rfl)
         | (apply qw_step rfl
            focus
              intro w0 hC
              (fail))
         | (apply qw_step rfl
            focus
              intro w0 hC
              have hC' := Lib.hid hC
              obtain ⟨⟨r1, f1, i1, b1, l1⟩, ⟨r2, f2, i2, b2, l2⟩, m12, m21⟩ := St.facts2 hC
              clear hC
              go_simp
              have hC := hC'.out
              (first
                 | with_reducible rfl
                 | (skip
                    (first
                       | (go_at_call 9; refine (awake10_any _).mono ?_)
                       | (go_at_call 14; refine (HM2.out _ hC.below).mono ?_))
                    rintro e w' ⟨rfl, hw⟩
                    exact ⟨rfl, St.call (by assumption) hw⟩)))
       try simp only [Act.put, List.setIfInBounds_toArray, List.set])
      (first
         | (apply qw_skip rfl)
         | (apply qw_step rfl
            focus
              intro w0 hC
              (fail))
         | (apply qw_step rfl
            focus
              intro w0 hC
              have hC' := Lib.hid hC
              obtain ⟨⟨r1, f1, i1, b1, l1⟩, ⟨r2, f2, i2, b2, l2⟩, m12, m21⟩ := St.facts2 hC
              clear hC
              go_simp
              have hC := hC'.out
              (first
                 | with_reducible rfl
                 | (skip
                    (first
                       | (go_at_call 9; refine (awake10_any _).mono ?_)
                       | (go_at_call 14; refine (HM2.out _ hC.below).mono ?_))
                    rintro e w' ⟨rfl, hw⟩
                    exact ⟨rfl, St.call (by assumption) hw⟩)))
       try simp only [Act.put, List.setIfInBounds_toArray, List.set])
      (first
         | (apply qw_skip rfl)
         | (apply qw_step rfl
            focus
              intro w0 hC
              (fail))
         | (apply qw_step rfl
            focus
              intro w0 hC
              have hC' := Lib.hid hC
              obtain ⟨⟨r1, f1, i1, b1, l1⟩, ⟨r2, f2, i2, b2, l2⟩, m12, m21⟩ := St.facts2 hC
              clear hC
              go_simp
              have hC := hC'.out
              (first
                 | with_reducible rfl
                 | (skip
                    (first
                       | (go_at_call 9; refine (awake10_any _).mono ?_)
                       | (go_at_call 14; refine (HM2.out _ hC.below).mono ?_))
                    rintro e w' ⟨rfl, hw⟩
                    exact ⟨rfl, St.call (by assumption) hw⟩)))
       try simp only [Act.put, List.setIfInBounds_toArray, List.set])
      (first
         | (apply qw_skip rfl)
         | (apply qw_step rfl
            focus
              intro w0 hC
              (fail))
         | (apply qw_step rfl
            focus
              intro w0 hC
              have hC' := Lib.hid hC
              obtain ⟨⟨r1, f1, i1, b1, l1⟩, ⟨r2, f2, i2, b2, l2⟩, m12, m21⟩ := St.facts2 hC
              clear hC
              go_simp
              have hC := hC'.out
              (first
                 | with_reducible rfl
                 | (skip
                    (first
                       | (go_at_call 9; refine (awake10_any _).mono ?_)
                       | (go_at_call 14; refine (HM2.out _ hC.below).mono ?_))
                    rintro e w' ⟨rfl, hw⟩
                    exact ⟨rfl, St.call (by assumption) hw⟩)))
       try simp only [Act.put, List.setIfInBounds_toArray, List.set])
      (first
         | (apply qw_skip rfl)
         | (apply qw_step rfl
            focus
              intro w0 hC
              (fail))
         | (apply qw_step rfl
            focus
              intro w0 hC
              have hC' := Lib.hid hC
              obtain ⟨⟨r1, f1, i1, b1, l1⟩, ⟨r2, f2, i2, b2, l2⟩, m12, m21⟩ := St.facts2 hC
              clear hC
              go_simp
              have hC := hC'.out
              (first
                 | with_reducible rfl
                 | (skip
                    (first
                       | (go_at_call 9; refine (awake10_any _).mono ?_)
                       | (go_at_call 14; refine (HM2.out _ hC.below).mono ?_))
                    rintro e w' ⟨rfl, hw⟩
                    exact ⟨rfl, St.call (by assumption) hw⟩)))
       try simp only [Act.put, List.setIfInBounds_toArray, List.set])
      (first
         | (apply qw_skip rfl)
         | (apply qw_step rfl
            focus
              intro w0 hC
              (fail))
         | (apply qw_step rfl
            focus
              intro w0 hC
              have hC' := Lib.hid hC
              obtain ⟨⟨r1, f1, i1, b1, l1⟩, ⟨r2, f2, i2, b2, l2⟩, m12, m21⟩ := St.facts2 hC
              clear hC
              go_simp
              have hC := hC'.out
              (first
                 | with_reducible rfl
                 | (skip
                    (first
                       | (go_at_call 9; refine (awake10_any _).mono ?_)
                       | (go_at_call 14; refine (HM2.out _ hC.below).mono ?_))
                    rintro e w' ⟨rfl, hw⟩
                    exact ⟨rfl, St.call (by assumption) hw⟩)))
       try simp only [Act.put, List.setIfInBounds_toArray, List.set])
      (first
         | (apply qw_skip rfl)
         | (apply qw_step rfl
            focus
              intro w0 hC
              (fail))
         | (apply qw_step rfl
            focus
              intro w0 hC
              have hC' := Lib.hid hC
              obtain ⟨⟨r1, f1, i1, b1, l1⟩, ⟨r2, f2, i2, b2, l2⟩, m12, m21⟩ := St.facts2 hC
              clear hC
              go_simp
              have hC := hC'.out
              (first
                 | with_reducible rfl
                 | (skip
                    (first
                       | (go_at_call 9; refine (awake10_any _).mono ?_)
                       | (go_at_call 14; refine (HM2.out _ hC.below).mono ?_))
                    rintro e w' ⟨rfl, hw⟩
                    exact ⟨rfl, St.call (by assumption) hw⟩)))
       try simp only [Act.put, List.setIfInBounds_toArray, List.set])
      (first
         | (apply qw_skip rfl)
         | (apply qw_step rfl
            focus
              intro w0 hC
              (fail))
         | (apply qw_step rfl
            focus
              intro w0 hC
              have hC' := Lib.hid hC
              obtain ⟨⟨r1, f1, i1, b1, l1⟩, ⟨r2, f2, i2, b2, l2⟩, m12, m21⟩ := St.facts2 hC
              clear hC
              go_simp
              have hC := hC'.out
              (first
                 | with_reducible rfl
                 | (skip
                    (first
                       | (go_at_call 9; refine (awake10_any _).mono ?_)
                       | (go_at_call 14; refine (HM2.out _ hC.below).mono ?_))
                    rintro e w' ⟨rfl, hw⟩
                    exact ⟨rfl, St.call (by assumption) hw⟩)))
       try simp only [Act.put, List.setIfInBounds_toArray, List.set])
      (first
         | (apply qw_skip rfl)
         | (apply qw_step rfl
            focus
              intro w0 hC
              (fail))
         | (apply qw_step rfl
            focus
              intro w0 hC
              have hC' := Lib.hid hC
              obtain ⟨⟨r1, f1, i1, b1, l1⟩, ⟨r2, f2, i2, b2, l2⟩, m12, m21⟩ := St.facts2 hC
              clear hC
              go_simp
              have hC := hC'.out
              (first
                 | with_reducible rfl
                 | (skip
                    (first
                       | (go_at_call 9; refine (awake10_any _).mono ?_)
                       | (go_at_call 14; refine (HM2.out _ hC.below).mono ?_))
                    rintro e w' ⟨rfl, hw⟩
                    exact ⟨rfl, St.call (by assumption) hw⟩)))
       try simp only [Act.put, List.setIfInBounds_toArray, List.set])
      (first
         | (apply qw_skip rfl)
         | (apply qw_step rfl
            focus
              intro w0 hC
              (fail))
         | (apply qw_step rfl
            focus
              intro w0 hC
              have hC' := Lib.hid hC
              obtain ⟨⟨r1, f1, i1, b1, l1⟩, ⟨r2, f2, i2, b2, l2⟩, m12, m21⟩ := St.facts2 hC
              clear hC
              go_simp
              have hC := hC'.out
              (first
                 | with_reducible rfl
                 | (skip
                    (first
                       | (go_at_call 9; refine (awake10_any _).mono ?_)
                       | (go_at_call 14; refine (HM2.out _ hC.below).mono ?_))
                    rintro e w' ⟨rfl, hw⟩
                    exact ⟨rfl, St.call (by assumption) hw⟩)))
       try simp only [Act.put, List.setIfInBounds_toArray, List.set])
      (first
         | (apply qw_skip rfl)
         | (apply qw_step rfl
            focus
              intro w0 hC
              (fail))
         | (apply qw_step rfl
            focus
              intro w0 hC
              have hC' := Lib.hid hC
              obtain ⟨⟨r1, f1, i1, b1, l1⟩, ⟨r2, f2, i2, b2, l2⟩, m12, m21⟩ := St.facts2 hC
              clear hC
              go_simp
              have hC := hC'.out
              (first
                 | with_reducible rfl
                 | (skip
                    (first
                       | (go_at_call 9; refine (awake10_any _).mono ?_)
                       | (go_at_call 14; refine (HM2.out _ hC.below).mono ?_))
                    rintro e w' ⟨rfl, hw⟩
                    exact ⟨rfl, St.call (by assumption) hw⟩)))
       try simp only [Act.put, List.setIfInBounds_toArray, List.set])
      (first
         | (apply qw_skip rfl)
         | (apply qw_step rfl
            focus
              intro w0 hC
              (fail))
         | (apply qw_step rfl
            focus
              intro w0 hC
              have hC' := Lib.hid hC
              obtain ⟨⟨r1, f1, i1, b1, l1⟩, ⟨r2, f2, i2, b2, l2⟩, m12, m21⟩ := St.facts2 hC
              clear hC
              go_simp
              have hC := hC'.out
              (first
                 | with_reducible rfl
                 | (skip
                    (first
                       | (go_at_call 9; refine (awake10_any _).mono ?_)
                       | (go_at_call 14; refine (HM2.out _ hC.below).mono ?_))
                    rintro e w' ⟨rfl, hw⟩
                    exact ⟨rfl, St.call (by assumption) hw⟩)))
       try simp only [Act.put, List.setIfInBounds_toArray, List.set])
      (first
         | (apply qw_skip rfl)
         | (apply qw_step rfl
            focus
              intro w0 hC
              (fail))
         | (apply qw_step rfl
            focus
              intro w0 hC
              have hC' := Lib.hid hC
              obtain ⟨⟨r1, f1, i1, b1, l1⟩, ⟨r2, f2, i2, b2, l2⟩, m12, m21⟩ := St.facts2 hC
              clear hC
              go_simp
              have hC := hC'.out
              (first
                 | with_reducible rfl
                 | (skip
                    (first
                       | (go_at_call 9; refine (awake10_any _).mono ?_)
                       | (go_at_call 14; refine (HM2.out _ hC.below).mono ?_))
                    rintro e w' ⟨rfl, hw⟩
                    exact ⟨rfl, St.call (by assumption) hw⟩)))
       try simp only [Act.put, List.setIfInBounds_toArray, List.set])
      (first
         | (apply qw_skip rfl)
         | (apply qw_step rfl
            focus
              intro w0 hC
              (fail))
         | (apply qw_step rfl
            focus
              intro w0 hC
              have hC' := Lib.hid hC
              obtain ⟨⟨r1, f1, i1, b1, l1⟩, ⟨r2, f2, i2, b2, l2⟩, m12, m21⟩ := St.facts2 hC
              clear hC
              go_simp
              have hC := hC'.out
              (first
                 | with_reducible rfl
                 | (skip
                    (first
                       | (go_at_call 9; refine (awake10_any _).mono ?_)
                       | (go_at_call 14; refine (HM2.out _ hC.below).mono ?_))
                    rintro e w' ⟨rfl, hw⟩
                    exact ⟨rfl, St.call (by assumption) hw⟩)))
       try simp only [Act.put, List.setIfInBounds_toArray, List.set])
      (first
         | (apply qw_skip rfl)
         | (apply qw_step rfl
            focus
              intro w0 hC
              (fail))
         | (apply qw_step rfl
            focus
              intro w0 hC
              have hC' := Lib.hid hC
              obtain ⟨⟨r1, f1, i1, b1, l1⟩, ⟨r2, f2, i2, b2, l2⟩, m12, m21⟩ := St.facts2 hC
              clear hC
              go_simp
              have hC := hC'.out
              (first
                 | with_reducible rfl
                 | (skip
                    (first
                       | (go_at_call 9; refine (awake10_any _).mono ?_)
                       | (go_at_call 14; refine (HM2.out _ hC.below).mono ?_))
                    rintro e w' ⟨rfl, hw⟩
                    exact ⟨rfl, St.call (by assumption) hw⟩)))
       try simp only [Act.put, List.setIfInBounds_toArray, List.set])
      (first
         | (apply qw_skip rfl)
         | (apply qw_step rfl
            focus
              intro w0 hC
              (fail))
         | (apply qw_step rfl
            focus
              intro w0 hC
              have hC' := Lib.hid hC
              obtain ⟨⟨r1, f1, i1, b1, l1⟩, ⟨r2, f2, i2, b2, l2⟩, m12, m21⟩ := St.facts2 hC
              clear hC
              go_simp
              have hC := hC'.out
              (first
                 | with_reducible rfl
                 | (skip
                    (first
                       | (go_at_call 9; refine (awake10_any _).mono ?_)
                       | (go_at_call 14; refine (HM2.out _ hC.below).mono ?_))
                    rintro e w' ⟨rfl, hw⟩
                    exact ⟨rfl, St.call (by assumption) hw⟩)))
       try simp only [Act.put, List.setIfInBounds_toArray, List.set])
      refine qw_nil ?_
      intro w7 hC
      have HC := Lib.hid hC
      clear hC
      go_wp2_with fail
      go_ret
      exact ⟨rfl, HC.out.below⟩
end Go.Proofs.Ytinlcpenllfcpaa
