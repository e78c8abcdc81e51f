/- EntryBack: the walk. -/
import Derived.Test.YtinlcpenllfcpaaEnAwake
import Derived.Test.YtinlcpenllfcpaaEnLaw3
namespace Go.Proofs.Ytinlcpenllfcpaa
open Go.RowKit
attribute [local go_sem] B_xor B_or B_and
attribute [local go_sem] blk_set blk_size blk_get blk_getE upd_same oneCells_blk paste_blk cut_blk szOf
attribute [local go_sem high] paste_all cut_head
attribute [local go_sem] rowAt_alloc rowAt_drew rowAt_drewN isRow_alloc isRow_drew isRow_drewN freeRow_alloc freeRow_end freeRow_drew freeRow_drewN
attribute [local go_sem] setRow_alloc setRow_drew setRow_drewN setCell_drewN alloc_drewN rowAt_put isRow_setRow freeRow_put
attribute [local go_sem ↓] loadS_in storeS_in indexS_in copyS_in
attribute [local go_sem] loadS_row loadS_one storeS_row storeS_one indexS_blk copyS_rows run_equalIn_blk same_refl arrayAt_row
attribute [local go_sem] cell_row frozen_row st_setCell st_blk_ne stepAt stepUpon
attribute [local go_sem high] run_eql_blk run_neq_blk
attribute [local go_sem ↓] convBS_in
attribute [local go_sem] convBS_row convBS_nil allBytes_blk bytesOf_blk
attribute [local go_sem] ndC_size ndC_get0 ndC_get1 ndC_get2 ndC_get3 ndC_get4 ndC_getE0 ndC_getE1 ndC_getE2 ndC_getE3 ndC_getE4 ndC_ne ndC_one ndC_cut ndC_paste ndC_set0 ndC_set1 ndC_set2 ndC_set3 ndC_set4 size_nd agg_nd
set_option maxRecDepth 100000 in
set_option maxHeartbeats 400000 in
theorem entryBack_walk (x : Nd) (c : NdC) (s : ByteArray) (w : World) (h : NodeAt w c x) : Calls Try.prog 6 #[.agg (ndC c), .string s] w fun e w' => e = .returned (.bool true) ∧ Below w.heap.size w w' := by
  have HC := Lib.hid ((St.nil w).pushA (ndC c) 26 rfl)
  have HX := Lib.hid (fun w' (hb : Below w.heap.size w w') => over_any x c w' (h.call hb (Nat.le_refl _)))
  by_cases ho : 150 < ovN x 0 150
  · have HO := Lib.hid (fun w' hb => HX.out w' hb true (decide_eq_true ho))
    clear HX h ho
    go_enter Try.func6, Try.ntmps6
    (obtain ⟨r1, f1, i1, b1, l1⟩ := St.facts1 (HC.out.pick [0] (by decide) rfl))
    go_wp2_with fail
    (clear r1 f1 i1 b1 l1)
    refine (HO.out _ HC.out.below).mono ?_; rintro e w2 ⟨rfl, hw⟩
    have HC := Lib.hid (HC.out.call hw)
    clear hw
    go_wp2_with fail
    refine (awake10_any _).mono ?_; rintro e w9 ⟨rfl, hw⟩
    have HC := Lib.hid (HC.out.call hw)
    clear hw
    go_wp2_with fail
    go_ret
    exact ⟨rfl, HC.out.below⟩
  have HO := Lib.hid (fun w' hb => HX.out w' hb false (decide_eq_false ho))
  by_cases hs4 : 400 < s.size
  · have d1 : decide ((400 : Int) < (s.size : Int)) = true := decide_eq_true (by omega)
    clear HX h ho hs4
    go_enter Try.func6, Try.ntmps6
    (obtain ⟨r1, f1, i1, b1, l1⟩ := St.facts1 (HC.out.pick [0] (by decide) rfl))
    go_wp2_with fail
    (clear r1 f1 i1 b1 l1)
    refine (HO.out _ HC.out.below).mono ?_; rintro e w2 ⟨rfl, hw⟩
    have HC := Lib.hid (HC.out.call hw)
    clear hw
    go_wp2_with fail
    refine (awake10_any _).mono ?_; rintro e w9 ⟨rfl, hw⟩
    have HC := Lib.hid (HC.out.call hw)
    clear hw
    go_wp2_with fail
    go_ret
    exact ⟨rfl, HC.out.below⟩
  have dk : decide ((400 : Int) < (s.size : Int)) = false := decide_eq_false (by omega)
  obtain ⟨R, hR⟩ : ∃ R, ndTake s = R := ⟨_, rfl⟩
  have HT := Lib.hid (fun w' => take_any10 s (by omega) w')
  have HL := Lib.hid (fun y (hy : R = .ok y) => show Small y ∧ ndChk y 0 = 0 ∧ (ndPut y).length ≤ 2 ^ 30 ∧ strL (ndPut y) = s from by
    have e := hR.trans hy
    have G := ndTake_ok e
    have p := take_put e
    refine ⟨G.small (by omega), G.chk, ?_, p⟩
    have := G.len
    omega)
  rw [hR] at HT
  clear hR hs4
  obtain ⟨sm, _, hcnt⟩ := small_of x 0 150 (Nat.le_refl _) (by omega)
  have hlen : (ndPut x).length ≤ 2 ^ 29 := by have := ndPut_len x sm; omega
  have hnum := h.num64
  have HW := Lib.hid (fun w' (hb : Below w.heap.size w w') => own10_any x sm c w' (h.call hb (Nat.le_refl _)))
  have HP := Lib.hid (fun w' v (hv : AnyAt w' v x) => put10_any x sm (by omega) v w' hv)
  go_enter Try.func6, Try.ntmps6
  (obtain ⟨r1, f1, i1, b1, l1⟩ := St.facts1 (HC.out.pick [0] (by decide) rfl))
  go_wp2_with fail
  (clear r1 f1 i1 b1 l1)
  refine (HO.out _ HC.out.below).mono ?_; rintro e w2 ⟨rfl, hw⟩
  have HC := Lib.hid (HC.out.call hw)
  clear hw HO HX
  (obtain ⟨r1, f1, i1, b1, l1⟩ := St.facts1 (HC.out.pick [0] (by decide) rfl))
  go_wp2_with fail
  (clear r1 f1 i1 b1 l1)
  refine (HW.out _ HC.out.below).mono ?_; rintro e w3 ⟨v, L', rfl, hv, hL⟩
  have HV := Lib.hid (hv.at hL)
  have HC := Lib.hid (HC.out.call hL.below)
  clear hv hL HW
  go_wp2_with fail
  refine (HP.out _ _ HV.out).mono ?_; rintro e w4 ⟨bv, E, rfl, hp⟩
  cases hp with
  | bad hne h1 h2 hw =>
    subst h1 h2
    have HC := Lib.hid (HC.out.call hw)
    have d1 : ((ndChk x 0 : Int) == 0) = false := by rw [beq_eq_false_iff_ne]; omega
    generalize ndChk x 0 = C at *
    clear hw HP HV hne hnum hlen hcnt sm h
    go_wp2_with fail
    (refine (HT.out _).mono ?_; rintro e w20 ⟨v2, E2, rfl, hp⟩
     cases hp with
     | bad d hd h1 h2 hw =>
       subst h1 h2
       have HC := Lib.hid (HC.out.call hw)
       have d1 : ((E2 : Int) == 0) = false := by rw [beq_eq_false_iff_ne]; omega
       clear hw HL HT
       go_wp2_with fail
       refine (awake10_any _).mono ?_; rintro e w9 ⟨rfl, hw⟩
       have HC := Lib.hid (HC.out.call hw)
       clear hw
       go_wp2_with fail
       go_ret
       exact ⟨rfl, HC.out.below⟩
     | ok y L2 hy h2 hS =>
       subst h2
       obtain ⟨sm, cy, ly, ty⟩ := HL.out y rfl
       have HV := Lib.hid (hy.at hS)
       have HC := Lib.hid (HC.out.call hS.below)
       clear hS hy
       have HP2 := Lib.hid (fun w' (hv : AnyAt w' v2 y) => put10_any y sm ly v2 w' hv)
       have HK2 := Lib.hid (fun w' (hv : AnyAt w' v2 y) => checkTop_any y v2 w' hv)
       rw [cy] at HP2 HK2
       clear sm cy HL HT ly
       go_wp2_with fail
       refine (HP2.out _ HV.out).mono ?_; rintro e w21 ⟨bv, E, rfl, hp⟩
       cases hp with
       | bad hne h1 h2 hw => exact absurd rfl hne
       | ok hc0 g c1 F h1 h2 hc hF hS =>
         subst h1 h2
         have HV := Lib.hid (HV.out.call hS.below (Nat.le_refl _))
         have HC := Lib.hid (HC.out.joins hS)
         have hs1 : strOf (ndPut y).length F = s := (strOf_strL rfl hF).trans ty
         obtain ⟨N, hN⟩ : ∃ N, (ndPut y).length = N := ⟨_, rfl⟩
         rw [hN] at hc hs1 ⊢
         clear hF hS HP2 hN ty
         have HQ := Lib.hid (HC.out.pick [0] (by decide) rfl)
         obtain ⟨r1, f1, i1, b1, l1⟩ := St.facts1 HQ.out
         go_wp2_with fail
         clear r1 f1 i1 b1 l1 HQ
         refine (HK2.out _ HV.out).mono ?_; rintro e w22 ⟨rfl, hw⟩
         have HC := Lib.hid (HC.out.call hw)
         clear hw HV HK2
         go_wp2_with fail
         refine (awake10_any _).mono ?_; rintro e w9 ⟨rfl, hw⟩
         have HC := Lib.hid (HC.out.call hw)
         clear hw
         go_wp2_with fail
         go_ret
         exact ⟨rfl, HC.out.below⟩)
  | ok hc0 g c1 F h1 h2 hc hF hS =>
    subst h1 h2
    have HV := Lib.hid (HV.out.call hS.below (Nat.le_refl _))
    have HC := Lib.hid (HC.out.joins hS)
    have hs1 : strOf (ndPut x).length F = strL (ndPut x) := strOf_strL rfl hF
    have hpos := ndPut_pos x
    have HT1 := Lib.hid (fun w' => take_any10 (strL (ndPut x)) (by rw [strL_size]; omega) w')
    have HT2 := Lib.hid (fun w' => take_any10 (strL (ndPut x) ++ ⟨#[0]⟩) (by rw [ByteArray.size_append, strL_size]; show _ + 1 < _; omega) w')
    have HT3 := Lib.hid (fun w' => take_any10 (strOf ((ndPut x).length - 1) F) (by rw [strOf_size]; omega) w')
    rw [put_taken hnum hc0] at HT1
    rw [put_more hnum hc0] at HT2
    rw [put_short hnum hc0 _ (by rw [strOf_size]; omega) (fun i hi hp => by
      rw [strOf_size] at hp
      rw [Nat.zero_add, ofText_strOf _ _ _ (by omega), hF i hi])] at HT3
    have HQ0 := Lib.hid (fun u v w' (hu : AnyAt w' u x) (hv : AnyAt w' v (ndNorm x)) => same10_any x (ndNorm x) sm (small_norm x sm) (by omega) (by rw [(norm_put hnum hc0).1]; omega) u v w' hu hv)
    rw [same_norm hnum hc0] at HQ0
    obtain ⟨N, hN⟩ : ∃ N, (ndPut x).length = N := ⟨_, rfl⟩
    rw [hN] at hc hs1 HT3 hpos hlen ⊢
    have hq1 : (strL (ndPut x)).size + ByteArray.size ⟨#[0]⟩ ≤ 9223372036854775807 := by rw [strL_size, hN]; show N + 1 ≤ _; omega
    have hq2 : (strL (ndPut x)).size + 1 ≤ 9223372036854775807 := by rw [strL_size, hN]; omega
    generalize strL (ndPut x) = T at hs1 HT1 HT2 hq1 hq2
    have hmx : max (N : Int) 1 = N := by omega
    have hwr : IntKind.i64.wrap ((N : Int) - 1) = ((N - 1 : Nat) : Int) := by rw [IntWalk.i64_in _ (by omega)]; omega
    have hN1 : N - 1 ≤ c1 := by omega
    clear hF hS HP hN hc0 hnum hcnt sm h
    have HQ := Lib.hid (HC.out.pick [0] (by decide) rfl)
    obtain ⟨r1, f1, i1, b1, l1⟩ := St.facts1 HQ.out
    go_wp2_with fail
    clear r1 f1 i1 b1 l1 HQ
    refine (HT1.out _).mono ?_; rintro e w5 ⟨v5, E5, rfl, hp⟩
    cases hp with
    | ok _ L5 hy h2 hS =>
    subst h2
    have HV5 := Lib.hid (hy.at hS)
    have HV := Lib.hid (HV.out.call hS.below (Nat.le_refl _))
    have HC := Lib.hid (HC.out.call hS.below)
    clear hy hS HT1
    have HQ := Lib.hid (HC.out.pick [0] (by decide) rfl)
    obtain ⟨r1, f1, i1, b1, l1⟩ := St.facts1 HQ.out
    go_wp2_with fail
    clear r1 f1 i1 b1 l1 HQ
    refine (HT2.out _).mono ?_; rintro e w6 ⟨v6, E6, rfl, hp⟩
    cases hp with
    | bad _ _ h1 h2 hw =>
    subst h1 h2
    have HV := Lib.hid (HV.out.call hw (Nat.le_refl _))
    have HV5 := Lib.hid (HV5.out.call hw (Nat.le_refl _))
    have HC := Lib.hid (HC.out.call hw)
    clear hw HT2
    have HQ := Lib.hid (HC.out.pick [0] (by decide) rfl)
    obtain ⟨r1, f1, i1, b1, l1⟩ := St.facts1 HQ.out
    clear hs1
    go_wp2_with fail
    clear r1 f1 i1 b1 l1 HQ
    refine (HT3.out _).mono ?_; rintro e w7 ⟨v7, E7, rfl, hp⟩
    cases hp with
    | bad _ _ h1 h2 hw =>
    subst h1 h2
    have HV := Lib.hid (HV.out.call hw (Nat.le_refl _))
    have HV5 := Lib.hid (HV5.out.call hw (Nat.le_refl _))
    have HC := Lib.hid (HC.out.call hw)
    clear hw HT3 hq1 hq2 hmx hwr hN1
    have e0 : ((N : Int) == 0) = false := by rw [beq_eq_false_iff_ne]; omega
    go_wp2_with fail
    refine (HQ0.out _ _ _ HV.out HV5.out).mono ?_; rintro e w8 ⟨rfl, hw⟩
    have HC := Lib.hid (HC.out.call hw)
    clear hw HQ0 HV HV5
    go_wp2_with fail
    have HC := Lib.hid (HC.out.pick [1] (by decide) rfl)
    (refine (HT.out _).mono ?_; rintro e w20 ⟨v2, E2, rfl, hp⟩
     cases hp with
     | bad d hd h1 h2 hw =>
       subst h1 h2
       have HC := Lib.hid (HC.out.call hw)
       have d1 : ((E2 : Int) == 0) = false := by rw [beq_eq_false_iff_ne]; omega
       clear hw HL HT
       go_wp2_with fail
       refine (awake10_any _).mono ?_; rintro e w9 ⟨rfl, hw⟩
       have HC := Lib.hid (HC.out.call hw)
       clear hw
       go_wp2_with fail
       go_ret
       exact ⟨rfl, HC.out.below⟩
     | ok y L2 hy h2 hS =>
       subst h2
       obtain ⟨sm, cy, ly, ty⟩ := HL.out y rfl
       have HV := Lib.hid (hy.at hS)
       have HC := Lib.hid (HC.out.call hS.below)
       clear hS hy
       have HP2 := Lib.hid (fun w' (hv : AnyAt w' v2 y) => put10_any y sm ly v2 w' hv)
       have HK2 := Lib.hid (fun w' (hv : AnyAt w' v2 y) => checkTop_any y v2 w' hv)
       rw [cy] at HP2 HK2
       clear sm cy HL HT ly
       go_wp2_with fail
       refine (HP2.out _ HV.out).mono ?_; rintro e w21 ⟨bv, E, rfl, hp⟩
       cases hp with
       | bad hne h1 h2 hw => exact absurd rfl hne
       | ok hc0 g c1 F h1 h2 hc hF hS =>
         subst h1 h2
         have HV := Lib.hid (HV.out.call hS.below (Nat.le_refl _))
         have HC := Lib.hid (HC.out.joins hS)
         have hs1 : strOf (ndPut y).length F = s := (strOf_strL rfl hF).trans ty
         obtain ⟨N, hN⟩ : ∃ N, (ndPut y).length = N := ⟨_, rfl⟩
         rw [hN] at hc hs1 ⊢
         clear hF hS HP2 hN ty
         have HQ := Lib.hid (HC.out.pick [0] (by decide) rfl)
         obtain ⟨r1, f1, i1, b1, l1⟩ := St.facts1 HQ.out
         go_wp2_with fail
         clear r1 f1 i1 b1 l1 HQ
         refine (HK2.out _ HV.out).mono ?_; rintro e w22 ⟨rfl, hw⟩
         have HC := Lib.hid (HC.out.call hw)
         clear hw HV HK2
         go_wp2_with fail
         refine (awake10_any _).mono ?_; rintro e w9 ⟨rfl, hw⟩
         have HC := Lib.hid (HC.out.call hw)
         clear hw
         go_wp2_with fail
         go_ret
         exact ⟨rfl, HC.out.below⟩)
end Go.Proofs.Ytinlcpenllfcpaa
