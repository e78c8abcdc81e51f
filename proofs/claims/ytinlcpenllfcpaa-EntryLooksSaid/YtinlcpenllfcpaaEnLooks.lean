/- EntryLooks: the walk. -/
import Derived.Test.YtinlcpenllfcpaaEnRefBack
import Derived.Test.YtinlcpenllfcpaaEnRefSame
import Derived.Test.YtinlcpenllfcpaaEnAwake
namespace Go.Proofs.Ytinlcpenllfcpaa
open Go.RowKit
attribute [local go_sem] B_xor B_or B_and
attribute [local go_sem] blk_set blk_size blk_get blk_getE upd_same oneCells_blk paste_blk cut_blk szOf
attribute [local go_sem high] paste_all cut_head
attribute [local go_sem] rowAt_alloc rowAt_drew rowAt_drewN isRow_alloc isRow_drew isRow_drewN freeRow_alloc freeRow_end freeRow_drew freeRow_drewN
attribute [local go_sem] setRow_alloc setRow_drew setRow_drewN setCell_drewN alloc_drewN rowAt_put isRow_setRow freeRow_put
attribute [local go_sem ↓] loadS_in storeS_in indexS_in copyS_in
attribute [local go_sem] loadS_row loadS_one storeS_row storeS_one indexS_blk copyS_rows run_equalIn_blk same_refl arrayAt_row
attribute [local go_sem] cell_row frozen_row st_setCell st_blk_ne stepAt stepUpon
attribute [local go_sem high] run_eql_blk run_neq_blk
attribute [local go_sem ↓] convBS_in
attribute [local go_sem] convBS_row convBS_nil allBytes_blk bytesOf_blk
attribute [local go_sem] ndC_size ndC_get0 ndC_get1 ndC_get2 ndC_get3 ndC_get4 ndC_getE0 ndC_getE1 ndC_getE2 ndC_getE3 ndC_getE4 ndC_ne ndC_one ndC_cut ndC_paste ndC_set0 ndC_set1 ndC_set2 ndC_set3 ndC_set4 size_nd agg_nd
theorem small_back : ∀ (x : Nd) (d : Nat), Small x → Small (ndBack x d) := by
  refine Nd.ind fun k n s kids names ih => ?_
  intro d h
  cases h with
  | mk _ _ _ _ _ h1 h2 h3 h4 h5 =>
  have leaf : ∀ (k n : Nat) (s : ByteArray), s.size ≤ 1000 → Small (.mk k n s [] []) := fun k n s h => .mk _ _ _ _ _ h (by decide) (by decide) (fun t h => by cases h) (fun x h => by cases h)
  have hk : ∀ y ∈ backL kids (d + 1), Small y := fun y hy => by
    rw [backL_map] at hy
    obtain ⟨z, hz, rfl⟩ := List.mem_map.1 hy
    exact ih z hz (d + 1) (h5 z hz)
  have hl : (backL kids (d + 1)).length ≤ 70 := by rw [backL_map, List.length_map]; exact h2
  rw [ndBack]
  split
  · exact leaf _ _ _ (by decide)
  split
  · exact leaf _ _ _ (by decide)
  split
  · exact leaf _ _ _ (by decide)
  split
  · exact leaf _ _ _ (by decide)
  split
  · exact leaf _ _ _ h1
  split
  · exact .mk _ _ _ _ _ (by decide) hl (by decide) (fun t h => by cases h) hk
  split
  · refine .mk _ _ _ _ _ (by decide) hl (by rw [List.length_map, List.length_range]; exact h2) (fun t ht => ?_) hk
    obtain ⟨i, _, rfl⟩ := List.mem_map.1 ht
    exact small_name h4 i
  · exact leaf _ _ _ (by decide)
set_option maxRecDepth 100000 in
set_option maxHeartbeats 4000000 in
theorem entryLooks_walk (x y : Nd) (ca cb : NdC) (t : ByteArray) (w : World) (ha : NodeAt w ca x) (hb : NodeAt w cb y) : Calls Try.prog 5 #[.agg (ndC ca), .agg (ndC cb), .string t] w fun e w' => e = .returned (.bool true) ∧ Below w.heap.size w w' := by
  have HC := Lib.hid (sm_start ca cb w)
  have HXA := Lib.hid (fun w' (hb : Below w.heap.size w w') => over_any x ca w' (ha.call hb (Nat.le_refl _)))
  have HXB := Lib.hid (fun w' (h : Below w.heap.size w w') => over_any y cb w' (hb.call h (Nat.le_refl _)))
  by_cases hoa : 150 < ovN x 0 150
  · have HOA := Lib.hid (fun w' hb => HXA.out w' hb true (decide_eq_true hoa))
    clear HXA HXB ha hb hoa
    (go_enter Try.func5, Try.ntmps5
     (obtain ⟨⟨r1, f1, i1, b1, l1⟩, ⟨r2, f2, i2, b2, l2⟩, m12, m21⟩ := St.facts2 (HC.out.pick [0, 1] (by decide) rfl))
     go_wp2_with fail
     (clear r1 f1 i1 b1 l1 r2 f2 i2 b2 l2 m12 m21)
     refine (HOA.out _ HC.out.below).mono ?_; rintro e w2 ⟨rfl, hw⟩
     have HC := Lib.hid (HC.out.call hw)
     clear hw
     (obtain ⟨⟨r1, f1, i1, b1, l1⟩, ⟨r2, f2, i2, b2, l2⟩, m12, m21⟩ := St.facts2 (HC.out.pick [0, 1] (by decide) rfl))
     go_wp2_with fail
     (clear r1 f1 i1 b1 l1 r2 f2 i2 b2 l2 m12 m21))
    (refine (awake10_any _).mono ?_; rintro e w9 ⟨rfl, hw⟩
     have HC := Lib.hid (HC.out.call hw)
     clear hw
     go_wp2_with fail
     go_ret
     exact ⟨rfl, HC.out.below⟩)
  have HOA := Lib.hid (fun w' hb => HXA.out w' hb false (decide_eq_false hoa))
  by_cases hob : 150 < ovN y 0 150
  · have HOB := Lib.hid (fun w' hb => HXB.out w' hb true (decide_eq_true hob))
    clear HXA HXB ha hb hoa hob
    ((go_enter Try.func5, Try.ntmps5
      (obtain ⟨⟨r1, f1, i1, b1, l1⟩, ⟨r2, f2, i2, b2, l2⟩, m12, m21⟩ := St.facts2 (HC.out.pick [0, 1] (by decide) rfl))
      go_wp2_with fail
      (clear r1 f1 i1 b1 l1 r2 f2 i2 b2 l2 m12 m21)
      refine (HOA.out _ HC.out.below).mono ?_; rintro e w2 ⟨rfl, hw⟩
      have HC := Lib.hid (HC.out.call hw)
      clear hw
      (obtain ⟨⟨r1, f1, i1, b1, l1⟩, ⟨r2, f2, i2, b2, l2⟩, m12, m21⟩ := St.facts2 (HC.out.pick [0, 1] (by decide) rfl))
      go_wp2_with fail
      (clear r1 f1 i1 b1 l1 r2 f2 i2 b2 l2 m12 m21))
     refine (HOB.out _ HC.out.below).mono ?_; rintro e w3 ⟨rfl, hw⟩
     have HC := Lib.hid (HC.out.call hw)
     clear hw
     (obtain ⟨⟨r1, f1, i1, b1, l1⟩, ⟨r2, f2, i2, b2, l2⟩, m12, m21⟩ := St.facts2 (HC.out.pick [0, 1] (by decide) rfl))
     go_wp2_with fail
     (clear r1 f1 i1 b1 l1 r2 f2 i2 b2 l2 m12 m21))
    (refine (awake10_any _).mono ?_; rintro e w9 ⟨rfl, hw⟩
     have HC := Lib.hid (HC.out.call hw)
     clear hw
     go_wp2_with fail
     go_ret
     exact ⟨rfl, HC.out.below⟩)
  have HOB := Lib.hid (fun w' hb => HXB.out w' hb false (decide_eq_false hob))
  by_cases h200 : 200 < t.size
  · have d1 : decide ((200 : Int) < (t.size : Int)) = true := decide_eq_true (by omega)
    clear HXA HXB ha hb hoa hob h200
    ((go_enter Try.func5, Try.ntmps5
      (obtain ⟨⟨r1, f1, i1, b1, l1⟩, ⟨r2, f2, i2, b2, l2⟩, m12, m21⟩ := St.facts2 (HC.out.pick [0, 1] (by decide) rfl))
      go_wp2_with fail
      (clear r1 f1 i1 b1 l1 r2 f2 i2 b2 l2 m12 m21)
      refine (HOA.out _ HC.out.below).mono ?_; rintro e w2 ⟨rfl, hw⟩
      have HC := Lib.hid (HC.out.call hw)
      clear hw
      (obtain ⟨⟨r1, f1, i1, b1, l1⟩, ⟨r2, f2, i2, b2, l2⟩, m12, m21⟩ := St.facts2 (HC.out.pick [0, 1] (by decide) rfl))
      go_wp2_with fail
      (clear r1 f1 i1 b1 l1 r2 f2 i2 b2 l2 m12 m21))
     refine (HOB.out _ HC.out.below).mono ?_; rintro e w3 ⟨rfl, hw⟩
     have HC := Lib.hid (HC.out.call hw)
     clear hw
     (obtain ⟨⟨r1, f1, i1, b1, l1⟩, ⟨r2, f2, i2, b2, l2⟩, m12, m21⟩ := St.facts2 (HC.out.pick [0, 1] (by decide) rfl))
     go_wp2_with fail
     (clear r1 f1 i1 b1 l1 r2 f2 i2 b2 l2 m12 m21))
    (refine (awake10_any _).mono ?_; rintro e w9 ⟨rfl, hw⟩
     have HC := Lib.hid (HC.out.call hw)
     clear hw
     go_wp2_with fail
     go_ret
     exact ⟨rfl, HC.out.below⟩)
  have d1 : decide ((200 : Int) < (t.size : Int)) = false := decide_eq_false (by omega)
  clear HXA HXB h200
  obtain ⟨sma, _, hcnta⟩ := small_of x 0 150 (Nat.le_refl _) (by omega)
  obtain ⟨smb, _, hcntb⟩ := small_of y 0 150 (Nat.le_refl _) (by omega)
  have hla : (ndPut x).length ≤ 2 ^ 30 := by have := ndPut_len x sma; omega
  have hlb : (ndPut y).length ≤ 2 ^ 30 := by have := ndPut_len y smb; omega
  have na := ha.num64
  have nb := hb.num64
  have hkids : x.kids.length ≤ 70 := by cases sma; assumption
  have HWA := Lib.hid (fun w' (h : Below w.heap.size w w') => own10_any x sma ca w' (ha.call h (Nat.le_refl _)))
  have HWB := Lib.hid (fun w' (h : Below w.heap.size w w') => own10_any y smb cb w' (hb.call h (Nat.le_refl _)))
  ((go_enter Try.func5, Try.ntmps5
    (obtain ⟨⟨r1, f1, i1, b1, l1⟩, ⟨r2, f2, i2, b2, l2⟩, m12, m21⟩ := St.facts2 (HC.out.pick [0, 1] (by decide) rfl))
    go_wp2_with fail
    (clear r1 f1 i1 b1 l1 r2 f2 i2 b2 l2 m12 m21)
    refine (HOA.out _ HC.out.below).mono ?_; rintro e w2 ⟨rfl, hw⟩
    have HC := Lib.hid (HC.out.call hw)
    clear hw
    (obtain ⟨⟨r1, f1, i1, b1, l1⟩, ⟨r2, f2, i2, b2, l2⟩, m12, m21⟩ := St.facts2 (HC.out.pick [0, 1] (by decide) rfl))
    go_wp2_with fail
    (clear r1 f1 i1 b1 l1 r2 f2 i2 b2 l2 m12 m21))
   refine (HOB.out _ HC.out.below).mono ?_; rintro e w3 ⟨rfl, hw⟩
   have HC := Lib.hid (HC.out.call hw)
   clear hw
   (obtain ⟨⟨r1, f1, i1, b1, l1⟩, ⟨r2, f2, i2, b2, l2⟩, m12, m21⟩ := St.facts2 (HC.out.pick [0, 1] (by decide) rfl))
   go_wp2_with fail
   (clear r1 f1 i1 b1 l1 r2 f2 i2 b2 l2 m12 m21))
  clear HOA HOB
  go_upto_region 3 with fail
  go_cut [7, 8] from 29 to 32 (fun va vb wx => Hid (AnyAt wx va x) ∧ Hid (AnyAt wx vb y) ∧ Hid (St w [(w.heap.size, ndC ca), (w.heap.size + 1, ndC cb)] wx))
  case first =>
    (obtain ⟨⟨r1, f1, i1, b1, l1⟩, ⟨r2, f2, i2, b2, l2⟩, m12, m21⟩ := St.facts2 (HC.out.pick [0, 1] (by decide) rfl))
    go_region_with (first
      | (go_at_call 10; refine (HWB.out w4 HC.out.below).mono ?_; rintro e w5 ⟨u, L2, rfl, hv, hL⟩; have HV := Lib.hid (HV.out.call hL.below (Nat.le_refl _)); have HU := Lib.hid (hv.at hL); have HC := Lib.hid (HC.out.call hL.below); clear hv hL r1 f1 i1 b1 l1 r2 f2 i2 b2 l2 m12 m21)
      | (go_at_call 10; refine (HWA.out _ HC.out.drew.below).mono ?_; rintro e w4 ⟨v, L1, rfl, hv, hL⟩; have HV := Lib.hid (hv.at hL); have HC := Lib.hid (HC.out.drew.call hL.below); clear hv hL r1 f1 i1 b1 l1 r2 f2 i2 b2 l2 m12 m21; obtain ⟨⟨r1, f1, i1, b1, l1⟩, ⟨r2, f2, i2, b2, l2⟩, m12, m21⟩ := St.facts2 HC.out))
    all_goals
      go_wp2_with fail
      go_meet
      exact ⟨HV, HU, HC⟩
  case rest =>
    obtain ⟨HVA, HVB, HJC⟩ := hcut
    clear HC
    have HC := HJC
    clear HJC
    go_wp2_with fail
    refine (text10_any _ _ _ HVA.out).mono ?_; rintro e w4 ⟨rfl, hw⟩
    have HVA := Lib.hid (HVA.out.call hw (Nat.le_refl _))
    have HVB := Lib.hid (HVB.out.call hw (Nat.le_refl _))
    have HC := Lib.hid (HC.out.call hw)
    clear hw
    go_wp2_with fail
    refine (num10_any _ _ _ HVA.out).mono ?_; rintro e w5 ⟨rfl, hw⟩
    have HVA := Lib.hid (HVA.out.call hw (Nat.le_refl _))
    have HVB := Lib.hid (HVB.out.call hw (Nat.le_refl _))
    have HC := Lib.hid (HC.out.call hw)
    clear hw
    obtain ⟨T, hT⟩ : ∃ T, ndText x = T := ⟨_, rfl⟩
    obtain ⟨M, hM⟩ : ∃ M, ndNum x = M := ⟨_, rfl⟩
    obtain ⟨t3, ht3⟩ : ∃ b, decide (x.kind = 3) = b := ⟨_, rfl⟩
    obtain ⟨t2, ht2⟩ : ∃ b, decide (x.kind = 2) = b := ⟨_, rfl⟩
    go_upto_region 6 with fail
    go_cut [88] from 43 to 88 (fun v wx => v = .bool false ∧ wx = w5)
    case first =>
      obtain ⟨ek, en, es⟩ : ca.k = x.kind ∧ ca.n = x.num ∧ ca.s = x.txt := by cases ha; exact ⟨rfl, rfl, rfl⟩
      by_cases k3 : x.kind = 3
      · obtain rfl : T = ca.s := hT.symm.trans (by rw [es]; exact if_pos k3)
        obtain rfl : t3 = true := ht3.symm.trans (decide_eq_true k3)
        obtain rfl : M = 0 := hM.symm.trans (if_neg (by omega))
        obtain rfl : t2 = false := ht2.symm.trans (decide_eq_false (by omega))
        have dk3 : ((ca.k : Int) == 3) = true := beq_iff_eq.2 (by omega)
        have dk2 : ((ca.k : Int) == 2) = false := beq_eq_false_iff_ne.2 (by omega)
        clear hT hM ht3 ht2 ek en es
        ((obtain ⟨⟨r1, f1, i1, b1, l1⟩, ⟨r2, f2, i2, b2, l2⟩, m12, m21⟩ := St.facts2 (HC.out.pick [0, 1] (by decide) rfl))
         go_wp2_with fail
         go_meet
         exact ⟨rfl, rfl⟩)
      · by_cases k2 : x.kind = 2
        · obtain rfl : T = ⟨#[]⟩ := hT.symm.trans (if_neg k3)
          obtain rfl : t3 = false := ht3.symm.trans (decide_eq_false k3)
          obtain rfl : M = ca.n := hM.symm.trans (by rw [en]; exact if_pos k2)
          obtain rfl : t2 = true := ht2.symm.trans (decide_eq_true k2)
          have dk3 : ((ca.k : Int) == 3) = false := beq_eq_false_iff_ne.2 (by omega)
          have dk2 : ((ca.k : Int) == 2) = true := beq_iff_eq.2 (by omega)
          clear hT hM ht3 ht2 ek en es
          ((obtain ⟨⟨r1, f1, i1, b1, l1⟩, ⟨r2, f2, i2, b2, l2⟩, m12, m21⟩ := St.facts2 (HC.out.pick [0, 1] (by decide) rfl))
           go_wp2_with fail
           go_meet
           exact ⟨rfl, rfl⟩)
        · obtain rfl : T = ⟨#[]⟩ := hT.symm.trans (if_neg k3)
          obtain rfl : t3 = false := ht3.symm.trans (decide_eq_false k3)
          obtain rfl : M = 0 := hM.symm.trans (if_neg k2)
          obtain rfl : t2 = false := ht2.symm.trans (decide_eq_false k2)
          have dk3 : ((ca.k : Int) == 3) = false := beq_eq_false_iff_ne.2 (by omega)
          have dk2 : ((ca.k : Int) == 2) = false := beq_eq_false_iff_ne.2 (by omega)
          clear hT hM ht3 ht2 ek en es
          ((obtain ⟨⟨r1, f1, i1, b1, l1⟩, ⟨r2, f2, i2, b2, l2⟩, m12, m21⟩ := St.facts2 (HC.out.pick [0, 1] (by decide) rfl))
           go_wp2_with fail
           go_meet
           exact ⟨rfl, rfl⟩)
    case rest =>
      obtain ⟨rfl, rfl⟩ := hcut
      have HF := Lib.hid (fun w' v (hv : AnyAt w' v x) => find10_any x v t w' hv hkids)
      have HR := Lib.hid (fun w' (hb : Below w.heap.size w w') => refFind_any x ca t w' (ha.call hb (Nat.le_refl _)) hkids)
      obtain ⟨R, hR⟩ : ∃ R, ndFind x t = R := ⟨_, rfl⟩
      rw [hR] at HF HR
      go_wp2_with fail
      refine (HF.out _ _ HVA.out).mono ?_; rintro e w6 ⟨u, b, rfl, hf⟩
      have hfb : Below wc.heap.size wc w6 := by cases hf <;> assumption
      have HVA := Lib.hid (HVA.out.call hfb (Nat.le_refl _))
      have HVB := Lib.hid (HVB.out.call hfb (Nat.le_refl _))
      have HC := Lib.hid (HC.out.call hfb)
      have HFR := Lib.hid hf
      clear hf hfb HF
      (obtain ⟨⟨r1, f1, i1, b1, l1⟩, ⟨r2, f2, i2, b2, l2⟩, m12, m21⟩ := St.facts2 (HC.out.pick [0, 1] (by decide) rfl))
      go_wp2_with fail
      (clear r1 f1 i1 b1 l1 r2 f2 i2 b2 l2 m12 m21)
      refine (HR.out _ HC.out.below).mono ?_; rintro e w7 ⟨rfl, hw⟩
      have HVA := Lib.hid (HVA.out.call hw (Nat.le_refl _))
      have HVB := Lib.hid (HVB.out.call hw (Nat.le_refl _))
      have HC := Lib.hid (HC.out.call hw)
      have HW := Lib.hid hw
      clear hw HR
      go_upto_region 10 with fail
      go_cut [125] from 98 to 125 (fun v wx => v = .bool false ∧ Hid (AnyAt wx u7 x) ∧ Hid (AnyAt wx u8 y) ∧ Hid (St w [(w.heap.size, ndC ca), (w.heap.size + 1, ndC cb)] wx))
      case first =>
        cases R with
        | none =>
          obtain ⟨rfl, rfl⟩ : u = .nilIface ∧ b = false := by cases HFR.out with | none h1 h2 h3 => exact ⟨h1, h2⟩
          rw [show fInt none = -1 from rfl]
          refine St.qregion (St.nil w7) (by kernel_rfl) (by decide +kernel) ?_
          (first
             | (apply qw_skip rfl)
             | (apply qw_step rfl
                focus
                  intro w0 hC
                  clear hC
                  go_simp
                  with_reducible rfl)
           try simp only [Act.put, List.setIfInBounds_toArray, List.set])
          (first
             | (apply qw_skip rfl)
             | (apply qw_step rfl
                focus
                  intro w0 hC
                  clear hC
                  go_simp
                  with_reducible rfl)
           try simp only [Act.put, List.setIfInBounds_toArray, List.set])
          (first
             | (apply qw_skip rfl)
             | (apply qw_step rfl
                focus
                  intro w0 hC
                  clear hC
                  go_simp
                  with_reducible rfl)
           try simp only [Act.put, List.setIfInBounds_toArray, List.set])
          (first
             | (apply qw_skip rfl)
             | (apply qw_step rfl
                focus
                  intro w0 hC
                  clear hC
                  go_simp
                  with_reducible rfl)
           try simp only [Act.put, List.setIfInBounds_toArray, List.set])
          (first
             | (apply qw_skip rfl)
             | (apply qw_step rfl
                focus
                  intro w0 hC
                  clear hC
                  go_simp
                  with_reducible rfl)
           try simp only [Act.put, List.setIfInBounds_toArray, List.set])
          (first
             | (apply qw_skip rfl)
             | (apply qw_step rfl
                focus
                  intro w0 hC
                  clear hC
                  go_simp
                  with_reducible rfl)
           try simp only [Act.put, List.setIfInBounds_toArray, List.set])
          (first
             | (apply qw_skip rfl)
             | (apply qw_step rfl
                focus
                  intro w0 hC
                  clear hC
                  go_simp
                  with_reducible rfl)
           try simp only [Act.put, List.setIfInBounds_toArray, List.set])
          (first
             | (apply qw_skip rfl)
             | (apply qw_step rfl
                focus
                  intro w0 hC
                  clear hC
                  go_simp
                  with_reducible rfl)
           try simp only [Act.put, List.setIfInBounds_toArray, List.set])
          (first
             | (apply qw_skip rfl)
             | (apply qw_step rfl
                focus
                  intro w0 hC
                  clear hC
                  go_simp
                  with_reducible rfl)
           try simp only [Act.put, List.setIfInBounds_toArray, List.set])
          (first
             | (apply qw_skip rfl)
             | (apply qw_step rfl
                focus
                  intro w0 hC
                  clear hC
                  go_simp
                  with_reducible rfl)
           try simp only [Act.put, List.setIfInBounds_toArray, List.set])
          (first
             | (apply qw_skip rfl)
             | (apply qw_step rfl
                focus
                  intro w0 hC
                  clear hC
                  go_simp
                  with_reducible rfl)
           try simp only [Act.put, List.setIfInBounds_toArray, List.set])
          (first
             | (apply qw_skip rfl)
             | (apply qw_step rfl
                focus
                  intro w0 hC
                  clear hC
                  go_simp
                  with_reducible rfl)
           try simp only [Act.put, List.setIfInBounds_toArray, List.set])
          (first
             | (apply qw_skip rfl)
             | (apply qw_step rfl
                focus
                  intro w0 hC
                  clear hC
                  go_simp
                  with_reducible rfl)
           try simp only [Act.put, List.setIfInBounds_toArray, List.set])
          (first
             | (apply qw_skip rfl)
             | (apply qw_step rfl
                focus
                  intro w0 hC
                  clear hC
                  go_simp
                  with_reducible rfl)
           try simp only [Act.put, List.setIfInBounds_toArray, List.set])
          (first
             | (apply qw_skip rfl)
             | (apply qw_step rfl
                focus
                  intro w0 hC
                  clear hC
                  go_simp
                  with_reducible rfl)
           try simp only [Act.put, List.setIfInBounds_toArray, List.set])
          (first
             | (apply qw_skip rfl)
             | (apply qw_step rfl
                focus
                  intro w0 hC
                  clear hC
                  go_simp
                  with_reducible rfl)
           try simp only [Act.put, List.setIfInBounds_toArray, List.set])
          (first
             | (apply qw_skip rfl)
             | (apply qw_step rfl
                focus
                  intro w0 hC
                  clear hC
                  go_simp
                  with_reducible rfl)
           try simp only [Act.put, List.setIfInBounds_toArray, List.set])
          (first
             | (apply qw_skip rfl)
             | (apply qw_step rfl
                focus
                  intro w0 hC
                  clear hC
                  go_simp
                  with_reducible rfl)
           try simp only [Act.put, List.setIfInBounds_toArray, List.set])
          (first
             | (apply qw_skip rfl)
             | (apply qw_step rfl
                focus
                  intro w0 hC
                  clear hC
                  go_simp
                  with_reducible rfl)
           try simp only [Act.put, List.setIfInBounds_toArray, List.set])
          (first
             | (apply qw_skip rfl)
             | (apply qw_step rfl
                focus
                  intro w0 hC
                  clear hC
                  go_simp
                  with_reducible rfl)
           try simp only [Act.put, List.setIfInBounds_toArray, List.set])
          (first
             | (apply qw_skip rfl)
             | (apply qw_step rfl
                focus
                  intro w0 hC
                  clear hC
                  go_simp
                  with_reducible rfl)
           try simp only [Act.put, List.setIfInBounds_toArray, List.set])
          (first
             | (apply qw_skip rfl)
             | (apply qw_step rfl
                focus
                  intro w0 hC
                  clear hC
                  go_simp
                  with_reducible rfl)
           try simp only [Act.put, List.setIfInBounds_toArray, List.set])
          (first
             | (apply qw_skip rfl)
             | (apply qw_step rfl
                focus
                  intro w0 hC
                  clear hC
                  go_simp
                  with_reducible rfl)
           try simp only [Act.put, List.setIfInBounds_toArray, List.set])
          (first
             | (apply qw_skip rfl)
             | (apply qw_step rfl
                focus
                  intro w0 hC
                  clear hC
                  go_simp
                  with_reducible rfl)
           try simp only [Act.put, List.setIfInBounds_toArray, List.set])
          (first
             | (apply qw_skip rfl)
             | (apply qw_step rfl
                focus
                  intro w0 hC
                  clear hC
                  go_simp
                  with_reducible rfl)
           try simp only [Act.put, List.setIfInBounds_toArray, List.set])
          (first
             | (apply qw_skip rfl)
             | (apply qw_step rfl
                focus
                  intro w0 hC
                  clear hC
                  go_simp
                  with_reducible rfl)
           try simp only [Act.put, List.setIfInBounds_toArray, List.set])
          (first
             | (apply qw_skip rfl)
             | (apply qw_step rfl
                focus
                  intro w0 hC
                  clear hC
                  go_simp
                  with_reducible rfl)
           try simp only [Act.put, List.setIfInBounds_toArray, List.set])
          (first
             | (apply qw_skip rfl)
             | (apply qw_step rfl
                focus
                  intro w0 hC
                  clear hC
                  go_simp
                  with_reducible rfl)
           try simp only [Act.put, List.setIfInBounds_toArray, List.set])
          refine qw_nil ?_
          intro w8 hC
          have HVA := Lib.hid (HVA.out.call hC.below (Nat.le_refl _))
          have HVB := Lib.hid (HVB.out.call hC.below (Nat.le_refl _))
          have HC := Lib.hid (HC.out.call hC.below)
          clear hC
          go_wp2_with fail
          go_meet
          exact ⟨rfl, HVA, HVB, HC⟩
        | some i =>
          obtain ⟨hi, hu, rfl⟩ : ∃ hi : i < x.kids.length, AnyAt w6 u x.kids[i] ∧ b = true := by cases HFR.out with | some _ h1 h2 h3 h4 => exact ⟨h1, h2, h3⟩
          obtain ⟨cs, h3, h4, e4⟩ : ∃ cs : Nat → NdC, ElemsAt w ca.ka x.kids.length 5 (fun i => ndC (cs i)) ∧ (∀ i (h : i < x.kids.length), NodeAt w (cs i) x.kids[i]) ∧ ca.kn = x.kids.length := by cases ha with | mk c kids names cs hk hn h1 h2 h3 h4 h5 => exact ⟨_, h3, h4, h1⟩
          have smk : Small x.kids[i] := by
            have : ∀ z ∈ x.kids, Small z := by cases sma; assumption
            exact this _ (List.getElem_mem hi)
          rw [show fInt (some i) = (i : Int) from rfl]
          have hd : Below w7.heap.size w7 w7.drew := (Below.refl _ _).drew
          have HU := Lib.hid ((hu.call HW.out (Nat.le_refl _)).call hd (Nat.le_refl _))
          have HVA := Lib.hid (HVA.out.call hd (Nat.le_refl _))
          have HVB := Lib.hid (HVB.out.call hd (Nat.le_refl _))
          have HW2 := Lib.hid (fun w' (h : Below w.heap.size w w') => own10_any x.kids[i] smk (cs i) w' ((h4 i hi).call h (Nat.le_refl _)))
          have HB2 := Lib.hid (fun v w' (h : AnyAt w' v x.kids[i]) => back_any x.kids[i] smk 0 (by omega) v w' h)
          have HSM := Lib.hid (fun c1 c2 w' (h1 : NodeAt w' c1 (ndBack x.kids[i] 0)) (h2 : NodeAt w' c2 (ndBack x.kids[i] 0)) => refSame_any (ndBack x.kids[i] 0) (small_back _ 0 smk) _ c1 c2 w' h1 h2)
          rw [rSame_self] at HSM
          rw [show ((0 : Nat) : Int) = 0 from rfl] at HB2
          obtain ⟨ad, had⟩ := h3.some i hi
          rw [had] at h3
          have HLD := Lib.hid (fun w' (hb : Below w.heap.size w w') => ((h3.call hb (Nat.le_refl _)).at i hi).node)
          have hld := HLD.out _ HC.out.below
          generalize ndBack x.kids[i] 0 = Y at HSM HB2
          generalize x.kids[i] = K at HB2 HW2 HU
          have i1 : (i : Int) < (ca.kn : Int) := by omega
          have i3 : i < ca.kn := by omega
          have i2 : (0 : Int) ≤ (i : Int) := by omega
          clear h3 h4 hu smk hd HFR HW
          (obtain ⟨⟨r1, f1, i1, b1, l1⟩, ⟨r2, f2, i2, b2, l2⟩, m12, m21⟩ := St.facts2 (HC.out.pick [0, 1] (by decide) rfl))
          have hldd := HLD.out _ HC.out.drew.below
          refine wp_region_any (by kernel_rfl) ?_
          try (change wpAny _ _ _ _ _ _ _ (World.drew _))
          refine wpAny_take (i := 0) (v := ?_) rfl (by kernel_rfl) (by kernel_rfl) (by kernel_rfl) (fun _ _ _ h => h) (Or.inl ⟨by kernel_rfl, ?_⟩) ?_
          rotate_left 1
          · intro w0
            (first
               | (go_simp; done)
               | (go_simp; with_reducible rfl))
          try simp only [Act.put, List.setIfInBounds_toArray]
          refine wpAny_take (i := 1) (v := ?_) rfl (by kernel_rfl) (by kernel_rfl) (by kernel_rfl) (fun _ _ _ h => h) (Or.inl ⟨by kernel_rfl, ?_⟩) ?_
          rotate_left 1
          · intro w0
            (first
               | (go_simp; done)
               | (go_simp; with_reducible rfl))
          try simp only [Act.put]
          refine wpAny_take (i := 2) (v := ?_) rfl (by kernel_rfl) (by kernel_rfl) (by kernel_rfl) (fun _ _ _ h => h) (Or.inl ⟨by kernel_rfl, ?_⟩) ?_
          rotate_left 1
          · intro w0
            (first
               | (go_simp; done)
               | (go_simp; with_reducible rfl))
          try simp only [Act.put]
          refine wpAny_take (i := 3) (v := ?_) rfl (by kernel_rfl) (by kernel_rfl) (by kernel_rfl) (fun _ _ _ h => h) (Or.inl ⟨by kernel_rfl, ?_⟩) ?_
          rotate_left 1
          · intro w0
            (first
               | (go_simp; done)
               | (go_simp; with_reducible rfl))
          try simp only [Act.put]
          refine wpAny_take (i := 4) (v := ?_) rfl (by kernel_rfl) (by kernel_rfl) (by kernel_rfl) (fun _ _ _ h => h) (Or.inl ⟨by kernel_rfl, ?_⟩) ?_
          rotate_left 1
          · intro w0
            (first
               | (go_simp; done)
               | (go_simp; with_reducible rfl))
          try simp only [Act.put]
          refine wpAny_take (i := 5) (v := ?_) rfl (by kernel_rfl) (by kernel_rfl) (by kernel_rfl) (fun _ _ _ h => h) (Or.inl ⟨by kernel_rfl, ?_⟩) ?_
          rotate_left 1
          · intro w0
            (first
               | (go_simp; done)
               | (go_simp; with_reducible rfl))
          try simp only [Act.put]
          refine wpAny_take (i := 6) (v := ?_) rfl (by kernel_rfl) (by kernel_rfl) (by kernel_rfl) (fun _ _ _ h => h) (Or.inl ⟨by kernel_rfl, ?_⟩) ?_
          rotate_left 1
          · intro w0
            (first
               | (go_simp; done)
               | (go_simp; with_reducible rfl))
          try simp only [Act.put]
          refine wpAny_take (i := 7) (v := ?_) rfl (by kernel_rfl) (by kernel_rfl) (by kernel_rfl) (fun _ _ _ h => h) (Or.inl ⟨by kernel_rfl, ?_⟩) ?_
          rotate_left 1
          · intro w0
            (first
               | (go_simp; done)
               | (go_simp; with_reducible rfl))
          try simp only [Act.put]
          refine wpAny_take (i := 9) (v := ?_) rfl (by kernel_rfl) (by kernel_rfl) (by kernel_rfl) (fun _ _ _ h => h) (Or.inl ⟨by kernel_rfl, ?_⟩) ?_
          rotate_left 1
          · intro w0
            (first
               | (go_simp; done)
               | (go_simp; with_reducible rfl))
          try simp only [Act.put]
          refine wpAny_take (i := 11) (v := ?_) rfl (by kernel_rfl) (by kernel_rfl) (by kernel_rfl) (fun _ _ _ h => h) (Or.inl ⟨by kernel_rfl, ?_⟩) ?_
          rotate_left 1
          · intro w0
            (first
               | (go_simp; done)
               | (go_simp; with_reducible rfl))
          try simp only [Act.put]
          refine wpAny_ready (rs := [8, 10]) (by kernel_rfl) (by simp) ?_
          refine AllReady.cons rfl (fun K hK => ?_) ?_
          · rw [if_pos (by kernel_rfl)]
            go_simp
            go_at_call 18
            refine (HB2.out u _ HU.out).mono ?_; rintro r0 wB ⟨c1, L1, rfl, hx, hS⟩
            have HX1 := Lib.hid (hx.at hS)
            have HVA := Lib.hid (HVA.out.call hS.below (Nat.le_refl _))
            have HVB := Lib.hid (HVB.out.call hS.below (Nat.le_refl _))
            have HC := Lib.hid (HC.out.drew.call hS.below)
            clear hx hS hld r1 f1 i1 b1 l1 r2 f2 i2 b2 l2 m12 m21
            have hld := HLD.out _ HC.out.below
            obtain ⟨⟨r1, f1, i1, b1, l1⟩, ⟨r2, f2, i2, b2, l2⟩, m12, m21⟩ := St.facts2 HC.out
            try go_simp
            refine hK _ _ ?_
            clear hK K
            try simp only [Act.put, List.setIfInBounds_toArray, List.set]
            refine wpAny_ready (rs := [10]) (by kernel_rfl) (by simp) ?_
            refine AllReady.cons rfl (fun K hK => ?_) AllReady.nil
            rw [if_pos (by kernel_rfl)]
            go_simp
            refine hK _ _ ?_
            clear hK K
            try simp only [Act.put, List.setIfInBounds_toArray, List.set]
            refine wpAny_ready (rs := [12]) (by kernel_rfl) (by simp) ?_
            refine AllReady.cons rfl (fun K hK => ?_) AllReady.nil
            rw [if_pos (by kernel_rfl)]
            go_simp
            refine hK _ _ ?_
            clear hK K
            try simp only [Act.put, List.setIfInBounds_toArray, List.set]
            refine wpAny_ready (rs := [13]) (by kernel_rfl) (by simp) ?_
            refine AllReady.cons rfl (fun K hK => ?_) AllReady.nil
            rw [if_pos (by kernel_rfl)]
            go_simp
            refine hK _ _ ?_
            clear hK K
            try simp only [Act.put, List.setIfInBounds_toArray, List.set]
            refine wpAny_ready (rs := [14]) (by kernel_rfl) (by simp) ?_
            refine AllReady.cons rfl (fun K hK => ?_) AllReady.nil
            rw [if_pos (by kernel_rfl)]
            go_simp
            go_at_call 10
            refine (HW2.out _ HC.out.below).mono ?_; rintro r0 wC ⟨v2, L2, rfl, hv, hS⟩
            have HV2 := Lib.hid (hv.at hS)
            have HX1 := Lib.hid (HX1.out.call hS.below (Nat.le_refl _))
            have HVA := Lib.hid (HVA.out.call hS.below (Nat.le_refl _))
            have HVB := Lib.hid (HVB.out.call hS.below (Nat.le_refl _))
            have HC := Lib.hid (HC.out.call hS.below)
            clear hv hS hld r1 f1 i1 b1 l1 r2 f2 i2 b2 l2 m12 m21
            try go_simp
            refine hK _ _ ?_
            clear hK K
            try simp only [Act.put, List.setIfInBounds_toArray, List.set]
            refine wpAny_ready (rs := [15]) (by kernel_rfl) (by simp) ?_
            refine AllReady.cons rfl (fun K hK => ?_) AllReady.nil
            rw [if_pos (by kernel_rfl)]
            go_simp
            go_at_call 18
            refine (HB2.out v2 _ HV2.out).mono ?_; rintro r0 wD ⟨c2, L3, rfl, hx, hS⟩
            have HX1 := Lib.hid (HX1.out.call hS.below (Nat.le_refl _))
            have HX2 := Lib.hid (hx.at hS)
            have HVA := Lib.hid (HVA.out.call hS.below (Nat.le_refl _))
            have HVB := Lib.hid (HVB.out.call hS.below (Nat.le_refl _))
            have HC := Lib.hid (HC.out.call hS.below)
            clear hx hS
            try go_simp
            refine hK _ _ ?_
            clear hK K
            try simp only [Act.put, List.setIfInBounds_toArray, List.set]
            refine wpAny_ready (rs := [16]) (by kernel_rfl) (by simp) ?_
            refine AllReady.cons rfl (fun K hK => ?_) AllReady.nil
            rw [if_pos (by kernel_rfl)]
            go_simp
            go_at_call 17
            refine (HSM.out _ _ _ HX1.out HX2.out).mono ?_; rintro r0 wE ⟨rfl, hw⟩
            have HVA := Lib.hid (HVA.out.call hw (Nat.le_refl _))
            have HVB := Lib.hid (HVB.out.call hw (Nat.le_refl _))
            have HC := Lib.hid (HC.out.call hw)
            clear hw
            try go_simp
            refine hK _ _ ?_
            clear hK K
            try simp only [Act.put, List.setIfInBounds_toArray, List.set]
            refine wpAny_take (i := 17) (v := ?_) rfl (by kernel_rfl) (by kernel_rfl) (by kernel_rfl) (fun _ _ _ h => h) (Or.inl ⟨by kernel_rfl, ?_⟩) ?_
            rotate_left 1
            · intro w0
              (first
                 | (go_simp; done)
                 | (go_simp; with_reducible rfl))
            try simp only [Act.put, List.setIfInBounds_toArray]
            refine wpAny_take (i := 18) (v := ?_) rfl (by kernel_rfl) (by kernel_rfl) (by kernel_rfl) (fun _ _ _ h => h) (Or.inl ⟨by kernel_rfl, ?_⟩) ?_
            rotate_left 1
            · intro w0
              (first
                 | (go_simp; done)
                 | (go_simp; with_reducible rfl))
            try simp only [Act.put]
            refine wpAny_take (i := 19) (v := ?_) rfl (by kernel_rfl) (by kernel_rfl) (by kernel_rfl) (fun _ _ _ h => h) (Or.inl ⟨by kernel_rfl, ?_⟩) ?_
            rotate_left 1
            · intro w0
              (first
                 | (go_simp; done)
                 | (go_simp; with_reducible rfl))
            try simp only [Act.put]
            refine wpAny_take (i := 20) (v := ?_) rfl (by kernel_rfl) (by kernel_rfl) (by kernel_rfl) (fun _ _ _ h => h) (Or.inl ⟨by kernel_rfl, ?_⟩) ?_
            rotate_left 1
            · intro w0
              (first
                 | (go_simp; done)
                 | (go_simp; with_reducible rfl))
            try simp only [Act.put]
            refine wpAny_take (i := 21) (v := ?_) rfl (by kernel_rfl) (by kernel_rfl) (by kernel_rfl) (fun _ _ _ h => h) (Or.inl ⟨by kernel_rfl, ?_⟩) ?_
            rotate_left 1
            · intro w0
              (first
                 | (go_simp; done)
                 | (go_simp; with_reducible rfl))
            try simp only [Act.put]
            refine wpAny_take (i := 22) (v := ?_) rfl (by kernel_rfl) (by kernel_rfl) (by kernel_rfl) (fun _ _ _ h => h) (Or.inl ⟨by kernel_rfl, ?_⟩) ?_
            rotate_left 1
            · intro w0
              (first
                 | (go_simp; done)
                 | (go_simp; with_reducible rfl))
            try simp only [Act.put]
            refine wpAny_take (i := 23) (v := ?_) rfl (by kernel_rfl) (by kernel_rfl) (by kernel_rfl) (fun _ _ _ h => h) (Or.inl ⟨by kernel_rfl, ?_⟩) ?_
            rotate_left 1
            · intro w0
              (first
                 | (go_simp; done)
                 | (go_simp; with_reducible rfl))
            try simp only [Act.put]
            refine wpAny_take (i := 24) (v := undef) rfl (by kernel_rfl) (by kernel_rfl) (by kernel_rfl) (fun _ _ _ h => h) (Or.inr ⟨by kernel_rfl, rfl⟩) ?_
            try simp only [Act.put]
            refine wpAny_take (i := 25) (v := undef) rfl (by kernel_rfl) (by kernel_rfl) (by kernel_rfl) (fun _ _ _ h => h) (Or.inr ⟨by kernel_rfl, rfl⟩) ?_
            try simp only [Act.put]
            refine wpAny_ready (rs := [26]) (by kernel_rfl) (by simp) ?_
            refine AllReady.cons rfl (fun K hK => ?_) AllReady.nil
            rw [if_pos (by kernel_rfl)]
            go_simp
            refine hK _ _ ?_
            clear hK K
            try simp only [Act.put, List.setIfInBounds_toArray, List.set]
            refine wpAny_ready (rs := [27]) (by kernel_rfl) (by simp) ?_
            refine AllReady.cons rfl (fun K hK => ?_) AllReady.nil
            rw [if_pos (by kernel_rfl)]
            go_simp
            refine hK _ _ ?_
            clear hK K
            try simp only [Act.put, List.setIfInBounds_toArray, List.set]
            refine wpAny_done (by kernel_rfl) ?_ _
            go_wp2_with fail
            go_meet
            exact ⟨rfl, HVA, HVB, HC⟩
          · refine AllReady.cons rfl (fun K hK => ?_) AllReady.nil
            rw [if_pos (by kernel_rfl)]
            go_simp
            refine hK _ _ ?_
            clear hK K
            try simp only [Act.put, List.setIfInBounds_toArray, List.set]
            refine wpAny_ready (rs := [8, 12]) (by kernel_rfl) (by simp) ?_
            refine AllReady.cons rfl (fun K hK => ?_) ?_
            · rw [if_pos (by kernel_rfl)]
              go_simp
              go_at_call 18
              refine (HB2.out u _ HU.out).mono ?_; rintro r0 wB ⟨c1, L1, rfl, hx, hS⟩
              have HX1 := Lib.hid (hx.at hS)
              have HVA := Lib.hid (HVA.out.call hS.below (Nat.le_refl _))
              have HVB := Lib.hid (HVB.out.call hS.below (Nat.le_refl _))
              have HC := Lib.hid (HC.out.drew.call hS.below)
              clear hx hS hld r1 f1 i1 b1 l1 r2 f2 i2 b2 l2 m12 m21
              have hld := HLD.out _ HC.out.below
              obtain ⟨⟨r1, f1, i1, b1, l1⟩, ⟨r2, f2, i2, b2, l2⟩, m12, m21⟩ := St.facts2 HC.out
              try go_simp
              refine hK _ _ ?_
              clear hK K
              try simp only [Act.put, List.setIfInBounds_toArray, List.set]
              refine wpAny_ready (rs := [12]) (by kernel_rfl) (by simp) ?_
              refine AllReady.cons rfl (fun K hK => ?_) AllReady.nil
              rw [if_pos (by kernel_rfl)]
              go_simp
              refine hK _ _ ?_
              clear hK K
              try simp only [Act.put, List.setIfInBounds_toArray, List.set]
              refine wpAny_ready (rs := [13]) (by kernel_rfl) (by simp) ?_
              refine AllReady.cons rfl (fun K hK => ?_) AllReady.nil
              rw [if_pos (by kernel_rfl)]
              go_simp
              refine hK _ _ ?_
              clear hK K
              try simp only [Act.put, List.setIfInBounds_toArray, List.set]
              refine wpAny_ready (rs := [14]) (by kernel_rfl) (by simp) ?_
              refine AllReady.cons rfl (fun K hK => ?_) AllReady.nil
              rw [if_pos (by kernel_rfl)]
              go_simp
              go_at_call 10
              refine (HW2.out _ HC.out.below).mono ?_; rintro r0 wC ⟨v2, L2, rfl, hv, hS⟩
              have HV2 := Lib.hid (hv.at hS)
              have HX1 := Lib.hid (HX1.out.call hS.below (Nat.le_refl _))
              have HVA := Lib.hid (HVA.out.call hS.below (Nat.le_refl _))
              have HVB := Lib.hid (HVB.out.call hS.below (Nat.le_refl _))
              have HC := Lib.hid (HC.out.call hS.below)
              clear hv hS hld r1 f1 i1 b1 l1 r2 f2 i2 b2 l2 m12 m21
              try go_simp
              refine hK _ _ ?_
              clear hK K
              try simp only [Act.put, List.setIfInBounds_toArray, List.set]
              refine wpAny_ready (rs := [15]) (by kernel_rfl) (by simp) ?_
              refine AllReady.cons rfl (fun K hK => ?_) AllReady.nil
              rw [if_pos (by kernel_rfl)]
              go_simp
              go_at_call 18
              refine (HB2.out v2 _ HV2.out).mono ?_; rintro r0 wD ⟨c2, L3, rfl, hx, hS⟩
              have HX1 := Lib.hid (HX1.out.call hS.below (Nat.le_refl _))
              have HX2 := Lib.hid (hx.at hS)
              have HVA := Lib.hid (HVA.out.call hS.below (Nat.le_refl _))
              have HVB := Lib.hid (HVB.out.call hS.below (Nat.le_refl _))
              have HC := Lib.hid (HC.out.call hS.below)
              clear hx hS
              try go_simp
              refine hK _ _ ?_
              clear hK K
              try simp only [Act.put, List.setIfInBounds_toArray, List.set]
              refine wpAny_ready (rs := [16]) (by kernel_rfl) (by simp) ?_
              refine AllReady.cons rfl (fun K hK => ?_) AllReady.nil
              rw [if_pos (by kernel_rfl)]
              go_simp
              go_at_call 17
              refine (HSM.out _ _ _ HX1.out HX2.out).mono ?_; rintro r0 wE ⟨rfl, hw⟩
              have HVA := Lib.hid (HVA.out.call hw (Nat.le_refl _))
              have HVB := Lib.hid (HVB.out.call hw (Nat.le_refl _))
              have HC := Lib.hid (HC.out.call hw)
              clear hw
              try go_simp
              refine hK _ _ ?_
              clear hK K
              try simp only [Act.put, List.setIfInBounds_toArray, List.set]
              refine wpAny_take (i := 17) (v := ?_) rfl (by kernel_rfl) (by kernel_rfl) (by kernel_rfl) (fun _ _ _ h => h) (Or.inl ⟨by kernel_rfl, ?_⟩) ?_
              rotate_left 1
              · intro w0
                (first
                   | (go_simp; done)
                   | (go_simp; with_reducible rfl))
              try simp only [Act.put, List.setIfInBounds_toArray]
              refine wpAny_take (i := 18) (v := ?_) rfl (by kernel_rfl) (by kernel_rfl) (by kernel_rfl) (fun _ _ _ h => h) (Or.inl ⟨by kernel_rfl, ?_⟩) ?_
              rotate_left 1
              · intro w0
                (first
                   | (go_simp; done)
                   | (go_simp; with_reducible rfl))
              try simp only [Act.put]
              refine wpAny_take (i := 19) (v := ?_) rfl (by kernel_rfl) (by kernel_rfl) (by kernel_rfl) (fun _ _ _ h => h) (Or.inl ⟨by kernel_rfl, ?_⟩) ?_
              rotate_left 1
              · intro w0
                (first
                   | (go_simp; done)
                   | (go_simp; with_reducible rfl))
              try simp only [Act.put]
              refine wpAny_take (i := 20) (v := ?_) rfl (by kernel_rfl) (by kernel_rfl) (by kernel_rfl) (fun _ _ _ h => h) (Or.inl ⟨by kernel_rfl, ?_⟩) ?_
              rotate_left 1
              · intro w0
                (first
                   | (go_simp; done)
                   | (go_simp; with_reducible rfl))
              try simp only [Act.put]
              refine wpAny_take (i := 21) (v := ?_) rfl (by kernel_rfl) (by kernel_rfl) (by kernel_rfl) (fun _ _ _ h => h) (Or.inl ⟨by kernel_rfl, ?_⟩) ?_
              rotate_left 1
              · intro w0
                (first
                   | (go_simp; done)
                   | (go_simp; with_reducible rfl))
              try simp only [Act.put]
              refine wpAny_take (i := 22) (v := ?_) rfl (by kernel_rfl) (by kernel_rfl) (by kernel_rfl) (fun _ _ _ h => h) (Or.inl ⟨by kernel_rfl, ?_⟩) ?_
              rotate_left 1
              · intro w0
                (first
                   | (go_simp; done)
                   | (go_simp; with_reducible rfl))
              try simp only [Act.put]
              refine wpAny_take (i := 23) (v := ?_) rfl (by kernel_rfl) (by kernel_rfl) (by kernel_rfl) (fun _ _ _ h => h) (Or.inl ⟨by kernel_rfl, ?_⟩) ?_
              rotate_left 1
              · intro w0
                (first
                   | (go_simp; done)
                   | (go_simp; with_reducible rfl))
              try simp only [Act.put]
              refine wpAny_take (i := 24) (v := undef) rfl (by kernel_rfl) (by kernel_rfl) (by kernel_rfl) (fun _ _ _ h => h) (Or.inr ⟨by kernel_rfl, rfl⟩) ?_
              try simp only [Act.put]
              refine wpAny_take (i := 25) (v := undef) rfl (by kernel_rfl) (by kernel_rfl) (by kernel_rfl) (fun _ _ _ h => h) (Or.inr ⟨by kernel_rfl, rfl⟩) ?_
              try simp only [Act.put]
              refine wpAny_ready (rs := [26]) (by kernel_rfl) (by simp) ?_
              refine AllReady.cons rfl (fun K hK => ?_) AllReady.nil
              rw [if_pos (by kernel_rfl)]
              go_simp
              refine hK _ _ ?_
              clear hK K
              try simp only [Act.put, List.setIfInBounds_toArray, List.set]
              refine wpAny_ready (rs := [27]) (by kernel_rfl) (by simp) ?_
              refine AllReady.cons rfl (fun K hK => ?_) AllReady.nil
              rw [if_pos (by kernel_rfl)]
              go_simp
              refine hK _ _ ?_
              clear hK K
              try simp only [Act.put, List.setIfInBounds_toArray, List.set]
              refine wpAny_done (by kernel_rfl) ?_ _
              go_wp2_with fail
              go_meet
              exact ⟨rfl, HVA, HVB, HC⟩
            · refine AllReady.cons rfl (fun K hK => ?_) AllReady.nil
              rw [if_pos (by kernel_rfl)]
              go_simp
              refine hK _ _ ?_
              clear hK K
              try simp only [Act.put, List.setIfInBounds_toArray, List.set]
              refine wpAny_ready (rs := [8, 13]) (by kernel_rfl) (by simp) ?_
              refine AllReady.cons rfl (fun K hK => ?_) ?_
              · rw [if_pos (by kernel_rfl)]
                go_simp
                go_at_call 18
                refine (HB2.out u _ HU.out).mono ?_; rintro r0 wB ⟨c1, L1, rfl, hx, hS⟩
                have HX1 := Lib.hid (hx.at hS)
                have HVA := Lib.hid (HVA.out.call hS.below (Nat.le_refl _))
                have HVB := Lib.hid (HVB.out.call hS.below (Nat.le_refl _))
                have HC := Lib.hid (HC.out.drew.call hS.below)
                clear hx hS hld r1 f1 i1 b1 l1 r2 f2 i2 b2 l2 m12 m21
                have hld := HLD.out _ HC.out.below
                obtain ⟨⟨r1, f1, i1, b1, l1⟩, ⟨r2, f2, i2, b2, l2⟩, m12, m21⟩ := St.facts2 HC.out
                try go_simp
                refine hK _ _ ?_
                clear hK K
                try simp only [Act.put, List.setIfInBounds_toArray, List.set]
                refine wpAny_ready (rs := [13]) (by kernel_rfl) (by simp) ?_
                refine AllReady.cons rfl (fun K hK => ?_) AllReady.nil
                rw [if_pos (by kernel_rfl)]
                go_simp
                refine hK _ _ ?_
                clear hK K
                try simp only [Act.put, List.setIfInBounds_toArray, List.set]
                refine wpAny_ready (rs := [14]) (by kernel_rfl) (by simp) ?_
                refine AllReady.cons rfl (fun K hK => ?_) AllReady.nil
                rw [if_pos (by kernel_rfl)]
                go_simp
                go_at_call 10
                refine (HW2.out _ HC.out.below).mono ?_; rintro r0 wC ⟨v2, L2, rfl, hv, hS⟩
                have HV2 := Lib.hid (hv.at hS)
                have HX1 := Lib.hid (HX1.out.call hS.below (Nat.le_refl _))
                have HVA := Lib.hid (HVA.out.call hS.below (Nat.le_refl _))
                have HVB := Lib.hid (HVB.out.call hS.below (Nat.le_refl _))
                have HC := Lib.hid (HC.out.call hS.below)
                clear hv hS hld r1 f1 i1 b1 l1 r2 f2 i2 b2 l2 m12 m21
                try go_simp
                refine hK _ _ ?_
                clear hK K
                try simp only [Act.put, List.setIfInBounds_toArray, List.set]
                refine wpAny_ready (rs := [15]) (by kernel_rfl) (by simp) ?_
                refine AllReady.cons rfl (fun K hK => ?_) AllReady.nil
                rw [if_pos (by kernel_rfl)]
                go_simp
                go_at_call 18
                refine (HB2.out v2 _ HV2.out).mono ?_; rintro r0 wD ⟨c2, L3, rfl, hx, hS⟩
                have HX1 := Lib.hid (HX1.out.call hS.below (Nat.le_refl _))
                have HX2 := Lib.hid (hx.at hS)
                have HVA := Lib.hid (HVA.out.call hS.below (Nat.le_refl _))
                have HVB := Lib.hid (HVB.out.call hS.below (Nat.le_refl _))
                have HC := Lib.hid (HC.out.call hS.below)
                clear hx hS
                try go_simp
                refine hK _ _ ?_
                clear hK K
                try simp only [Act.put, List.setIfInBounds_toArray, List.set]
                refine wpAny_ready (rs := [16]) (by kernel_rfl) (by simp) ?_
                refine AllReady.cons rfl (fun K hK => ?_) AllReady.nil
                rw [if_pos (by kernel_rfl)]
                go_simp
                go_at_call 17
                refine (HSM.out _ _ _ HX1.out HX2.out).mono ?_; rintro r0 wE ⟨rfl, hw⟩
                have HVA := Lib.hid (HVA.out.call hw (Nat.le_refl _))
                have HVB := Lib.hid (HVB.out.call hw (Nat.le_refl _))
                have HC := Lib.hid (HC.out.call hw)
                clear hw
                try go_simp
                refine hK _ _ ?_
                clear hK K
                try simp only [Act.put, List.setIfInBounds_toArray, List.set]
                refine wpAny_take (i := 17) (v := ?_) rfl (by kernel_rfl) (by kernel_rfl) (by kernel_rfl) (fun _ _ _ h => h) (Or.inl ⟨by kernel_rfl, ?_⟩) ?_
                rotate_left 1
                · intro w0
                  (first
                     | (go_simp; done)
                     | (go_simp; with_reducible rfl))
                try simp only [Act.put, List.setIfInBounds_toArray]
                refine wpAny_take (i := 18) (v := ?_) rfl (by kernel_rfl) (by kernel_rfl) (by kernel_rfl) (fun _ _ _ h => h) (Or.inl ⟨by kernel_rfl, ?_⟩) ?_
                rotate_left 1
                · intro w0
                  (first
                     | (go_simp; done)
                     | (go_simp; with_reducible rfl))
                try simp only [Act.put]
                refine wpAny_take (i := 19) (v := ?_) rfl (by kernel_rfl) (by kernel_rfl) (by kernel_rfl) (fun _ _ _ h => h) (Or.inl ⟨by kernel_rfl, ?_⟩) ?_
                rotate_left 1
                · intro w0
                  (first
                     | (go_simp; done)
                     | (go_simp; with_reducible rfl))
                try simp only [Act.put]
                refine wpAny_take (i := 20) (v := ?_) rfl (by kernel_rfl) (by kernel_rfl) (by kernel_rfl) (fun _ _ _ h => h) (Or.inl ⟨by kernel_rfl, ?_⟩) ?_
                rotate_left 1
                · intro w0
                  (first
                     | (go_simp; done)
                     | (go_simp; with_reducible rfl))
                try simp only [Act.put]
                refine wpAny_take (i := 21) (v := ?_) rfl (by kernel_rfl) (by kernel_rfl) (by kernel_rfl) (fun _ _ _ h => h) (Or.inl ⟨by kernel_rfl, ?_⟩) ?_
                rotate_left 1
                · intro w0
                  (first
                     | (go_simp; done)
                     | (go_simp; with_reducible rfl))
                try simp only [Act.put]
                refine wpAny_take (i := 22) (v := ?_) rfl (by kernel_rfl) (by kernel_rfl) (by kernel_rfl) (fun _ _ _ h => h) (Or.inl ⟨by kernel_rfl, ?_⟩) ?_
                rotate_left 1
                · intro w0
                  (first
                     | (go_simp; done)
                     | (go_simp; with_reducible rfl))
                try simp only [Act.put]
                refine wpAny_take (i := 23) (v := ?_) rfl (by kernel_rfl) (by kernel_rfl) (by kernel_rfl) (fun _ _ _ h => h) (Or.inl ⟨by kernel_rfl, ?_⟩) ?_
                rotate_left 1
                · intro w0
                  (first
                     | (go_simp; done)
                     | (go_simp; with_reducible rfl))
                try simp only [Act.put]
                refine wpAny_take (i := 24) (v := undef) rfl (by kernel_rfl) (by kernel_rfl) (by kernel_rfl) (fun _ _ _ h => h) (Or.inr ⟨by kernel_rfl, rfl⟩) ?_
                try simp only [Act.put]
                refine wpAny_take (i := 25) (v := undef) rfl (by kernel_rfl) (by kernel_rfl) (by kernel_rfl) (fun _ _ _ h => h) (Or.inr ⟨by kernel_rfl, rfl⟩) ?_
                try simp only [Act.put]
                refine wpAny_ready (rs := [26]) (by kernel_rfl) (by simp) ?_
                refine AllReady.cons rfl (fun K hK => ?_) AllReady.nil
                rw [if_pos (by kernel_rfl)]
                go_simp
                refine hK _ _ ?_
                clear hK K
                try simp only [Act.put, List.setIfInBounds_toArray, List.set]
                refine wpAny_ready (rs := [27]) (by kernel_rfl) (by simp) ?_
                refine AllReady.cons rfl (fun K hK => ?_) AllReady.nil
                rw [if_pos (by kernel_rfl)]
                go_simp
                refine hK _ _ ?_
                clear hK K
                try simp only [Act.put, List.setIfInBounds_toArray, List.set]
                refine wpAny_done (by kernel_rfl) ?_ _
                go_wp2_with fail
                go_meet
                exact ⟨rfl, HVA, HVB, HC⟩
              · refine AllReady.cons rfl (fun K hK => ?_) AllReady.nil
                rw [if_pos (by kernel_rfl)]
                go_simp
                refine hK _ _ ?_
                clear hK K
                try simp only [Act.put, List.setIfInBounds_toArray, List.set]
                refine wpAny_ready (rs := [8]) (by kernel_rfl) (by simp) ?_
                refine AllReady.cons rfl (fun K hK => ?_) AllReady.nil
                rw [if_pos (by kernel_rfl)]
                go_simp
                go_at_call 18
                refine (HB2.out u _ HU.out).mono ?_; rintro r0 wB ⟨c1, L1, rfl, hx, hS⟩
                have HX1 := Lib.hid (hx.at hS)
                have HVA := Lib.hid (HVA.out.call hS.below (Nat.le_refl _))
                have HVB := Lib.hid (HVB.out.call hS.below (Nat.le_refl _))
                have HC := Lib.hid (HC.out.drew.call hS.below)
                clear hx hS hld r1 f1 i1 b1 l1 r2 f2 i2 b2 l2 m12 m21
                have hld := HLD.out _ HC.out.below
                obtain ⟨⟨r1, f1, i1, b1, l1⟩, ⟨r2, f2, i2, b2, l2⟩, m12, m21⟩ := St.facts2 HC.out
                try go_simp
                refine hK _ _ ?_
                clear hK K
                try simp only [Act.put, List.setIfInBounds_toArray, List.set]
                refine wpAny_ready (rs := [14]) (by kernel_rfl) (by simp) ?_
                refine AllReady.cons rfl (fun K hK => ?_) AllReady.nil
                rw [if_pos (by kernel_rfl)]
                go_simp
                go_at_call 10
                refine (HW2.out _ HC.out.below).mono ?_; rintro r0 wC ⟨v2, L2, rfl, hv, hS⟩
                have HV2 := Lib.hid (hv.at hS)
                have HX1 := Lib.hid (HX1.out.call hS.below (Nat.le_refl _))
                have HVA := Lib.hid (HVA.out.call hS.below (Nat.le_refl _))
                have HVB := Lib.hid (HVB.out.call hS.below (Nat.le_refl _))
                have HC := Lib.hid (HC.out.call hS.below)
                clear hv hS hld r1 f1 i1 b1 l1 r2 f2 i2 b2 l2 m12 m21
                try go_simp
                refine hK _ _ ?_
                clear hK K
                try simp only [Act.put, List.setIfInBounds_toArray, List.set]
                refine wpAny_ready (rs := [15]) (by kernel_rfl) (by simp) ?_
                refine AllReady.cons rfl (fun K hK => ?_) AllReady.nil
                rw [if_pos (by kernel_rfl)]
                go_simp
                go_at_call 18
                refine (HB2.out v2 _ HV2.out).mono ?_; rintro r0 wD ⟨c2, L3, rfl, hx, hS⟩
                have HX1 := Lib.hid (HX1.out.call hS.below (Nat.le_refl _))
                have HX2 := Lib.hid (hx.at hS)
                have HVA := Lib.hid (HVA.out.call hS.below (Nat.le_refl _))
                have HVB := Lib.hid (HVB.out.call hS.below (Nat.le_refl _))
                have HC := Lib.hid (HC.out.call hS.below)
                clear hx hS
                try go_simp
                refine hK _ _ ?_
                clear hK K
                try simp only [Act.put, List.setIfInBounds_toArray, List.set]
                refine wpAny_ready (rs := [16]) (by kernel_rfl) (by simp) ?_
                refine AllReady.cons rfl (fun K hK => ?_) AllReady.nil
                rw [if_pos (by kernel_rfl)]
                go_simp
                go_at_call 17
                refine (HSM.out _ _ _ HX1.out HX2.out).mono ?_; rintro r0 wE ⟨rfl, hw⟩
                have HVA := Lib.hid (HVA.out.call hw (Nat.le_refl _))
                have HVB := Lib.hid (HVB.out.call hw (Nat.le_refl _))
                have HC := Lib.hid (HC.out.call hw)
                clear hw
                try go_simp
                refine hK _ _ ?_
                clear hK K
                try simp only [Act.put, List.setIfInBounds_toArray, List.set]
                refine wpAny_take (i := 17) (v := ?_) rfl (by kernel_rfl) (by kernel_rfl) (by kernel_rfl) (fun _ _ _ h => h) (Or.inl ⟨by kernel_rfl, ?_⟩) ?_
                rotate_left 1
                · intro w0
                  (first
                     | (go_simp; done)
                     | (go_simp; with_reducible rfl))
                try simp only [Act.put, List.setIfInBounds_toArray]
                refine wpAny_take (i := 18) (v := ?_) rfl (by kernel_rfl) (by kernel_rfl) (by kernel_rfl) (fun _ _ _ h => h) (Or.inl ⟨by kernel_rfl, ?_⟩) ?_
                rotate_left 1
                · intro w0
                  (first
                     | (go_simp; done)
                     | (go_simp; with_reducible rfl))
                try simp only [Act.put]
                refine wpAny_take (i := 19) (v := ?_) rfl (by kernel_rfl) (by kernel_rfl) (by kernel_rfl) (fun _ _ _ h => h) (Or.inl ⟨by kernel_rfl, ?_⟩) ?_
                rotate_left 1
                · intro w0
                  (first
                     | (go_simp; done)
                     | (go_simp; with_reducible rfl))
                try simp only [Act.put]
                refine wpAny_take (i := 20) (v := ?_) rfl (by kernel_rfl) (by kernel_rfl) (by kernel_rfl) (fun _ _ _ h => h) (Or.inl ⟨by kernel_rfl, ?_⟩) ?_
                rotate_left 1
                · intro w0
                  (first
                     | (go_simp; done)
                     | (go_simp; with_reducible rfl))
                try simp only [Act.put]
                refine wpAny_take (i := 21) (v := ?_) rfl (by kernel_rfl) (by kernel_rfl) (by kernel_rfl) (fun _ _ _ h => h) (Or.inl ⟨by kernel_rfl, ?_⟩) ?_
                rotate_left 1
                · intro w0
                  (first
                     | (go_simp; done)
                     | (go_simp; with_reducible rfl))
                try simp only [Act.put]
                refine wpAny_take (i := 22) (v := ?_) rfl (by kernel_rfl) (by kernel_rfl) (by kernel_rfl) (fun _ _ _ h => h) (Or.inl ⟨by kernel_rfl, ?_⟩) ?_
                rotate_left 1
                · intro w0
                  (first
                     | (go_simp; done)
                     | (go_simp; with_reducible rfl))
                try simp only [Act.put]
                refine wpAny_take (i := 23) (v := ?_) rfl (by kernel_rfl) (by kernel_rfl) (by kernel_rfl) (fun _ _ _ h => h) (Or.inl ⟨by kernel_rfl, ?_⟩) ?_
                rotate_left 1
                · intro w0
                  (first
                     | (go_simp; done)
                     | (go_simp; with_reducible rfl))
                try simp only [Act.put]
                refine wpAny_take (i := 24) (v := undef) rfl (by kernel_rfl) (by kernel_rfl) (by kernel_rfl) (fun _ _ _ h => h) (Or.inr ⟨by kernel_rfl, rfl⟩) ?_
                try simp only [Act.put]
                refine wpAny_take (i := 25) (v := undef) rfl (by kernel_rfl) (by kernel_rfl) (by kernel_rfl) (fun _ _ _ h => h) (Or.inr ⟨by kernel_rfl, rfl⟩) ?_
                try simp only [Act.put]
                refine wpAny_ready (rs := [26]) (by kernel_rfl) (by simp) ?_
                refine AllReady.cons rfl (fun K hK => ?_) AllReady.nil
                rw [if_pos (by kernel_rfl)]
                go_simp
                refine hK _ _ ?_
                clear hK K
                try simp only [Act.put, List.setIfInBounds_toArray, List.set]
                refine wpAny_ready (rs := [27]) (by kernel_rfl) (by simp) ?_
                refine AllReady.cons rfl (fun K hK => ?_) AllReady.nil
                rw [if_pos (by kernel_rfl)]
                go_simp
                refine hK _ _ ?_
                clear hK K
                try simp only [Act.put, List.setIfInBounds_toArray, List.set]
                refine wpAny_done (by kernel_rfl) ?_ _
                go_wp2_with fail
                go_meet
                exact ⟨rfl, HVA, HVB, HC⟩
      case rest =>
        obtain ⟨rfl, HVA', HVB', HJC⟩ := hcut
        clear HC HVA HVB HW HFR
        have HC := HJC
        have HVA := HVA'
        have HVB := HVB'
        clear HJC HVA' HVB'
        have HCA := Lib.hid (fun w' (hb : Below w.heap.size w w') => refCheck_any x ca 0 (by omega) w' (ha.call hb (Nat.le_refl _)))
        have HCB := Lib.hid (fun w' (h : Below w.heap.size w w') => refCheck_any y cb 0 (by omega) w' (hb.call h (Nat.le_refl _)))
        have HSP := Lib.hid (fun w' u v (hu : AnyAt w' u x) (hv : AnyAt w' v y) => same10_any x y sma smb hla hlb u v w' hu hv)
        have HSR := Lib.hid (fun w' (h : Below w.heap.size w w') => refSame_any x sma y ca cb w' (ha.call h (Nat.le_refl _)) (hb.call h (Nat.le_refl _)))
        rw [sameB_iff na nb] at HSP
        rw [show ((0 : Nat) : Int) = 0 from rfl] at HCA HCB
        generalize rSame x y = X at HSP HSR
        obtain ⟨EA, hEA⟩ : ∃ EA, ndChk x 0 = EA := ⟨_, rfl⟩
        obtain ⟨EB, hEB⟩ : ∃ EB, ndChk y 0 = EB := ⟨_, rfl⟩
        rw [hEA] at HCA HSP
        rw [hEB] at HCB HSP
        obtain ⟨Z, hZ⟩ : ∃ Z, (decide (EA = 0) && decide (EB = 0) && X) = Z := ⟨_, rfl⟩
        rw [hZ] at HSP
        clear hEA hEB
        (obtain ⟨⟨r1, f1, i1, b1, l1⟩, ⟨r2, f2, i2, b2, l2⟩, m12, m21⟩ := St.facts2 (HC.out.pick [0, 1] (by decide) rfl))
        go_wp2_with fail
        (clear r1 f1 i1 b1 l1 r2 f2 i2 b2 l2 m12 m21)
        refine (HCA.out _ HC.out.below).mono ?_; rintro e w8 ⟨rfl, hw⟩
        have HVA := Lib.hid (HVA.out.call hw (Nat.le_refl _))
        have HVB := Lib.hid (HVB.out.call hw (Nat.le_refl _))
        have HC := Lib.hid (HC.out.call hw)
        clear hw HCA
        by_cases ea : EA = 0
        · subst ea
          (obtain ⟨⟨r1, f1, i1, b1, l1⟩, ⟨r2, f2, i2, b2, l2⟩, m12, m21⟩ := St.facts2 (HC.out.pick [0, 1] (by decide) rfl))
          go_wp2_with fail
          (clear r1 f1 i1 b1 l1 r2 f2 i2 b2 l2 m12 m21)
          refine (HCB.out _ HC.out.below).mono ?_; rintro e w10 ⟨rfl, hw⟩
          have HVA := Lib.hid (HVA.out.call hw (Nat.le_refl _))
          have HVB := Lib.hid (HVB.out.call hw (Nat.le_refl _))
          have HC := Lib.hid (HC.out.call hw)
          clear hw HCB
          by_cases eb : EB = 0
          · subst eb
            obtain rfl : X = Z := by rw [← hZ]; simp
            clear hZ
            go_wp2_with fail
            refine (HSP.out _ _ _ HVA.out HVB.out).mono ?_; rintro e w11 ⟨rfl, hw⟩
            have HC := Lib.hid (HC.out.call hw)
            clear hw HSP
            (obtain ⟨⟨r1, f1, i1, b1, l1⟩, ⟨r2, f2, i2, b2, l2⟩, m12, m21⟩ := St.facts2 (HC.out.pick [0, 1] (by decide) rfl))
            go_wp2_with fail
            (clear r1 f1 i1 b1 l1 r2 f2 i2 b2 l2 m12 m21)
            refine (HSR.out _ HC.out.below).mono ?_; rintro e w12 ⟨rfl, hw⟩
            have HC := Lib.hid (HC.out.call hw)
            clear hw HSR
            go_wp2_with fail
            (refine (awake10_any _).mono ?_; rintro e w9 ⟨rfl, hw⟩
             have HC := Lib.hid (HC.out.call hw)
             clear hw
             go_wp2_with fail
             go_ret
             exact ⟨rfl, HC.out.below⟩)
          · obtain rfl : Z = false := by rw [← hZ]; simp [eb]
            clear hZ
            have e0 : ((EB : Int) == 0) = false := beq_eq_false_iff_ne.2 (by omega)
            go_wp2_with fail
            refine (HSP.out _ _ _ HVA.out HVB.out).mono ?_; rintro e w11 ⟨rfl, hw⟩
            have HC := Lib.hid (HC.out.call hw)
            clear hw HSP
            go_wp2_with fail
            (refine (awake10_any _).mono ?_; rintro e w9 ⟨rfl, hw⟩
             have HC := Lib.hid (HC.out.call hw)
             clear hw
             go_wp2_with fail
             go_ret
             exact ⟨rfl, HC.out.below⟩)
        · obtain rfl : Z = false := by rw [← hZ]; simp [ea]
          clear hZ
          have e0 : ((EA : Int) == 0) = false := beq_eq_false_iff_ne.2 (by omega)
          go_wp2_with fail
          refine (HSP.out _ _ _ HVA.out HVB.out).mono ?_; rintro e w11 ⟨rfl, hw⟩
          have HC := Lib.hid (HC.out.call hw)
          clear hw HSP
          go_wp2_with fail
          (refine (awake10_any _).mono ?_; rintro e w9 ⟨rfl, hw⟩
           have HC := Lib.hid (HC.out.call hw)
           clear hw
           go_wp2_with fail
           go_ret
           exact ⟨rfl, HC.out.below⟩)
end Go.Proofs.Ytinlcpenllfcpaa
