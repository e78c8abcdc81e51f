/- EntryMust: the walk. -/
import Derived.Test.YtinlcpenllfcpaaEnAwake
namespace Go.Proofs.Ytinlcpenllfcpaa
open Go.RowKit
attribute [local go_sem] B_xor B_or B_and
attribute [local go_sem] blk_set blk_size blk_get blk_getE upd_same oneCells_blk paste_blk cut_blk szOf
attribute [local go_sem high] paste_all cut_head
attribute [local go_sem] rowAt_alloc rowAt_drew rowAt_drewN isRow_alloc isRow_drew isRow_drewN freeRow_alloc freeRow_end freeRow_drew freeRow_drewN
attribute [local go_sem] setRow_alloc setRow_drew setRow_drewN setCell_drewN alloc_drewN rowAt_put isRow_setRow freeRow_put
attribute [local go_sem ↓] loadS_in storeS_in indexS_in copyS_in
attribute [local go_sem] loadS_row loadS_one storeS_row storeS_one indexS_blk copyS_rows run_equalIn_blk same_refl arrayAt_row
attribute [local go_sem] cell_row frozen_row st_setCell st_blk_ne stepAt stepUpon
attribute [local go_sem high] run_eql_blk run_neq_blk
attribute [local go_sem ↓] convBS_in
attribute [local go_sem] convBS_row convBS_nil allBytes_blk bytesOf_blk
attribute [local go_sem] ndC_size ndC_get0 ndC_get1 ndC_get2 ndC_get3 ndC_get4 ndC_getE0 ndC_getE1 ndC_getE2 ndC_getE3 ndC_getE4 ndC_ne ndC_one ndC_cut ndC_paste ndC_set0 ndC_set1 ndC_set2 ndC_set3 ndC_set4 size_nd agg_nd
theorem AnyAt.text_of {w : World} {v : Value} {x : Nd} (h : AnyAt w v x) (hk : x.kind = 3) : v = .iface 9 (.string x.txt) := by
  cases h with
  | text n s kids names => rfl
  | odd k n s kids names h5 => exact absurd hk (by show ¬ k = 3; omega)
  | _ => exact absurd hk (by simp [Nd.kind])
theorem AnyAt.num_of {w : World} {v : Value} {x : Nd} (h : AnyAt w v x) (hk : x.kind = 2) : v = .iface 22 (.int .u64 (x.num : Int)) := by
  cases h with
  | num n s kids names hn => rfl
  | odd k n s kids names h5 => exact absurd hk (by show ¬ k = 2; omega)
  | _ => exact absurd hk (by simp [Nd.kind])
set_option maxRecDepth 100000 in
theorem entryMust_walk (x : Nd) (c : NdC) (w : World) (h : NodeAt w c x) : Calls Try.prog 7 #[.agg (ndC c)] w fun e w' => e = .returned (.bool true) ∧ Below w.heap.size w w' := by
  obtain ⟨k, n, s, ka, kn, kc, na, nn, nc⟩ := c
  have ek : k = x.kind ∧ n = x.num ∧ s = x.txt := by cases h; exact ⟨rfl, rfl, rfl⟩
  have HC := Lib.hid ((St.nil w).pushA (ndC ⟨k, n, s, ka, kn, kc, na, nn, nc⟩) 26 rfl)
  have HX := Lib.hid (fun w' (hb : Below w.heap.size w w') => over_any x ⟨k, n, s, ka, kn, kc, na, nn, nc⟩ w' (h.call hb (Nat.le_refl _)))
  by_cases ho : 150 < ovN x 0 150
  · have HO := Lib.hid (fun w' hb => HX.out w' hb true (decide_eq_true ho))
    clear HX h ek ho
    (go_enter Try.func7, Try.ntmps7
     (obtain ⟨r1, f1, i1, b1, l1⟩ := St.facts1 (HC.out.pick [0] (by decide) rfl))
     go_wp2_with fail
     (clear r1 f1 i1 b1 l1)
     refine (HO.out _ HC.out.below).mono ?_; rintro e w2 ⟨rfl, hw⟩
     have HC := Lib.hid (HC.out.call hw)
     clear hw
     (obtain ⟨r1, f1, i1, b1, l1⟩ := St.facts1 (HC.out.pick [0] (by decide) rfl))
     go_wp2_with fail
     (clear r1 f1 i1 b1 l1))
    (refine (awake10_any _).mono ?_; rintro e w9 ⟨rfl, hw⟩
     have HC := Lib.hid (HC.out.call hw)
     clear hw
     go_wp2_with fail
     go_ret
     exact ⟨rfl, HC.out.below⟩)
  · have HO := Lib.hid (fun w' hb => HX.out w' hb false (decide_eq_false ho))
    have sm := (small_of x 0 150 (Nat.le_refl _) (by omega)).1
    have HW := Lib.hid (fun w' (hb : Below w.heap.size w w') => own10_any x sm ⟨k, n, s, ka, kn, kc, na, nn, nc⟩ w' (h.call hb (Nat.le_refl _)))
    clear HX h ho sm
    obtain ⟨ek, en, es⟩ := ek
    by_cases k3 : x.kind = 3
    · have ht1 : ndText x = s := by rw [es]; exact if_pos k3
      have ht2 : decide (x.kind = 3) = true := decide_eq_true k3
      have hn1 : ndNum x = 0 := if_neg (by omega)
      have hn2 : decide (x.kind = 2) = false := decide_eq_false (by omega)
      have dk3 : (k : Int) = 3 := by omega
      have HT := Lib.hid (fun w' v (hv : AnyAt w' v x) => hv.text_of k3)
      rw [← es] at HT
      clear k3 ek en es
      (go_enter Try.func7, Try.ntmps7
       (obtain ⟨r1, f1, i1, b1, l1⟩ := St.facts1 (HC.out.pick [0] (by decide) rfl))
       go_wp2_with fail
       (clear r1 f1 i1 b1 l1)
       refine (HO.out _ HC.out.below).mono ?_; rintro e w2 ⟨rfl, hw⟩
       have HC := Lib.hid (HC.out.call hw)
       clear hw
       (obtain ⟨r1, f1, i1, b1, l1⟩ := St.facts1 (HC.out.pick [0] (by decide) rfl))
       go_wp2_with fail
       (clear r1 f1 i1 b1 l1))
      (refine (HW.out _ HC.out.below).mono ?_; rintro e w3 ⟨v, L', rfl, hv, hL⟩
       have HV := Lib.hid (hv.at hL)
       have HC := Lib.hid (HC.out.call hL.below)
       clear hv hL
       (first | obtain rfl := HT.out _ _ HV.out | skip)
       go_wp2_with fail
       refine (text10_any _ _ _ HV.out).mono ?_; rintro e w4 ⟨rfl, hw⟩
       have HV := Lib.hid (HV.out.call hw (Nat.le_refl _))
       have HC := Lib.hid (HC.out.call hw)
       clear hw
       rw [ht1, ht2]
       go_wp2_with fail
       refine (num10_any _ _ _ HV.out).mono ?_; rintro e w5 ⟨rfl, hw⟩
       have HC := Lib.hid (HC.out.call hw)
       clear hw HV
       rw [hn1, hn2]
       (obtain ⟨r1, f1, i1, b1, l1⟩ := St.facts1 (HC.out.pick [0] (by decide) rfl))
       go_wp2_with fail
       (clear r1 f1 i1 b1 l1))
      refine (mustText_any _ _).mono ?_; rintro e w6 ⟨rfl, hw⟩
      have HC := Lib.hid (HC.out.call hw)
      clear hw
      (obtain ⟨r1, f1, i1, b1, l1⟩ := St.facts1 (HC.out.pick [0] (by decide) rfl))
      go_wp2_with fail
      (clear r1 f1 i1 b1 l1)
      (refine (awake10_any _).mono ?_; rintro e w9 ⟨rfl, hw⟩
       have HC := Lib.hid (HC.out.call hw)
       clear hw
       go_wp2_with fail
       go_ret
       exact ⟨rfl, HC.out.below⟩)
    · by_cases k2 : x.kind = 2
      · have ht1 : ndText x = ⟨#[]⟩ := if_neg k3
        have ht2 : decide (x.kind = 3) = false := decide_eq_false k3
        have hn1 : ndNum x = n := by rw [en]; exact if_pos k2
        have hn2 : decide (x.kind = 2) = true := decide_eq_true k2
        have dk3 : (k : Int) = 2 := by omega
        have HT := Lib.hid (fun w' v (hv : AnyAt w' v x) => hv.num_of k2)
        rw [← en] at HT
        clear k3 k2 ek en es
        (go_enter Try.func7, Try.ntmps7
         (obtain ⟨r1, f1, i1, b1, l1⟩ := St.facts1 (HC.out.pick [0] (by decide) rfl))
         go_wp2_with fail
         (clear r1 f1 i1 b1 l1)
         refine (HO.out _ HC.out.below).mono ?_; rintro e w2 ⟨rfl, hw⟩
         have HC := Lib.hid (HC.out.call hw)
         clear hw
         (obtain ⟨r1, f1, i1, b1, l1⟩ := St.facts1 (HC.out.pick [0] (by decide) rfl))
         go_wp2_with fail
         (clear r1 f1 i1 b1 l1))
        (refine (HW.out _ HC.out.below).mono ?_; rintro e w3 ⟨v, L', rfl, hv, hL⟩
         have HV := Lib.hid (hv.at hL)
         have HC := Lib.hid (HC.out.call hL.below)
         clear hv hL
         (first | obtain rfl := HT.out _ _ HV.out | skip)
         go_wp2_with fail
         refine (text10_any _ _ _ HV.out).mono ?_; rintro e w4 ⟨rfl, hw⟩
         have HV := Lib.hid (HV.out.call hw (Nat.le_refl _))
         have HC := Lib.hid (HC.out.call hw)
         clear hw
         rw [ht1, ht2]
         go_wp2_with fail
         refine (num10_any _ _ _ HV.out).mono ?_; rintro e w5 ⟨rfl, hw⟩
         have HC := Lib.hid (HC.out.call hw)
         clear hw HV
         rw [hn1, hn2]
         (obtain ⟨r1, f1, i1, b1, l1⟩ := St.facts1 (HC.out.pick [0] (by decide) rfl))
         go_wp2_with fail
         (clear r1 f1 i1 b1 l1))
        refine (mustNum_any _ _).mono ?_; rintro e w6 ⟨rfl, hw⟩
        have HC := Lib.hid (HC.out.call hw)
        clear hw
        (obtain ⟨r1, f1, i1, b1, l1⟩ := St.facts1 (HC.out.pick [0] (by decide) rfl))
        go_wp2_with fail
        (clear r1 f1 i1 b1 l1)
        (refine (awake10_any _).mono ?_; rintro e w9 ⟨rfl, hw⟩
         have HC := Lib.hid (HC.out.call hw)
         clear hw
         go_wp2_with fail
         go_ret
         exact ⟨rfl, HC.out.below⟩)
      · have ht1 : ndText x = ⟨#[]⟩ := if_neg k3
        have ht2 : decide (x.kind = 3) = false := decide_eq_false k3
        have hn1 : ndNum x = 0 := if_neg k2
        have hn2 : decide (x.kind = 2) = false := decide_eq_false k2
        have dk3 : ((k : Int) == 3) = false := beq_eq_false_iff_ne.2 (by omega)
        have dk2 : ((k : Int) == 2) = false := beq_eq_false_iff_ne.2 (by omega)
        have HT := Lib.hid True.intro
        clear k3 k2 ek en es
        (go_enter Try.func7, Try.ntmps7
         (obtain ⟨r1, f1, i1, b1, l1⟩ := St.facts1 (HC.out.pick [0] (by decide) rfl))
         go_wp2_with fail
         (clear r1 f1 i1 b1 l1)
         refine (HO.out _ HC.out.below).mono ?_; rintro e w2 ⟨rfl, hw⟩
         have HC := Lib.hid (HC.out.call hw)
         clear hw
         (obtain ⟨r1, f1, i1, b1, l1⟩ := St.facts1 (HC.out.pick [0] (by decide) rfl))
         go_wp2_with fail
         (clear r1 f1 i1 b1 l1))
        (refine (HW.out _ HC.out.below).mono ?_; rintro e w3 ⟨v, L', rfl, hv, hL⟩
         have HV := Lib.hid (hv.at hL)
         have HC := Lib.hid (HC.out.call hL.below)
         clear hv hL
         (first | obtain rfl := HT.out _ _ HV.out | skip)
         go_wp2_with fail
         refine (text10_any _ _ _ HV.out).mono ?_; rintro e w4 ⟨rfl, hw⟩
         have HV := Lib.hid (HV.out.call hw (Nat.le_refl _))
         have HC := Lib.hid (HC.out.call hw)
         clear hw
         rw [ht1, ht2]
         go_wp2_with fail
         refine (num10_any _ _ _ HV.out).mono ?_; rintro e w5 ⟨rfl, hw⟩
         have HC := Lib.hid (HC.out.call hw)
         clear hw HV
         rw [hn1, hn2]
         (obtain ⟨r1, f1, i1, b1, l1⟩ := St.facts1 (HC.out.pick [0] (by decide) rfl))
         go_wp2_with fail
         (clear r1 f1 i1 b1 l1))
        (refine (awake10_any _).mono ?_; rintro e w9 ⟨rfl, hw⟩
         have HC := Lib.hid (HC.out.call hw)
         clear hw
         go_wp2_with fail
         go_ret
         exact ⟨rfl, HC.out.below⟩)
end Go.Proofs.Ytinlcpenllfcpaa
