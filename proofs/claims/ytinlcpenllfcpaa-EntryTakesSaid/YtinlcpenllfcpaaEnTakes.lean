/- EntryTakes: the walk. -/
import Derived.Test.YtinlcpenllfcpaaEnRefBack
import Derived.Test.YtinlcpenllfcpaaEnRefSame
import Derived.Test.YtinlcpenllfcpaaEnAwake
namespace Go.Proofs.Ytinlcpenllfcpaa
open Go.RowKit
attribute [local go_sem] B_xor B_or B_and
attribute [local go_sem] blk_set blk_size blk_get blk_getE upd_same oneCells_blk paste_blk cut_blk szOf
attribute [local go_sem high] paste_all cut_head
attribute [local go_sem] rowAt_alloc rowAt_drew rowAt_drewN isRow_alloc isRow_drew isRow_drewN freeRow_alloc freeRow_end freeRow_drew freeRow_drewN
attribute [local go_sem] setRow_alloc setRow_drew setRow_drewN setCell_drewN alloc_drewN rowAt_put isRow_setRow freeRow_put
attribute [local go_sem ↓] loadS_in storeS_in indexS_in copyS_in
attribute [local go_sem] loadS_row loadS_one storeS_row storeS_one indexS_blk copyS_rows run_equalIn_blk same_refl arrayAt_row
attribute [local go_sem] cell_row frozen_row st_setCell st_blk_ne stepAt stepUpon
attribute [local go_sem high] run_eql_blk run_neq_blk
attribute [local go_sem ↓] convBS_in
attribute [local go_sem] convBS_row convBS_nil allBytes_blk bytesOf_blk
attribute [local go_sem] ndC_size ndC_get0 ndC_get1 ndC_get2 ndC_get3 ndC_get4 ndC_getE0 ndC_getE1 ndC_getE2 ndC_getE3 ndC_getE4 ndC_ne ndC_one ndC_cut ndC_paste ndC_set0 ndC_set1 ndC_set2 ndC_set3 ndC_set4 size_nd agg_nd
theorem chkI_mem (pr : Bool) (d : Nat) : ∀ (l : List (ByteArray × Nd)) (prev : Option ByteArray), chkI pr d prev l = 0 → ∀ q ∈ l, ndChk q.2 d = 0
  | [], _, _, q, hq => by cases hq
  | y :: l, prev, h, q, hq => by
    rw [chkI] at h
    by_cases c1 : pr = true ∧ 65535 < y.1.size
    · rw [if_pos c1] at h; cases h
    rw [if_neg c1] at h
    by_cases c2 : pr = true ∧ behind prev y.1 = true
    · rw [if_pos c2] at h; cases h
    rw [if_neg c2] at h
    by_cases c3 : ndChk y.2 d = 0
    · rw [if_neg (fun h => h c3)] at h
      rcases List.mem_cons.1 hq with rfl | hq
      · exact c3
      · exact chkI_mem pr d l _ h q hq
    · rw [if_pos c3] at h; exact absurd h c3
theorem back_norm : ∀ (x : Nd) (d : Nat), d ≤ 8 → ndChk x d = 0 → ndBack x d = ndNorm x := by
  refine Nd.ind fun k n s kids names ih => ?_
  intro d hd h
  rw [ndChk] at h
  rw [ndBack, ndNorm, if_neg (show ¬ 8 < d by omega)]
  by_cases k5 : 5 < k
  · rw [if_pos k5] at h; cases h
  rw [if_neg k5] at h
  by_cases k3 : k = 3 ∧ 65535 < s.size
  · rw [if_pos k3] at h; cases h
  rw [if_neg k3] at h
  by_cases e0 : k = 0
  · rw [if_pos e0, if_pos e0]
  rw [if_neg e0, if_neg e0]
  by_cases e1 : k = 1
  · rw [if_pos e1, if_pos e1]
  rw [if_neg e1, if_neg e1]
  by_cases e2 : k = 2
  · rw [if_pos e2, if_pos e2]
  rw [if_neg e2, if_neg e2]
  by_cases e3 : k = 3
  · rw [if_pos e3, if_pos e3]
  rw [if_neg e3, if_neg e3]
  rw [if_neg (show ¬ k < 4 by omega)] at h
  by_cases d4 : 4 ≤ d
  · rw [if_pos d4] at h; cases h
  rw [if_neg d4] at h
  by_cases l64 : 64 < kids.length
  · rw [if_pos l64] at h; cases h
  rw [if_neg l64, chkL_items] at h
  have hk : backL kids (d + 1) = normL kids := by
    rw [backL_map, normL_map]
    refine List.map_congr_left fun x hx => ih x hx (d + 1) (by omega) ?_
    rw [← itemsOf_snd names kids 0] at hx
    obtain ⟨q, hq, rfl⟩ := List.mem_map.1 hx
    exact chkI_mem _ _ _ _ h q hq
  rw [hk]
  by_cases e4 : k = 4
  · rw [if_pos e4, if_neg (show ¬ k = 5 by omega), e4]
  · rw [if_neg e4, if_pos (show k = 5 by omega), if_pos (show k = 5 by omega), show k = 5 by omega]
theorem small_zero : Small .zero := .mk _ _ _ _ _ (by decide) (by decide) (by decide) (fun t h => by cases h) (fun x h => by cases h)
set_option maxRecDepth 100000 in
set_option maxHeartbeats 2000000 in
theorem entryTakes_walk (s : ByteArray) (w : World) : Calls Try.prog 4 #[.string s] w fun e w' => e = .returned (.bool true) ∧ Below w.heap.size w w' := by
  have HC := Lib.hid (St.nil w)
  have hnz := ndC_zero
  by_cases hs4 : 400 < s.size
  · have d1 : decide ((400 : Int) < (s.size : Int)) = true := decide_eq_true (by omega)
    clear hs4
    go_enter Try.func4, Try.ntmps4
    go_wp2_with fail
    refine (awake10_any _).mono ?_; rintro e w9 ⟨rfl, hw⟩
    have HC := Lib.hid (HC.out.call hw)
    clear hw
    go_wp2_with fail
    go_ret
    exact ⟨rfl, HC.out.below⟩
  have d1 : decide ((400 : Int) < (s.size : Int)) = false := decide_eq_false (by omega)
  have HT := Lib.hid (fun w' => take_any10 s (by omega) w')
  have HU := Lib.hid (fun w' => refTake_any s (by omega) w')
  obtain ⟨R, hR⟩ : ∃ R, ndTake s = R := ⟨_, rfl⟩
  have HL := Lib.hid (fun y (hy : R = .ok y) => show Small y ∧ ndBack y 0 = y from by
    have e := hR.trans hy
    have G := ndTake_ok e
    exact ⟨G.small (by omega), (back_norm y 0 (by omega) G.chk).trans G.norm⟩)
  rw [hR] at HT HU
  clear hR hs4
  go_enter Try.func4, Try.ntmps4
  go_wp2_with fail
  refine (HT.out _).mono ?_; rintro e w2 ⟨v, E, rfl, hp⟩
  go_wp2_with fail
  refine (HU.out _).mono ?_; rintro e w4 ⟨cn, F, rfl, hq⟩
  clear HT HU
  cases hp with
  | bad d hd h1 h2 hw =>
    cases hq with
    | bad _ _ h3 h4 hw2 =>
      subst h1 h2 h3 h4
      have HC := Lib.hid ((HC.out.call hw).call hw2)
      obtain ⟨x, hx⟩ : ∃ x, Nd.zero = x := ⟨_, rfl⟩
      have HV := Lib.hid (show AnyAt w4 .nilIface x from hx ▸ AnyAt.nil 0 noT [] [])
      have HN := Lib.hid (show NodeAt w4 ndZero x from hx ▸ (NodeIn.nil [] 0 0 noT (by decide) (by decide)).at (St.nil w4))
      have sm : Small x := hx ▸ small_zero
      have hbk : ndBack x 0 = x := by rw [← hx]; rfl
      obtain ⟨cn, hcn⟩ : ∃ cn, ndZero = cn := ⟨_, rfl⟩
      obtain ⟨v, hv⟩ : ∃ v, Value.nilIface = v := ⟨_, rfl⟩
      rw [hcn] at HN ⊢
      rw [hv] at HV ⊢
      clear hx hw hw2 hd HL hcn hv
      (have HB := Lib.hid (fun w' (hb : Below w4.heap.size w4 w') => back_any x sm 0 (by omega) v w' (HV.out.call hb (Nat.le_refl _)))
       have HSM := Lib.hid (fun c1 w' (h1 : NodeAt w' c1 x) (hb : Below w4.heap.size w4 w') => refSame_any x sm x c1 cn w' h1 (HN.out.call hb (Nat.le_refl _)))
       rw [hbk] at HB
       rw [rSame_self] at HSM
       rw [show ((0 : Nat) : Int) = 0 from rfl] at HB
       clear sm hbk HV HN
       go_upto_region 5 with fail
       have HC := Lib.hid (HC.out.push (ndC cn) 26)
       have HW := Lib.hid ((Below.refl w4.heap.size w4).alloc (Nat.le_refl _) (.cells (ndC cn) 26))
       generalize w4.alloc (Obj.cells (ndC cn) 26) = w5 at HC HW ⊢
       generalize w4.heap.size = gn at HC ⊢
       (obtain ⟨r1, f1, i1, b1, l1⟩ := St.facts1 (HC.out.pick [0] (by decide) rfl))
       go_region_with (first
         | (go_at_call 18; refine (HB.out _ HW.out.drew).mono ?_; rintro r0 w7 ⟨c1, L2, rfl, hx, hS⟩; have HC := Lib.hid ((HC.out.drew.joins hS).perm (L' := (gn, ndC cn) :: L2) (perm_of fun _ _ c1 c2 c3 => by simp only [c1, c2]; omega)); have HX := Lib.hid (hx.at hS); have HW := Lib.hid (HW.out.drew.trans (hS.below.mono HW.out.drew.size)); clear hx hS r1 f1 i1 b1 l1; obtain ⟨r1, f1, i1, b1, l1⟩ := St.facts1 (HC.out.pick [0] (by decide) rfl))
         | (go_at_call 17; refine (HSM.out _ _ HX.out HW.out).mono ?_; rintro r0 w8 ⟨rfl, hw⟩; have HC := Lib.hid (HC.out.call hw); clear hw r1 f1 i1 b1 l1; obtain ⟨r1, f1, i1, b1, l1⟩ := St.facts1 (HC.out.pick [0] (by decide) rfl))
         | (go_at_call 9; refine (awake10_any _).mono ?_; rintro r0 w9 ⟨rfl, hw⟩; have HC := Lib.hid (HC.out.call hw); clear hw r1 f1 i1 b1 l1))
       all_goals
         go_wp2_with fail
         go_ret
         exact ⟨rfl, HC.out.below⟩)
  | ok x L hx h2 hS =>
    cases hq with
    | ok _ L2 hn h4 hS2 =>
      subst h2 h4
      obtain ⟨sm, hbk⟩ := HL.out x rfl
      have HV := Lib.hid ((hx.at hS).call hS2.below (Nat.le_refl _))
      have HN := Lib.hid (hn.at hS2)
      have HC := Lib.hid ((HC.out.call hS.below).call hS2.below)
      clear hx hn hS hS2 HL
      (have HB := Lib.hid (fun w' (hb : Below w4.heap.size w4 w') => back_any x sm 0 (by omega) v w' (HV.out.call hb (Nat.le_refl _)))
       have HSM := Lib.hid (fun c1 w' (h1 : NodeAt w' c1 x) (hb : Below w4.heap.size w4 w') => refSame_any x sm x c1 cn w' h1 (HN.out.call hb (Nat.le_refl _)))
       rw [hbk] at HB
       rw [rSame_self] at HSM
       rw [show ((0 : Nat) : Int) = 0 from rfl] at HB
       clear sm hbk HV HN
       go_upto_region 5 with fail
       have HC := Lib.hid (HC.out.push (ndC cn) 26)
       have HW := Lib.hid ((Below.refl w4.heap.size w4).alloc (Nat.le_refl _) (.cells (ndC cn) 26))
       generalize w4.alloc (Obj.cells (ndC cn) 26) = w5 at HC HW ⊢
       generalize w4.heap.size = gn at HC ⊢
       (obtain ⟨r1, f1, i1, b1, l1⟩ := St.facts1 (HC.out.pick [0] (by decide) rfl))
       go_region_with (first
         | (go_at_call 18; refine (HB.out _ HW.out.drew).mono ?_; rintro r0 w7 ⟨c1, L2, rfl, hx, hS⟩; have HC := Lib.hid ((HC.out.drew.joins hS).perm (L' := (gn, ndC cn) :: L2) (perm_of fun _ _ c1 c2 c3 => by simp only [c1, c2]; omega)); have HX := Lib.hid (hx.at hS); have HW := Lib.hid (HW.out.drew.trans (hS.below.mono HW.out.drew.size)); clear hx hS r1 f1 i1 b1 l1; obtain ⟨r1, f1, i1, b1, l1⟩ := St.facts1 (HC.out.pick [0] (by decide) rfl))
         | (go_at_call 17; refine (HSM.out _ _ HX.out HW.out).mono ?_; rintro r0 w8 ⟨rfl, hw⟩; have HC := Lib.hid (HC.out.call hw); clear hw r1 f1 i1 b1 l1; obtain ⟨r1, f1, i1, b1, l1⟩ := St.facts1 (HC.out.pick [0] (by decide) rfl))
         | (go_at_call 9; refine (awake10_any _).mono ?_; rintro r0 w9 ⟨rfl, hw⟩; have HC := Lib.hid (HC.out.call hw); clear hw r1 f1 i1 b1 l1))
       all_goals
         go_wp2_with fail
         go_ret
         exact ⟨rfl, HC.out.below⟩)
end Go.Proofs.Ytinlcpenllfcpaa
