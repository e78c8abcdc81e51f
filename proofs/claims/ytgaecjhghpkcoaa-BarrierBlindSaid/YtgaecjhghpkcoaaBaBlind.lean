/- BarrierBlind returns true. -/
import Derived.Test.YtgaecjhghpkcoaaBaPair
import Derived.Test.YtgaecjhghpkcoaaMBar2
import Derived.Test.YtgaecjhghpkcoaaMRegion
namespace Go.Proofs.Ytgaecjhghpkcoaa
open Go.RowKit
attribute [local go_sem] B_xor B_or B_and
attribute [local go_sem] blk_set blk_size blk_get blk_getE upd_same oneCells_blk paste_blk cut_blk szOf
attribute [local go_sem high] paste_all cut_head
attribute [local go_sem] rowAt_alloc rowAt_drew rowAt_drewN isRow_alloc isRow_drew isRow_drewN freeRow_alloc freeRow_end freeRow_drew freeRow_drewN
attribute [local go_sem] setRow_alloc setRow_drew setRow_drewN setCell_drewN alloc_drewN rowAt_put isRow_setRow freeRow_put
attribute [local go_sem ↓] loadS_in storeS_in indexS_in copyS_in
attribute [local go_sem] loadS_row loadS_one storeS_row storeS_one indexS_blk copyS_rows run_equalIn_blk same_refl arrayAt_row
attribute [local go_sem] cell_row frozen_row st_setCell st_blk_ne stepAt stepUpon
attribute [local go_sem high] run_eql_blk run_neq_blk
attribute [local go_sem ↓] convBS_in
attribute [local go_sem] convBS_row convBS_nil allBytes_blk bytesOf_blk
attribute [local go_sem] rg_size rg_get0 rg_getE0 rg_ne rg_set0 rg_one rg_cut rg_key rg_put rg_paste part_rg0 part_rg1
attribute [local go_sem] size_cn agg_cn cn_size cn_get0 cn_get1 cn_getE0 cn_getE1 cn_set0 cn_set1 cn_ne cn_one cn_cut cn_paste
attribute [local go_sem] size_op agg_op opC_size opC_get0 opC_get1 opC_get2 opC_get3 opC_get4 opC_get5 opC_getE0 opC_getE1 opC_getE2 opC_getE3 opC_getE4 opC_getE5 opC_ne opC_one opC_cut opC_count
attribute [local go_sem ↓] convSB_in convBS_in
attribute [local go_sem] convSB_row convBS_row convBS_nil freeRow_endB bytesOf_blk allBytes_blk

/-- what is read of one of a list -/
theorem ops_cells {w : World} {ad : Addr} {M c i : Nat} {o : Nat → OpR} (h : OpsAt w (.slice (some ad) M c) M o) (hi : i < M) :
    (ad.add (i * 6)).spot = none ∧ w.cell? ⟨(ad.add (i * 6)).block, (ad.add (i * 6)).off + 1, none⟩ = some (.string (o i).p) ∧ w.cell? ⟨(ad.add (i * 6)).block, (ad.add (i * 6)).off + 2, none⟩ = some (.string (o i).t) := by
  obtain ⟨a', c', he, h⟩ := h
  injection he with e1 _ _
  subst e1
  obtain ⟨ad', e, h1, h2, h3⟩ := h i hi
  cases e
  exact ⟨h2, h3 1 (by omega), h3 2 (by omega)⟩
set_option maxRecDepth 100000 in
set_option maxHeartbeats 8000000 in
theorem barrierBlind_walk (v : Value) (M : Nat) (o : Nat → OpR) (m : Nat → UInt8) (sd : UInt8) (w : World) (hO : OpsAt w v M o) : Calls Try.prog 7 #[v, .agg (blk 16 m), .int .u8 (B sd)] w fun e w' => e = .returned (.bool true) ∧ Below w.heap.size w w' := by
  have hz2 := zero97
  have hz3 := cn_zero
  obtain ⟨a, c, rfl, _⟩ := id hO
  have HO := Lib.hid hO
  have HC := Lib.hid ((St.nil w).pushA (blk 16 m) 22 rfl)
  clear hO
  go_enter Try.func7, Try.ntmps7
  (obtain ⟨r1, f1, i1, b1, l1⟩ := St.facts1 (HC.out.pick [0] (by decide) rfl))
  go_wp2_with fail
  (clear r1 f1 i1 b1 l1)
  by_cases hov : overP M o
  · refine (over21_any _ M o true ⟨fun _ => hov, fun _ => rfl⟩ _ (HO.out.call HC.out.below)).mono ?_; rintro e w1 ⟨rfl, hw⟩
    have HC := Lib.hid (HC.out.call hw)
    clear hw
    go_wp2_with fail
    refine (awake21_any _).mono ?_; rintro e w2 ⟨rfl, hw⟩
    have HC := Lib.hid (HC.out.call hw)
    clear hw
    go_wp2_with fail
    go_ret
    exact ⟨rfl, HC.out.below⟩
  refine (over21_any _ M o false ⟨fun h => Bool.noConfusion h, fun h => (hov h).elim⟩ _ (HO.out.call HC.out.below)).mono ?_; rintro e w1 ⟨rfl, hw⟩
  have HC := Lib.hid (HC.out.call hw)
  have m16 : M ≤ 16 := Nat.le_of_not_lt fun h => hov (.inl h)
  have HS := Lib.hid (show ∀ i, i < M → (o i).p.size ≤ 40 ∧ (o i).t.size ≤ 80 from fun i hi => ⟨Nat.le_of_not_lt fun h => hov (.inr ⟨i, hi, .inl h⟩), Nat.le_of_not_lt fun h => hov (.inr ⟨i, hi, .inr h⟩)⟩)
  clear hw hov
  have hk5 : ∀ n, n ≤ 1000 → mayC 5 n := fun n _ => ⟨by omega, by omega, by omega⟩
  go_wp2_with fail
  refine (newNotes_any _ w _ [(w.heap.size, blk 16 m)] HC.out.sk).mono ?_
  rintro e w2 ⟨qa, ma, rfl, hs, hM, h0⟩
  have HC := Lib.hid hs.toSt
  have KO := Lib.hid (opened_bar true (.pointer (some ⟨qa, 0, none⟩)) m 2 (by omega) (by omega) 5 0 (hk5 0 (by omega)) w w2 qa ma [] _ (fun _ => rfl) hs.toSt hM h0 (fun _ _ h => by cases h))
  rw [show ((kdOf true : Nat) : Int) = 1 from rfl, show ((2 : Nat) : Int) = 2 from rfl] at KO
  clear hs hM h0
  (obtain ⟨⟨r1, f1, i1, b1, l1⟩, ⟨r2, f2, i2, b2, l2⟩, m12, m21⟩ := St.facts2 (HC.out.pick [0, 1] (by decide) rfl))
  go_wp2_with fail
  (clear r1 f1 i1 b1 l1 r2 f2 i2 b2 l2 m12 m21)
  refine KO.out.mono ?_
  rintro e w3 ⟨ga, L1, rfl, hB, _⟩
  clear KO HC
  have HC := Lib.hid hB
  clear hB
  obtain ⟨F, hF⟩ : ∃ F, ringF m 2 = F := ⟨_, rfl⟩
  rw [hF] at HC
  have KO := Lib.hid (fun W ga ba qa ma Na q mm L (h : Half w ga ba qa ma Na q mm [] L W) => half_open h m 2 (by omega) (by omega) 5 0 (hk5 0 (by omega)))
  rw [show ((kdOf true : Nat) : Int) = 1 from rfl, show ((2 : Nat) : Int) = 2 from rfl, hF] at KO
  go_upto_region 5 with fail
  go_cut [9] from 32 to 35 (fun p wx => ∃ gb L2 qb mb, p = .pointer (some ⟨gb, 0, none⟩) ∧ Hid (Pair w ga ⟨true, kdOf true, ntOf true qa, 2, F, 5, 0⟩ qa ma [] gb ⟨true, kdOf true, ntOf true qb, 2, F, 5, 0⟩ qb mb [] (L2 ++ (L1 ++ [(w.heap.size, blk 16 m)])) wx))
  case first =>
    have HM := Lib.hid (HC.out.perm (L' := (w.heap.size, blk 16 m) :: L1) (List.perm_append_comm (l₁ := [_]) (l₂ := L1)))
    obtain ⟨r1, f1, i1, b1, l1⟩ := St.facts1 (HM.out.pick [2] (by decide) rfl)
    go_region_with (first
      | (go_at_call 26; refine (half_new (HC.out.call ((Below.refl _ _).drew))).mono ?_; rintro e w6 ⟨qb, mb, rfl, hs⟩; have HS := Lib.hid hs; clear hs r1 f1 i1 b1 l1; have HM := Lib.hid (HS.out.a.perm (L' := (w.heap.size, blk 16 m) :: (qb, #[.map (some mb)]) :: L1) (perm_of22 fun _ _ c1 c2 c3 => by simp only [c1, c2]; omega)); obtain ⟨r1, f1, i1, b1, l1⟩ := St.facts1 (HM.out.pick [2] (by decide) rfl))
      | (go_at_call 24; refine (KO.out _ _ _ _ _ _ qb mb _ HS.out).mono ?_; rintro e w8 ⟨gb, L2, rfl, hB⟩; have HB := Lib.hid hB; clear hB))
    all_goals
      go_wp2_with fail
      go_meet
      exact ⟨gb, L2, qb, mb, rfl, HB⟩
  case rest =>
    obtain ⟨gb, L2, qb, mb, rfl, HB⟩ := hcut
    have HF := Lib.hid hF
    clear HC KO hF
    have HC := Lib.hid (HB.out.perm (L' := (w.heap.size, blk 16 m) :: (L2 ++ L1)) (perm_of22 fun _ _ c1 c2 c3 => by simp only [c1, c2]; omega))
    clear HB
    have hn1 : (ntOf true qa) = .pointer (some ⟨qa, 0, none⟩) := rfl
    go_wp2_with fail
    have HM := Lib.hid (show Pair w ga ⟨true, kdOf true, ntOf true qa, 2, F, 5, 0⟩ qa ma [] gb ⟨true, kdOf true, ntOf true qb, 2, F, 5, 0⟩ qb mb [] ((w.heap.size, blk 16 m) :: (L2 ++ L1)) wc from HC.out)
    clear HC
    go_loopw [10] (fun i wr => ∃ j : Nat, j ≤ M ∧ i = .int .i64 (j : Int) ∧ ∃ Na Nb L3, Hid (Pair w ga ⟨true, kdOf true, ntOf true qa, 2, F, 5, j⟩ qa ma Na gb ⟨true, kdOf true, ntOf true qb, 2, F, 5, j⟩ qb mb Nb ((w.heap.size, blk 16 m) :: L3) wr)) (fun i _ => M - (intOf i).toNat)
    case atStart => exact ⟨0, by omega, rfl, [], [], L2 ++ L1, HM⟩
    case round =>
      clear HM
      obtain ⟨j, hj, rfl, Na, Nb, L3, HC⟩ := hrel
      by_cases hlt : j < M
      · have d1 : (j : Int) < (M : Int) := by omega
        have hcl := HO.out.call HC.out.a.st.below
        obtain ⟨ad, rfl⟩ : ∃ ad, a = some ad := by
          obtain ⟨a', c', he, h⟩ := hcl
          injection he with e1 _ _
          obtain ⟨ad, e2, _⟩ := h j hlt
          exact ⟨ad, e1.trans e2⟩
        clear hcl
        obtain ⟨hp, ht⟩ := HS.out j hlt
        obtain ⟨k9, k1, k2⟩ := ops_cells (HO.out.call HC.out.a.st.below) hlt
        go_upto_region 12 with fail
        have hcx := Lib.hid (capS_ge wr (o j).t.size 5)
        generalize capS wr (o j).t.size 5 = cx at hcx ⊢
        have HC := Lib.hid ((HC.out.pushM cx (ofText (o j).t) 5 (cx + 1)).call ((Below.refl _ _).drew))
        obtain ⟨gx, hgx⟩ : ∃ g, wr.heap.size = g := ⟨_, rfl⟩
        rw [hgx] at HC ⊢
        obtain ⟨w4, hw4⟩ : ∃ x, (wr.alloc (Obj.cells (blk cx (ofText (o j).t)) 5 (cx, cx + 1))).drew = x := ⟨_, rfl⟩
        rw [hw4] at HC ⊢
        obtain ⟨P, hP⟩ : ∃ P, (o j).p = P := ⟨_, rfl⟩
        obtain ⟨T, hT⟩ : ∃ T, (o j).t = T := ⟨_, rfl⟩
        rw [hP] at hp k1
        rw [hT] at ht k2 hcx HC ⊢
        clear hgx hw4 k9 k1 k2
        have hcx' := hcx.out
        have HC := Lib.hid (show Pair w ga ⟨true, kdOf true, ntOf true qa, 2, F, 5, j⟩ qa ma Na gb ⟨true, kdOf true, ntOf true qb, 2, F, 5, j⟩ qb mb Nb ((gx, blk cx (othF sd (ofText T) 0)) :: (w.heap.size, blk 16 m) :: L3) w4 by rw [othF_zero]; exact HC.out)
        go_wp2_with fail
        go_loopw [12] (fun i wq => ∃ k : Nat, k ≤ T.size ∧ i = .int .i64 (k : Int) ∧ Hid (Pair w ga ⟨true, kdOf true, ntOf true qa, 2, F, 5, j⟩ qa ma Na gb ⟨true, kdOf true, ntOf true qb, 2, F, 5, j⟩ qb mb Nb ((gx, blk cx (othF sd (ofText T) k)) :: (w.heap.size, blk 16 m) :: L3) wq)) (fun i _ => T.size - (intOf i).toNat)
        case atStart => exact ⟨0, by omega, rfl, HC⟩
        case round =>
          clear HC
          obtain ⟨k, hk, rfl, HC⟩ := hrel
          by_cases hltk : k < T.size
          · have d2 : (k : Int) < (T.size : Int) := by omega
            have d3 : k < cx := by omega
            have d4 : (k : Int) ≤ 1000 := by omega
            have b1 := B_bd sd
            have b2 := B_bd (othF sd (ofText T) k k)
            have q1 := B_oth (othF sd (ofText T) k k) sd k
            have q2 := B_oth2 (othF sd (ofText T) k k) sd k
            have q3 := B_addw (othF sd (ofText T) k k) (sd + UInt8.ofNat k)
            have q4 := B_addw sd (UInt8.ofNat k)
            have q5 := byte_of k
            obtain ⟨r1, f1, i1, b1, l1⟩ := St.facts1 (HC.out.a.pick [4] (by decide) rfl)
            go_upto_region 14 with fail
            have HC := Lib.hid (HC.out.set (blk cx (upd (othF sd (ofText T) k) k (othF sd (ofText T) k k + (sd + UInt8.ofNat k)))) (by rw [blk_size, blk_size]))
            rw [othF_next] at HC ⊢
            clear q1 q2 q3 q4 q5 b1 b2 r1 f1 i1
            generalize wr.setRow gx (blk cx (othF sd (ofText T) (k + 1))) = w5 at HC ⊢
            go_wp2_with fail
            go_roundw
            case rel => exact ⟨k + 1, by omega, by go_num, HC⟩
            case measure => simp [intOf]; omega
          · obtain rfl : k = T.size := by omega
            obtain ⟨V, hV⟩ : ∃ V, othF sd (ofText T) T.size = V := ⟨_, rfl⟩
            rw [hV] at HC
            clear hV hk
            go_wp2_with fail
            obtain ⟨ba, hba⟩ : ∃ b, (⟨true, kdOf true, ntOf true qa, 2, F, 5, j⟩ : Br) = b := ⟨_, rfl⟩
            obtain ⟨bb, hbb⟩ : ∃ b, (⟨true, kdOf true, ntOf true qb, 2, F, 5, j⟩ : Br) = b := ⟨_, rfl⟩
            rw [hba, hbb] at HC
            have x1 : ba.n = 2 := by rw [← hba]
            have x2 : ba.f = F := by rw [← hba]
            have x3 : ba.e = 5 := by rw [← hba]
            have x4 : ba.c = j := by rw [← hba]
            have y1 : bb.n = 2 := by rw [← hbb]
            have y2 : bb.f = F := by rw [← hbb]
            have y3 : bb.e = 5 := by rw [← hbb]
            have y4 : bb.c = j := by rw [← hbb]
            have ta0 : takeE ba = 0 := takeE_yes ba (by rw [x1]; omega) (by rw [x3, x4]; exact hk5 j (by omega)) (by rw [x4]; omega)
            have tb0 : takeE bb = 0 := takeE_yes bb (by rw [y1]; omega) (by rw [y3, y4]; exact hk5 j (by omega)) (by rw [y4]; omega)
            obtain ⟨Bd, hBd⟩ : ∃ b, ({ ba with c := ba.c + 1 } : Br) = b := ⟨_, rfl⟩
            obtain ⟨Be, hBe⟩ : ∃ b, ({ bb with c := bb.c + 1 } : Br) = b := ⟨_, rfl⟩
            have u1 : Bd.n = ba.n := by rw [← hBd]
            have u2 : Bd.f = ba.f := by rw [← hBd]
            have u3 : Be.n = bb.n := by rw [← hBe]
            have u4 : Be.f = bb.f := by rw [← hBe]
            have v1 : Bd = ⟨true, kdOf true, ntOf true qa, 2, F, 5, j + 1⟩ := by rw [← hBd, ← hba]
            have v2 : Be = ⟨true, kdOf true, ntOf true qb, 2, F, 5, j + 1⟩ := by rw [← hBe, ← hbb]
            obtain ⟨P2, hP2⟩ : ∃ P2, P ++ (⟨#[47, 120]⟩ : ByteArray) = P2 := ⟨_, rfl⟩
            have hqz : P2.size = P.size + 2 := by rw [← hP2, ByteArray.size_append]; rfl
            obtain ⟨V2, hV2⟩ : ∃ V2, strOf T.size V = V2 := ⟨_, rfl⟩
            have hvz : V2.size = T.size := by rw [← hV2, strOf_size]
            obtain ⟨S, hS⟩ : ∃ S, putS true ba P T = S := ⟨_, rfl⟩
            have hS2 : putS true bb P2 V2 = S := by rw [← hS]; exact putS_blind bb ba P2 V2 P T tb0 ta0 (by rw [x1, y1]) (by rw [x3, y3]) (by rw [x4, y4]) hvz
            have hSz : S.size = T.size + 32 := by rw [← hS]; exact putS_long true ba P T ta0
            obtain ⟨Nd, hNd⟩ : ∃ N, putM true ba P T Na = N := ⟨_, rfl⟩
            obtain ⟨Ne, hNe⟩ : ∃ N, putM true bb P2 V2 Nb = N := ⟨_, rfl⟩
            have HFa := Lib.hid (show findN (nonceS ba.e ba.c) Nd = some (P, T) by rw [← hNd]; exact putM_find ba P T Na ta0)
            have HFb := Lib.hid (show findN (nonceS bb.e bb.c) Ne = some (P2, V2) by rw [← hNe]; exact putM_find bb P2 V2 Nb tb0)
            have KA := Lib.hid (fun w' L (h : Pair w ga ba qa ma Na gb bb qb mb Nb L w') => h.put P T (by omega) (by omega) ta0)
            have KB := Lib.hid (fun w' L (h : Pair w ga Bd qa ma Nd gb bb qb mb Nb L w') => h.flip.put P2 V2 (by omega) (by omega) tb0)
            have GA := Lib.hid (fun w' L (h : Pair w ga Bd qa ma Nd gb Be qb mb Ne L w') => h.get ba P T S ta0 (by omega) u2 (by omega) (by omega) hS HFa.out)
            have GB := Lib.hid (fun w' L (h : Pair w ga Bd qa ma Nd gb Be qb mb Ne L w') => h.flip.get bb P2 V2 S tb0 (by omega) u4 (by omega) (by omega) hS2 HFb.out)
            rw [hS, hNd, hBd] at KA
            rw [hS2, hNe, hBe] at KB
            have HP2 := Lib.hid hP2
            have HV2 := Lib.hid hV2
            have HSz := Lib.hid hSz
            have HU := Lib.hid (And.intro v1 v2)
            have HQ := Lib.hid (And.intro hqz hvz)
            have HPT := Lib.hid (And.intro hP hT)
            clear hba hbb x1 x2 x3 x4 y1 y2 y3 y4 ta0 tb0 hBd hBe u1 u2 u3 u4 v1 v2 hS hS2 hNd hNe HFa HFb hSz hV2 hP2 hqz hvz hcx'
            refine wp_region_mid (C := St wr []) 11 (by kernel_rfl) (by decide +kernel) _ rfl (St.nil wr).drew ?_
            (first
               | (apply head_skip rfl)
               | (apply head_step_g rfl
                  focus
                    intro w0 hC
                    obtain ⟨k9, k1, k2⟩ := ops_cells (HO.out.call (HC.out.a.call hC.below).st.below) hlt
                    rw [HPT.out.1] at k1
                    rw [HPT.out.2] at k2
                    clear hC
                    go_simp
                    with_reducible rfl)
             try simp only [Act.put, List.setIfInBounds_toArray, List.set])
            (first
               | (apply head_skip rfl)
               | (apply head_step_g rfl
                  focus
                    intro w0 hC
                    obtain ⟨k9, k1, k2⟩ := ops_cells (HO.out.call (HC.out.a.call hC.below).st.below) hlt
                    rw [HPT.out.1] at k1
                    rw [HPT.out.2] at k2
                    clear hC
                    go_simp
                    with_reducible rfl)
             try simp only [Act.put, List.setIfInBounds_toArray, List.set])
            (first
               | (apply head_skip rfl)
               | (apply head_step_g rfl
                  focus
                    intro w0 hC
                    obtain ⟨k9, k1, k2⟩ := ops_cells (HO.out.call (HC.out.a.call hC.below).st.below) hlt
                    rw [HPT.out.1] at k1
                    rw [HPT.out.2] at k2
                    clear hC
                    go_simp
                    with_reducible rfl)
             try simp only [Act.put, List.setIfInBounds_toArray, List.set])
            (first
               | (apply head_skip rfl)
               | (apply head_step_g rfl
                  focus
                    intro w0 hC
                    obtain ⟨k9, k1, k2⟩ := ops_cells (HO.out.call (HC.out.a.call hC.below).st.below) hlt
                    rw [HPT.out.1] at k1
                    rw [HPT.out.2] at k2
                    clear hC
                    go_simp
                    with_reducible rfl)
             try simp only [Act.put, List.setIfInBounds_toArray, List.set])
            (first
               | (apply head_skip rfl)
               | (apply head_step_g rfl
                  focus
                    intro w0 hC
                    obtain ⟨k9, k1, k2⟩ := ops_cells (HO.out.call (HC.out.a.call hC.below).st.below) hlt
                    rw [HPT.out.1] at k1
                    rw [HPT.out.2] at k2
                    clear hC
                    go_simp
                    with_reducible rfl)
             try simp only [Act.put, List.setIfInBounds_toArray, List.set])
            (first
               | (apply head_skip rfl)
               | (apply head_step_g rfl
                  focus
                    intro w0 hC
                    obtain ⟨k9, k1, k2⟩ := ops_cells (HO.out.call (HC.out.a.call hC.below).st.below) hlt
                    rw [HPT.out.1] at k1
                    rw [HPT.out.2] at k2
                    clear hC
                    go_simp
                    with_reducible rfl)
             try simp only [Act.put, List.setIfInBounds_toArray, List.set])
            (first
               | (apply head_skip rfl)
               | (apply head_step_g rfl
                  focus
                    intro w0 hC
                    obtain ⟨k9, k1, k2⟩ := ops_cells (HO.out.call (HC.out.a.call hC.below).st.below) hlt
                    rw [HPT.out.1] at k1
                    rw [HPT.out.2] at k2
                    clear hC
                    go_simp
                    with_reducible rfl)
             try simp only [Act.put, List.setIfInBounds_toArray, List.set])
            (first
               | (apply head_skip rfl)
               | (apply head_step_g rfl
                  focus
                    intro w0 hC
                    obtain ⟨k9, k1, k2⟩ := ops_cells (HO.out.call (HC.out.a.call hC.below).st.below) hlt
                    rw [HPT.out.1] at k1
                    rw [HPT.out.2] at k2
                    clear hC
                    go_simp
                    with_reducible rfl)
             try simp only [Act.put, List.setIfInBounds_toArray, List.set])
            (first
               | (apply head_skip rfl)
               | (apply head_step_g rfl
                  focus
                    intro w0 hC
                    obtain ⟨k9, k1, k2⟩ := ops_cells (HO.out.call (HC.out.a.call hC.below).st.below) hlt
                    rw [HPT.out.1] at k1
                    rw [HPT.out.2] at k2
                    clear hC
                    go_simp
                    with_reducible rfl)
             try simp only [Act.put, List.setIfInBounds_toArray, List.set])
            (first
               | (apply head_skip rfl)
               | (apply head_step_g rfl
                  focus
                    intro w0 hC
                    obtain ⟨k9, k1, k2⟩ := ops_cells (HO.out.call (HC.out.a.call hC.below).st.below) hlt
                    rw [HPT.out.1] at k1
                    rw [HPT.out.2] at k2
                    clear hC
                    go_simp
                    with_reducible rfl)
             try simp only [Act.put, List.setIfInBounds_toArray, List.set])
            (first
               | (apply head_skip rfl)
               | (apply head_step_g rfl
                  focus
                    intro w0 hC
                    obtain ⟨k9, k1, k2⟩ := ops_cells (HO.out.call (HC.out.a.call hC.below).st.below) hlt
                    rw [HPT.out.1] at k1
                    rw [HPT.out.2] at k2
                    clear hC
                    go_simp
                    with_reducible rfl)
             try simp only [Act.put, List.setIfInBounds_toArray, List.set])
            refine wpQuiet_nil ?_
            intro w6 hC
            have HC := Lib.hid (HC.out.call hC.below)
            clear hC
            go_wp2_with fail
            refine (KA.out _ _ HC.out).mono ?_
            rintro e w7 ⟨rfl, hB⟩
            have HC := Lib.hid hB
            clear hB KA
            go_wp2_with fail
            refine ⟨St w7 [], St.nil w7, ?_⟩
            simp only [List.drop]
            (apply head_step_g rfl
             focus
               intro w0 hC
               clear hC
               go_simp
               with_reducible rfl
             try simp only [Act.put, List.setIfInBounds_toArray, List.set])
            (apply head_step_g rfl
             focus
               intro w0 hC
               clear hC
               go_simp
               with_reducible rfl
             try simp only [Act.put, List.setIfInBounds_toArray, List.set])
            (apply head_step_g rfl
             focus
               intro w0 hC
               clear hC
               go_simp
               with_reducible rfl
             try simp only [Act.put, List.setIfInBounds_toArray, List.set])
            (apply head_step_g rfl
             focus
               intro w0 hC
               clear hC
               go_simp
               with_reducible rfl
             try simp only [Act.put, List.setIfInBounds_toArray, List.set])
            (apply head_step_g rfl
             focus
               intro w0 hC
               clear hC
               go_simp
               with_reducible rfl
             try simp only [Act.put, List.setIfInBounds_toArray, List.set])
            refine wpQuiet_nil ?_
            intro w8 hC
            have HC := Lib.hid (HC.out.call hC.below)
            clear hC
            go_wp2_with fail
            have hP2 := HP2.out
            have hV2 := HV2.out
            have hq1 : P.size + ByteArray.size ⟨#[47, 120]⟩ ≤ 9223372036854775807 := by show P.size + 2 ≤ _; omega
            have hq2 : P.size + 2 ≤ 9223372036854775807 := by omega
            have hq3 := hcx.out
            have hq4 : (9223372036854775807 < P.size + 2) = False := by simp only [eq_iff_iff, iff_false]; omega
            refine wp_region_mid (C := St w8 []) 9 (by kernel_rfl) (by decide +kernel) _ rfl (St.nil w8).drew ?_
            (first
               | (apply head_skip rfl)
               | (apply head_step_g rfl
                  focus
                    intro w0 hC
                    obtain ⟨k9, k1, k2⟩ := ops_cells (HO.out.call (HC.out.a.call hC.below).st.below) hlt
                    rw [HPT.out.1] at k1
                    rw [HPT.out.2] at k2
                    obtain ⟨r1, f1, i1, b1, l1⟩ := St.facts1 ((HC.out.a.call hC.below).pick [4] (by decide) rfl)
                    clear hC
                    go_simp
                    with_reducible rfl)
             try simp only [Act.put, List.setIfInBounds_toArray, List.set])
            (first
               | (apply head_skip rfl)
               | (apply head_step_g rfl
                  focus
                    intro w0 hC
                    obtain ⟨k9, k1, k2⟩ := ops_cells (HO.out.call (HC.out.a.call hC.below).st.below) hlt
                    rw [HPT.out.1] at k1
                    rw [HPT.out.2] at k2
                    obtain ⟨r1, f1, i1, b1, l1⟩ := St.facts1 ((HC.out.a.call hC.below).pick [4] (by decide) rfl)
                    clear hC
                    go_simp
                    with_reducible rfl)
             try simp only [Act.put, List.setIfInBounds_toArray, List.set])
            (first
               | (apply head_skip rfl)
               | (apply head_step_g rfl
                  focus
                    intro w0 hC
                    obtain ⟨k9, k1, k2⟩ := ops_cells (HO.out.call (HC.out.a.call hC.below).st.below) hlt
                    rw [HPT.out.1] at k1
                    rw [HPT.out.2] at k2
                    obtain ⟨r1, f1, i1, b1, l1⟩ := St.facts1 ((HC.out.a.call hC.below).pick [4] (by decide) rfl)
                    clear hC
                    go_simp
                    with_reducible rfl)
             try simp only [Act.put, List.setIfInBounds_toArray, List.set])
            (first
               | (apply head_skip rfl)
               | (apply head_step_g rfl
                  focus
                    intro w0 hC
                    obtain ⟨k9, k1, k2⟩ := ops_cells (HO.out.call (HC.out.a.call hC.below).st.below) hlt
                    rw [HPT.out.1] at k1
                    rw [HPT.out.2] at k2
                    obtain ⟨r1, f1, i1, b1, l1⟩ := St.facts1 ((HC.out.a.call hC.below).pick [4] (by decide) rfl)
                    clear hC
                    go_simp
                    with_reducible rfl)
             try simp only [Act.put, List.setIfInBounds_toArray, List.set])
            (first
               | (apply head_skip rfl)
               | (apply head_step_g rfl
                  focus
                    intro w0 hC
                    obtain ⟨k9, k1, k2⟩ := ops_cells (HO.out.call (HC.out.a.call hC.below).st.below) hlt
                    rw [HPT.out.1] at k1
                    rw [HPT.out.2] at k2
                    obtain ⟨r1, f1, i1, b1, l1⟩ := St.facts1 ((HC.out.a.call hC.below).pick [4] (by decide) rfl)
                    clear hC
                    go_simp
                    with_reducible rfl)
             try simp only [Act.put, List.setIfInBounds_toArray, List.set])
            (first
               | (apply head_skip rfl)
               | (apply head_step_g rfl
                  focus
                    intro w0 hC
                    obtain ⟨k9, k1, k2⟩ := ops_cells (HO.out.call (HC.out.a.call hC.below).st.below) hlt
                    rw [HPT.out.1] at k1
                    rw [HPT.out.2] at k2
                    obtain ⟨r1, f1, i1, b1, l1⟩ := St.facts1 ((HC.out.a.call hC.below).pick [4] (by decide) rfl)
                    clear hC
                    go_simp
                    with_reducible rfl)
             try simp only [Act.put, List.setIfInBounds_toArray, List.set])
            (first
               | (apply head_skip rfl)
               | (apply head_step_g rfl
                  focus
                    intro w0 hC
                    obtain ⟨k9, k1, k2⟩ := ops_cells (HO.out.call (HC.out.a.call hC.below).st.below) hlt
                    rw [HPT.out.1] at k1
                    rw [HPT.out.2] at k2
                    obtain ⟨r1, f1, i1, b1, l1⟩ := St.facts1 ((HC.out.a.call hC.below).pick [4] (by decide) rfl)
                    clear hC
                    go_simp
                    with_reducible rfl)
             try simp only [Act.put, List.setIfInBounds_toArray, List.set])
            (first
               | (apply head_skip rfl)
               | (apply head_step_g rfl
                  focus
                    intro w0 hC
                    obtain ⟨k9, k1, k2⟩ := ops_cells (HO.out.call (HC.out.a.call hC.below).st.below) hlt
                    rw [HPT.out.1] at k1
                    rw [HPT.out.2] at k2
                    obtain ⟨r1, f1, i1, b1, l1⟩ := St.facts1 ((HC.out.a.call hC.below).pick [4] (by decide) rfl)
                    clear hC
                    go_simp
                    with_reducible rfl)
             try simp only [Act.put, List.setIfInBounds_toArray, List.set])
            (first
               | (apply head_skip rfl)
               | (apply head_step_g rfl
                  focus
                    intro w0 hC
                    obtain ⟨k9, k1, k2⟩ := ops_cells (HO.out.call (HC.out.a.call hC.below).st.below) hlt
                    rw [HPT.out.1] at k1
                    rw [HPT.out.2] at k2
                    obtain ⟨r1, f1, i1, b1, l1⟩ := St.facts1 ((HC.out.a.call hC.below).pick [4] (by decide) rfl)
                    clear hC
                    go_simp
                    with_reducible rfl)
             try simp only [Act.put, List.setIfInBounds_toArray, List.set])
            refine wpQuiet_nil ?_
            intro w9 hC
            have HC := Lib.hid (HC.out.call hC.below)
            clear hC hq3
            go_wp2_with fail
            refine (KB.out _ _ HC.out).mono ?_
            rintro e w10 ⟨rfl, hB⟩
            have HC := Lib.hid hB.flip
            clear hB KB
            go_wp2_with fail
            refine ⟨St w10 [], St.nil w10, ?_⟩
            simp only [List.drop]
            (apply head_step_g rfl
             focus
               intro w0 hC
               clear hC
               go_simp
               with_reducible rfl
             try simp only [Act.put, List.setIfInBounds_toArray, List.set])
            (apply head_step_g rfl
             focus
               intro w0 hC
               clear hC
               go_simp
               with_reducible rfl
             try simp only [Act.put, List.setIfInBounds_toArray, List.set])
            (apply head_step_g rfl
             focus
               intro w0 hC
               clear hC
               go_simp
               with_reducible rfl
             try simp only [Act.put, List.setIfInBounds_toArray, List.set])
            (apply head_step_g rfl
             focus
               intro w0 hC
               clear hC
               go_simp
               with_reducible rfl
             try simp only [Act.put, List.setIfInBounds_toArray, List.set])
            (apply head_step_g rfl
             focus
               intro w0 hC
               clear hC
               go_simp
               with_reducible rfl
             try simp only [Act.put, List.setIfInBounds_toArray, List.set])
            refine wpQuiet_nil ?_
            intro w11 hC
            have HC := Lib.hid (HC.out.call hC.below)
            clear hC hP2 hV2 hq1 hq2 hq4
            have hss := text_same S
            go_upto_region 20 with fail
            clear hss
            have KO := Lib.hid (fun W q mm L (h : Forked w ga Bd qa ma Nd gb Be qb mb Ne q mm Nd L W) => forked_open h m 2 (by omega) (by omega) 5 j (hk5 j (by omega)))
            rw [show ((kdOf true : Nat) : Int) = 1 from rfl, show ((2 : Nat) : Int) = 2 from rfl] at KO
            rw [HF.out] at KO
            have wj : IntKind.u64.wrap (j : Int) = (j : Int) := by simp [IntKind.wrap, IntKind.bits, IntKind.signed]; omega
            have dj : (j : Int) ≤ 1000 := by omega
            go_cut [17] from 109 to 115 (fun p wx => ∃ gc L4 qc mc, p = .pointer (some ⟨gc, 0, none⟩) ∧ Hid (Trio w ga Bd qa ma Nd gb Be qb mb Ne gc ⟨true, kdOf true, ntOf true qc, 2, F, 5, j⟩ qc mc Nd (L4 ++ ((gx, blk cx V) :: (w.heap.size, blk 16 m) :: L3)) wx))
            case first =>
              obtain ⟨r1, f1, i1, b1, l1⟩ := St.facts1 (HC.out.a.pick [5] (by decide) rfl)
              go_region_with (first
                | (go_at_call 31; refine (pair_fork (HC.out.call ((Below.refl _ _).drew))).mono ?_; rintro e w12 ⟨qc, mc, rfl, hs⟩; have HS := Lib.hid hs; clear hs r1 f1 i1 b1 l1; obtain ⟨r1, f1, i1, b1, l1⟩ := St.facts1 (HS.out.p.a.pick [6] (by decide) rfl))
                | (go_at_call 24; refine (KO.out _ qc mc _ HS.out).mono ?_; rintro e w13 ⟨gc, L4, rfl, hB⟩; have HB := Lib.hid hB; clear hB))
              all_goals
                go_wp2_with fail
                go_meet
                exact ⟨gc, L4, qc, mc, rfl, HB⟩
            case rest =>
              obtain ⟨gc, L4, qc, mc, rfl, HB⟩ := hcut
              clear HC KO wj
              obtain ⟨bc, hbc⟩ : ∃ b, (⟨true, kdOf true, ntOf true qc, 2, F, 5, j⟩ : Br) = b := ⟨_, rfl⟩
              rw [hbc] at HB
              have tc0 : takeE bc = 0 := takeE_yes bc (by rw [← hbc]; show 2 ≠ 0; omega) (by rw [← hbc]; exact hk5 j (by omega)) (by rw [← hbc]; show j ≠ _; omega)
              obtain ⟨W2, hW2⟩ : ∃ W2, (⟨#[119, 104, 101, 114, 101]⟩ : ByteArray) ++ T = W2 := ⟨_, rfl⟩
              have hwz : W2.size = T.size + 5 := by rw [← hW2, ByteArray.size_append, Nat.add_comm]; rfl
              obtain ⟨SC, hSC⟩ : ∃ S, putS true bc ⟨#[101, 108, 115, 101]⟩ W2 = S := ⟨_, rfl⟩
              have hSCz : SC.size = T.size + 37 := by rw [← hSC, putS_long true bc _ _ tc0, hwz]
              have KC := Lib.hid (trio_put HB.out ⟨#[101, 108, 115, 101]⟩ W2 (by show 4 < _; omega) (by omega) tc0)
              rw [hSC] at KC
              have hSz := HSz.out
              have hq1 : ByteArray.size ⟨#[119, 104, 101, 114, 101]⟩ + T.size ≤ 9223372036854775807 := by show 5 + T.size ≤ _; omega
              have hq2 : 5 + T.size ≤ 9223372036854775807 := by omega
              have e5 : ((SC.size : Int) != (S.size : Int) + 5) = false := by rw [bne_eq_false_iff_eq]; omega
              have s9 : (S.size : Int) ≤ 1000 := by omega
              obtain ⟨k9, k1, k2⟩ := ops_cells (HO.out.call HB.out.p.a.st.below) hlt
              rw [HPT.out.1] at k1
              rw [HPT.out.2] at k2
              clear hbc tc0 hSC hSz hSCz hwz
              go_wp2_with fail
              refine KC.out.mono ?_
              rintro e w14 ⟨rfl, hB⟩
              obtain ⟨bc2, hbc2⟩ : ∃ b, ({ bc with c := bc.c + 1 } : Br) = b := ⟨_, rfl⟩
              rw [hbc2] at hB
              have HC := Lib.hid (hB.perm (L' := (gx, blk cx V) :: (w.heap.size, blk 16 m) :: (gc, br bc2) :: (qc, #[.map (some mc)]) :: (L4 ++ L3)) (perm_of22 fun _ _ c1 c2 c3 => by simp only [c1, c2]; omega))
              clear hB hbc2 KC HB hW2 hq1 hq2 k9 k1 k2
              obtain ⟨k9, k1, k2⟩ := ops_cells (HO.out.call HC.out.a.st.below) hlt
              rw [HPT.out.1] at k1
              rw [HPT.out.2] at k2
              go_wp2_with fail
              clear k9 k1 k2 e5 s9
              refine (GA.out _ _ HC.out).mono ?_
              rintro e w15 ⟨rfl, hw⟩
              have HC := Lib.hid (HC.out.call hw)
              clear hw GA
              obtain ⟨k9, k1, k2⟩ := ops_cells (HO.out.call HC.out.a.st.below) hlt
              rw [HPT.out.1] at k1
              rw [HPT.out.2] at k2
              have hP2 := HP2.out
              have hq1 : P.size + ByteArray.size ⟨#[47, 120]⟩ ≤ 9223372036854775807 := by show P.size + 2 ≤ _; omega
              have hq2 : P.size + 2 ≤ 9223372036854775807 := by omega
              have hq4 : (9223372036854775807 < P.size + 2) = False := by simp only [eq_iff_iff, iff_false]; omega
              go_wp2_with fail
              clear k9 k1 k2 hP2 hq1 hq2 hq4
              refine (GB.out _ _ HC.out).mono ?_
              rintro e w16 ⟨rfl, hw⟩
              have HC := Lib.hid (HC.out.call hw)
              clear hw GB
              obtain ⟨k9, k1, k2⟩ := ops_cells (HO.out.call HC.out.a.st.below) hlt
              rw [HPT.out.1] at k1
              rw [HPT.out.2] at k2
              have t1 := text_same T
              have t2 := text_same V2
              have hV2 := HV2.out
              have hq3 := hcx.out
              obtain ⟨r1, f1, i1, b1, l1⟩ := St.facts1 (HC.out.a.pick [4] (by decide) rfl)
              go_upto_region 10 with fail
              clear k9 k1 k2 t1 t2 hV2 r1 f1 i1
              rw [HU.out.1, HU.out.2] at HC
              go_wp2_with fail
              go_roundw
              case rel => exact ⟨j + 1, by omega, by go_num, Nd, Ne, (gx, blk cx V) :: (gc, br bc2) :: (qc, #[.map (some mc)]) :: (L4 ++ L3), Lib.hid (HC.out.perm (perm_of22 fun _ _ c1 c2 c3 => by simp only [c1, c2]; omega))⟩
              case measure => simp [intOf]; omega
      · obtain rfl : j = M := by omega
        go_wp2_with fail
        refine (awake21_any _).mono ?_; rintro e w6 ⟨rfl, hw⟩
        have HC := Lib.hid (HC.out.call hw)
        clear hw
        go_wp2_with fail
        go_ret
        exact ⟨rfl, HC.out.a.st.below⟩
end Go.Proofs.Ytgaecjhghpkcoaa
