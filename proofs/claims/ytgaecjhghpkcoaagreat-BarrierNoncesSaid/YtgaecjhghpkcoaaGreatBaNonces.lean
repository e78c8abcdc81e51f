/- BarrierNonces returns true. -/
import Derived.Test.YtgaecjhghpkcoaaGreatMBa
import Derived.Test.YtgaecjhghpkcoaaGreatBaNonce
import Derived.Test.YtgaecjhghpkcoaaGreatMBar2
import Derived.Test.YtgaecjhghpkcoaaGreatMRegion
namespace Go.Proofs.YtgaecjhghpkcoaaGreat
open Go.RowKit
attribute [local go_sem] B_xor B_or B_and
attribute [local go_sem] blk_set blk_size blk_get blk_getE upd_same oneCells_blk paste_blk cut_blk szOf
attribute [local go_sem high] paste_all cut_head
attribute [local go_sem] rowAt_alloc rowAt_drew rowAt_drewN isRow_alloc isRow_drew isRow_drewN freeRow_alloc freeRow_end freeRow_drew freeRow_drewN
attribute [local go_sem] setRow_alloc setRow_drew setRow_drewN setCell_drewN alloc_drewN rowAt_put isRow_setRow freeRow_put
attribute [local go_sem ↓] loadS_in storeS_in indexS_in copyS_in
attribute [local go_sem] loadS_row loadS_one storeS_row storeS_one indexS_blk copyS_rows run_equalIn_blk same_refl arrayAt_row
attribute [local go_sem] cell_row frozen_row st_setCell st_blk_ne stepAt stepUpon
attribute [local go_sem high] run_eql_blk run_neq_blk
attribute [local go_sem ↓] convBS_in
attribute [local go_sem] convBS_row convBS_nil allBytes_blk bytesOf_blk
attribute [local go_sem] rg_size rg_get0 rg_getE0 rg_ne rg_set0 rg_one rg_cut rg_key rg_put rg_paste part_rg0 part_rg1
attribute [local go_sem] size_cn agg_cn cn_size cn_get0 cn_get1 cn_getE0 cn_getE1 cn_set0 cn_set1 cn_ne cn_one cn_cut cn_paste
attribute [local go_sem] size_op agg_op opC_size opC_get0 opC_get1 opC_get2 opC_get3 opC_get4 opC_get5 opC_getE0 opC_getE1 opC_getE2 opC_getE3 opC_getE4 opC_getE5 opC_ne opC_one opC_cut opC_count

/-- what is read of one of a list -/
theorem OpsAt.cells {w : World} {ad : Addr} {M c i : Nat} {o : Nat → OpR} (h : OpsAt w (.slice (some ad) M c) M o) (hi : i < M) :
    (ad.add (i * 6)).spot = none ∧ w.cell? (ad.add (i * 6)) = some (.int .u8 (B (o i).k)) ∧ w.cell? ⟨(ad.add (i * 6)).block, (ad.add (i * 6)).off + 1, none⟩ = some (.string (o i).p) ∧ w.cell? ⟨(ad.add (i * 6)).block, (ad.add (i * 6)).off + 2, none⟩ = some (.string (o i).t) := by
  obtain ⟨a', c', he, h⟩ := h
  injection he with e1 _ _
  subst e1
  obtain ⟨ad', e, h1, h2, h3⟩ := h i hi
  cases e
  have e0 : ad.add (i * 6) = ⟨(ad.add (i * 6)).block, (ad.add (i * 6)).off + 0, none⟩ := by
    have h2' := h2
    generalize ad.add (i * 6) = X at h2' ⊢
    obtain ⟨x, y, z⟩ := X
    simp only at h2'
    rw [h2']; rfl
  exact ⟨h2, by rw [e0]; exact h3 0 (by omega), h3 1 (by omega), h3 2 (by omega)⟩
theorem Mp.drew {α : Type} {enc : α → Value} {w : World} {m : Nat} {N : List (ByteArray × α)} (h : Mp enc w m N) : Mp enc w.drew m N := h
theorem Mp.drewN {α : Type} {enc : α → Value} {w : World} {m : Nat} {N : List (ByteArray × α)} (h : Mp enc w m N) (n : Nat) : Mp enc (w.drewN n) m N := h
theorem BarAt.pushA {id : Bool} {w0 w : World} {g : Nat} {b : Br} {q m : Nat} {N : Notes} {L : List (Nat × Array Value)} (h : BarAt id w0 g b q m N L w) (cs : Array Value) (t : TypeId) {k : Nat} (hk : w.heap.size = k) : BarAt id w0 g b q m N ((k, cs) :: L) (w.alloc (.cells cs t)) := hk ▸ h.push cs t
theorem bn_order {x1 x2 x3 x4 x5 : Nat × Array Value} {L : List (Nat × Array Value)} : (x3 :: x4 :: x1 :: x2 :: x5 :: L).Perm (x1 :: x2 :: x3 :: x4 :: x5 :: L) :=
  List.perm_append_comm_assoc [x3, x4] [x1, x2] (x5 :: L)
theorem B_mod4 (x : UInt8) (k : Nat) : ((B x).tmod 4 == (k : Int)) = decide (x.toNat % 4 = k) := by
  unfold B
  rw [Int.tmod_eq_emod_of_nonneg (by omega), Bool.eq_iff_iff, beq_iff_eq, decide_eq_true_eq]
  omega
set_option maxRecDepth 100000 in
set_option maxHeartbeats 8000000 in
theorem barrierNonces_walk (v : Value) (M : Nat) (o : Nat → OpR) (m : Nat → UInt8) (ideal : Bool) (w : World) (hO : OpsAt w v M o) : Calls Tryz.prog 6 #[v, .agg (blk 16 m), .bool ideal] w fun e w' => e = .returned (.bool true) ∧ Below w.heap.size w w' := by
  have hz2 := zero97
  have hz3 := cn_zero
  obtain ⟨a, c, rfl, _⟩ := id hO
  have HO := Lib.hid hO
  have HC := Lib.hid ((St.nil w).pushA (blk 16 m) 22 rfl)
  clear hO
  go_enter Tryz.func6, Tryz.ntmps6
  (obtain ⟨r1, f1, i1, b1, l1⟩ := St.facts1 (HC.out.pick [0] (by decide) rfl))
  go_wp2_with fail
  (clear r1 f1 i1 b1 l1)
  by_cases hov : overP M o
  · refine (over21_any _ M o true ⟨fun _ => hov, fun _ => rfl⟩ _ (HO.out.call HC.out.below)).mono ?_; rintro e w1 ⟨rfl, hw⟩
    have HC := Lib.hid (HC.out.call hw)
    clear hw
    go_wp2_with fail
    refine (awake21_any _).mono ?_; rintro e w2 ⟨rfl, hw⟩
    have HC := Lib.hid (HC.out.call hw)
    clear hw
    go_wp2_with fail
    go_ret
    exact ⟨rfl, HC.out.below⟩
  · refine (over21_any _ M o false ⟨fun h => Bool.noConfusion h, fun h => (hov h).elim⟩ _ (HO.out.call HC.out.below)).mono ?_; rintro e w1 ⟨rfl, hw⟩
    have HC := Lib.hid (HC.out.call hw)
    have m16 : M ≤ 16 := Nat.le_of_not_lt fun h => hov (.inl h)
    have HS := Lib.hid (show ∀ i, i < M → (o i).p.size ≤ 40 ∧ (o i).t.size ≤ 80 from fun i hi => ⟨Nat.le_of_not_lt fun h => hov (.inr ⟨i, hi, .inl h⟩), Nat.le_of_not_lt fun h => hov (.inr ⟨i, hi, .inr h⟩)⟩)
    clear hw hov
    cases ideal
    · obtain ⟨id, hid⟩ : ∃ i : Bool, i = false := ⟨_, rfl⟩
      have hkd : ((kdOf id : Nat) : Int) = 0 := by rw [hid]; rfl
      clear hid
      have hk3 : mayC 3 0 := ⟨by omega, by omega, by omega⟩
      have ko := fun (wx : World) (q mm : Nat) (h1 : St w ((q, #[.map (some mm)]) :: [(w.heap.size, blk 16 m)]) wx) (h2 : Mp encN wx mm []) (h3 : w.heap.size ≤ mm) => opened_bar id (.pointer (some ⟨q, 0, none⟩)) m 1 (by omega) (by omega) 3 0 hk3 w wx q mm [] _ (fun _ => rfl) h1 h2 h3 (fun _ _ h => by cases h)
      rw [hkd] at ko
      have KO := Lib.hid ko
      clear ko
      (obtain ⟨r1, f1, i1, b1, l1⟩ := St.facts1 (HC.out.pick [0] (by decide) rfl))
      go_wp2_with fail
      (clear r1 f1 i1 b1 l1)
      (go_cut [8] from 21 to 25 (fun p wx => ∃ g L' q mm, p = .pointer (some ⟨g, 0, none⟩) ∧ Hid (BarAt id w g ⟨true, kdOf id, ntOf id q, 1, ringF m 1, 3, 0⟩ q mm [] (L' ++ [(w.heap.size, blk 16 m)]) wx))
       case first =>
         (obtain ⟨r1, f1, i1, b1, l1⟩ := St.facts1 (HC.out.pick [0] (by decide) rfl))
         go_region_with (first | (go_at_call 10; refine (newNotes_any _ w _ [(w.heap.size, blk 16 m)] (St.sk (by repeat (first | exact HC.out | apply St.drew | apply St.drewN)))).mono ?_; rintro e w2 ⟨q, mm, rfl, hs, hM, h0⟩; obtain ⟨⟨s1, g1, j1, c1, k1⟩, ⟨s2, g2, j2, c2, k2⟩, n12, n21⟩ := St.facts2 hs.toSt) | (go_at_call 26; refine (KO.out _ q mm (by repeat (first | exact hs.toSt | apply St.drew | apply St.drewN)) (by repeat (first | exact hM | apply Mp.drew | apply Mp.drewN)) h0).mono ?_; rintro e w3 ⟨g, L', rfl, hB, _⟩))
         all_goals
           go_wp2_with fail
           go_meet
           exact ⟨g, L', q, mm, rfl, Lib.hid hB⟩
       case rest =>
         obtain ⟨g, L', q, mm, rfl, HB⟩ := hcut
         clear HC KO
         obtain ⟨F, hF⟩ : ∃ F, ringF m 1 = F := ⟨_, rfl⟩
         rw [hF] at HB
         have HC := Lib.hid (HB.out.perm (L' := (w.heap.size, blk 16 m) :: L') (List.perm_append_comm (l₁ := [_]) (l₂ := L')))
         clear HB hF
         go_wp2_with fail
         have HC := Lib.hid (HC.out.push (cn 0 0) 52)
         generalize wc.heap.size = gl at HC ⊢
         go_loopw [10] (fun i wr => ∃ j : Nat, j ≤ M ∧ i = .int .i64 (j : Int) ∧ ∃ E C le ln N L2, Hid (lessP le ln E C) ∧ Hid (3 ≤ E ∧ E ≤ 3 + j ∧ C ≤ 2 * j) ∧ Hid (BarAt id w g ⟨true, kdOf id, ntOf id q, 1, F, E, C⟩ q mm N ((gl, cn le ln) :: (w.heap.size, blk 16 m) :: L2) wr)) (fun i _ => M - (intOf i).toNat)
         case atStart => exact ⟨0, by omega, rfl, 3, 0, 0, 0, [], L', Lib.hid (.inl (by omega)), Lib.hid ⟨by omega, by omega, by omega⟩, HC⟩
         case round =>
           clear HC
           obtain ⟨j, hj, rfl, E, C, le, ln, N, L2, HL, HE, HC⟩ := hrel
           by_cases hlt : j < M
           · have d1 : (j : Int) < (M : Int) := by omega
             have hcl := (HO.out.call HC.out.st.below)
             obtain ⟨ad, rfl⟩ : ∃ ad, a = some ad := by
               obtain ⟨a', c', he, h⟩ := hcl
               injection he with e1 _ _
               obtain ⟨ad, e2, _⟩ := h j hlt
               exact ⟨ad, e1.trans e2⟩
             clear hcl
             obtain ⟨hp, ht⟩ := HS.out j hlt
             obtain ⟨ba, hba⟩ : ∃ b, (⟨true, kdOf id, ntOf id q, 1, F, E, C⟩ : Br) = b := ⟨_, rfl⟩
             rw [hba] at HC
             have x1 : ba.n = 1 := by rw [← hba]
             have x2 : ba.f = F := by rw [← hba]
             have x3 : ba.e = E := by rw [← hba]
             have x4 : ba.c = C := by rw [← hba]
             have te0 : takeE ba = 0 := takeE_yes ba (by rw [x1]; omega) (by have := HE.out; rw [x3, x4]; exact ⟨by omega, by omega, by omega⟩) (by have := HE.out; rw [x4]; omega)
             have hSe : putS id ba (o j).p (o j).t = headS 1 (nonceS E C) ++ hideS id ba (o j).p (o j).t := by rw [putS_yes _ _ _ _ te0, x1, x3, x4]
             obtain ⟨S2, hS⟩ : ∃ S2, putS id ba (o j).p (o j).t = S2 := ⟨_, rfl⟩
             have HSz := Lib.hid (show S2.size = (o j).t.size + 32 by rw [← hS, hSe, entry_size _ _ _ (nonceS_size _ _), hideS_size]; omega)
             have HSx := Lib.hid (show S2.extract 4 16 = nonceS E C by rw [← hS, hSe, entry_nonce _ _ _ (nonceS_size _ _)])
             have KP := Lib.hid (fun w' (h : BarAt id w g ba q mm N ((gl, cn le ln) :: (w.heap.size, blk 16 m) :: L2) w') => put_yes h (o j).p (o j).t (by omega) (by omega) te0)
             have hb1 : ({ ba with c := ba.c + 1 } : Br) = ⟨true, kdOf id, ntOf id q, 1, F, E, C + 1⟩ := by rw [← hba]
             rw [hS, hb1] at KP
             clear hba x1 x2 x3 x4 te0 hSe hS hb1
             go_wp2_with fail
             refine wp_region_mid (C := St wr []) 11 (by kernel_rfl) (by decide +kernel) _ rfl (St.nil wr).drew ?_
             (first
                | (apply head_skip rfl)
                | (apply head_step_g rfl
                   focus
                     intro w0 hC
                     obtain ⟨k9, k0, k1, k2⟩ := (HO.out.call (HC.out.call hC.below).st.below).cells hlt
                     clear hC
                     go_simp
                     with_reducible rfl)
              try simp only [Act.put, List.setIfInBounds_toArray, List.set])
             (first
                | (apply head_skip rfl)
                | (apply head_step_g rfl
                   focus
                     intro w0 hC
                     obtain ⟨k9, k0, k1, k2⟩ := (HO.out.call (HC.out.call hC.below).st.below).cells hlt
                     clear hC
                     go_simp
                     with_reducible rfl)
              try simp only [Act.put, List.setIfInBounds_toArray, List.set])
             (first
                | (apply head_skip rfl)
                | (apply head_step_g rfl
                   focus
                     intro w0 hC
                     obtain ⟨k9, k0, k1, k2⟩ := (HO.out.call (HC.out.call hC.below).st.below).cells hlt
                     clear hC
                     go_simp
                     with_reducible rfl)
              try simp only [Act.put, List.setIfInBounds_toArray, List.set])
             (first
                | (apply head_skip rfl)
                | (apply head_step_g rfl
                   focus
                     intro w0 hC
                     obtain ⟨k9, k0, k1, k2⟩ := (HO.out.call (HC.out.call hC.below).st.below).cells hlt
                     clear hC
                     go_simp
                     with_reducible rfl)
              try simp only [Act.put, List.setIfInBounds_toArray, List.set])
             (first
                | (apply head_skip rfl)
                | (apply head_step_g rfl
                   focus
                     intro w0 hC
                     obtain ⟨k9, k0, k1, k2⟩ := (HO.out.call (HC.out.call hC.below).st.below).cells hlt
                     clear hC
                     go_simp
                     with_reducible rfl)
              try simp only [Act.put, List.setIfInBounds_toArray, List.set])
             (first
                | (apply head_skip rfl)
                | (apply head_step_g rfl
                   focus
                     intro w0 hC
                     obtain ⟨k9, k0, k1, k2⟩ := (HO.out.call (HC.out.call hC.below).st.below).cells hlt
                     clear hC
                     go_simp
                     with_reducible rfl)
              try simp only [Act.put, List.setIfInBounds_toArray, List.set])
             (first
                | (apply head_skip rfl)
                | (apply head_step_g rfl
                   focus
                     intro w0 hC
                     obtain ⟨k9, k0, k1, k2⟩ := (HO.out.call (HC.out.call hC.below).st.below).cells hlt
                     clear hC
                     go_simp
                     with_reducible rfl)
              try simp only [Act.put, List.setIfInBounds_toArray, List.set])
             (first
                | (apply head_skip rfl)
                | (apply head_step_g rfl
                   focus
                     intro w0 hC
                     obtain ⟨k9, k0, k1, k2⟩ := (HO.out.call (HC.out.call hC.below).st.below).cells hlt
                     clear hC
                     go_simp
                     with_reducible rfl)
              try simp only [Act.put, List.setIfInBounds_toArray, List.set])
             (first
                | (apply head_skip rfl)
                | (apply head_step_g rfl
                   focus
                     intro w0 hC
                     obtain ⟨k9, k0, k1, k2⟩ := (HO.out.call (HC.out.call hC.below).st.below).cells hlt
                     clear hC
                     go_simp
                     with_reducible rfl)
              try simp only [Act.put, List.setIfInBounds_toArray, List.set])
             (first
                | (apply head_skip rfl)
                | (apply head_step_g rfl
                   focus
                     intro w0 hC
                     obtain ⟨k9, k0, k1, k2⟩ := (HO.out.call (HC.out.call hC.below).st.below).cells hlt
                     clear hC
                     go_simp
                     with_reducible rfl)
              try simp only [Act.put, List.setIfInBounds_toArray, List.set])
             (first
                | (apply head_skip rfl)
                | (apply head_step_g rfl
                   focus
                     intro w0 hC
                     obtain ⟨k9, k0, k1, k2⟩ := (HO.out.call (HC.out.call hC.below).st.below).cells hlt
                     clear hC
                     go_simp
                     with_reducible rfl)
              try simp only [Act.put, List.setIfInBounds_toArray, List.set])
             refine wpQuiet_nil ?_
             intro w4 hC
             have HC := Lib.hid (HC.out.call hC.below)
             clear hC
             go_wp2_with fail
             refine (KP.out _ HC.out).mono ?_
             rintro e w5 ⟨rfl, hB, _⟩
             have HC := Lib.hid hB
             clear hB KP
             go_wp2_with fail
             refine ⟨St w5 [], St.nil w5, ?_⟩
             simp only [List.drop]
             (apply head_step_g rfl
              focus
                intro w0 hC
                clear hC
                go_simp
                with_reducible rfl
              try simp only [Act.put, List.setIfInBounds_toArray, List.set])
             (apply head_step_g rfl
              focus
                intro w0 hC
                clear hC
                go_simp
                with_reducible rfl
              try simp only [Act.put, List.setIfInBounds_toArray, List.set])
             (apply head_step_g rfl
              focus
                intro w0 hC
                clear hC
                go_simp
                with_reducible rfl
              try simp only [Act.put, List.setIfInBounds_toArray, List.set])
             (apply head_step_g rfl
              focus
                intro w0 hC
                clear hC
                go_simp
                with_reducible rfl
              try simp only [Act.put, List.setIfInBounds_toArray, List.set])
             (apply head_step_g rfl
              focus
                intro w0 hC
                clear hC
                go_simp
                with_reducible rfl
              try simp only [Act.put, List.setIfInBounds_toArray, List.set])
             refine wpQuiet_nil ?_
             intro w6 hC
             have HC := Lib.hid (HC.out.call hC.below)
             clear hC
             obtain ⟨k9, k0, k1, k2⟩ := (HO.out.call HC.out.st.below).cells hlt
             have n32 := Lib.hid (show 32 ≤ S2.size by have := HSz.out; omega)
             have e0 : ((B (o j).k).tmod 4 == 0) = decide ((o j).k.toNat % 4 = 0) := B_mod4 _ 0
             have e4 : ((B (o j).k).tmod 4 == 1) = decide ((o j).k.toNat % 4 = 1) := B_mod4 _ 1
             by_cases h0 : (o j).k.toNat % 4 = 0
             · have d0 : ((B (o j).k).tmod 4 == 0) = true := by rw [e0]; exact decide_eq_true h0
               have d4 : ((B (o j).k).tmod 4 == 1) = false := by rw [e4]; exact decide_eq_false (by omega)
               clear e0 e4 h0
               (obtain ⟨⟨r1, f1, i1, b1, l1⟩, ⟨r2, f2, i2, b2, l2⟩, ⟨r3, f3, i3, b3, l3⟩, ⟨r4, f4, i4, b4, l4⟩, m12, m21, m13, m31, m14, m41, m23, m32, m24, m42, m34, m43⟩ := St.facts4 (HC.out.pick [0, 1, 2, 3] (by decide) rfl))
               go_wp2_with fail
               (clear r1 f1 i1 b1 l1 r2 f2 i2 b2 l2 r3 f3 i3 b3 l3 r4 f4 i4 b4 l4 m12 m21 m13 m31 m14 m41 m23 m32 m24 m42 m34 m43)
               have hE2 := HE.out
               have te1 : takeE ⟨true, kdOf id, ntOf id q, 1, F, E, C + 1⟩ = 0 := takeE_yes _ (by show 1 ≠ 0; omega) (by show mayC E (C + 1); exact ⟨by omega, by omega, by omega⟩) (by show C + 1 ≠ _; omega)
               have kl := lock_yes HC.out m te1
               obtain ⟨S2, hS2⟩ : ∃ S2, headS 0 (nonceS E (C + 1)) ++ sealedR m 1 F E (C + 1) = S2 := ⟨_, rfl⟩
               have n32 := Lib.hid (show 32 ≤ S2.size by rw [← hS2, entry_size _ _ _ (nonceS_size _ _)]; unfold sealedR; rw [sealS_size, ringT_size]; omega)
               have HSx := Lib.hid (show S2.extract 4 16 = nonceS E (C + 1) by rw [← hS2, entry_nonce _ _ _ (nonceS_size _ _)])
               have kl' : Calls Tryz.prog 20 #[.pointer (some ⟨g, 0, none⟩), .agg (blk 16 m)] w6 fun r w' => r = .returned (.tuple #[.string S2, .int .i64 0]) ∧ BarAt id w g ⟨true, kdOf id, ntOf id q, 1, F, E, C + 2⟩ q mm (putM id ba (o j).p (o j).t N) ((gl, cn le ln) :: (w.heap.size, blk 16 m) :: L2) w' := by rw [← hS2]; exact kl
               clear kl te1 hS2 hE2
               refine kl'.mono ?_
               clear kl'
               rintro e w7 ⟨rfl, hB⟩
               have HC := Lib.hid hB
               clear hB
               obtain ⟨Cn, hCn⟩ : ∃ Cn, C + 1 = Cn := ⟨_, rfl⟩
               have HCb := Lib.hid (show Cn + 1 ≤ 2 * (j + 1) ∧ C ≤ Cn by have := HE.out; omega)
               rw [hCn] at HSx
               rw [show C + 2 = Cn + 1 by omega] at HC
               clear hCn
               (have d32 : decide ((S2.size : Int) < 32) = false := decide_eq_false (by have := n32.out; omega)
                have d16 : (16 : Int) ≤ (S2.size : Int) := by have := n32.out; omega
                have d17 : 16 ≤ S2.size := by have := n32.out; omega
                have hsx := HSx.out
                have hE2 := HE.out
                have hCb2 := HCb.out
                have KN := Lib.hid (fun w => nonceParse_yes E Cn ⟨by omega, by omega, by omega⟩ (by omega) w)
                have KL := Lib.hid (fun w => less_any le ln E Cn true ⟨fun _ => (by have := HL.out; unfold lessP at this ⊢; omega), fun _ => rfl⟩ w)
                clear hE2 hCb2
                (obtain ⟨⟨r1, f1, i1, b1, l1⟩, ⟨r2, f2, i2, b2, l2⟩, ⟨r3, f3, i3, b3, l3⟩, ⟨r4, f4, i4, b4, l4⟩, m12, m21, m13, m31, m14, m41, m23, m32, m24, m42, m34, m43⟩ := St.facts4 (HC.out.pick [0, 1, 2, 3] (by decide) rfl))
                go_wp2_with fail
                (clear r1 f1 i1 b1 l1 r2 f2 i2 b2 l2 r3 f3 i3 b3 l3 r4 f4 i4 b4 l4 m12 m21 m13 m31 m14 m41 m23 m32 m24 m42 m34 m43)
                refine (KN.out _).mono ?_; rintro e w8 ⟨rfl, hw⟩
                have HC := Lib.hid (HC.out.call hw)
                clear hw
                (obtain ⟨⟨r1, f1, i1, b1, l1⟩, ⟨r2, f2, i2, b2, l2⟩, ⟨r3, f3, i3, b3, l3⟩, ⟨r4, f4, i4, b4, l4⟩, m12, m21, m13, m31, m14, m41, m23, m32, m24, m42, m34, m43⟩ := St.facts4 (HC.out.pick [0, 1, 2, 3] (by decide) rfl))
                go_wp2_with fail
                (clear r1 f1 i1 b1 l1 r2 f2 i2 b2 l2 r3 f3 i3 b3 l3 r4 f4 i4 b4 l4 m12 m21 m13 m31 m14 m41 m23 m32 m24 m42 m34 m43)
                have HC := Lib.hid (HC.out.push (cn E Cn) 52)
                generalize w8.alloc (Obj.cells (cn E Cn) 52) = w8' at HC ⊢
                generalize w8.heap.size = gx at HC ⊢
                refine (KL.out _).mono ?_; rintro e w9 ⟨rfl, hw⟩
                have HC := Lib.hid (HC.out.call hw)
                clear hw
                (obtain ⟨⟨r1, f1, i1, b1, l1⟩, ⟨r2, f2, i2, b2, l2⟩, ⟨r3, f3, i3, b3, l3⟩, ⟨r4, f4, i4, b4, l4⟩, ⟨r5, f5, i5, b5, l5⟩, m12, m21, m13, m31, m14, m41, m15, m51, m23, m32, m24, m42, m25, m52, m34, m43, m35, m53, m45, m54⟩ := St.facts5 (HC.out.pick [0, 1, 2, 3, 4] (by decide) rfl))
                go_upto_region 22 with fail
                (clear r1 f1 i1 b1 l1 r2 f2 i2 b2 l2 r3 f3 i3 b3 l3 r4 f4 i4 b4 l4 r5 f5 i5 b5 l5 m12 m21 m13 m31 m14 m41 m15 m51 m23 m32 m24 m42 m25 m52 m34 m43 m35 m53 m45 m54)
                have HC := Lib.hid ((HC.out.perm (.swap _ _ _)).set (cn E Cn) (by rw [cn_size, cn_size]))
                generalize w9.setRow gl (cn E Cn) = w10 at HC ⊢
                have HC := Lib.hid (HC.out.perm (L' := (gl, cn E Cn) :: (w.heap.size, blk 16 m) :: (gx, cn E Cn) :: L2) (.cons _ (.swap _ _ _)))
                obtain ⟨k9, k0, k1, k2⟩ := (HO.out.call HC.out.st.below).cells hlt)
               (go_wp2_with fail
                go_roundw
                case rel => exact ⟨j + 1, by omega, by go_num, E, Cn + 1, E, Cn, _, (gx, cn E Cn) :: L2, Lib.hid (.inr ⟨rfl, by omega⟩), Lib.hid (by have := HE.out; have := HCb.out; exact ⟨by omega, by omega, by omega⟩), HC⟩
                case measure => simp [intOf]; omega)
             · have d0 : ((B (o j).k).tmod 4 == 0) = false := by rw [e0]; exact decide_eq_false h0
               obtain ⟨Cn, hCn⟩ : ∃ Cn, C = Cn := ⟨_, rfl⟩
               have HCb := Lib.hid (show Cn + 1 ≤ 2 * (j + 1) ∧ C ≤ Cn by have := HE.out; omega)
               rw [hCn] at HSx HC
               clear hCn
               by_cases h1 : (o j).k.toNat % 4 = 1
               · have d4 : ((B (o j).k).tmod 4 == 1) = true := by rw [e4]; exact decide_eq_true h1
                 clear e0 e4 h0 h1
                 (have d32 : decide ((S2.size : Int) < 32) = false := decide_eq_false (by have := n32.out; omega)
                  have d16 : (16 : Int) ≤ (S2.size : Int) := by have := n32.out; omega
                  have d17 : 16 ≤ S2.size := by have := n32.out; omega
                  have hsx := HSx.out
                  have hE2 := HE.out
                  have hCb2 := HCb.out
                  have KN := Lib.hid (fun w => nonceParse_yes E Cn ⟨by omega, by omega, by omega⟩ (by omega) w)
                  have KL := Lib.hid (fun w => less_any le ln E Cn true ⟨fun _ => (by have := HL.out; unfold lessP at this ⊢; omega), fun _ => rfl⟩ w)
                  clear hE2 hCb2
                  (obtain ⟨⟨r1, f1, i1, b1, l1⟩, ⟨r2, f2, i2, b2, l2⟩, ⟨r3, f3, i3, b3, l3⟩, ⟨r4, f4, i4, b4, l4⟩, m12, m21, m13, m31, m14, m41, m23, m32, m24, m42, m34, m43⟩ := St.facts4 (HC.out.pick [0, 1, 2, 3] (by decide) rfl))
                  go_wp2_with fail
                  (clear r1 f1 i1 b1 l1 r2 f2 i2 b2 l2 r3 f3 i3 b3 l3 r4 f4 i4 b4 l4 m12 m21 m13 m31 m14 m41 m23 m32 m24 m42 m34 m43)
                  refine (KN.out _).mono ?_; rintro e w8 ⟨rfl, hw⟩
                  have HC := Lib.hid (HC.out.call hw)
                  clear hw
                  (obtain ⟨⟨r1, f1, i1, b1, l1⟩, ⟨r2, f2, i2, b2, l2⟩, ⟨r3, f3, i3, b3, l3⟩, ⟨r4, f4, i4, b4, l4⟩, m12, m21, m13, m31, m14, m41, m23, m32, m24, m42, m34, m43⟩ := St.facts4 (HC.out.pick [0, 1, 2, 3] (by decide) rfl))
                  go_wp2_with fail
                  (clear r1 f1 i1 b1 l1 r2 f2 i2 b2 l2 r3 f3 i3 b3 l3 r4 f4 i4 b4 l4 m12 m21 m13 m31 m14 m41 m23 m32 m24 m42 m34 m43)
                  have HC := Lib.hid (HC.out.push (cn E Cn) 52)
                  generalize w8.alloc (Obj.cells (cn E Cn) 52) = w8' at HC ⊢
                  generalize w8.heap.size = gx at HC ⊢
                  refine (KL.out _).mono ?_; rintro e w9 ⟨rfl, hw⟩
                  have HC := Lib.hid (HC.out.call hw)
                  clear hw
                  (obtain ⟨⟨r1, f1, i1, b1, l1⟩, ⟨r2, f2, i2, b2, l2⟩, ⟨r3, f3, i3, b3, l3⟩, ⟨r4, f4, i4, b4, l4⟩, ⟨r5, f5, i5, b5, l5⟩, m12, m21, m13, m31, m14, m41, m15, m51, m23, m32, m24, m42, m25, m52, m34, m43, m35, m53, m45, m54⟩ := St.facts5 (HC.out.pick [0, 1, 2, 3, 4] (by decide) rfl))
                  go_upto_region 22 with fail
                  (clear r1 f1 i1 b1 l1 r2 f2 i2 b2 l2 r3 f3 i3 b3 l3 r4 f4 i4 b4 l4 r5 f5 i5 b5 l5 m12 m21 m13 m31 m14 m41 m15 m51 m23 m32 m24 m42 m25 m52 m34 m43 m35 m53 m45 m54)
                  have HC := Lib.hid ((HC.out.perm (.swap _ _ _)).set (cn E Cn) (by rw [cn_size, cn_size]))
                  generalize w9.setRow gl (cn E Cn) = w10 at HC ⊢
                  have HC := Lib.hid (HC.out.perm (L' := (gl, cn E Cn) :: (w.heap.size, blk 16 m) :: (gx, cn E Cn) :: L2) (.cons _ (.swap _ _ _)))
                  obtain ⟨k9, k0, k1, k2⟩ := (HO.out.call HC.out.st.below).cells hlt)
                 go_wp2_with fail
                 refine (ring_yes HC.out (show (1 : Nat) ≠ 0 by omega)).mono ?_; rintro e w11 ⟨rfl, hw⟩
                 have HC := Lib.hid (HC.out.call hw)
                 clear hw
                 go_wp2_with fail
                 refine (count_yes HC.out (show (1 : Nat) ≠ 0 by omega)).mono ?_; rintro e w12 ⟨rfl, hw⟩
                 have HC := Lib.hid (HC.out.call hw)
                 clear hw
                 go_wp2_with fail
                 have HC := Lib.hid ((HC.out.push (rg 1 F) 44).pushA (cn E (Cn + 1)) 52 (k := w12.heap.size + 1) (by simp))
                 generalize (w12.alloc (Obj.cells (rg 1 F) 44)).alloc (Obj.cells (cn E (Cn + 1)) 52) = w13 at HC ⊢
                 generalize w12.heap.size + 1 = gn at HC ⊢
                 generalize w12.heap.size = gr at HC ⊢
                 refine (seal_yes HC.out).mono ?_
                 rintro e w14 ⟨rfl, hB⟩
                 have HC := Lib.hid hB
                 clear hB
                 have hE2 := HE.out
                 have hC2 := HCb.out
                 by_cases hj2 : j % 2 = 0
                 · have d2 : ((j : Int).tmod 2 == 0) = true := by rw [beq_iff_eq, Int.tmod_eq_emod_of_nonneg (by omega)]; omega
                   have d3 : ((j : Int) % 2 == 0) = true := by rw [beq_iff_eq]; omega
                   have hset : (cn 0 0).setIfInBounds 0 (.int .u64 ((E : Int) + 1)) = cn (E + 1) 0 := cn_set0 0 0 (E + 1)
                   have nE : (E : Int) ≤ 100 := by omega
                   have hk9 : mayC (E + 1) 0 := ⟨by omega, by omega, by omega⟩
                   clear hj2 hE2 hC2
                   (obtain ⟨⟨r1, f1, i1, b1, l1⟩, ⟨r2, f2, i2, b2, l2⟩, ⟨r3, f3, i3, b3, l3⟩, ⟨r4, f4, i4, b4, l4⟩, m12, m21, m13, m31, m14, m41, m23, m32, m24, m42, m34, m43⟩ := St.facts4 (HC.out.pick [0, 1, 2, 3] (by decide) rfl))
                   go_upto_region 27 with fail
                   (clear r1 f1 i1 b1 l1 r2 f2 i2 b2 l2 r3 f3 i3 b3 l3 r4 f4 i4 b4 l4 m12 m21 m13 m31 m14 m41 m23 m32 m24 m42 m34 m43)
                   have HC := Lib.hid (HC.out.set (cn (E + 1) 0) (by rw [cn_size, cn_size]))
                   generalize w14.setRow gn (cn (E + 1) 0) = w15 at HC ⊢
                   (obtain ⟨⟨r1, f1, i1, b1, l1⟩, ⟨r2, f2, i2, b2, l2⟩, ⟨r3, f3, i3, b3, l3⟩, ⟨r4, f4, i4, b4, l4⟩, m12, m21, m13, m31, m14, m41, m23, m32, m24, m42, m34, m43⟩ := St.facts4 (HC.out.pick [0, 1, 2, 3] (by decide) rfl))
                   go_wp2_with fail
                   refine (open_good HC.out 1 F (E + 1) 0 rfl (by omega) (by omega) hk9).mono ?_
                   rintro e w16 ⟨rfl, hB⟩
                   have HC := Lib.hid hB
                   clear hB
                   go_wp2_with fail
                   go_roundw
                   case rel => exact ⟨j + 1, by omega, by go_num, E + 1, 0, E, Cn, _, (gn, cn (E + 1) 0) :: (gr, rg 1 F) :: (gx, cn E Cn) :: L2, Lib.hid (.inl (by omega)), Lib.hid (by have := HE.out; exact ⟨by omega, by omega, by omega⟩), Lib.hid (HC.out.perm bn_order)⟩
                   case measure => simp [intOf]; omega
                 · have d2 : ((j : Int).tmod 2 == 0) = false := by rw [beq_eq_false_iff_ne, ne_eq, Int.tmod_eq_emod_of_nonneg (by omega)]; omega
                   have d3 : ((j : Int) % 2 == 0) = false := by rw [beq_eq_false_iff_ne]; omega
                   have hk9 : mayC E (Cn + 1) := ⟨by omega, by omega, by omega⟩
                   clear hj2 hE2 hC2
                   (obtain ⟨⟨r1, f1, i1, b1, l1⟩, ⟨r2, f2, i2, b2, l2⟩, ⟨r3, f3, i3, b3, l3⟩, ⟨r4, f4, i4, b4, l4⟩, m12, m21, m13, m31, m14, m41, m23, m32, m24, m42, m34, m43⟩ := St.facts4 (HC.out.pick [0, 1, 2, 3] (by decide) rfl))
                   go_wp2_with fail
                   refine (open_good HC.out 1 F E (Cn + 1) rfl (by omega) (by omega) hk9).mono ?_
                   rintro e w16 ⟨rfl, hB⟩
                   have HC := Lib.hid hB
                   clear hB
                   go_wp2_with fail
                   go_roundw
                   case rel => exact ⟨j + 1, by omega, by go_num, E, Cn + 1, E, Cn, _, (gn, cn E (Cn + 1)) :: (gr, rg 1 F) :: (gx, cn E Cn) :: L2, Lib.hid (.inr ⟨rfl, by omega⟩), Lib.hid (by have := HE.out; have := HCb.out; exact ⟨by omega, by omega, by omega⟩), Lib.hid (HC.out.perm bn_order)⟩
                   case measure => simp [intOf]; omega
               · have d4 : ((B (o j).k).tmod 4 == 1) = false := by rw [e4]; exact decide_eq_false h1
                 clear e0 e4 h0 h1
                 (have d32 : decide ((S2.size : Int) < 32) = false := decide_eq_false (by have := n32.out; omega)
                  have d16 : (16 : Int) ≤ (S2.size : Int) := by have := n32.out; omega
                  have d17 : 16 ≤ S2.size := by have := n32.out; omega
                  have hsx := HSx.out
                  have hE2 := HE.out
                  have hCb2 := HCb.out
                  have KN := Lib.hid (fun w => nonceParse_yes E Cn ⟨by omega, by omega, by omega⟩ (by omega) w)
                  have KL := Lib.hid (fun w => less_any le ln E Cn true ⟨fun _ => (by have := HL.out; unfold lessP at this ⊢; omega), fun _ => rfl⟩ w)
                  clear hE2 hCb2
                  (obtain ⟨⟨r1, f1, i1, b1, l1⟩, ⟨r2, f2, i2, b2, l2⟩, ⟨r3, f3, i3, b3, l3⟩, ⟨r4, f4, i4, b4, l4⟩, m12, m21, m13, m31, m14, m41, m23, m32, m24, m42, m34, m43⟩ := St.facts4 (HC.out.pick [0, 1, 2, 3] (by decide) rfl))
                  go_wp2_with fail
                  (clear r1 f1 i1 b1 l1 r2 f2 i2 b2 l2 r3 f3 i3 b3 l3 r4 f4 i4 b4 l4 m12 m21 m13 m31 m14 m41 m23 m32 m24 m42 m34 m43)
                  refine (KN.out _).mono ?_; rintro e w8 ⟨rfl, hw⟩
                  have HC := Lib.hid (HC.out.call hw)
                  clear hw
                  (obtain ⟨⟨r1, f1, i1, b1, l1⟩, ⟨r2, f2, i2, b2, l2⟩, ⟨r3, f3, i3, b3, l3⟩, ⟨r4, f4, i4, b4, l4⟩, m12, m21, m13, m31, m14, m41, m23, m32, m24, m42, m34, m43⟩ := St.facts4 (HC.out.pick [0, 1, 2, 3] (by decide) rfl))
                  go_wp2_with fail
                  (clear r1 f1 i1 b1 l1 r2 f2 i2 b2 l2 r3 f3 i3 b3 l3 r4 f4 i4 b4 l4 m12 m21 m13 m31 m14 m41 m23 m32 m24 m42 m34 m43)
                  have HC := Lib.hid (HC.out.push (cn E Cn) 52)
                  generalize w8.alloc (Obj.cells (cn E Cn) 52) = w8' at HC ⊢
                  generalize w8.heap.size = gx at HC ⊢
                  refine (KL.out _).mono ?_; rintro e w9 ⟨rfl, hw⟩
                  have HC := Lib.hid (HC.out.call hw)
                  clear hw
                  (obtain ⟨⟨r1, f1, i1, b1, l1⟩, ⟨r2, f2, i2, b2, l2⟩, ⟨r3, f3, i3, b3, l3⟩, ⟨r4, f4, i4, b4, l4⟩, ⟨r5, f5, i5, b5, l5⟩, m12, m21, m13, m31, m14, m41, m15, m51, m23, m32, m24, m42, m25, m52, m34, m43, m35, m53, m45, m54⟩ := St.facts5 (HC.out.pick [0, 1, 2, 3, 4] (by decide) rfl))
                  go_upto_region 22 with fail
                  (clear r1 f1 i1 b1 l1 r2 f2 i2 b2 l2 r3 f3 i3 b3 l3 r4 f4 i4 b4 l4 r5 f5 i5 b5 l5 m12 m21 m13 m31 m14 m41 m15 m51 m23 m32 m24 m42 m25 m52 m34 m43 m35 m53 m45 m54)
                  have HC := Lib.hid ((HC.out.perm (.swap _ _ _)).set (cn E Cn) (by rw [cn_size, cn_size]))
                  generalize w9.setRow gl (cn E Cn) = w10 at HC ⊢
                  have HC := Lib.hid (HC.out.perm (L' := (gl, cn E Cn) :: (w.heap.size, blk 16 m) :: (gx, cn E Cn) :: L2) (.cons _ (.swap _ _ _)))
                  obtain ⟨k9, k0, k1, k2⟩ := (HO.out.call HC.out.st.below).cells hlt)
                 (go_wp2_with fail
                  go_roundw
                  case rel => exact ⟨j + 1, by omega, by go_num, E, Cn + 1, E, Cn, _, (gx, cn E Cn) :: L2, Lib.hid (.inr ⟨rfl, by omega⟩), Lib.hid (by have := HE.out; have := HCb.out; exact ⟨by omega, by omega, by omega⟩), HC⟩
                  case measure => simp [intOf]; omega)
           · obtain rfl : j = M := by omega
             go_wp2_with fail
             refine (awake21_any _).mono ?_; rintro e w6 ⟨rfl, hw⟩
             have HC := Lib.hid (HC.out.call hw)
             clear hw
             go_wp2_with fail
             go_ret
             exact ⟨rfl, HC.out.st.below⟩)
    · obtain ⟨id, hid⟩ : ∃ i : Bool, i = true := ⟨_, rfl⟩
      have hkd : ((kdOf id : Nat) : Int) = 1 := by rw [hid]; rfl
      clear hid
      have hk3 : mayC 3 0 := ⟨by omega, by omega, by omega⟩
      have ko := fun (wx : World) (q mm : Nat) (h1 : St w ((q, #[.map (some mm)]) :: [(w.heap.size, blk 16 m)]) wx) (h2 : Mp encN wx mm []) (h3 : w.heap.size ≤ mm) => opened_bar id (.pointer (some ⟨q, 0, none⟩)) m 1 (by omega) (by omega) 3 0 hk3 w wx q mm [] _ (fun _ => rfl) h1 h2 h3 (fun _ _ h => by cases h)
      rw [hkd] at ko
      have KO := Lib.hid ko
      clear ko
      (obtain ⟨r1, f1, i1, b1, l1⟩ := St.facts1 (HC.out.pick [0] (by decide) rfl))
      go_wp2_with fail
      (clear r1 f1 i1 b1 l1)
      (go_cut [8] from 21 to 25 (fun p wx => ∃ g L' q mm, p = .pointer (some ⟨g, 0, none⟩) ∧ Hid (BarAt id w g ⟨true, kdOf id, ntOf id q, 1, ringF m 1, 3, 0⟩ q mm [] (L' ++ [(w.heap.size, blk 16 m)]) wx))
       case first =>
         (obtain ⟨r1, f1, i1, b1, l1⟩ := St.facts1 (HC.out.pick [0] (by decide) rfl))
         go_region_with (first | (go_at_call 10; refine (newNotes_any _ w _ [(w.heap.size, blk 16 m)] (St.sk (by repeat (first | exact HC.out | apply St.drew | apply St.drewN)))).mono ?_; rintro e w2 ⟨q, mm, rfl, hs, hM, h0⟩; obtain ⟨⟨s1, g1, j1, c1, k1⟩, ⟨s2, g2, j2, c2, k2⟩, n12, n21⟩ := St.facts2 hs.toSt) | (go_at_call 26; refine (KO.out _ q mm (by repeat (first | exact hs.toSt | apply St.drew | apply St.drewN)) (by repeat (first | exact hM | apply Mp.drew | apply Mp.drewN)) h0).mono ?_; rintro e w3 ⟨g, L', rfl, hB, _⟩))
         all_goals
           go_wp2_with fail
           go_meet
           exact ⟨g, L', q, mm, rfl, Lib.hid hB⟩
       case rest =>
         obtain ⟨g, L', q, mm, rfl, HB⟩ := hcut
         clear HC KO
         obtain ⟨F, hF⟩ : ∃ F, ringF m 1 = F := ⟨_, rfl⟩
         rw [hF] at HB
         have HC := Lib.hid (HB.out.perm (L' := (w.heap.size, blk 16 m) :: L') (List.perm_append_comm (l₁ := [_]) (l₂ := L')))
         clear HB hF
         go_wp2_with fail
         have HC := Lib.hid (HC.out.push (cn 0 0) 52)
         generalize wc.heap.size = gl at HC ⊢
         go_loopw [10] (fun i wr => ∃ j : Nat, j ≤ M ∧ i = .int .i64 (j : Int) ∧ ∃ E C le ln N L2, Hid (lessP le ln E C) ∧ Hid (3 ≤ E ∧ E ≤ 3 + j ∧ C ≤ 2 * j) ∧ Hid (BarAt id w g ⟨true, kdOf id, ntOf id q, 1, F, E, C⟩ q mm N ((gl, cn le ln) :: (w.heap.size, blk 16 m) :: L2) wr)) (fun i _ => M - (intOf i).toNat)
         case atStart => exact ⟨0, by omega, rfl, 3, 0, 0, 0, [], L', Lib.hid (.inl (by omega)), Lib.hid ⟨by omega, by omega, by omega⟩, HC⟩
         case round =>
           clear HC
           obtain ⟨j, hj, rfl, E, C, le, ln, N, L2, HL, HE, HC⟩ := hrel
           by_cases hlt : j < M
           · have d1 : (j : Int) < (M : Int) := by omega
             have hcl := (HO.out.call HC.out.st.below)
             obtain ⟨ad, rfl⟩ : ∃ ad, a = some ad := by
               obtain ⟨a', c', he, h⟩ := hcl
               injection he with e1 _ _
               obtain ⟨ad, e2, _⟩ := h j hlt
               exact ⟨ad, e1.trans e2⟩
             clear hcl
             obtain ⟨hp, ht⟩ := HS.out j hlt
             obtain ⟨ba, hba⟩ : ∃ b, (⟨true, kdOf id, ntOf id q, 1, F, E, C⟩ : Br) = b := ⟨_, rfl⟩
             rw [hba] at HC
             have x1 : ba.n = 1 := by rw [← hba]
             have x2 : ba.f = F := by rw [← hba]
             have x3 : ba.e = E := by rw [← hba]
             have x4 : ba.c = C := by rw [← hba]
             have te0 : takeE ba = 0 := takeE_yes ba (by rw [x1]; omega) (by have := HE.out; rw [x3, x4]; exact ⟨by omega, by omega, by omega⟩) (by have := HE.out; rw [x4]; omega)
             have hSe : putS id ba (o j).p (o j).t = headS 1 (nonceS E C) ++ hideS id ba (o j).p (o j).t := by rw [putS_yes _ _ _ _ te0, x1, x3, x4]
             obtain ⟨S2, hS⟩ : ∃ S2, putS id ba (o j).p (o j).t = S2 := ⟨_, rfl⟩
             have HSz := Lib.hid (show S2.size = (o j).t.size + 32 by rw [← hS, hSe, entry_size _ _ _ (nonceS_size _ _), hideS_size]; omega)
             have HSx := Lib.hid (show S2.extract 4 16 = nonceS E C by rw [← hS, hSe, entry_nonce _ _ _ (nonceS_size _ _)])
             have KP := Lib.hid (fun w' (h : BarAt id w g ba q mm N ((gl, cn le ln) :: (w.heap.size, blk 16 m) :: L2) w') => put_yes h (o j).p (o j).t (by omega) (by omega) te0)
             have hb1 : ({ ba with c := ba.c + 1 } : Br) = ⟨true, kdOf id, ntOf id q, 1, F, E, C + 1⟩ := by rw [← hba]
             rw [hS, hb1] at KP
             clear hba x1 x2 x3 x4 te0 hSe hS hb1
             go_wp2_with fail
             refine wp_region_mid (C := St wr []) 11 (by kernel_rfl) (by decide +kernel) _ rfl (St.nil wr).drew ?_
             (first
                | (apply head_skip rfl)
                | (apply head_step_g rfl
                   focus
                     intro w0 hC
                     obtain ⟨k9, k0, k1, k2⟩ := (HO.out.call (HC.out.call hC.below).st.below).cells hlt
                     clear hC
                     go_simp
                     with_reducible rfl)
              try simp only [Act.put, List.setIfInBounds_toArray, List.set])
             (first
                | (apply head_skip rfl)
                | (apply head_step_g rfl
                   focus
                     intro w0 hC
                     obtain ⟨k9, k0, k1, k2⟩ := (HO.out.call (HC.out.call hC.below).st.below).cells hlt
                     clear hC
                     go_simp
                     with_reducible rfl)
              try simp only [Act.put, List.setIfInBounds_toArray, List.set])
             (first
                | (apply head_skip rfl)
                | (apply head_step_g rfl
                   focus
                     intro w0 hC
                     obtain ⟨k9, k0, k1, k2⟩ := (HO.out.call (HC.out.call hC.below).st.below).cells hlt
                     clear hC
                     go_simp
                     with_reducible rfl)
              try simp only [Act.put, List.setIfInBounds_toArray, List.set])
             (first
                | (apply head_skip rfl)
                | (apply head_step_g rfl
                   focus
                     intro w0 hC
                     obtain ⟨k9, k0, k1, k2⟩ := (HO.out.call (HC.out.call hC.below).st.below).cells hlt
                     clear hC
                     go_simp
                     with_reducible rfl)
              try simp only [Act.put, List.setIfInBounds_toArray, List.set])
             (first
                | (apply head_skip rfl)
                | (apply head_step_g rfl
                   focus
                     intro w0 hC
                     obtain ⟨k9, k0, k1, k2⟩ := (HO.out.call (HC.out.call hC.below).st.below).cells hlt
                     clear hC
                     go_simp
                     with_reducible rfl)
              try simp only [Act.put, List.setIfInBounds_toArray, List.set])
             (first
                | (apply head_skip rfl)
                | (apply head_step_g rfl
                   focus
                     intro w0 hC
                     obtain ⟨k9, k0, k1, k2⟩ := (HO.out.call (HC.out.call hC.below).st.below).cells hlt
                     clear hC
                     go_simp
                     with_reducible rfl)
              try simp only [Act.put, List.setIfInBounds_toArray, List.set])
             (first
                | (apply head_skip rfl)
                | (apply head_step_g rfl
                   focus
                     intro w0 hC
                     obtain ⟨k9, k0, k1, k2⟩ := (HO.out.call (HC.out.call hC.below).st.below).cells hlt
                     clear hC
                     go_simp
                     with_reducible rfl)
              try simp only [Act.put, List.setIfInBounds_toArray, List.set])
             (first
                | (apply head_skip rfl)
                | (apply head_step_g rfl
                   focus
                     intro w0 hC
                     obtain ⟨k9, k0, k1, k2⟩ := (HO.out.call (HC.out.call hC.below).st.below).cells hlt
                     clear hC
                     go_simp
                     with_reducible rfl)
              try simp only [Act.put, List.setIfInBounds_toArray, List.set])
             (first
                | (apply head_skip rfl)
                | (apply head_step_g rfl
                   focus
                     intro w0 hC
                     obtain ⟨k9, k0, k1, k2⟩ := (HO.out.call (HC.out.call hC.below).st.below).cells hlt
                     clear hC
                     go_simp
                     with_reducible rfl)
              try simp only [Act.put, List.setIfInBounds_toArray, List.set])
             (first
                | (apply head_skip rfl)
                | (apply head_step_g rfl
                   focus
                     intro w0 hC
                     obtain ⟨k9, k0, k1, k2⟩ := (HO.out.call (HC.out.call hC.below).st.below).cells hlt
                     clear hC
                     go_simp
                     with_reducible rfl)
              try simp only [Act.put, List.setIfInBounds_toArray, List.set])
             (first
                | (apply head_skip rfl)
                | (apply head_step_g rfl
                   focus
                     intro w0 hC
                     obtain ⟨k9, k0, k1, k2⟩ := (HO.out.call (HC.out.call hC.below).st.below).cells hlt
                     clear hC
                     go_simp
                     with_reducible rfl)
              try simp only [Act.put, List.setIfInBounds_toArray, List.set])
             refine wpQuiet_nil ?_
             intro w4 hC
             have HC := Lib.hid (HC.out.call hC.below)
             clear hC
             go_wp2_with fail
             refine (KP.out _ HC.out).mono ?_
             rintro e w5 ⟨rfl, hB, _⟩
             have HC := Lib.hid hB
             clear hB KP
             go_wp2_with fail
             refine ⟨St w5 [], St.nil w5, ?_⟩
             simp only [List.drop]
             (apply head_step_g rfl
              focus
                intro w0 hC
                clear hC
                go_simp
                with_reducible rfl
              try simp only [Act.put, List.setIfInBounds_toArray, List.set])
             (apply head_step_g rfl
              focus
                intro w0 hC
                clear hC
                go_simp
                with_reducible rfl
              try simp only [Act.put, List.setIfInBounds_toArray, List.set])
             (apply head_step_g rfl
              focus
                intro w0 hC
                clear hC
                go_simp
                with_reducible rfl
              try simp only [Act.put, List.setIfInBounds_toArray, List.set])
             (apply head_step_g rfl
              focus
                intro w0 hC
                clear hC
                go_simp
                with_reducible rfl
              try simp only [Act.put, List.setIfInBounds_toArray, List.set])
             (apply head_step_g rfl
              focus
                intro w0 hC
                clear hC
                go_simp
                with_reducible rfl
              try simp only [Act.put, List.setIfInBounds_toArray, List.set])
             refine wpQuiet_nil ?_
             intro w6 hC
             have HC := Lib.hid (HC.out.call hC.below)
             clear hC
             obtain ⟨k9, k0, k1, k2⟩ := (HO.out.call HC.out.st.below).cells hlt
             have n32 := Lib.hid (show 32 ≤ S2.size by have := HSz.out; omega)
             have e0 : ((B (o j).k).tmod 4 == 0) = decide ((o j).k.toNat % 4 = 0) := B_mod4 _ 0
             have e4 : ((B (o j).k).tmod 4 == 1) = decide ((o j).k.toNat % 4 = 1) := B_mod4 _ 1
             by_cases h0 : (o j).k.toNat % 4 = 0
             · have d0 : ((B (o j).k).tmod 4 == 0) = true := by rw [e0]; exact decide_eq_true h0
               have d4 : ((B (o j).k).tmod 4 == 1) = false := by rw [e4]; exact decide_eq_false (by omega)
               clear e0 e4 h0
               (obtain ⟨⟨r1, f1, i1, b1, l1⟩, ⟨r2, f2, i2, b2, l2⟩, ⟨r3, f3, i3, b3, l3⟩, ⟨r4, f4, i4, b4, l4⟩, m12, m21, m13, m31, m14, m41, m23, m32, m24, m42, m34, m43⟩ := St.facts4 (HC.out.pick [0, 1, 2, 3] (by decide) rfl))
               go_wp2_with fail
               (clear r1 f1 i1 b1 l1 r2 f2 i2 b2 l2 r3 f3 i3 b3 l3 r4 f4 i4 b4 l4 m12 m21 m13 m31 m14 m41 m23 m32 m24 m42 m34 m43)
               have hE2 := HE.out
               have te1 : takeE ⟨true, kdOf id, ntOf id q, 1, F, E, C + 1⟩ = 0 := takeE_yes _ (by show 1 ≠ 0; omega) (by show mayC E (C + 1); exact ⟨by omega, by omega, by omega⟩) (by show C + 1 ≠ _; omega)
               have kl := lock_yes HC.out m te1
               obtain ⟨S2, hS2⟩ : ∃ S2, headS 0 (nonceS E (C + 1)) ++ sealedR m 1 F E (C + 1) = S2 := ⟨_, rfl⟩
               have n32 := Lib.hid (show 32 ≤ S2.size by rw [← hS2, entry_size _ _ _ (nonceS_size _ _)]; unfold sealedR; rw [sealS_size, ringT_size]; omega)
               have HSx := Lib.hid (show S2.extract 4 16 = nonceS E (C + 1) by rw [← hS2, entry_nonce _ _ _ (nonceS_size _ _)])
               have kl' : Calls Tryz.prog 20 #[.pointer (some ⟨g, 0, none⟩), .agg (blk 16 m)] w6 fun r w' => r = .returned (.tuple #[.string S2, .int .i64 0]) ∧ BarAt id w g ⟨true, kdOf id, ntOf id q, 1, F, E, C + 2⟩ q mm (putM id ba (o j).p (o j).t N) ((gl, cn le ln) :: (w.heap.size, blk 16 m) :: L2) w' := by rw [← hS2]; exact kl
               clear kl te1 hS2 hE2
               refine kl'.mono ?_
               clear kl'
               rintro e w7 ⟨rfl, hB⟩
               have HC := Lib.hid hB
               clear hB
               obtain ⟨Cn, hCn⟩ : ∃ Cn, C + 1 = Cn := ⟨_, rfl⟩
               have HCb := Lib.hid (show Cn + 1 ≤ 2 * (j + 1) ∧ C ≤ Cn by have := HE.out; omega)
               rw [hCn] at HSx
               rw [show C + 2 = Cn + 1 by omega] at HC
               clear hCn
               (have d32 : decide ((S2.size : Int) < 32) = false := decide_eq_false (by have := n32.out; omega)
                have d16 : (16 : Int) ≤ (S2.size : Int) := by have := n32.out; omega
                have d17 : 16 ≤ S2.size := by have := n32.out; omega
                have hsx := HSx.out
                have hE2 := HE.out
                have hCb2 := HCb.out
                have KN := Lib.hid (fun w => nonceParse_yes E Cn ⟨by omega, by omega, by omega⟩ (by omega) w)
                have KL := Lib.hid (fun w => less_any le ln E Cn true ⟨fun _ => (by have := HL.out; unfold lessP at this ⊢; omega), fun _ => rfl⟩ w)
                clear hE2 hCb2
                (obtain ⟨⟨r1, f1, i1, b1, l1⟩, ⟨r2, f2, i2, b2, l2⟩, ⟨r3, f3, i3, b3, l3⟩, ⟨r4, f4, i4, b4, l4⟩, m12, m21, m13, m31, m14, m41, m23, m32, m24, m42, m34, m43⟩ := St.facts4 (HC.out.pick [0, 1, 2, 3] (by decide) rfl))
                go_wp2_with fail
                (clear r1 f1 i1 b1 l1 r2 f2 i2 b2 l2 r3 f3 i3 b3 l3 r4 f4 i4 b4 l4 m12 m21 m13 m31 m14 m41 m23 m32 m24 m42 m34 m43)
                refine (KN.out _).mono ?_; rintro e w8 ⟨rfl, hw⟩
                have HC := Lib.hid (HC.out.call hw)
                clear hw
                (obtain ⟨⟨r1, f1, i1, b1, l1⟩, ⟨r2, f2, i2, b2, l2⟩, ⟨r3, f3, i3, b3, l3⟩, ⟨r4, f4, i4, b4, l4⟩, m12, m21, m13, m31, m14, m41, m23, m32, m24, m42, m34, m43⟩ := St.facts4 (HC.out.pick [0, 1, 2, 3] (by decide) rfl))
                go_wp2_with fail
                (clear r1 f1 i1 b1 l1 r2 f2 i2 b2 l2 r3 f3 i3 b3 l3 r4 f4 i4 b4 l4 m12 m21 m13 m31 m14 m41 m23 m32 m24 m42 m34 m43)
                have HC := Lib.hid (HC.out.push (cn E Cn) 52)
                generalize w8.alloc (Obj.cells (cn E Cn) 52) = w8' at HC ⊢
                generalize w8.heap.size = gx at HC ⊢
                refine (KL.out _).mono ?_; rintro e w9 ⟨rfl, hw⟩
                have HC := Lib.hid (HC.out.call hw)
                clear hw
                (obtain ⟨⟨r1, f1, i1, b1, l1⟩, ⟨r2, f2, i2, b2, l2⟩, ⟨r3, f3, i3, b3, l3⟩, ⟨r4, f4, i4, b4, l4⟩, ⟨r5, f5, i5, b5, l5⟩, m12, m21, m13, m31, m14, m41, m15, m51, m23, m32, m24, m42, m25, m52, m34, m43, m35, m53, m45, m54⟩ := St.facts5 (HC.out.pick [0, 1, 2, 3, 4] (by decide) rfl))
                go_upto_region 22 with fail
                (clear r1 f1 i1 b1 l1 r2 f2 i2 b2 l2 r3 f3 i3 b3 l3 r4 f4 i4 b4 l4 r5 f5 i5 b5 l5 m12 m21 m13 m31 m14 m41 m15 m51 m23 m32 m24 m42 m25 m52 m34 m43 m35 m53 m45 m54)
                have HC := Lib.hid ((HC.out.perm (.swap _ _ _)).set (cn E Cn) (by rw [cn_size, cn_size]))
                generalize w9.setRow gl (cn E Cn) = w10 at HC ⊢
                have HC := Lib.hid (HC.out.perm (L' := (gl, cn E Cn) :: (w.heap.size, blk 16 m) :: (gx, cn E Cn) :: L2) (.cons _ (.swap _ _ _)))
                obtain ⟨k9, k0, k1, k2⟩ := (HO.out.call HC.out.st.below).cells hlt)
               (go_wp2_with fail
                go_roundw
                case rel => exact ⟨j + 1, by omega, by go_num, E, Cn + 1, E, Cn, _, (gx, cn E Cn) :: L2, Lib.hid (.inr ⟨rfl, by omega⟩), Lib.hid (by have := HE.out; have := HCb.out; exact ⟨by omega, by omega, by omega⟩), HC⟩
                case measure => simp [intOf]; omega)
             · have d0 : ((B (o j).k).tmod 4 == 0) = false := by rw [e0]; exact decide_eq_false h0
               obtain ⟨Cn, hCn⟩ : ∃ Cn, C = Cn := ⟨_, rfl⟩
               have HCb := Lib.hid (show Cn + 1 ≤ 2 * (j + 1) ∧ C ≤ Cn by have := HE.out; omega)
               rw [hCn] at HSx HC
               clear hCn
               by_cases h1 : (o j).k.toNat % 4 = 1
               · have d4 : ((B (o j).k).tmod 4 == 1) = true := by rw [e4]; exact decide_eq_true h1
                 clear e0 e4 h0 h1
                 (have d32 : decide ((S2.size : Int) < 32) = false := decide_eq_false (by have := n32.out; omega)
                  have d16 : (16 : Int) ≤ (S2.size : Int) := by have := n32.out; omega
                  have d17 : 16 ≤ S2.size := by have := n32.out; omega
                  have hsx := HSx.out
                  have hE2 := HE.out
                  have hCb2 := HCb.out
                  have KN := Lib.hid (fun w => nonceParse_yes E Cn ⟨by omega, by omega, by omega⟩ (by omega) w)
                  have KL := Lib.hid (fun w => less_any le ln E Cn true ⟨fun _ => (by have := HL.out; unfold lessP at this ⊢; omega), fun _ => rfl⟩ w)
                  clear hE2 hCb2
                  (obtain ⟨⟨r1, f1, i1, b1, l1⟩, ⟨r2, f2, i2, b2, l2⟩, ⟨r3, f3, i3, b3, l3⟩, ⟨r4, f4, i4, b4, l4⟩, m12, m21, m13, m31, m14, m41, m23, m32, m24, m42, m34, m43⟩ := St.facts4 (HC.out.pick [0, 1, 2, 3] (by decide) rfl))
                  go_wp2_with fail
                  (clear r1 f1 i1 b1 l1 r2 f2 i2 b2 l2 r3 f3 i3 b3 l3 r4 f4 i4 b4 l4 m12 m21 m13 m31 m14 m41 m23 m32 m24 m42 m34 m43)
                  refine (KN.out _).mono ?_; rintro e w8 ⟨rfl, hw⟩
                  have HC := Lib.hid (HC.out.call hw)
                  clear hw
                  (obtain ⟨⟨r1, f1, i1, b1, l1⟩, ⟨r2, f2, i2, b2, l2⟩, ⟨r3, f3, i3, b3, l3⟩, ⟨r4, f4, i4, b4, l4⟩, m12, m21, m13, m31, m14, m41, m23, m32, m24, m42, m34, m43⟩ := St.facts4 (HC.out.pick [0, 1, 2, 3] (by decide) rfl))
                  go_wp2_with fail
                  (clear r1 f1 i1 b1 l1 r2 f2 i2 b2 l2 r3 f3 i3 b3 l3 r4 f4 i4 b4 l4 m12 m21 m13 m31 m14 m41 m23 m32 m24 m42 m34 m43)
                  have HC := Lib.hid (HC.out.push (cn E Cn) 52)
                  generalize w8.alloc (Obj.cells (cn E Cn) 52) = w8' at HC ⊢
                  generalize w8.heap.size = gx at HC ⊢
                  refine (KL.out _).mono ?_; rintro e w9 ⟨rfl, hw⟩
                  have HC := Lib.hid (HC.out.call hw)
                  clear hw
                  (obtain ⟨⟨r1, f1, i1, b1, l1⟩, ⟨r2, f2, i2, b2, l2⟩, ⟨r3, f3, i3, b3, l3⟩, ⟨r4, f4, i4, b4, l4⟩, ⟨r5, f5, i5, b5, l5⟩, m12, m21, m13, m31, m14, m41, m15, m51, m23, m32, m24, m42, m25, m52, m34, m43, m35, m53, m45, m54⟩ := St.facts5 (HC.out.pick [0, 1, 2, 3, 4] (by decide) rfl))
                  go_upto_region 22 with fail
                  (clear r1 f1 i1 b1 l1 r2 f2 i2 b2 l2 r3 f3 i3 b3 l3 r4 f4 i4 b4 l4 r5 f5 i5 b5 l5 m12 m21 m13 m31 m14 m41 m15 m51 m23 m32 m24 m42 m25 m52 m34 m43 m35 m53 m45 m54)
                  have HC := Lib.hid ((HC.out.perm (.swap _ _ _)).set (cn E Cn) (by rw [cn_size, cn_size]))
                  generalize w9.setRow gl (cn E Cn) = w10 at HC ⊢
                  have HC := Lib.hid (HC.out.perm (L' := (gl, cn E Cn) :: (w.heap.size, blk 16 m) :: (gx, cn E Cn) :: L2) (.cons _ (.swap _ _ _)))
                  obtain ⟨k9, k0, k1, k2⟩ := (HO.out.call HC.out.st.below).cells hlt)
                 go_wp2_with fail
                 refine (ring_yes HC.out (show (1 : Nat) ≠ 0 by omega)).mono ?_; rintro e w11 ⟨rfl, hw⟩
                 have HC := Lib.hid (HC.out.call hw)
                 clear hw
                 go_wp2_with fail
                 refine (count_yes HC.out (show (1 : Nat) ≠ 0 by omega)).mono ?_; rintro e w12 ⟨rfl, hw⟩
                 have HC := Lib.hid (HC.out.call hw)
                 clear hw
                 go_wp2_with fail
                 have HC := Lib.hid ((HC.out.push (rg 1 F) 44).pushA (cn E (Cn + 1)) 52 (k := w12.heap.size + 1) (by simp))
                 generalize (w12.alloc (Obj.cells (rg 1 F) 44)).alloc (Obj.cells (cn E (Cn + 1)) 52) = w13 at HC ⊢
                 generalize w12.heap.size + 1 = gn at HC ⊢
                 generalize w12.heap.size = gr at HC ⊢
                 refine (seal_yes HC.out).mono ?_
                 rintro e w14 ⟨rfl, hB⟩
                 have HC := Lib.hid hB
                 clear hB
                 have hE2 := HE.out
                 have hC2 := HCb.out
                 by_cases hj2 : j % 2 = 0
                 · have d2 : ((j : Int).tmod 2 == 0) = true := by rw [beq_iff_eq, Int.tmod_eq_emod_of_nonneg (by omega)]; omega
                   have d3 : ((j : Int) % 2 == 0) = true := by rw [beq_iff_eq]; omega
                   have hset : (cn 0 0).setIfInBounds 0 (.int .u64 ((E : Int) + 1)) = cn (E + 1) 0 := cn_set0 0 0 (E + 1)
                   have nE : (E : Int) ≤ 100 := by omega
                   have hk9 : mayC (E + 1) 0 := ⟨by omega, by omega, by omega⟩
                   clear hj2 hE2 hC2
                   (obtain ⟨⟨r1, f1, i1, b1, l1⟩, ⟨r2, f2, i2, b2, l2⟩, ⟨r3, f3, i3, b3, l3⟩, ⟨r4, f4, i4, b4, l4⟩, m12, m21, m13, m31, m14, m41, m23, m32, m24, m42, m34, m43⟩ := St.facts4 (HC.out.pick [0, 1, 2, 3] (by decide) rfl))
                   go_upto_region 27 with fail
                   (clear r1 f1 i1 b1 l1 r2 f2 i2 b2 l2 r3 f3 i3 b3 l3 r4 f4 i4 b4 l4 m12 m21 m13 m31 m14 m41 m23 m32 m24 m42 m34 m43)
                   have HC := Lib.hid (HC.out.set (cn (E + 1) 0) (by rw [cn_size, cn_size]))
                   generalize w14.setRow gn (cn (E + 1) 0) = w15 at HC ⊢
                   (obtain ⟨⟨r1, f1, i1, b1, l1⟩, ⟨r2, f2, i2, b2, l2⟩, ⟨r3, f3, i3, b3, l3⟩, ⟨r4, f4, i4, b4, l4⟩, m12, m21, m13, m31, m14, m41, m23, m32, m24, m42, m34, m43⟩ := St.facts4 (HC.out.pick [0, 1, 2, 3] (by decide) rfl))
                   go_wp2_with fail
                   refine (open_good HC.out 1 F (E + 1) 0 rfl (by omega) (by omega) hk9).mono ?_
                   rintro e w16 ⟨rfl, hB⟩
                   have HC := Lib.hid hB
                   clear hB
                   go_wp2_with fail
                   go_roundw
                   case rel => exact ⟨j + 1, by omega, by go_num, E + 1, 0, E, Cn, _, (gn, cn (E + 1) 0) :: (gr, rg 1 F) :: (gx, cn E Cn) :: L2, Lib.hid (.inl (by omega)), Lib.hid (by have := HE.out; exact ⟨by omega, by omega, by omega⟩), Lib.hid (HC.out.perm bn_order)⟩
                   case measure => simp [intOf]; omega
                 · have d2 : ((j : Int).tmod 2 == 0) = false := by rw [beq_eq_false_iff_ne, ne_eq, Int.tmod_eq_emod_of_nonneg (by omega)]; omega
                   have d3 : ((j : Int) % 2 == 0) = false := by rw [beq_eq_false_iff_ne]; omega
                   have hk9 : mayC E (Cn + 1) := ⟨by omega, by omega, by omega⟩
                   clear hj2 hE2 hC2
                   (obtain ⟨⟨r1, f1, i1, b1, l1⟩, ⟨r2, f2, i2, b2, l2⟩, ⟨r3, f3, i3, b3, l3⟩, ⟨r4, f4, i4, b4, l4⟩, m12, m21, m13, m31, m14, m41, m23, m32, m24, m42, m34, m43⟩ := St.facts4 (HC.out.pick [0, 1, 2, 3] (by decide) rfl))
                   go_wp2_with fail
                   refine (open_good HC.out 1 F E (Cn + 1) rfl (by omega) (by omega) hk9).mono ?_
                   rintro e w16 ⟨rfl, hB⟩
                   have HC := Lib.hid hB
                   clear hB
                   go_wp2_with fail
                   go_roundw
                   case rel => exact ⟨j + 1, by omega, by go_num, E, Cn + 1, E, Cn, _, (gn, cn E (Cn + 1)) :: (gr, rg 1 F) :: (gx, cn E Cn) :: L2, Lib.hid (.inr ⟨rfl, by omega⟩), Lib.hid (by have := HE.out; have := HCb.out; exact ⟨by omega, by omega, by omega⟩), Lib.hid (HC.out.perm bn_order)⟩
                   case measure => simp [intOf]; omega
               · have d4 : ((B (o j).k).tmod 4 == 1) = false := by rw [e4]; exact decide_eq_false h1
                 clear e0 e4 h0 h1
                 (have d32 : decide ((S2.size : Int) < 32) = false := decide_eq_false (by have := n32.out; omega)
                  have d16 : (16 : Int) ≤ (S2.size : Int) := by have := n32.out; omega
                  have d17 : 16 ≤ S2.size := by have := n32.out; omega
                  have hsx := HSx.out
                  have hE2 := HE.out
                  have hCb2 := HCb.out
                  have KN := Lib.hid (fun w => nonceParse_yes E Cn ⟨by omega, by omega, by omega⟩ (by omega) w)
                  have KL := Lib.hid (fun w => less_any le ln E Cn true ⟨fun _ => (by have := HL.out; unfold lessP at this ⊢; omega), fun _ => rfl⟩ w)
                  clear hE2 hCb2
                  (obtain ⟨⟨r1, f1, i1, b1, l1⟩, ⟨r2, f2, i2, b2, l2⟩, ⟨r3, f3, i3, b3, l3⟩, ⟨r4, f4, i4, b4, l4⟩, m12, m21, m13, m31, m14, m41, m23, m32, m24, m42, m34, m43⟩ := St.facts4 (HC.out.pick [0, 1, 2, 3] (by decide) rfl))
                  go_wp2_with fail
                  (clear r1 f1 i1 b1 l1 r2 f2 i2 b2 l2 r3 f3 i3 b3 l3 r4 f4 i4 b4 l4 m12 m21 m13 m31 m14 m41 m23 m32 m24 m42 m34 m43)
                  refine (KN.out _).mono ?_; rintro e w8 ⟨rfl, hw⟩
                  have HC := Lib.hid (HC.out.call hw)
                  clear hw
                  (obtain ⟨⟨r1, f1, i1, b1, l1⟩, ⟨r2, f2, i2, b2, l2⟩, ⟨r3, f3, i3, b3, l3⟩, ⟨r4, f4, i4, b4, l4⟩, m12, m21, m13, m31, m14, m41, m23, m32, m24, m42, m34, m43⟩ := St.facts4 (HC.out.pick [0, 1, 2, 3] (by decide) rfl))
                  go_wp2_with fail
                  (clear r1 f1 i1 b1 l1 r2 f2 i2 b2 l2 r3 f3 i3 b3 l3 r4 f4 i4 b4 l4 m12 m21 m13 m31 m14 m41 m23 m32 m24 m42 m34 m43)
                  have HC := Lib.hid (HC.out.push (cn E Cn) 52)
                  generalize w8.alloc (Obj.cells (cn E Cn) 52) = w8' at HC ⊢
                  generalize w8.heap.size = gx at HC ⊢
                  refine (KL.out _).mono ?_; rintro e w9 ⟨rfl, hw⟩
                  have HC := Lib.hid (HC.out.call hw)
                  clear hw
                  (obtain ⟨⟨r1, f1, i1, b1, l1⟩, ⟨r2, f2, i2, b2, l2⟩, ⟨r3, f3, i3, b3, l3⟩, ⟨r4, f4, i4, b4, l4⟩, ⟨r5, f5, i5, b5, l5⟩, m12, m21, m13, m31, m14, m41, m15, m51, m23, m32, m24, m42, m25, m52, m34, m43, m35, m53, m45, m54⟩ := St.facts5 (HC.out.pick [0, 1, 2, 3, 4] (by decide) rfl))
                  go_upto_region 22 with fail
                  (clear r1 f1 i1 b1 l1 r2 f2 i2 b2 l2 r3 f3 i3 b3 l3 r4 f4 i4 b4 l4 r5 f5 i5 b5 l5 m12 m21 m13 m31 m14 m41 m15 m51 m23 m32 m24 m42 m25 m52 m34 m43 m35 m53 m45 m54)
                  have HC := Lib.hid ((HC.out.perm (.swap _ _ _)).set (cn E Cn) (by rw [cn_size, cn_size]))
                  generalize w9.setRow gl (cn E Cn) = w10 at HC ⊢
                  have HC := Lib.hid (HC.out.perm (L' := (gl, cn E Cn) :: (w.heap.size, blk 16 m) :: (gx, cn E Cn) :: L2) (.cons _ (.swap _ _ _)))
                  obtain ⟨k9, k0, k1, k2⟩ := (HO.out.call HC.out.st.below).cells hlt)
                 (go_wp2_with fail
                  go_roundw
                  case rel => exact ⟨j + 1, by omega, by go_num, E, Cn + 1, E, Cn, _, (gx, cn E Cn) :: L2, Lib.hid (.inr ⟨rfl, by omega⟩), Lib.hid (by have := HE.out; have := HCb.out; exact ⟨by omega, by omega, by omega⟩), HC⟩
                  case measure => simp [intOf]; omega)
           · obtain rfl : j = M := by omega
             go_wp2_with fail
             refine (awake21_any _).mono ?_; rintro e w6 ⟨rfl, hw⟩
             have HC := Lib.hid (HC.out.call hw)
             clear hw
             go_wp2_with fail
             go_ret
             exact ⟨rfl, HC.out.st.below⟩)
end Go.Proofs.YtgaecjhghpkcoaaGreat
