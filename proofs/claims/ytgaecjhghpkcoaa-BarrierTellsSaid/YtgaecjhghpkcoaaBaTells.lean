/- BarrierTells returns true. -/
import Derived.Test.YtgaecjhghpkcoaaMBa
import Derived.Test.YtgaecjhghpkcoaaMBar2
import Derived.Test.YtgaecjhghpkcoaaMRegion
import Derived.Test.YtgaecjhghpkcoaaBaTeLaw
namespace Go.Proofs.Ytgaecjhghpkcoaa
open Go.RowKit
attribute [local go_sem] B_xor B_or B_and
attribute [local go_sem] blk_set blk_size blk_get blk_getE upd_same oneCells_blk paste_blk cut_blk szOf
attribute [local go_sem high] paste_all cut_head
attribute [local go_sem] rowAt_alloc rowAt_drew rowAt_drewN isRow_alloc isRow_drew isRow_drewN freeRow_alloc freeRow_end freeRow_drew freeRow_drewN
attribute [local go_sem] setRow_alloc setRow_drew setRow_drewN setCell_drewN alloc_drewN rowAt_put isRow_setRow freeRow_put
attribute [local go_sem ↓] loadS_in storeS_in indexS_in copyS_in
attribute [local go_sem] loadS_row loadS_one storeS_row storeS_one indexS_blk copyS_rows run_equalIn_blk same_refl arrayAt_row
attribute [local go_sem] cell_row frozen_row st_setCell st_blk_ne stepAt stepUpon
attribute [local go_sem high] run_eql_blk run_neq_blk
attribute [local go_sem ↓] convBS_in
attribute [local go_sem] convBS_row convBS_nil allBytes_blk bytesOf_blk
attribute [local go_sem] rg_size rg_get0 rg_getE0 rg_ne rg_set0 rg_one rg_cut rg_key rg_put rg_paste part_rg0 part_rg1
attribute [local go_sem] size_cn agg_cn cn_size cn_get0 cn_get1 cn_getE0 cn_getE1 cn_set0 cn_set1 cn_ne cn_one cn_cut cn_paste
attribute [local go_sem] size_op agg_op opC_size opC_get0 opC_get1 opC_get2 opC_get3 opC_get4 opC_get5 opC_getE0 opC_getE1 opC_getE2 opC_getE3 opC_getE4 opC_getE5 opC_ne opC_one opC_cut opC_count
attribute [local go_sem ↓] convSB_in
attribute [local go_sem] convSB_row freeRow_endB
theorem wrap64_small {n : Nat} (h : n ≤ 1000) : RowKit.wrap64 (n : Int) = (n : Int) := by unfold RowKit.wrap64; omega
theorem perm_of21 {a b : List (Nat × Array Value)} (h : ∀ (cnt : List (Nat × Array Value) → Nat) (on : (Nat × Array Value) → Nat), (∀ x y, cnt (x ++ y) = cnt x + cnt y) → (∀ x l, cnt (x :: l) = on x + cnt l) → cnt [] = 0 → cnt a = cnt b) : a.Perm b := by
  classical
  exact List.perm_iff_count.2 fun z => h (fun l => List.count z l) (fun x => List.count z [x]) (fun _ _ => List.count_append) (fun x l => List.count_append (l₁ := [x])) rfl
theorem op_laid (o : OpR) : Array.foldl (fun (cs : Array Value) (x : Value × Nat) => cs.setIfInBounds x.snd x.fst) #[Value.int .u8 0, .string ⟨#[]⟩, .string ⟨#[]⟩, .int .u8 0, .int .u64 0, .int .u64 0] (opC o).zipIdx 0 6 = opC o := by
  have e : (opC o).zipIdx = [((.int .u8 (B o.k) : Value), 0), (.string o.p, 1), (.string o.t, 2), (.int .u8 (B o.m), 3), (.int .u64 (o.e : Int), 4), (.int .u64 (o.n : Int), 5)].toArray := rfl
  rw [e, List.foldl_toArray' _ _ _ (by simp)]
  rfl
attribute [local go_sem] op_laid
theorem op_alone {w : World} {g : Nat} {o : OpR} {c : Nat} (hr : rowAt w g = opC o) (hi : isRow w g = true) (hg : g < w.heap.size) : OpsAt w (.slice (some ⟨g, 0, none⟩) 1 c) 1 fun _ => o := by
  refine ⟨_, c, rfl, fun i hi' => ?_⟩
  obtain rfl : i = 0 := by omega
  refine ⟨_, rfl, hg, rfl, fun j hj => ?_⟩
  show w.cell? ⟨g, 0 + j, none⟩ = _
  rw [Nat.zero_add, cell_row g j hi, hr]
set_option maxRecDepth 100000 in
set_option maxHeartbeats 8000000 in
theorem barrierTells_walk (o : OpR) (m nn : Nat → UInt8) (w : World) : Calls Try.prog 6 #[.agg (opC o), .agg (blk 16 m), .agg (blk 2 nn)] w fun e w' => e = .returned (.bool true) ∧ Below w.heap.size w w' := by
  have hz := zero16
  have hz2 := zero97
  have HC := Lib.hid ((((St.nil w).pushA (opC o) 55 rfl).pushA (blk 16 m) 22 (g := w.heap.size + 1) (by simp)).pushA (blk 2 nn) 56 (g := w.heap.size + 1 + 1) (by simp))
  have HC := Lib.hid (HC.out.pick [2, 1, 0] (by decide) rfl)
  go_enter Try.func6, Try.ntmps6
  (obtain ⟨⟨r1, f1, i1, b1, l1⟩, ⟨r2, f2, i2, b2, l2⟩, ⟨r3, f3, i3, b3, l3⟩, m12, m21, m13, m31, m23, m32⟩ := St.facts3 (HC.out.pick [0, 1, 2] (by decide) rfl))
  go_wp2_with fail
  (clear r1 f1 i1 b1 l1 r2 f2 i2 b2 l2 r3 f3 i3 b3 l3 m12 m21 m13 m31 m23 m32)
  have HC := Lib.hid (HC.out.pushA (opC o) 55 (g := w.heap.size + 1 + 1 + 1) (by simp))
  obtain ⟨hr, hi, hg⟩ : rowAt _ (w.heap.size + 1 + 1 + 1) = opC o ∧ isRow _ (w.heap.size + 1 + 1 + 1) = true ∧ _ := ⟨(HC.out.at (.head _)).1, (HC.out.at (.head _)).2.2.1, (HC.out.at (.head _)).2.2.2.2⟩
  by_cases hov : overP 1 fun _ => o
  · refine (over21_any _ 1 (fun _ => o) true ⟨fun _ => hov, fun _ => rfl⟩ _ (op_alone hr hi hg)).mono ?_; rintro e w1 ⟨rfl, hw⟩
    have HC := Lib.hid (HC.out.call hw)
    clear hw hr hi hg
    go_wp2_with fail
    refine (awake21_any _).mono ?_; rintro e w2 ⟨rfl, hw⟩
    have HC := Lib.hid (HC.out.call hw)
    clear hw
    go_wp2_with fail
    go_ret
    exact ⟨rfl, HC.out.below⟩
  refine (over21_any _ 1 (fun _ => o) false ⟨fun h => Bool.noConfusion h, fun h => (hov h).elim⟩ _ (op_alone hr hi hg)).mono ?_; rintro e w1 ⟨rfl, hw⟩
  have HC := Lib.hid (HC.out.call hw).tail
  have hpt : o.p.size ≤ 40 ∧ o.t.size ≤ 80 := by
    constructor
    · exact Nat.le_of_not_lt fun h => hov (.inr ⟨0, by omega, .inl h⟩)
    · exact Nat.le_of_not_lt fun h => hov (.inr ⟨0, by omega, .inr h⟩)
  obtain ⟨hp, ht⟩ := hpt
  clear hw hr hi hg hov
  have k0 := early_any o
  obtain ⟨E, hE⟩ : ∃ E, 1 + o.e % 1000 = E := ⟨_, rfl⟩
  obtain ⟨C, hC⟩ : ∃ C, o.n % 1000 = C := ⟨_, rfl⟩
  rw [hE, hC] at k0
  have K0 := Lib.hid k0
  have hk1 : mayC E C := ⟨by omega, by omega, by omega⟩
  have c1 : C ≠ 281474976710656 := by omega
  clear hE hC k0
  go_upto_region 3 with fail
  refine St.region_tail (w0 := w1) (L := []) 3 (St.nil w1) (by kernel_rfl) (by decide +kernel) ?_
  (first
     | (apply head_skip rfl)
     | (apply head_step_g rfl
        focus
          intro w0 hC
          have hC' := Lib.hid hC
          obtain ⟨⟨r1, f1, i1, b1, l1⟩, ⟨r2, f2, i2, b2, l2⟩, m12, m21⟩ := St.facts2 ((HC.out.call hC.below).pick [0, 1] (by decide) rfl)
          clear hC
          go_simp
          have hC := hC'.out
          first
            | with_reducible rfl
            | (skip
               go_at_call 25
               refine (K0.out _).mono ?_
               rintro e w' ⟨rfl, hw⟩
               exact ⟨rfl, St.call hC hw⟩))
   try simp only [Act.put, List.setIfInBounds_toArray, List.set])
  (first
     | (apply head_skip rfl)
     | (apply head_step_g rfl
        focus
          intro w0 hC
          have hC' := Lib.hid hC
          obtain ⟨⟨r1, f1, i1, b1, l1⟩, ⟨r2, f2, i2, b2, l2⟩, m12, m21⟩ := St.facts2 ((HC.out.call hC.below).pick [0, 1] (by decide) rfl)
          clear hC
          go_simp
          have hC := hC'.out
          first
            | with_reducible rfl
            | (skip
               go_at_call 25
               refine (K0.out _).mono ?_
               rintro e w' ⟨rfl, hw⟩
               exact ⟨rfl, St.call hC hw⟩))
   try simp only [Act.put, List.setIfInBounds_toArray, List.set])
  (first
     | (apply head_skip rfl)
     | (apply head_step_g rfl
        focus
          intro w0 hC
          have hC' := Lib.hid hC
          obtain ⟨⟨r1, f1, i1, b1, l1⟩, ⟨r2, f2, i2, b2, l2⟩, m12, m21⟩ := St.facts2 ((HC.out.call hC.below).pick [0, 1] (by decide) rfl)
          clear hC
          go_simp
          have hC := hC'.out
          first
            | with_reducible rfl
            | (skip
               go_at_call 25
               refine (K0.out _).mono ?_
               rintro e w' ⟨rfl, hw⟩
               exact ⟨rfl, St.call hC hw⟩))
   try simp only [Act.put, List.setIfInBounds_toArray, List.set])
  refine wpQuiet_nil ?_
  intro w4 hC
  have HC := Lib.hid (HC.out.call hC.below)
  clear hC
  go_wp2_with fail
  have ko := opened_any 0 (.pointer none) (.pointer none) m 1 (by omega) (by omega) E C hk1 w4 w w4 _ (barMakes_real (.pointer none) w4 w _) HC.out.sk
  refine ko.mono ?_
  clear ko
  rintro e w5 ⟨gb, L1, rfl, hB⟩
  obtain ⟨F, hF⟩ : ∃ F, ringF m 1 = F := ⟨_, rfl⟩
  rw [hF] at hB
  obtain ⟨bb, hbb⟩ : ∃ b, (⟨true, 0, .pointer none, 1, F, E, C⟩ : Br) = b := ⟨_, rfl⟩
  rw [hbb] at hB
  have HC := Lib.hid (hB.toSt.perm (L' := (w.heap.size, opC o) :: (w.heap.size + 1, blk 16 m) :: (w.heap.size + 1 + 1, blk 2 nn) :: (gb, br bb) :: L1) (by
    refine List.Perm.trans ?_ (List.perm_append_comm (l₁ := (gb, br bb) :: L1) (l₂ := [(w.heap.size, opC o), (w.heap.size + 1, blk 16 m), (w.heap.size + 1 + 1, blk 2 nn)])).symm
    exact List.Perm.refl _))
  clear hB
  have KO := Lib.hid (fun W q mm (hC : St w ((q, #[.map (some mm)]) :: (w.heap.size, opC o) :: (w.heap.size + 1, blk 16 m) :: (w.heap.size + 1 + 1, blk 2 nn) :: (gb, br bb) :: L1) W) (hM : Mp encN W mm []) (h0 : w.heap.size ≤ mm) => opened_bar true (.pointer (some ⟨q, 0, none⟩)) m 1 (by omega) (by omega) E C hk1 w W q mm [] _ (fun _ => rfl) hC hM h0 (fun _ _ h => by cases h))
  rw [show ((kdOf true : Nat) : Int) = 1 from rfl, hF] at KO
  go_upto_region 4 with fail
  go_cut [8] from 35 to 39 (fun p wx => ∃ gc L2 q mm, p = .pointer (some ⟨gc, 0, none⟩) ∧ Hid (BarAt true w gc ⟨true, kdOf true, ntOf true q, 1, F, E, C⟩ q mm [] (L2 ++ (w.heap.size, opC o) :: (w.heap.size + 1, blk 16 m) :: (w.heap.size + 1 + 1, blk 2 nn) :: (gb, br bb) :: L1) wx))
  case first =>
    -- STUB
    obtain ⟨⟨r1, f1, i1, b1, l1⟩, ⟨r2, f2, i2, b2, l2⟩, m12, m21⟩ := St.facts2 (HC.out.pick [0, 1] (by decide) rfl)
    go_region_with (first
      | (go_at_call 26; refine (newNotes_any _ w _ _ HC.out.drew.sk).mono ?_; rintro e w6 ⟨q, mm, rfl, hs, hM, h0⟩; have HS := Lib.hid hs.toSt; have HM := Lib.hid hM; have H0 := Lib.hid h0; clear hs hM h0 r1 f1 i1 b1 l1 r2 f2 i2 b2 l2 m12 m21; obtain ⟨⟨r1, f1, i1, b1, l1⟩, ⟨r2, f2, i2, b2, l2⟩, m12, m21⟩ := St.facts2 (HS.out.pick [1, 2] (by decide) rfl))
      | (go_at_call 25; refine (K0.out _).mono ?_; rintro e w7 ⟨rfl, hw⟩; have HS := Lib.hid (HS.out.call hw); have HM := Lib.hid (HM.out.call _ hw); clear hw r1 f1 i1 b1 l1 r2 f2 i2 b2 l2 m12 m21; obtain ⟨⟨r1, f1, i1, b1, l1⟩, ⟨r2, f2, i2, b2, l2⟩, m12, m21⟩ := St.facts2 (HS.out.pick [1, 2] (by decide) rfl))
      | (go_at_call 24; refine (KO.out _ q mm HS.out HM.out H0.out).mono ?_; rintro e w8 ⟨gc, L2, rfl, hB, _⟩; have HB := Lib.hid hB; clear hB))
    all_goals
      go_wp2_with fail
      go_meet
      exact ⟨gc, L2, q, mm, rfl, HB⟩
    -- STUBEND
  case rest =>
    obtain ⟨gc, L2, q, mm, rfl, HB⟩ := hcut
    clear HC KO
    have HC := Lib.hid (HB.out.perm (L' := (w.heap.size, opC o) :: (w.heap.size + 1, blk 16 m) :: (w.heap.size + 1 + 1, blk 2 nn) :: (gb, br bb) :: (L1 ++ L2)) (List.perm_append_comm (l₁ := (w.heap.size, opC o) :: (w.heap.size + 1, blk 16 m) :: (w.heap.size + 1 + 1, blk 2 nn) :: (gb, br bb) :: L1) (l₂ := L2)))
    clear HB
    have x1 : bb.n = 1 := by rw [← hbb]
    have x2 : bb.f = F := by rw [← hbb]
    have x3 : bb.e = E := by rw [← hbb]
    have x4 : bb.c = C := by rw [← hbb]
    have x5 : bb.md = true := by rw [← hbb]
    have x6 : bb.kd = 0 := by rw [← hbb]
    have x7 : bb.nt = .pointer none := by rw [← hbb]
    obtain ⟨ba, hba⟩ : ∃ b, (⟨true, kdOf true, ntOf true q, 1, F, E, C⟩ : Br) = b := ⟨_, rfl⟩
    rw [hba] at HC
    have y1 : ba.n = 1 := by rw [← hba]
    have y2 : ba.f = F := by rw [← hba]
    have y3 : ba.e = E := by rw [← hba]
    have y4 : ba.c = C := by rw [← hba]
    have te0 : takeE ba = 0 := takeE_yes ba (by rw [y1]; omega) (by rw [y3, y4]; exact hk1) (by rw [y4]; exact c1)
    have tb0 : takeE bb = 0 := takeE_yes bb (by rw [x1]; omega) (by rw [x3, x4]; exact hk1) (by rw [x4]; exact c1)
    clear hba hbb
    -- real: Put
    have kp := put_real bb x5 x6 (by omega) tb0 o.p o.t (by omega) (by omega) gb wc w wc _ (HC.out.st.perm (L' := (gb, br bb) :: (gc, br ba) :: (q, #[.map (some mm)]) :: (w.heap.size, opC o) :: (w.heap.size + 1, blk 16 m) :: (w.heap.size + 1 + 1, blk 2 nn) :: (L1 ++ L2)) (perm_of21 fun _ _ c1 c2 c3 => by simp only [c1, c2]; omega)).sk
    have hS1 : putS false bb o.p o.t = headS bb.n (nonceS bb.e bb.c) ++ sealedT bb.n bb.f bb.e bb.c o.p o.t := by rw [putS_yes _ _ _ _ tb0]; unfold hideS; rw [if_neg (by decide)]
    rw [← hS1] at kp
    obtain ⟨S, hS⟩ : ∃ S, putS false bb o.p o.t = S := ⟨_, rfl⟩
    have hSz : S.size = o.t.size + 32 := by rw [← hS, putS_yes _ _ _ _ tb0, entry_size _ _ _ (nonceS_size _ _), hideS_size]; omega
    rw [hS] at kp
    have KP := Lib.hid kp
    have HS := Lib.hid hS
    clear kp hS1 hS
    (obtain ⟨⟨r1, f1, i1, b1, l1⟩, ⟨r2, f2, i2, b2, l2⟩, ⟨r3, f3, i3, b3, l3⟩, m12, m21, m13, m31, m23, m32⟩ := St.facts3 (HC.out.pick [0, 1, 2] (by decide) rfl))
    go_wp2_with fail
    (clear r1 f1 i1 b1 l1 r2 f2 i2 b2 l2 r3 f3 i3 b3 l3 m12 m21 m13 m31 m23 m32)
    refine KP.out.mono ?_
    rintro e w6 ⟨rfl, hB⟩
    clear KP
    obtain ⟨bd, hbd⟩ : ∃ b, ({ bb with c := bb.c + 1 } : Br) = b := ⟨_, rfl⟩
    rw [hbd] at hB
    have HC := Lib.hid (HC.out.to (hB.toSt.perm (L' := (gc, br ba) :: (q, #[.map (some mm)]) :: (w.heap.size, opC o) :: (w.heap.size + 1, blk 16 m) :: (w.heap.size + 1 + 1, blk 2 nn) :: (gb, br bd) :: (L1 ++ L2)) (perm_of21 fun _ _ c1 c2 c3 => by simp only [c1, c2]; omega)) hB.kept rfl rfl rfl HC.out.n6)
    have z1 : bd.n = 1 := by rw [← hbd]; exact x1
    have z2 : bd.f = F := by rw [← hbd]; exact x2
    have z5 : bd.md = true := by rw [← hbd]; exact x5
    have z6 : bd.kd = 0 := by rw [← hbd]; exact x6
    have z7 : bd.nt = .pointer none := by rw [← hbd]; exact x7
    clear hB hbd
    -- ideal: Put
    have kp := put_yes HC.out o.p o.t (by omega) (by omega) te0
    obtain ⟨T, hT⟩ : ∃ T, putS true ba o.p o.t = T := ⟨_, rfl⟩
    have hTz : T.size = o.t.size + 32 := by rw [← hT, putS_yes _ _ _ _ te0, entry_size _ _ _ (nonceS_size _ _), hideS_size]; omega
    obtain ⟨N1, hN1⟩ : ∃ N1, putM true ba o.p o.t [] = N1 := ⟨_, rfl⟩
    have HFI := Lib.hid (show findN (nonceS ba.e ba.c) N1 = some (o.p, o.t) by rw [← hN1]; unfold putM; rw [if_pos ⟨rfl, te0⟩, find_put, if_pos rfl])
    obtain ⟨be, hbe⟩ : ∃ b, ({ ba with c := ba.c + 1 } : Br) = b := ⟨_, rfl⟩
    have u1 : be.n = ba.n := by rw [← hbe]
    have u2 : be.f = ba.f := by rw [← hbe]
    rw [hT, hN1, hbe] at kp
    have KP := Lib.hid kp
    have HT := Lib.hid hT
    clear kp hT hN1 hbe
    (obtain ⟨⟨r1, f1, i1, b1, l1⟩, ⟨r2, f2, i2, b2, l2⟩, ⟨r3, f3, i3, b3, l3⟩, ⟨r4, f4, i4, b4, l4⟩, ⟨r5, f5, i5, b5, l5⟩, m12, m21, m13, m31, m14, m41, m15, m51, m23, m32, m24, m42, m25, m52, m34, m43, m35, m53, m45, m54⟩ := St.facts5 (HC.out.pick [0, 1, 2, 3, 4] (by decide) rfl))
    go_wp2_with fail
    (clear r1 f1 i1 b1 l1 r2 f2 i2 b2 l2 r3 f3 i3 b3 l3 r4 f4 i4 b4 l4 r5 f5 i5 b5 l5 m12 m21 m13 m31 m14 m41 m15 m51 m23 m32 m24 m42 m25 m52 m34 m43 m35 m53 m45 m54)
    refine KP.out.mono ?_
    rintro e w7 ⟨rfl, hB, _⟩
    have HC := Lib.hid hB
    clear KP hB
    have kr := fun w' (h : St w ((gb, br bd) :: (gc, br be) :: (q, #[.map (some mm)]) :: (w.heap.size, opC o) :: (w.heap.size + 1, blk 16 m) :: (w.heap.size + 1 + 1, blk 2 nn) :: (L1 ++ L2)) w') => ring_open bd z5 (by omega) gb w w' _ h
    rw [z1, z2] at kr
    have KR := Lib.hid kr
    have KK := Lib.hid (fun w => key_yes 1 F 1 0 rfl (by omega) (by omega) w)
    rw [show ((1 : Nat) : Int) = 1 from rfl] at KK
    clear kr
    go_wp2_with fail
    refine (KR.out _ (HC.out.st.perm (perm_of21 fun _ _ c1 c2 c3 => by simp only [c1, c2]; omega))).mono ?_; rintro e w8 ⟨rfl, hw⟩
    have HC := Lib.hid (HC.out.call hw)
    clear hw KR
    go_wp2_with fail
    refine (KK.out _).mono ?_; rintro e w9 ⟨rfl, hw⟩
    have HC := Lib.hid (HC.out.call hw)
    clear hw KK
    have d1 : ((S.size : Int) != (T.size : Int)) = false := by rw [bne_eq_false_iff_eq]; omega
    have d2 : decide ((S.size : Int) < 32) = false := decide_eq_false (by omega)
    go_upto_region 10 with fail
    obtain ⟨K, hK⟩ : ∃ K, keyB F 0 = K := ⟨_, rfl⟩
    rw [hK]
    have HC := Lib.hid ((HC.out.push (blk 16 K) 25).perm (L' := (w.heap.size, opC o) :: (w.heap.size + 1 + 1, blk 2 nn) :: (w9.heap.size, blk 16 K) :: (w.heap.size + 1, blk 16 m) :: (gb, br bd) :: (L1 ++ L2)) (perm_of21 fun _ _ c1 c2 c3 => by simp only [c1, c2]; omega))
    generalize w9.alloc (Obj.cells (blk 16 K) 25) = w10 at HC ⊢
    generalize w9.heap.size = gk at HC ⊢
    have hq1 : o.p.size + ByteArray.size ⟨#[120]⟩ ≤ 9223372036854775807 := by show o.p.size + 1 ≤ _; omega
    have hq2 : o.p.size + 1 ≤ 9223372036854775807 := by omega
    have hqz : (o.p ++ ⟨#[120]⟩).size = o.p.size + 1 := by rw [ByteArray.size_append]; rfl
    have KG := Lib.hid (get_bar true w _ gc be q mm N1 _ (o.p ++ ⟨#[120]⟩) T (by omega) (by omega) HC.out (⟨#[]⟩, 11) (by
      rw [u1, u2, ← HT.out]
      exact ideal_path ba o.p _ o.t _ te0 (by omega) HFI.out (fun h => by have := congrArg ByteArray.size h; omega)))
    obtain ⟨P2, hP2⟩ : ∃ P, o.p ++ ⟨#[120]⟩ = P := ⟨_, rfl⟩
    rw [hP2] at KG
    obtain ⟨⟨r1, f1, i1, b1, l1⟩, ⟨r2, f2, i2, b2, l2⟩, ⟨r3, f3, i3, b3, l3⟩, m12, m21, m13, m31, m23, m32⟩ := St.facts3 (HC.out.pick [2, 3, 4] (by decide) rfl)
    go_wp2_with fail
    (clear r1 f1 i1 b1 l1 r2 f2 i2 b2 l2 r3 f3 i3 b3 l3 m12 m21 m13 m31 m23 m32)
    refine KG.out.mono ?_; rintro e w11 ⟨rfl, hw⟩
    have HC := Lib.hid (HC.out.call hw)
    clear hw KG hP2 hq1 hq2 hqz
    obtain ⟨Kd, hKd⟩ : ∃ K, o.t.size + 16 = K := ⟨_, rfl⟩
    obtain ⟨r, hr⟩ : ∃ r, (nn 0).toNat % Kd = r := ⟨_, rfl⟩
    have hrK : r < Kd := by rw [← hr]; exact Nat.mod_lt _ (by omega)
    have s1 : (S.size : Int) - 16 = (Kd : Int) := by omega
    have s2 : IntKind.i64.wrap ((S.size : Int) - 16) = (Kd : Int) := by rw [IntWalk.i64_in _ (by omega)]; exact s1
    have s3 : ((Kd : Int) == 0) = false := beq_eq_false_iff_ne.2 (by omega)
    have s4 : (0 : Int) < (Kd : Int) := by omega
    have e1 : (B (nn 0)).tmod (Kd : Int) = (r : Int) := by
      rw [Int.tmod_eq_emod_of_nonneg (B_bd _).1, ← hr]; unfold B; omega
    have e1' : B (nn 0) % (Kd : Int) = (r : Int) := by rw [← hr]; unfold B; omega
    have e5 : IntKind.i64.wrap (B (nn 0)) = B (nn 0) := IntWalk.i64_in _ (by have := B_bd (nn 0); omega)
    have b0 := B_bd (nn 0)
    have b1' := B_bd (nn 1)
    obtain ⟨i, hi⟩ : ∃ i, 16 + r = i := ⟨_, rfl⟩
    have s10 : ¬ Kd = 0 := by omega
    have s8 : (Kd : Int) ≤ 1000 := by omega
    have s9 : (i : Int) ≤ 1000 := by omega
    have s11 : (r : Int) ≤ 1000 := by omega
    have s5 : (16 : Int) + (r : Int) = (i : Int) := by omega
    have s6 : IntKind.i64.wrap ((16 : Int) + (r : Int)) = (i : Int) := by rw [IntWalk.i64_in _ (by omega)]; exact s5
    have s7 : IntKind.i64.wrap (r : Int) = (r : Int) := IntWalk.i64_in _ (by omega)
    have HSz := Lib.hid hSz
    have HTz := Lib.hid hTz
    have HK := Lib.hid hKd
    have HI := Lib.hid (show 16 ≤ i ∧ i < o.t.size + 32 by omega)
    have sn : (S = ByteArray.empty) = False := by
      simp only [eq_iff_iff, iff_false]
      intro h; rw [h] at hSz; simp at hSz
    have tn : (T = ByteArray.empty) = False := by
      simp only [eq_iff_iff, iff_false]
      intro h; rw [h] at hTz; simp at hTz
    clear hSz hTz hKd hr hi d1 d2
    obtain ⟨⟨r1, f1, i1, b1, l1⟩, ⟨r2, f2, i2, b2, l2⟩, m12, m21⟩ := St.facts2 (HC.out.pick [2, 3] (by decide) rfl)
    go_upto_region 16 with fail
    (clear r1 f1 i1 b1 l1 r2 f2 i2 b2 l2 m12 m21)
    clear s1 s2 s3 s4 s5 s6 s7 e1 e1' s8 s10 s11
    go_upto_region 17 with fail
    have hcx := Lib.hid (capS_ge w11 S.size 5)
    generalize capS w11 S.size 5 = cx at hcx ⊢
    have hcy := Lib.hid (capS_ge (w11.alloc (Obj.cells (blk cx (ofText S)) 5 (cx, cx + 1))).drew T.size 5)
    generalize capS (w11.alloc (Obj.cells (blk cx (ofText S)) 5 (cx, cx + 1))).drew T.size 5 = cy at hcy ⊢
    have HC := Lib.hid (HC.out.to (((HC.out.st.pushM cx (ofText S) 5 (cx + 1)).pushMA cy (ofText T) 5 (cy + 1) (g := w11.heap.size + 1) (by simp)).perm (L' := (gc, br be) :: (q, #[.map (some mm)]) :: (w11.heap.size, blk cx (ofText S)) :: (w11.heap.size + 1, blk cy (ofText T)) :: (w.heap.size, opC o) :: (w.heap.size + 1 + 1, blk 2 nn) :: (gk, blk 16 K) :: (w.heap.size + 1, blk 16 m) :: (gb, br bd) :: (L1 ++ L2)) (perm_of21 fun _ _ c1 c2 c3 => by simp only [c1, c2]; omega)) (Mk.alloc (Mk.alloc (Mk.refl _) _) _) rfl rfl rfl HC.out.n6)
    generalize (w11.alloc (Obj.cells (blk cx (ofText S)) 5 (cx, cx + 1))).alloc (Obj.cells (blk cy (ofText T)) 5 (cy, cy + 1)) = w12 at HC ⊢
    have e2 : i < cx := by have := hcx.out; have := HSz.out; have := HI.out; omega
    have e3 : i < cy := by have := hcy.out; have := HTz.out; have := HI.out; omega
    have e4 : (i : Int) < (S.size : Int) := by have := HSz.out; have := HI.out; omega
    have e6 : (i : Int) < (T.size : Int) := by have := HTz.out; have := HI.out; omega
    have p1 := plB_1 (nn 1)
    have p2 := plB_2 (nn 1)
    have p3 := plB_3 (nn 1)
    have p4 := plB_4 (nn 1)
    have HC := Lib.hid (HC.out.call ((Below.refl w12.heap.size w12).drew.drew))
    generalize w12.drew.drew = w13 at HC ⊢
    generalize w11.heap.size = gx at HC ⊢
    refine St.region_tail (w0 := w13) (L := []) 10 (St.nil w13) (by kernel_rfl) (by decide +kernel) ?_
    (first
       | (apply head_skip rfl)
       | (apply head_step_g rfl
          focus
            intro w0 hC
            obtain ⟨⟨r1, f1, i1, b1, l1⟩, ⟨r2, f2, i2, b2, l2⟩, m12, m21⟩ := St.facts2 ((HC.out.call hC.below).pick [2, 5] (by decide) rfl)
            clear hC
            go_simp
            with_reducible rfl)
     try simp only [Act.put, List.setIfInBounds_toArray, List.set])
    (first
       | (apply head_skip rfl)
       | (apply head_step_g rfl
          focus
            intro w0 hC
            obtain ⟨⟨r1, f1, i1, b1, l1⟩, ⟨r2, f2, i2, b2, l2⟩, m12, m21⟩ := St.facts2 ((HC.out.call hC.below).pick [2, 5] (by decide) rfl)
            clear hC
            go_simp
            with_reducible rfl)
     try simp only [Act.put, List.setIfInBounds_toArray, List.set])
    (first
       | (apply head_skip rfl)
       | (apply head_step_g rfl
          focus
            intro w0 hC
            obtain ⟨⟨r1, f1, i1, b1, l1⟩, ⟨r2, f2, i2, b2, l2⟩, m12, m21⟩ := St.facts2 ((HC.out.call hC.below).pick [2, 5] (by decide) rfl)
            clear hC
            go_simp
            with_reducible rfl)
     try simp only [Act.put, List.setIfInBounds_toArray, List.set])
    (first
       | (apply head_skip rfl)
       | (apply head_step_g rfl
          focus
            intro w0 hC
            obtain ⟨⟨r1, f1, i1, b1, l1⟩, ⟨r2, f2, i2, b2, l2⟩, m12, m21⟩ := St.facts2 ((HC.out.call hC.below).pick [2, 5] (by decide) rfl)
            clear hC
            go_simp
            with_reducible rfl)
     try simp only [Act.put, List.setIfInBounds_toArray, List.set])
    (first
       | (apply head_skip rfl)
       | (apply head_step_g rfl
          focus
            intro w0 hC
            obtain ⟨⟨r1, f1, i1, b1, l1⟩, ⟨r2, f2, i2, b2, l2⟩, m12, m21⟩ := St.facts2 ((HC.out.call hC.below).pick [2, 5] (by decide) rfl)
            clear hC
            go_simp
            with_reducible rfl)
     try simp only [Act.put, List.setIfInBounds_toArray, List.set])
    (first
       | (apply head_skip rfl)
       | (apply head_step_g rfl
          focus
            intro w0 hC
            obtain ⟨⟨r1, f1, i1, b1, l1⟩, ⟨r2, f2, i2, b2, l2⟩, m12, m21⟩ := St.facts2 ((HC.out.call hC.below).pick [2, 5] (by decide) rfl)
            clear hC
            go_simp
            with_reducible rfl)
     try simp only [Act.put, List.setIfInBounds_toArray, List.set])
    (first
       | (apply head_skip rfl)
       | (apply head_step_g rfl
          focus
            intro w0 hC
            obtain ⟨⟨r1, f1, i1, b1, l1⟩, ⟨r2, f2, i2, b2, l2⟩, m12, m21⟩ := St.facts2 ((HC.out.call hC.below).pick [2, 5] (by decide) rfl)
            clear hC
            go_simp
            with_reducible rfl)
     try simp only [Act.put, List.setIfInBounds_toArray, List.set])
    (first
       | (apply head_skip rfl)
       | (apply head_step_g rfl
          focus
            intro w0 hC
            obtain ⟨⟨r1, f1, i1, b1, l1⟩, ⟨r2, f2, i2, b2, l2⟩, m12, m21⟩ := St.facts2 ((HC.out.call hC.below).pick [2, 5] (by decide) rfl)
            clear hC
            go_simp
            with_reducible rfl)
     try simp only [Act.put, List.setIfInBounds_toArray, List.set])
    (first
       | (apply head_skip rfl)
       | (apply head_step_g rfl
          focus
            intro w0 hC
            obtain ⟨⟨r1, f1, i1, b1, l1⟩, ⟨r2, f2, i2, b2, l2⟩, m12, m21⟩ := St.facts2 ((HC.out.call hC.below).pick [2, 5] (by decide) rfl)
            clear hC
            go_simp
            with_reducible rfl)
     try simp only [Act.put, List.setIfInBounds_toArray, List.set])
    (first
       | (apply head_skip rfl)
       | (apply head_step_g rfl
          focus
            intro w0 hC
            obtain ⟨⟨r1, f1, i1, b1, l1⟩, ⟨r2, f2, i2, b2, l2⟩, m12, m21⟩ := St.facts2 ((HC.out.call hC.below).pick [2, 5] (by decide) rfl)
            clear hC
            go_simp
            with_reducible rfl)
     try simp only [Act.put, List.setIfInBounds_toArray, List.set])
    refine wpQuiet_nil ?_
    intro w14 hC
    have HC := Lib.hid (HC.out.call hC.below)
    clear hC
    obtain ⟨r1, f1, i1, b1, l1⟩ := St.facts1 (HC.out.pick [2] (by decide) rfl)
    go_upto_region 18 with fail
    clear r1 f1 i1 b1 l1
    have HC := Lib.hid (HC.out.set (blk cx (upd (ofText S) i (ofText S i ^^^ plB (nn 1)))) (by rw [blk_size, blk_size]))
    generalize w14.setRow gx (blk cx (upd (ofText S) i (ofText S i ^^^ plB (nn 1)))) = w15 at HC ⊢
    refine St.region_tail (w0 := w15) (L := []) 10 (St.nil w15) (by kernel_rfl) (by decide +kernel) ?_
    (first
       | (apply head_skip rfl)
       | (apply head_step_g rfl
          focus
            intro w0 hC
            obtain ⟨⟨r1, f1, i1, b1, l1⟩, ⟨r2, f2, i2, b2, l2⟩, m12, m21⟩ := St.facts2 ((HC.out.call hC.below).pick [3, 5] (by decide) rfl)
            clear hC
            go_simp
            with_reducible rfl)
     try simp only [Act.put, List.setIfInBounds_toArray, List.set])
    (first
       | (apply head_skip rfl)
       | (apply head_step_g rfl
          focus
            intro w0 hC
            obtain ⟨⟨r1, f1, i1, b1, l1⟩, ⟨r2, f2, i2, b2, l2⟩, m12, m21⟩ := St.facts2 ((HC.out.call hC.below).pick [3, 5] (by decide) rfl)
            clear hC
            go_simp
            with_reducible rfl)
     try simp only [Act.put, List.setIfInBounds_toArray, List.set])
    (first
       | (apply head_skip rfl)
       | (apply head_step_g rfl
          focus
            intro w0 hC
            obtain ⟨⟨r1, f1, i1, b1, l1⟩, ⟨r2, f2, i2, b2, l2⟩, m12, m21⟩ := St.facts2 ((HC.out.call hC.below).pick [3, 5] (by decide) rfl)
            clear hC
            go_simp
            with_reducible rfl)
     try simp only [Act.put, List.setIfInBounds_toArray, List.set])
    (first
       | (apply head_skip rfl)
       | (apply head_step_g rfl
          focus
            intro w0 hC
            obtain ⟨⟨r1, f1, i1, b1, l1⟩, ⟨r2, f2, i2, b2, l2⟩, m12, m21⟩ := St.facts2 ((HC.out.call hC.below).pick [3, 5] (by decide) rfl)
            clear hC
            go_simp
            with_reducible rfl)
     try simp only [Act.put, List.setIfInBounds_toArray, List.set])
    (first
       | (apply head_skip rfl)
       | (apply head_step_g rfl
          focus
            intro w0 hC
            obtain ⟨⟨r1, f1, i1, b1, l1⟩, ⟨r2, f2, i2, b2, l2⟩, m12, m21⟩ := St.facts2 ((HC.out.call hC.below).pick [3, 5] (by decide) rfl)
            clear hC
            go_simp
            with_reducible rfl)
     try simp only [Act.put, List.setIfInBounds_toArray, List.set])
    (first
       | (apply head_skip rfl)
       | (apply head_step_g rfl
          focus
            intro w0 hC
            obtain ⟨⟨r1, f1, i1, b1, l1⟩, ⟨r2, f2, i2, b2, l2⟩, m12, m21⟩ := St.facts2 ((HC.out.call hC.below).pick [3, 5] (by decide) rfl)
            clear hC
            go_simp
            with_reducible rfl)
     try simp only [Act.put, List.setIfInBounds_toArray, List.set])
    (first
       | (apply head_skip rfl)
       | (apply head_step_g rfl
          focus
            intro w0 hC
            obtain ⟨⟨r1, f1, i1, b1, l1⟩, ⟨r2, f2, i2, b2, l2⟩, m12, m21⟩ := St.facts2 ((HC.out.call hC.below).pick [3, 5] (by decide) rfl)
            clear hC
            go_simp
            with_reducible rfl)
     try simp only [Act.put, List.setIfInBounds_toArray, List.set])
    (first
       | (apply head_skip rfl)
       | (apply head_step_g rfl
          focus
            intro w0 hC
            obtain ⟨⟨r1, f1, i1, b1, l1⟩, ⟨r2, f2, i2, b2, l2⟩, m12, m21⟩ := St.facts2 ((HC.out.call hC.below).pick [3, 5] (by decide) rfl)
            clear hC
            go_simp
            with_reducible rfl)
     try simp only [Act.put, List.setIfInBounds_toArray, List.set])
    (first
       | (apply head_skip rfl)
       | (apply head_step_g rfl
          focus
            intro w0 hC
            obtain ⟨⟨r1, f1, i1, b1, l1⟩, ⟨r2, f2, i2, b2, l2⟩, m12, m21⟩ := St.facts2 ((HC.out.call hC.below).pick [3, 5] (by decide) rfl)
            clear hC
            go_simp
            with_reducible rfl)
     try simp only [Act.put, List.setIfInBounds_toArray, List.set])
    (first
       | (apply head_skip rfl)
       | (apply head_step_g rfl
          focus
            intro w0 hC
            obtain ⟨⟨r1, f1, i1, b1, l1⟩, ⟨r2, f2, i2, b2, l2⟩, m12, m21⟩ := St.facts2 ((HC.out.call hC.below).pick [3, 5] (by decide) rfl)
            clear hC
            go_simp
            with_reducible rfl)
     try simp only [Act.put, List.setIfInBounds_toArray, List.set])
    refine wpQuiet_nil ?_
    intro w16 hC
    have HC := Lib.hid (HC.out.call hC.below)
    clear hC
    obtain ⟨r1, f1, i1, b1, l1⟩ := St.facts1 (HC.out.pick [3] (by decide) rfl)
    go_upto_region 19 with fail
    clear r1 f1 i1 b1 l1
    have HC := Lib.hid ((HC.out.perm (L' := (gx + 1, blk cy (ofText T)) :: (gx, blk cx (upd (ofText S) i (ofText S i ^^^ plB (nn 1)))) :: (w.heap.size, opC o) :: (w.heap.size + 1 + 1, blk 2 nn) :: (gk, blk 16 K) :: (w.heap.size + 1, blk 16 m) :: (gb, br bd) :: (L1 ++ L2)) (perm_of21 fun _ _ c1 c2 c3 => by simp only [c1, c2]; omega)).set (blk cy (upd (ofText T) i (ofText T i ^^^ plB (nn 1)))) (by rw [blk_size, blk_size]))
    generalize w16.setRow (gx + 1) (blk cy (upd (ofText T) i (ofText T i ^^^ plB (nn 1)))) = w17 at HC ⊢
    have hx1 : ofText S i ^^^ plB (nn 1) ≠ ofText S i := xor_plB _ _
    have hx2 : ofText T i ^^^ plB (nn 1) ≠ ofText T i := xor_plB _ _
    have HX := Lib.hid (fun (hh : same 16 (hashB (Ci.rounds K)) (fun _ => 0) = false) N => show getO false 1 F N o.p (strOf S.size (upd (ofText S) i (ofText S i ^^^ plB (nn 1)))) = (⟨#[]⟩, 11) by
      have h := real_tells bb o.p o.t N tb0 (by omega) (by omega) (by omega) (by rw [x1, x2, hK]; exact hh) i HI.out.1 HI.out.2 (ofText S i ^^^ plB (nn 1)) (by rw [HS.out]; exact hx1)
      rw [HS.out, x1, x2] at h
      rw [HSz.out]; exact h)
    have HP := Lib.hid (fun (hh : same 16 (hashB (Ci.rounds K)) (fun _ => 0) = false) N j y (hj : j < o.p.size) (hy : y ≠ ofText o.p j) => show getO false 1 F N (strOf o.p.size (upd (ofText o.p) j y)) S = (⟨#[]⟩, 11) by
      have h := real_path bb o.p o.t N tb0 (by omega) (by omega) (by omega) (by rw [x1, x2, hK]; exact hh) j hj y hy
      rw [HS.out, x1, x2] at h
      exact h)
    have KG := Lib.hid (get_bar true w _ gc be q mm N1 _ o.p (strOf T.size (upd (ofText T) i (ofText T i ^^^ plB (nn 1)))) (by omega) (by rw [strOf_size]; have := HTz.out; omega) HC.out (⟨#[]⟩, 11) (by
      rw [u1, u2]
      have h := ideal_tells ba o.p o.t (fun k => findN k N1) te0 (by omega) HFI.out i HI.out.1 HI.out.2 (ofText T i ^^^ plB (nn 1)) (by rw [HT.out]; exact hx2)
      rw [HT.out] at h
      rw [HTz.out]; exact h))
    generalize upd (ofText S) i (ofText S i ^^^ plB (nn 1)) = X at HC HX
    generalize upd (ofText T) i (ofText T i ^^^ plB (nn 1)) = Y at HC KG
    have HBF := Lib.hid (fun w' (h : BarAt true w gc be q mm N1 ((gx + 1, blk cy Y) :: (gx, blk cx X) :: (w.heap.size, opC o) :: (w.heap.size + 1 + 1, blk 2 nn) :: (gk, blk 16 K) :: (w.heap.size + 1, blk 16 m) :: (gb, br bd) :: (L1 ++ L2)) w') => (⟨h.st.perm (perm_of21 fun _ _ c1 c2 c3 => by simp only [c1, c2]; omega), h.mp, z5, z6, z7, by omega, h.m0, h.sz⟩ : BarAt false w gb bd q mm N1 ((gc, br be) :: (gx + 1, blk cy Y) :: (gx, blk cx X) :: (w.heap.size, opC o) :: (w.heap.size + 1 + 1, blk 2 nn) :: (gk, blk 16 K) :: (w.heap.size + 1, blk 16 m) :: (L1 ++ L2)) w'))
    have tcy : T.size ≤ cy := by have := hcy.out; omega
    have scx : S.size ≤ cx := by have := hcx.out; omega
    clear hx1 hx2 p1 p2 p3 p4 e2 e3 e4 e6 hcx hcy HFI
    obtain ⟨⟨r1, f1, i1, b1, l1⟩, ⟨r2, f2, i2, b2, l2⟩, m12, m21⟩ := St.facts2 (HC.out.pick [2, 4] (by decide) rfl)
    go_wp2_with fail
    (clear r1 f1 i1 b1 l1 r2 f2 i2 b2 l2 m12 m21)
    refine KG.out.mono ?_; rintro e w18 ⟨rfl, hw⟩
    have HC := Lib.hid (HC.out.call hw)
    clear hw KG
    obtain ⟨r1, f1, i1, b1, l1⟩ := St.facts1 (HC.out.pick [6] (by decide) rfl)
    go_wp2_with fail
    clear r1 f1 i1 b1 l1
    refine (hash_any _ _).mono ?_; rintro e w19 ⟨rfl, hw⟩
    have HC := Lib.hid (HC.out.call hw)
    clear hw
    obtain ⟨hh, hhh⟩ : ∃ b, same 16 (hashB (Ci.rounds K)) (fun _ => 0) = b := ⟨_, rfl⟩
    cases hh
    · have KB := Lib.hid (get_bar false w _ gb bd q mm N1 _ o.p (strOf S.size X) (by omega) (by rw [strOf_size]; have := HSz.out; omega) (HBF.out _ HC.out) (⟨#[]⟩, 11) (by rw [z1, z2]; exact HX.out hhh _))
      have HPP := Lib.hid (HP.out hhh)
      clear HX HP
      obtain ⟨⟨r1, f1, i1, b1, l1⟩, ⟨r2, f2, i2, b2, l2⟩, m12, m21⟩ := St.facts2 (HC.out.pick [3, 4] (by decide) rfl)
      go_wp2_with fail
      (clear r1 f1 i1 b1 l1 r2 f2 i2 b2 l2 m12 m21)
      refine KB.out.mono ?_; rintro e w20 ⟨rfl, hw⟩
      have HC := Lib.hid (HC.out.call hw)
      clear hw KB
      by_cases hpe : o.p = ⟨#[]⟩
      · have hb1 : (o.p.toList == ByteArray.toList ⟨#[]⟩) = true := (text_eq _ _).2 hpe
        obtain ⟨r1, f1, i1, b1, l1⟩ := St.facts1 (HC.out.pick [4] (by decide) rfl)
        go_wp2_with fail
        clear r1 f1 i1 b1 l1
        refine (awake21_any _).mono ?_; rintro e w21 ⟨rfl, hw⟩
        have HC := Lib.hid (HC.out.call hw)
        clear hw
        go_wp2_with fail
        go_ret
        exact ⟨rfl, HC.out.st.below⟩
      · have hb1 : (o.p.toList == ByteArray.toList ⟨#[]⟩) = false := text_ne hpe
        have hnil : (ByteArray.toList ⟨#[]⟩) = [] := by decide +kernel
        have hb3 : (o.p.toList == []) = false := by rw [← hnil]; exact text_ne hpe
        have hb4 : ¬ o.p.toList = [] := fun h => by rw [h] at hb3; cases hb3
        have hb2 : (o.p = ByteArray.empty) = False := by
          simp only [eq_iff_iff, iff_false]; exact hpe
        have hpos : 0 < o.p.size := by
          rcases Nat.eq_zero_or_pos o.p.size with h | h
          · exact absurd (ByteArray.ext (Array.eq_empty_of_size_eq_zero h)) hpe
          · exact h
        obtain ⟨r1, f1, i1, b1, l1⟩ := St.facts1 (HC.out.pick [4] (by decide) rfl)
        go_upto_region 30 with fail
        clear r1 f1 i1 b1 l1 hb1 hb3 hb4 hb2 hnil
        have hcp := Lib.hid (capS_ge w20 o.p.size 5)
        generalize capS w20 o.p.size 5 = cp at hcp ⊢
        have HC := Lib.hid (HC.out.to ((HC.out.st.pushM cp (ofText o.p) 5 (cp + 1)).perm (L' := (gc, br be) :: (q, #[.map (some mm)]) :: (w20.heap.size, blk cp (ofText o.p)) :: (w.heap.size, opC o) :: (w.heap.size + 1 + 1, blk 2 nn) :: (gx + 1, blk cy Y) :: (gx, blk cx X) :: (gk, blk 16 K) :: (w.heap.size + 1, blk 16 m) :: (gb, br bd) :: (L1 ++ L2)) (perm_of21 fun _ _ c1 c2 c3 => by simp only [c1, c2]; omega)) (Mk.alloc (Mk.refl _) _) rfl rfl rfl HC.out.n6)
        generalize w20.alloc (Obj.cells (blk cp (ofText o.p)) 5 (cp, cp + 1)) = w21 at HC ⊢
        generalize w20.heap.size = gp at HC ⊢
        have HC := Lib.hid (HC.out.call ((Below.refl w21.heap.size w21).drew))
        generalize w21.drew = w22 at HC ⊢
        obtain ⟨j, hj⟩ : ∃ j, (nn 0).toNat % o.p.size = j := ⟨_, rfl⟩
        have hjs : j < o.p.size := by rw [← hj]; exact Nat.mod_lt _ hpos
        have e1 : (B (nn 0)).tmod (o.p.size : Int) = (j : Int) := by
          rw [Int.tmod_eq_emod_of_nonneg (B_bd _).1, ← hj]; unfold B; omega
        have e1' : B (nn 0) % (o.p.size : Int) = (j : Int) := by rw [← hj]; unfold B; omega
        have e2 : IntKind.i64.wrap (j : Int) = (j : Int) := IntWalk.i64_in _ (by omega)
        have e3 : (j : Int) < (o.p.size : Int) := by omega
        have e4 : j < cp := by have := hcp.out; omega
        have e5' : IntKind.i64.wrap (B (nn 0)) = B (nn 0) := IntWalk.i64_in _ (by have := B_bd (nn 0); omega)
        have e6 : ((o.p.size : Int) = 0) = False := by simp only [eq_iff_iff, iff_false]; omega
        have e7 : ¬ o.p.size = 0 := by omega
        have p1 := plB_1 (nn 1)
        have p2 := plB_2 (nn 1)
        have p3 := plB_3 (nn 1)
        have p4 := plB_4 (nn 1)
        have pcp : o.p.size ≤ cp := hcp.out
        clear hj
        refine St.region_tail (w0 := w22) (L := []) 15 (St.nil w22) (by kernel_rfl) (by decide +kernel) ?_
        (first
           | (apply head_skip rfl)
           | (apply head_step_g rfl
              focus
                intro w0 hC
                obtain ⟨⟨r1, f1, i1, b1, l1⟩, ⟨r2, f2, i2, b2, l2⟩, m12, m21⟩ := St.facts2 ((HC.out.call hC.below).pick [2, 4] (by decide) rfl)
                clear hC
                go_simp
                with_reducible rfl)
         try simp only [Act.put, List.setIfInBounds_toArray, List.set])
        (first
           | (apply head_skip rfl)
           | (apply head_step_g rfl
              focus
                intro w0 hC
                obtain ⟨⟨r1, f1, i1, b1, l1⟩, ⟨r2, f2, i2, b2, l2⟩, m12, m21⟩ := St.facts2 ((HC.out.call hC.below).pick [2, 4] (by decide) rfl)
                clear hC
                go_simp
                with_reducible rfl)
         try simp only [Act.put, List.setIfInBounds_toArray, List.set])
        (first
           | (apply head_skip rfl)
           | (apply head_step_g rfl
              focus
                intro w0 hC
                obtain ⟨⟨r1, f1, i1, b1, l1⟩, ⟨r2, f2, i2, b2, l2⟩, m12, m21⟩ := St.facts2 ((HC.out.call hC.below).pick [2, 4] (by decide) rfl)
                clear hC
                go_simp
                with_reducible rfl)
         try simp only [Act.put, List.setIfInBounds_toArray, List.set])
        (first
           | (apply head_skip rfl)
           | (apply head_step_g rfl
              focus
                intro w0 hC
                obtain ⟨⟨r1, f1, i1, b1, l1⟩, ⟨r2, f2, i2, b2, l2⟩, m12, m21⟩ := St.facts2 ((HC.out.call hC.below).pick [2, 4] (by decide) rfl)
                clear hC
                go_simp
                with_reducible rfl)
         try simp only [Act.put, List.setIfInBounds_toArray, List.set])
        (first
           | (apply head_skip rfl)
           | (apply head_step_g rfl
              focus
                intro w0 hC
                obtain ⟨⟨r1, f1, i1, b1, l1⟩, ⟨r2, f2, i2, b2, l2⟩, m12, m21⟩ := St.facts2 ((HC.out.call hC.below).pick [2, 4] (by decide) rfl)
                clear hC
                go_simp
                with_reducible rfl)
         try simp only [Act.put, List.setIfInBounds_toArray, List.set])
        (first
           | (apply head_skip rfl)
           | (apply head_step_g rfl
              focus
                intro w0 hC
                obtain ⟨⟨r1, f1, i1, b1, l1⟩, ⟨r2, f2, i2, b2, l2⟩, m12, m21⟩ := St.facts2 ((HC.out.call hC.below).pick [2, 4] (by decide) rfl)
                clear hC
                go_simp
                with_reducible rfl)
         try simp only [Act.put, List.setIfInBounds_toArray, List.set])
        (first
           | (apply head_skip rfl)
           | (apply head_step_g rfl
              focus
                intro w0 hC
                obtain ⟨⟨r1, f1, i1, b1, l1⟩, ⟨r2, f2, i2, b2, l2⟩, m12, m21⟩ := St.facts2 ((HC.out.call hC.below).pick [2, 4] (by decide) rfl)
                clear hC
                go_simp
                with_reducible rfl)
         try simp only [Act.put, List.setIfInBounds_toArray, List.set])
        (first
           | (apply head_skip rfl)
           | (apply head_step_g rfl
              focus
                intro w0 hC
                obtain ⟨⟨r1, f1, i1, b1, l1⟩, ⟨r2, f2, i2, b2, l2⟩, m12, m21⟩ := St.facts2 ((HC.out.call hC.below).pick [2, 4] (by decide) rfl)
                clear hC
                go_simp
                with_reducible rfl)
         try simp only [Act.put, List.setIfInBounds_toArray, List.set])
        (first
           | (apply head_skip rfl)
           | (apply head_step_g rfl
              focus
                intro w0 hC
                obtain ⟨⟨r1, f1, i1, b1, l1⟩, ⟨r2, f2, i2, b2, l2⟩, m12, m21⟩ := St.facts2 ((HC.out.call hC.below).pick [2, 4] (by decide) rfl)
                clear hC
                go_simp
                with_reducible rfl)
         try simp only [Act.put, List.setIfInBounds_toArray, List.set])
        (first
           | (apply head_skip rfl)
           | (apply head_step_g rfl
              focus
                intro w0 hC
                obtain ⟨⟨r1, f1, i1, b1, l1⟩, ⟨r2, f2, i2, b2, l2⟩, m12, m21⟩ := St.facts2 ((HC.out.call hC.below).pick [2, 4] (by decide) rfl)
                clear hC
                go_simp
                with_reducible rfl)
         try simp only [Act.put, List.setIfInBounds_toArray, List.set])
        (first
           | (apply head_skip rfl)
           | (apply head_step_g rfl
              focus
                intro w0 hC
                obtain ⟨⟨r1, f1, i1, b1, l1⟩, ⟨r2, f2, i2, b2, l2⟩, m12, m21⟩ := St.facts2 ((HC.out.call hC.below).pick [2, 4] (by decide) rfl)
                clear hC
                go_simp
                with_reducible rfl)
         try simp only [Act.put, List.setIfInBounds_toArray, List.set])
        (first
           | (apply head_skip rfl)
           | (apply head_step_g rfl
              focus
                intro w0 hC
                obtain ⟨⟨r1, f1, i1, b1, l1⟩, ⟨r2, f2, i2, b2, l2⟩, m12, m21⟩ := St.facts2 ((HC.out.call hC.below).pick [2, 4] (by decide) rfl)
                clear hC
                go_simp
                with_reducible rfl)
         try simp only [Act.put, List.setIfInBounds_toArray, List.set])
        (first
           | (apply head_skip rfl)
           | (apply head_step_g rfl
              focus
                intro w0 hC
                obtain ⟨⟨r1, f1, i1, b1, l1⟩, ⟨r2, f2, i2, b2, l2⟩, m12, m21⟩ := St.facts2 ((HC.out.call hC.below).pick [2, 4] (by decide) rfl)
                clear hC
                go_simp
                with_reducible rfl)
         try simp only [Act.put, List.setIfInBounds_toArray, List.set])
        (first
           | (apply head_skip rfl)
           | (apply head_step_g rfl
              focus
                intro w0 hC
                obtain ⟨⟨r1, f1, i1, b1, l1⟩, ⟨r2, f2, i2, b2, l2⟩, m12, m21⟩ := St.facts2 ((HC.out.call hC.below).pick [2, 4] (by decide) rfl)
                clear hC
                go_simp
                with_reducible rfl)
         try simp only [Act.put, List.setIfInBounds_toArray, List.set])
        (first
           | (apply head_skip rfl)
           | (apply head_step_g rfl
              focus
                intro w0 hC
                obtain ⟨⟨r1, f1, i1, b1, l1⟩, ⟨r2, f2, i2, b2, l2⟩, m12, m21⟩ := St.facts2 ((HC.out.call hC.below).pick [2, 4] (by decide) rfl)
                clear hC
                go_simp
                with_reducible rfl)
         try simp only [Act.put, List.setIfInBounds_toArray, List.set])
        refine wpQuiet_nil ?_
        intro w23 hC
        have HC := Lib.hid (HC.out.call hC.below)
        clear hC
        obtain ⟨r1, f1, i1, b1, l1⟩ := St.facts1 (HC.out.pick [2] (by decide) rfl)
        go_upto_region 31 with fail
        clear r1 f1 i1 b1 l1
        have hy1 : ofText o.p j ^^^ plB (nn 1) ≠ ofText o.p j := xor_plB _ _
        have HC := Lib.hid (HC.out.set (blk cp (upd (ofText o.p) j (ofText o.p j ^^^ plB (nn 1)))) (by rw [blk_size, blk_size]))
        generalize w23.setRow gp (blk cp (upd (ofText o.p) j (ofText o.p j ^^^ plB (nn 1)))) = w24 at HC ⊢
        have hBF : BarAt false w gb bd q mm N1 ((gc, br be) :: (gp, blk cp (upd (ofText o.p) j (ofText o.p j ^^^ plB (nn 1)))) :: (w.heap.size, opC o) :: (w.heap.size + 1 + 1, blk 2 nn) :: (gx + 1, blk cy Y) :: (gx, blk cx X) :: (gk, blk 16 K) :: (w.heap.size + 1, blk 16 m) :: (L1 ++ L2)) w24 := ⟨HC.out.st.perm (perm_of21 fun _ _ c1 c2 c3 => by simp only [c1, c2]; omega), HC.out.mp, z5, z6, z7, by omega, HC.out.m0, HC.out.sz⟩
        have KB := Lib.hid (get_bar false w _ gb bd q mm N1 _ (strOf o.p.size (upd (ofText o.p) j (ofText o.p j ^^^ plB (nn 1)))) S (by rw [strOf_size]; omega) (by have := HSz.out; omega) hBF (⟨#[]⟩, 11) (by rw [z1, z2]; exact HPP.out _ j _ hjs hy1))
        clear hBF hy1 e1 e1' e2 e3 e4 e5' e6 e7 p1 p2 p3 p4
        generalize upd (ofText o.p) j (ofText o.p j ^^^ plB (nn 1)) = Z at HC KB
        obtain ⟨r1, f1, i1, b1, l1⟩ := St.facts1 (HC.out.pick [2] (by decide) rfl)
        go_wp2_with fail
        clear r1 f1 i1 b1 l1
        refine KB.out.mono ?_; rintro e w25 ⟨rfl, hw⟩
        have HC := Lib.hid (HC.out.call hw)
        clear hw KB
        go_wp2_with fail
        refine (awake21_any _).mono ?_; rintro e w26 ⟨rfl, hw⟩
        have HC := Lib.hid (HC.out.call hw)
        clear hw
        go_wp2_with fail
        go_ret
        exact ⟨rfl, HC.out.st.below⟩
    · go_wp2_with fail
      refine (awake21_any _).mono ?_; rintro e w21 ⟨rfl, hw⟩
      have HC := Lib.hid (HC.out.call hw)
      clear hw
      go_wp2_with fail
      go_ret
      exact ⟨rfl, HC.out.st.below⟩
end Go.Proofs.Ytgaecjhghpkcoaa
