/- BarrierBack returns true. -/
import Derived.Test.YtgaecjhghpkcoaaGreatMBa
import Derived.Test.YtgaecjhghpkcoaaGreatMBar2
import Derived.Test.YtgaecjhghpkcoaaGreatMRegion
namespace Go.Proofs.YtgaecjhghpkcoaaGreat
open Go.RowKit
attribute [local go_sem] B_xor B_or B_and
attribute [local go_sem] blk_set blk_size blk_get blk_getE upd_same oneCells_blk paste_blk cut_blk szOf
attribute [local go_sem high] paste_all cut_head
attribute [local go_sem] rowAt_alloc rowAt_drew rowAt_drewN isRow_alloc isRow_drew isRow_drewN freeRow_alloc freeRow_end freeRow_drew freeRow_drewN
attribute [local go_sem] setRow_alloc setRow_drew setRow_drewN setCell_drewN alloc_drewN rowAt_put isRow_setRow freeRow_put
attribute [local go_sem ↓] loadS_in storeS_in indexS_in copyS_in
attribute [local go_sem] loadS_row loadS_one storeS_row storeS_one indexS_blk copyS_rows run_equalIn_blk same_refl arrayAt_row
attribute [local go_sem] cell_row frozen_row st_setCell st_blk_ne stepAt stepUpon
attribute [local go_sem high] run_eql_blk run_neq_blk
attribute [local go_sem ↓] convBS_in
attribute [local go_sem] convBS_row convBS_nil allBytes_blk bytesOf_blk
attribute [local go_sem] rg_size rg_get0 rg_getE0 rg_ne rg_set0 rg_one rg_cut rg_key rg_put rg_paste part_rg0 part_rg1
attribute [local go_sem] size_cn agg_cn cn_size cn_get0 cn_get1 cn_getE0 cn_getE1 cn_set0 cn_set1 cn_ne cn_one cn_cut cn_paste
attribute [local go_sem] size_op agg_op opC_size opC_get0 opC_get1 opC_get2 opC_get3 opC_get4 opC_get5 opC_getE0 opC_getE1 opC_getE2 opC_getE3 opC_getE4 opC_getE5 opC_ne opC_one opC_cut opC_count

theorem op_lay (o : OpR) : Array.foldl (fun (cs : Array Value) (x : Value × Nat) => cs.setIfInBounds x.snd x.fst) #[Value.int IntKind.u8 0, .string ⟨#[]⟩, .string ⟨#[]⟩, .int .u8 0, .int .u64 0, .int .u64 0] (opC o).zipIdx 0 6 = opC o := by
  have e : (opC o).zipIdx = [((.int .u8 (B o.k) : Value), 0), (.string o.p, 1), (.string o.t, 2), (.int .u8 (B o.m), 3), (.int .u64 (o.e : Int), 4), (.int .u64 (o.n : Int), 5)].toArray := rfl
  rw [e, List.foldl_toArray' _ _ _ (by simp)]
  rfl
attribute [local go_sem] op_lay
theorem ops_one {w : World} {g : Nat} {o : OpR} {c : Nat} (hr : rowAt w g = opC o) (hi : isRow w g = true) (hg : g < w.heap.size) : OpsAt w (.slice (some ⟨g, 0, none⟩) 1 c) 1 fun _ => o := by
  refine ⟨_, c, rfl, fun i hi' => ?_⟩
  obtain rfl : i = 0 := by omega
  refine ⟨_, rfl, hg, rfl, fun j hj => ?_⟩
  show w.cell? ⟨g, 0 + j, none⟩ = _
  rw [Nat.zero_add, cell_row g j hi, hr]
set_option maxRecDepth 100000 in
set_option maxHeartbeats 8000000 in
theorem barrierBack_walk (o : OpR) (m : Nat → UInt8) (ideal : Bool) (w : World) : Calls Tryz.prog 4 #[.agg (opC o), .agg (blk 16 m), .bool ideal] w fun e w' => e = .returned (.bool true) ∧ Below w.heap.size w w' := by
  have hz := zero16
  have hz2 := zero97
  have HC := Lib.hid (((St.nil w).pushA (opC o) 40 rfl).pushA (blk 16 m) 22 (g := w.heap.size + 1) (by simp))
  go_enter Tryz.func4, Tryz.ntmps4
  (obtain ⟨⟨r1, f1, i1, b1, l1⟩, ⟨r2, f2, i2, b2, l2⟩, m12, m21⟩ := St.facts2 (HC.out.pick [0, 1] (by decide) rfl))
  go_wp2_with fail
  (clear r1 f1 i1 b1 l1 r2 f2 i2 b2 l2 m12 m21)
  have HC := Lib.hid (HC.out.pushA (opC o) 40 (g := w.heap.size + 1 + 1) (by simp))
  obtain ⟨hr, hi, hg⟩ : rowAt _ (w.heap.size + 1 + 1) = opC o ∧ isRow _ (w.heap.size + 1 + 1) = true ∧ _ := ⟨(HC.out.at (.head _)).1, (HC.out.at (.head _)).2.2.1, (HC.out.at (.head _)).2.2.2.2⟩
  by_cases hov : overP 1 fun _ => o
  · refine (over21_any _ 1 (fun _ => o) true ⟨fun _ => hov, fun _ => rfl⟩ _ (ops_one hr hi hg)).mono ?_; rintro e w1 ⟨rfl, hw⟩
    have HC := Lib.hid (HC.out.call hw)
    clear hw hr hi hg
    go_wp2_with fail
    refine (awake21_any _).mono ?_; rintro e w2 ⟨rfl, hw⟩
    have HC := Lib.hid (HC.out.call hw)
    clear hw
    go_wp2_with fail
    go_ret
    exact ⟨rfl, HC.out.below⟩
  · refine (over21_any _ 1 (fun _ => o) false ⟨fun h => Bool.noConfusion h, fun h => (hov h).elim⟩ _ (ops_one hr hi hg)).mono ?_; rintro e w1 ⟨rfl, hw⟩
    have HC := Lib.hid (HC.out.call hw).tail
    have hpt : o.p.size ≤ 40 ∧ o.t.size ≤ 80 := by
      constructor
      · exact Nat.le_of_not_lt fun h => hov (.inr ⟨0, by omega, .inl h⟩)
      · exact Nat.le_of_not_lt fun h => hov (.inr ⟨0, by omega, .inr h⟩)
    obtain ⟨hp, ht⟩ := hpt
    clear hw hr hi hg hov
    go_wp2_with fail
    refine (newNotes_any w1 w _ _ HC.out.sk).mono ?_; rintro e w2 ⟨q, mm, rfl, hs, hM, h0⟩
    have HC := Lib.hid hs.toSt
    have HM := Lib.hid hM
    have H0 := Lib.hid h0
    clear hs hM h0
    obtain ⟨R, hR⟩ : ∃ R, o.m.toNat % 5 = R := ⟨_, rfl⟩
    have hR5 : R < 5 := by omega
    have v1 : (B o.m).tmod 5 = (R : Int) := by
      rw [← hR]; unfold B
      rw [Int.tmod_eq_emod_of_nonneg (by omega)]; rfl
    have v2 : IntKind.i64.wrap (R : Int) = (R : Int) := IntWalk.i64_in _ (by omega)
    obtain ⟨T, hT⟩ : ∃ T, 1 + R = T := ⟨_, rfl⟩
    have v3 : IntKind.i64.wrap (1 + (R : Int)) = (T : Int) := by rw [IntWalk.i64_in _ (by omega)]; omega
    have v4 : IntKind.i64.wrap ((T : Int) + 1) = ((T + 1 : Nat) : Int) := by rw [IntWalk.i64_in _ (by omega)]; omega
    have t1 : 1 ≤ T := by omega
    have t5 : T ≤ 5 := by omega
    have k0 := early_any o
    obtain ⟨E, hE⟩ : ∃ E, 1 + o.e % 1000 = E := ⟨_, rfl⟩
    obtain ⟨C, hC⟩ : ∃ C, o.n % 1000 = C := ⟨_, rfl⟩
    rw [hE, hC] at k0
    have K0 := Lib.hid k0
    have hk1 : mayC E C := ⟨by omega, by omega, by omega⟩
    have hk2 : mayC E (C + 1) := ⟨by omega, by omega, by omega⟩
    have c1 : C ≠ 281474976710656 := by omega
    have c2 : C + 1 ≠ 281474976710656 := by omega
    have hk3 : mayC 1001 0 := ⟨by omega, by omega, by omega⟩
    clear hR hE hC k0 hT hR5
    cases ideal
    · obtain ⟨id, hid⟩ : ∃ i : Bool, i = false := ⟨_, rfl⟩
      have hkd : ((kdOf id : Nat) : Int) = 0 := by rw [hid]; rfl
      clear hid
      (obtain ⟨⟨r1, f1, i1, b1, l1⟩, ⟨r2, f2, i2, b2, l2⟩, ⟨r3, f3, i3, b3, l3⟩, m12, m21, m13, m31, m23, m32⟩ := St.facts3 (HC.out.pick [0, 1, 2] (by decide) rfl))
      go_wp2_with fail
      ((clear r1 f1 i1 b1 l1 r2 f2 i2 b2 l2 r3 f3 i3 b3 l3 m12 m21 m13 m31 m23 m32)
       refine St.region_store1_last (w0 := w2) (L := []) 6 9 36 (blk 16 fun _ => 0) (blk 16 m) (.agg (blk 16 m)) 41 (St.nil w2) (by kernel_rfl) (by decide +kernel) (by decide +kernel) _ _ rfl rfl (fun w a => by simp [go_sem, ptrTo, hz]) (stores_whole 41 _ _ (by rw [blk_size, blk_size]) (fun w => by simp [go_sem]) (oneCells_blk _ _) rfl) (by rw [blk_size, blk_size]) (by simp) ?_
       (simp only [List.take])
       (apply walkB_step
        focus
          intro w0 hC
          obtain ⟨⟨r1, f1, i1, b1, l1⟩, ⟨r2, f2, i2, b2, l2⟩, ⟨r3, f3, i3, b3, l3⟩, m12, m21, m13, m31, m23, m32⟩ := St.facts3 ((HC.out.call hC.below).pick [0, 1, 2] (by decide) rfl)
          clear hC
          go_simp
          with_reducible rfl
        try simp only [Act.put, List.setIfInBounds_toArray, List.set])
       (apply walkB_step
        focus
          intro w0 hC
          obtain ⟨⟨r1, f1, i1, b1, l1⟩, ⟨r2, f2, i2, b2, l2⟩, ⟨r3, f3, i3, b3, l3⟩, m12, m21, m13, m31, m23, m32⟩ := St.facts3 ((HC.out.call hC.below).pick [0, 1, 2] (by decide) rfl)
          clear hC
          go_simp
          with_reducible rfl
        try simp only [Act.put, List.setIfInBounds_toArray, List.set])
       (apply walkB_step
        focus
          intro w0 hC
          obtain ⟨⟨r1, f1, i1, b1, l1⟩, ⟨r2, f2, i2, b2, l2⟩, ⟨r3, f3, i3, b3, l3⟩, m12, m21, m13, m31, m23, m32⟩ := St.facts3 ((HC.out.call hC.below).pick [0, 1, 2] (by decide) rfl)
          clear hC
          go_simp
          with_reducible rfl
        try simp only [Act.put, List.setIfInBounds_toArray, List.set])
       (apply walkB_step
        focus
          intro w0 hC
          obtain ⟨⟨r1, f1, i1, b1, l1⟩, ⟨r2, f2, i2, b2, l2⟩, ⟨r3, f3, i3, b3, l3⟩, m12, m21, m13, m31, m23, m32⟩ := St.facts3 ((HC.out.call hC.below).pick [0, 1, 2] (by decide) rfl)
          clear hC
          go_simp
          with_reducible rfl
        try simp only [Act.put, List.setIfInBounds_toArray, List.set])
       (apply walkB_step
        focus
          intro w0 hC
          obtain ⟨⟨r1, f1, i1, b1, l1⟩, ⟨r2, f2, i2, b2, l2⟩, ⟨r3, f3, i3, b3, l3⟩, m12, m21, m13, m31, m23, m32⟩ := St.facts3 ((HC.out.call hC.below).pick [0, 1, 2] (by decide) rfl)
          clear hC
          go_simp
          with_reducible rfl
        try simp only [Act.put, List.setIfInBounds_toArray, List.set])
       (apply walkB_step
        focus
          intro w0 hC
          obtain ⟨⟨r1, f1, i1, b1, l1⟩, ⟨r2, f2, i2, b2, l2⟩, ⟨r3, f3, i3, b3, l3⟩, m12, m21, m13, m31, m23, m32⟩ := St.facts3 ((HC.out.call hC.below).pick [0, 1, 2] (by decide) rfl)
          clear hC
          go_simp
          with_reducible rfl
        try simp only [Act.put, List.setIfInBounds_toArray, List.set])
       refine walkB_nil ⟨rfl, ?_⟩
       intro w3 g3 hC
       unfold ptrTo
       have HM := Lib.hid (HM.out.call _ hC.below)
       have HC := Lib.hid (HC.out.join hC)
       clear hC
       go_wp2_with fail
       refine St.region_tail (w0 := w3) (L := []) 6 (St.nil w3) (by kernel_rfl) (by decide +kernel) ?_
       (first
          | (apply head_skip rfl)
          | (apply head_step_g rfl
             focus
               intro w0 hC
               have hC' := Lib.hid hC
               obtain ⟨⟨r1, f1, i1, b1, l1⟩, ⟨r2, f2, i2, b2, l2⟩, ⟨r3, f3, i3, b3, l3⟩, ⟨r4, f4, i4, b4, l4⟩, m12, m21, m13, m31, m14, m41, m23, m32, m24, m42, m34, m43⟩ := St.facts4 ((HC.out.call hC.below).pick [0, 1, 2, 3] (by decide) rfl)
               clear hC
               go_simp
               have hC := hC'.out
               first
                 | with_reducible rfl
                 | (skip
                    go_at_call 27
                    refine (K0.out _).mono ?_
                    rintro e w' ⟨rfl, hw⟩
                    exact ⟨rfl, St.call hC hw⟩))
        try simp only [Act.put, List.setIfInBounds_toArray, List.set])
       (first
          | (apply head_skip rfl)
          | (apply head_step_g rfl
             focus
               intro w0 hC
               have hC' := Lib.hid hC
               obtain ⟨⟨r1, f1, i1, b1, l1⟩, ⟨r2, f2, i2, b2, l2⟩, ⟨r3, f3, i3, b3, l3⟩, ⟨r4, f4, i4, b4, l4⟩, m12, m21, m13, m31, m14, m41, m23, m32, m24, m42, m34, m43⟩ := St.facts4 ((HC.out.call hC.below).pick [0, 1, 2, 3] (by decide) rfl)
               clear hC
               go_simp
               have hC := hC'.out
               first
                 | with_reducible rfl
                 | (skip
                    go_at_call 27
                    refine (K0.out _).mono ?_
                    rintro e w' ⟨rfl, hw⟩
                    exact ⟨rfl, St.call hC hw⟩))
        try simp only [Act.put, List.setIfInBounds_toArray, List.set])
       (first
          | (apply head_skip rfl)
          | (apply head_step_g rfl
             focus
               intro w0 hC
               have hC' := Lib.hid hC
               obtain ⟨⟨r1, f1, i1, b1, l1⟩, ⟨r2, f2, i2, b2, l2⟩, ⟨r3, f3, i3, b3, l3⟩, ⟨r4, f4, i4, b4, l4⟩, m12, m21, m13, m31, m14, m41, m23, m32, m24, m42, m34, m43⟩ := St.facts4 ((HC.out.call hC.below).pick [0, 1, 2, 3] (by decide) rfl)
               clear hC
               go_simp
               have hC := hC'.out
               first
                 | with_reducible rfl
                 | (skip
                    go_at_call 27
                    refine (K0.out _).mono ?_
                    rintro e w' ⟨rfl, hw⟩
                    exact ⟨rfl, St.call hC hw⟩))
        try simp only [Act.put, List.setIfInBounds_toArray, List.set])
       (first
          | (apply head_skip rfl)
          | (apply head_step_g rfl
             focus
               intro w0 hC
               have hC' := Lib.hid hC
               obtain ⟨⟨r1, f1, i1, b1, l1⟩, ⟨r2, f2, i2, b2, l2⟩, ⟨r3, f3, i3, b3, l3⟩, ⟨r4, f4, i4, b4, l4⟩, m12, m21, m13, m31, m14, m41, m23, m32, m24, m42, m34, m43⟩ := St.facts4 ((HC.out.call hC.below).pick [0, 1, 2, 3] (by decide) rfl)
               clear hC
               go_simp
               have hC := hC'.out
               first
                 | with_reducible rfl
                 | (skip
                    go_at_call 27
                    refine (K0.out _).mono ?_
                    rintro e w' ⟨rfl, hw⟩
                    exact ⟨rfl, St.call hC hw⟩))
        try simp only [Act.put, List.setIfInBounds_toArray, List.set])
       (first
          | (apply head_skip rfl)
          | (apply head_step_g rfl
             focus
               intro w0 hC
               have hC' := Lib.hid hC
               obtain ⟨⟨r1, f1, i1, b1, l1⟩, ⟨r2, f2, i2, b2, l2⟩, ⟨r3, f3, i3, b3, l3⟩, ⟨r4, f4, i4, b4, l4⟩, m12, m21, m13, m31, m14, m41, m23, m32, m24, m42, m34, m43⟩ := St.facts4 ((HC.out.call hC.below).pick [0, 1, 2, 3] (by decide) rfl)
               clear hC
               go_simp
               have hC := hC'.out
               first
                 | with_reducible rfl
                 | (skip
                    go_at_call 27
                    refine (K0.out _).mono ?_
                    rintro e w' ⟨rfl, hw⟩
                    exact ⟨rfl, St.call hC hw⟩))
        try simp only [Act.put, List.setIfInBounds_toArray, List.set])
       (first
          | (apply head_skip rfl)
          | (apply head_step_g rfl
             focus
               intro w0 hC
               have hC' := Lib.hid hC
               obtain ⟨⟨r1, f1, i1, b1, l1⟩, ⟨r2, f2, i2, b2, l2⟩, ⟨r3, f3, i3, b3, l3⟩, ⟨r4, f4, i4, b4, l4⟩, m12, m21, m13, m31, m14, m41, m23, m32, m24, m42, m34, m43⟩ := St.facts4 ((HC.out.call hC.below).pick [0, 1, 2, 3] (by decide) rfl)
               clear hC
               go_simp
               have hC := hC'.out
               first
                 | with_reducible rfl
                 | (skip
                    go_at_call 27
                    refine (K0.out _).mono ?_
                    rintro e w' ⟨rfl, hw⟩
                    exact ⟨rfl, St.call hC hw⟩))
        try simp only [Act.put, List.setIfInBounds_toArray, List.set])
       refine wpQuiet_nil ?_
       intro w4 hC
       have HM := Lib.hid (HM.out.call _ hC.below)
       have HC := Lib.hid ((HC.out.call hC.below).perm (List.perm_middle (l₁ := [_]) (l₂ := [_, _])))
       clear hC
       go_wp2_with fail)
      (have ko := opened_bar id (.pointer (some ⟨q, 0, none⟩)) m T t1 (by omega) E C hk1 w _ q mm [] _ (fun _ => rfl) HC.out HM.out H0.out (fun _ _ h => by cases h)
       rw [hkd] at ko
       refine ko.mono ?_
       clear ko
       rintro e w5 ⟨g, L', rfl, hB, _⟩
       have HC := Lib.hid (hB.perm (L' := (g3, blk 16 m) :: (w.heap.size + 1, blk 16 m) :: (w.heap.size, opC o) :: L') (List.perm_append_comm (l₁ := [_, _, _]) (l₂ := L')))
       clear hB HM
       obtain ⟨F, hF⟩ : ∃ F, ringF m T = F := ⟨_, rfl⟩
       rw [hF] at HC
       obtain ⟨ba, hba⟩ : ∃ b, (⟨true, kdOf id, ntOf id q, T, F, E, C⟩ : Br) = b := ⟨_, rfl⟩
       rw [hba] at HC
       have x1 : ba.n = T := by rw [← hba]
       have x2 : ba.f = F := by rw [← hba]
       have x3 : ba.e = E := by rw [← hba]
       have x4 : ba.c = C := by rw [← hba]
       have te0 : takeE ba = 0 := takeE_yes ba (by rw [x1]; omega) (by rw [x3, x4]; exact hk1) (by rw [x4]; exact c1)
       have kp := put_yes HC.out o.p o.t (by omega) (by omega) te0
       obtain ⟨S, hS⟩ : ∃ S, putS id ba o.p o.t = S := ⟨_, rfl⟩
       have hSz : S.size = o.t.size + 32 := by rw [← hS, putS_yes _ _ _ _ te0, entry_size _ _ _ (nonceS_size _ _), hideS_size]; omega
       obtain ⟨N1, hN1⟩ : ∃ N1, putM id ba o.p o.t [] = N1 := ⟨_, rfl⟩
       have HFI := Lib.hid (show id = true → findN (nonceS ba.e ba.c) N1 = some (o.p, o.t) from fun h => by rw [← hN1]; unfold putM; rw [if_pos ⟨h, te0⟩, find_put, if_pos rfl])
       have GP := Lib.hid (fun n f M => get_put id ba o.p o.t n f M te0)
       obtain ⟨bb, hbb⟩ : ∃ b, ({ ba with c := ba.c + 1 } : Br) = b := ⟨_, rfl⟩
       have y1 : bb.n = T := by rw [← hbb]; exact x1
       have y2 : bb.f = F := by rw [← hbb]; exact x2
       have y3 : bb.e = E := by rw [← hbb]; exact x3
       have y4 : bb.c = C + 1 := by rw [← hbb]; exact congrArg (· + 1) x4
       rw [hS, x1, x2] at GP
       rw [hS, hN1, hbb] at kp
       have KP := Lib.hid kp
       clear hF hba hS hN1 te0 kp hbb x1 x2 x3 x4
       (obtain ⟨⟨r1, f1, i1, b1, l1⟩, ⟨r2, f2, i2, b2, l2⟩, ⟨r3, f3, i3, b3, l3⟩, ⟨r4, f4, i4, b4, l4⟩, ⟨r5, f5, i5, b5, l5⟩, m12, m21, m13, m31, m14, m41, m15, m51, m23, m32, m24, m42, m25, m52, m34, m43, m35, m53, m45, m54⟩ := St.facts5 (HC.out.pick [0, 1, 2, 3, 4] (by decide) rfl))
       go_wp2_with fail
       refine KP.out.mono ?_
       rintro e w6 ⟨rfl, hB, _⟩
       have HC := Lib.hid hB
       clear KP hB
       (clear r1 f1 i1 b1 l1 r2 f2 i2 b2 l2 r3 f3 i3 b3 l3 r4 f4 i4 b4 l4 r5 f5 i5 b5 l5 m12 m21 m13 m31 m14 m41 m15 m51 m23 m32 m24 m42 m25 m52 m34 m43 m35 m53 m45 m54)
       (obtain ⟨⟨r1, f1, i1, b1, l1⟩, ⟨r2, f2, i2, b2, l2⟩, ⟨r3, f3, i3, b3, l3⟩, ⟨r4, f4, i4, b4, l4⟩, ⟨r5, f5, i5, b5, l5⟩, m12, m21, m13, m31, m14, m41, m15, m51, m23, m32, m24, m42, m25, m52, m34, m43, m35, m53, m45, m54⟩ := St.facts5 (HC.out.pick [0, 1, 2, 3, 4] (by decide) rfl))
       have hs1 : (o.t.toList == o.t.toList) = true := text_same _
       have hs2 : ((S.size : Int) != (o.t.size : Int) + 32) = false := by rw [bne_eq_false_iff_eq]; omega
       have nt : (o.t.size : Int) ≤ 80 := by omega
       have Y := Lib.hid (And.intro y1 (And.intro y2 (And.intro y3 y4)))
       have HZ := Lib.hid hSz
       clear y1 y2 y3 y4 hSz
       have kg := Lib.hid (fun w' (h : BarAt id w g bb q mm N1 ((g3, blk 16 m) :: (w.heap.size + 1, blk 16 m) :: (w.heap.size, opC o) :: L') w') => get_bar id w w' g bb q mm N1 _ o.p S (by omega) (by have := HZ.out; omega) h (o.t, 0) (by rw [Y.out.1, Y.out.2.1]; exact GP.out T F _ (by omega) (Nat.le_refl _) (Ci.EqB.refl _) HFI.out))
       go_wp2_with fail
       (clear r1 f1 i1 b1 l1 r2 f2 i2 b2 l2 r3 f3 i3 b3 l3 r4 f4 i4 b4 l4 r5 f5 i5 b5 l5 m12 m21 m13 m31 m14 m41 m15 m51 m23 m32 m24 m42 m25 m52 m34 m43 m35 m53 m45 m54)
       refine (kg.out _ HC.out).mono ?_; rintro e w7 ⟨rfl, hw⟩
       have HC := Lib.hid (HC.out.call hw)
       clear hw
       (obtain ⟨⟨r1, f1, i1, b1, l1⟩, ⟨r2, f2, i2, b2, l2⟩, ⟨r3, f3, i3, b3, l3⟩, ⟨r4, f4, i4, b4, l4⟩, ⟨r5, f5, i5, b5, l5⟩, m12, m21, m13, m31, m14, m41, m15, m51, m23, m32, m24, m42, m25, m52, m34, m43, m35, m53, m45, m54⟩ := St.facts5 (HC.out.pick [0, 1, 2, 3, 4] (by decide) rfl))
       go_wp2_with fail
       clear kg
       (clear r1 f1 i1 b1 l1 r2 f2 i2 b2 l2 r3 f3 i3 b3 l3 r4 f4 i4 b4 l4 r5 f5 i5 b5 l5 m12 m21 m13 m31 m14 m41 m15 m51 m23 m32 m24 m42 m25 m52 m34 m43 m35 m53 m45 m54)
       have kr := rotate_yes T F m t5
       obtain ⟨F1, hF1⟩ : ∃ F1, addB F T (deriveB m (T + 1)) = F1 := ⟨_, rfl⟩
       rw [hF1] at kr
       have KR := Lib.hid kr
       have HF1 := Lib.hid hF1
       have KQ := Lib.hid (fun w' (h : BarAt id w g bb q mm N1 ((g3, blk 16 m) :: (w.heap.size + 1, blk 16 m) :: (w.heap.size, opC o) :: L') w') => show Calls Tryz.prog 28 #[.pointer (some ⟨g, 0, none⟩)] w' fun r w'' => r = .returned (.agg (rg T F)) ∧ Below w'.heap.size w' w'' by
         have k := ring_yes h (by rw [Y.out.1]; omega)
         rw [Y.out.1, Y.out.2.1] at k
         exact k)
       clear kr hF1
       refine St.region_store1_last (w0 := w7) (L := []) 7 16 94 (rg 0 fun _ => 0) (rg (T + 1) F1) (.agg (rg (T + 1) F1)) 44 (St.nil w7) (by kernel_rfl) (by decide +kernel) (by decide +kernel) _ _ rfl rfl (fun w a => by simp [go_sem, ptrTo, hz2]) (stores_whole 44 _ _ (by rw [rg_size, rg_size]) (fun w => by simp [go_sem]) (rg_one _ _) rfl) (by rw [rg_size, rg_size]) (by simp) ?_
       (simp only [List.take])
       (apply walkB_step
        focus
          intro w0 hC
          have hB := HC.out.call hC.below
          have hC' := Lib.hid hC
          obtain ⟨⟨r1, f1, i1, b1, l1⟩, ⟨r2, f2, i2, b2, l2⟩, ⟨r3, f3, i3, b3, l3⟩, m12, m21, m13, m31, m23, m32⟩ := St.facts3 (hB.pick [0, 1, 2] (by decide) rfl)
          have hB' := Lib.hid hB
          clear hC hB
          go_simp
          first
            | with_reducible rfl
            | (skip
               go_at_call 28
               refine (KQ.out _ hB'.out).mono ?_
               rintro e w' ⟨rfl, hw⟩
               exact ⟨rfl, hw⟩)
            | (skip
               go_at_call 29
               refine (KR.out _).mono ?_
               rintro e w' ⟨rfl, hw⟩
               exact ⟨rfl, hw⟩)
        try simp only [Act.put, List.setIfInBounds_toArray, List.set])
       (apply walkB_step
        focus
          intro w0 hC
          have hB := HC.out.call hC.below
          have hC' := Lib.hid hC
          obtain ⟨⟨r1, f1, i1, b1, l1⟩, ⟨r2, f2, i2, b2, l2⟩, ⟨r3, f3, i3, b3, l3⟩, m12, m21, m13, m31, m23, m32⟩ := St.facts3 (hB.pick [0, 1, 2] (by decide) rfl)
          have hB' := Lib.hid hB
          clear hC hB
          go_simp
          first
            | with_reducible rfl
            | (skip
               go_at_call 28
               refine (KQ.out _ hB'.out).mono ?_
               rintro e w' ⟨rfl, hw⟩
               exact ⟨rfl, hw⟩)
            | (skip
               go_at_call 29
               refine (KR.out _).mono ?_
               rintro e w' ⟨rfl, hw⟩
               exact ⟨rfl, hw⟩)
        try simp only [Act.put, List.setIfInBounds_toArray, List.set])
       (apply walkB_step
        focus
          intro w0 hC
          have hB := HC.out.call hC.below
          have hC' := Lib.hid hC
          obtain ⟨⟨r1, f1, i1, b1, l1⟩, ⟨r2, f2, i2, b2, l2⟩, ⟨r3, f3, i3, b3, l3⟩, m12, m21, m13, m31, m23, m32⟩ := St.facts3 (hB.pick [0, 1, 2] (by decide) rfl)
          have hB' := Lib.hid hB
          clear hC hB
          go_simp
          first
            | with_reducible rfl
            | (skip
               go_at_call 28
               refine (KQ.out _ hB'.out).mono ?_
               rintro e w' ⟨rfl, hw⟩
               exact ⟨rfl, hw⟩)
            | (skip
               go_at_call 29
               refine (KR.out _).mono ?_
               rintro e w' ⟨rfl, hw⟩
               exact ⟨rfl, hw⟩)
        try simp only [Act.put, List.setIfInBounds_toArray, List.set])
       (apply walkB_step
        focus
          intro w0 hC
          have hB := HC.out.call hC.below
          have hC' := Lib.hid hC
          obtain ⟨⟨r1, f1, i1, b1, l1⟩, ⟨r2, f2, i2, b2, l2⟩, ⟨r3, f3, i3, b3, l3⟩, m12, m21, m13, m31, m23, m32⟩ := St.facts3 (hB.pick [0, 1, 2] (by decide) rfl)
          have hB' := Lib.hid hB
          clear hC hB
          go_simp
          first
            | with_reducible rfl
            | (skip
               go_at_call 28
               refine (KQ.out _ hB'.out).mono ?_
               rintro e w' ⟨rfl, hw⟩
               exact ⟨rfl, hw⟩)
            | (skip
               go_at_call 29
               refine (KR.out _).mono ?_
               rintro e w' ⟨rfl, hw⟩
               exact ⟨rfl, hw⟩)
        try simp only [Act.put, List.setIfInBounds_toArray, List.set])
       (apply walkB_step
        focus
          intro w0 hC
          have hB := HC.out.call hC.below
          have hC' := Lib.hid hC
          obtain ⟨⟨r1, f1, i1, b1, l1⟩, ⟨r2, f2, i2, b2, l2⟩, ⟨r3, f3, i3, b3, l3⟩, m12, m21, m13, m31, m23, m32⟩ := St.facts3 (hB.pick [0, 1, 2] (by decide) rfl)
          have hB' := Lib.hid hB
          clear hC hB
          go_simp
          first
            | with_reducible rfl
            | (skip
               go_at_call 28
               refine (KQ.out _ hB'.out).mono ?_
               rintro e w' ⟨rfl, hw⟩
               exact ⟨rfl, hw⟩)
            | (skip
               go_at_call 29
               refine (KR.out _).mono ?_
               rintro e w' ⟨rfl, hw⟩
               exact ⟨rfl, hw⟩)
        try simp only [Act.put, List.setIfInBounds_toArray, List.set])
       (apply walkB_step
        focus
          intro w0 hC
          have hB := HC.out.call hC.below
          have hC' := Lib.hid hC
          obtain ⟨⟨r1, f1, i1, b1, l1⟩, ⟨r2, f2, i2, b2, l2⟩, ⟨r3, f3, i3, b3, l3⟩, m12, m21, m13, m31, m23, m32⟩ := St.facts3 (hB.pick [0, 1, 2] (by decide) rfl)
          have hB' := Lib.hid hB
          clear hC hB
          go_simp
          first
            | with_reducible rfl
            | (skip
               go_at_call 28
               refine (KQ.out _ hB'.out).mono ?_
               rintro e w' ⟨rfl, hw⟩
               exact ⟨rfl, hw⟩)
            | (skip
               go_at_call 29
               refine (KR.out _).mono ?_
               rintro e w' ⟨rfl, hw⟩
               exact ⟨rfl, hw⟩)
        try simp only [Act.put, List.setIfInBounds_toArray, List.set])
       (apply walkB_step
        focus
          intro w0 hC
          have hB := HC.out.call hC.below
          have hC' := Lib.hid hC
          obtain ⟨⟨r1, f1, i1, b1, l1⟩, ⟨r2, f2, i2, b2, l2⟩, ⟨r3, f3, i3, b3, l3⟩, m12, m21, m13, m31, m23, m32⟩ := St.facts3 (hB.pick [0, 1, 2] (by decide) rfl)
          have hB' := Lib.hid hB
          clear hC hB
          go_simp
          first
            | with_reducible rfl
            | (skip
               go_at_call 28
               refine (KQ.out _ hB'.out).mono ?_
               rintro e w' ⟨rfl, hw⟩
               exact ⟨rfl, hw⟩)
            | (skip
               go_at_call 29
               refine (KR.out _).mono ?_
               rintro e w' ⟨rfl, hw⟩
               exact ⟨rfl, hw⟩)
        try simp only [Act.put, List.setIfInBounds_toArray, List.set])
       refine walkB_nil ⟨rfl, ?_⟩
       intro w8 g8 hC
       unfold ptrTo
       have HC := Lib.hid (HC.out.join hC)
       clear hC KR KQ
       (obtain ⟨⟨r1, f1, i1, b1, l1⟩, ⟨r2, f2, i2, b2, l2⟩, ⟨r3, f3, i3, b3, l3⟩, ⟨r4, f4, i4, b4, l4⟩, ⟨r5, f5, i5, b5, l5⟩, ⟨r6, f6, i6, b6, l6⟩, m12, m21, m13, m31, m14, m41, m15, m51, m16, m61, m23, m32, m24, m42, m25, m52, m26, m62, m34, m43, m35, m53, m36, m63, m45, m54, m46, m64, m56, m65⟩ := St.facts6 (HC.out.pick [0, 1, 2, 3, 4, 5] (by decide) rfl))
       go_wp2_with fail
       (clear r1 f1 i1 b1 l1 r2 f2 i2 b2 l2 r3 f3 i3 b3 l3 r4 f4 i4 b4 l4 r5 f5 i5 b5 l5 r6 f6 i6 b6 l6 m12 m21 m13 m31 m14 m41 m15 m51 m16 m61 m23 m32 m24 m42 m25 m52 m26 m62 m34 m43 m35 m53 m36 m63 m45 m54 m46 m64 m56 m65)
       have kt := turn_yes HC.out (T + 1) F1 (by rw [Y.out.1]; omega) (by omega) (by omega)
       obtain ⟨bc, hbc⟩ : ∃ b, ({ bb with n := T + 1, f := F1 } : Br) = b := ⟨_, rfl⟩
       rw [hbc] at kt
       have Z := Lib.hid (show bc.n = T + 1 ∧ bc.f = F1 ∧ bc.e = E ∧ bc.c = C + 1 by rw [← hbc]; exact ⟨rfl, rfl, Y.out.2.2⟩)
       clear hbc Y
       refine kt.mono ?_
       clear kt
       rintro e w9 ⟨rfl, hB⟩
       have HC := Lib.hid hB
       clear hB
       (obtain ⟨⟨r1, f1, i1, b1, l1⟩, ⟨r2, f2, i2, b2, l2⟩, ⟨r3, f3, i3, b3, l3⟩, ⟨r4, f4, i4, b4, l4⟩, ⟨r5, f5, i5, b5, l5⟩, ⟨r6, f6, i6, b6, l6⟩, m12, m21, m13, m31, m14, m41, m15, m51, m16, m61, m23, m32, m24, m42, m25, m52, m26, m62, m34, m43, m35, m53, m36, m63, m45, m54, m46, m64, m56, m65⟩ := St.facts6 (HC.out.pick [0, 1, 2, 3, 4, 5] (by decide) rfl))
       go_wp2_with fail
       have kg := get_bar id w _ g bc q mm N1 _ o.p S (by omega) (by have := HZ.out; omega) HC.out (o.t, 0) (by rw [Z.out.1, Z.out.2.1]; exact GP.out (T + 1) F1 _ (by omega) (by omega) (by rw [← HF1.out]; exact add_key _ _ _ _ (by omega)) HFI.out)
       (clear r1 f1 i1 b1 l1 r2 f2 i2 b2 l2 r3 f3 i3 b3 l3 r4 f4 i4 b4 l4 r5 f5 i5 b5 l5 r6 f6 i6 b6 l6 m12 m21 m13 m31 m14 m41 m15 m51 m16 m61 m23 m32 m24 m42 m25 m52 m26 m62 m34 m43 m35 m53 m36 m63 m45 m54 m46 m64 m56 m65)
       refine (kg).mono ?_; rintro e w10 ⟨rfl, hw⟩
       have HC := Lib.hid (HC.out.call hw)
       clear hw
       (obtain ⟨⟨r1, f1, i1, b1, l1⟩, ⟨r2, f2, i2, b2, l2⟩, ⟨r3, f3, i3, b3, l3⟩, ⟨r4, f4, i4, b4, l4⟩, ⟨r5, f5, i5, b5, l5⟩, ⟨r6, f6, i6, b6, l6⟩, m12, m21, m13, m31, m14, m41, m15, m51, m16, m61, m23, m32, m24, m42, m25, m52, m26, m62, m34, m43, m35, m53, m36, m63, m45, m54, m46, m64, m56, m65⟩ := St.facts6 (HC.out.pick [0, 1, 2, 3, 4, 5] (by decide) rfl))
       go_wp2_with fail
       clear kg
       (clear r1 f1 i1 b1 l1 r2 f2 i2 b2 l2 r3 f3 i3 b3 l3 r4 f4 i4 b4 l4 r5 f5 i5 b5 l5 r6 f6 i6 b6 l6 m12 m21 m13 m31 m14 m41 m15 m51 m16 m61 m23 m32 m24 m42 m25 m52 m26 m62 m34 m43 m35 m53 m36 m63 m45 m54 m46 m64 m56 m65)
       have te1 : takeE bc = 0 := takeE_yes bc (by rw [Z.out.1]; omega) (by rw [Z.out.2.2.1, Z.out.2.2.2]; exact hk2) (by rw [Z.out.2.2.2]; exact c2)
       have kl := lock_yes HC.out m te1
       have ku := fun w => unlock_any m (headS 0 (nonceS bc.e bc.c) ++ sealedR m bc.n bc.f bc.e bc.c) (by rw [entry_size _ _ _ (nonceS_size _ _)]; unfold sealedR; rw [sealS_size, ringT_size, Z.out.1]; omega) w
       rw [unlock_back m bc.n bc.f bc.e bc.c (by rw [Z.out.1]; omega) (by rw [Z.out.1]; omega)] at ku
       obtain ⟨LK, hLK⟩ : ∃ LK, headS 0 (nonceS bc.e bc.c) ++ sealedR m bc.n bc.f bc.e bc.c = LK := ⟨_, rfl⟩
       rw [hLK] at kl ku
       rw [Z.out.1, Z.out.2.1] at ku
       obtain ⟨G, hG⟩ : ∃ G, parseB ((ringT (T + 1) F1).extract 1 (ringT (T + 1) F1).size) ((T + 1) * 16) = G := ⟨_, rfl⟩
       rw [hG] at ku
       have KU := Lib.hid ku
       have HG := Lib.hid (show Ci.EqB (keyB G (T - 1)) (keyB F (T - 1)) by
         rw [← hG]
         refine (parse_key (T + 1) F1 (T - 1) (by omega)).trans ?_
         rw [← HF1.out]
         exact add_key _ _ _ _ (by omega))
       obtain ⟨bd, hbd⟩ : ∃ b, ({ bc with c := bc.c + 1 } : Br) = b := ⟨_, rfl⟩
       rw [hbd] at kl
       clear ku hLK hG hbd te1
       refine kl.mono ?_
       clear kl
       rintro e w11 ⟨rfl, hB⟩
       have HC := Lib.hid hB
       clear hB
       (obtain ⟨⟨r1, f1, i1, b1, l1⟩, ⟨r2, f2, i2, b2, l2⟩, ⟨r3, f3, i3, b3, l3⟩, ⟨r4, f4, i4, b4, l4⟩, ⟨r5, f5, i5, b5, l5⟩, ⟨r6, f6, i6, b6, l6⟩, m12, m21, m13, m31, m14, m41, m15, m51, m16, m61, m23, m32, m24, m42, m25, m52, m26, m62, m34, m43, m35, m53, m36, m63, m45, m54, m46, m64, m56, m65⟩ := St.facts6 (HC.out.pick [0, 1, 2, 3, 4, 5] (by decide) rfl))
       go_wp2_with fail
       (clear r1 f1 i1 b1 l1 r2 f2 i2 b2 l2 r3 f3 i3 b3 l3 r4 f4 i4 b4 l4 r5 f5 i5 b5 l5 r6 f6 i6 b6 l6 m12 m21 m13 m31 m14 m41 m15 m51 m16 m61 m23 m32 m24 m42 m25 m52 m26 m62 m34 m43 m35 m53 m36 m63 m45 m54 m46 m64 m56 m65)
       refine (seal_yes HC.out).mono ?_
       rintro e w12 ⟨rfl, hB⟩
       have HC := Lib.hid hB
       clear hB
       (obtain ⟨⟨r1, f1, i1, b1, l1⟩, ⟨r2, f2, i2, b2, l2⟩, ⟨r3, f3, i3, b3, l3⟩, ⟨r4, f4, i4, b4, l4⟩, ⟨r5, f5, i5, b5, l5⟩, ⟨r6, f6, i6, b6, l6⟩, m12, m21, m13, m31, m14, m41, m15, m51, m16, m61, m23, m32, m24, m42, m25, m52, m26, m62, m34, m43, m35, m53, m36, m63, m45, m54, m46, m64, m56, m65⟩ := St.facts6 (HC.out.pick [0, 1, 2, 3, 4, 5] (by decide) rfl))
       go_wp2_with fail
       have kg := get_bar id w _ g bd.shut q mm N1 _ o.p S (by omega) (by have := HZ.out; omega) HC.out (⟨#[]⟩, 12) (by unfold getO; exact if_pos rfl)
       (clear r1 f1 i1 b1 l1 r2 f2 i2 b2 l2 r3 f3 i3 b3 l3 r4 f4 i4 b4 l4 r5 f5 i5 b5 l5 r6 f6 i6 b6 l6 m12 m21 m13 m31 m14 m41 m15 m51 m16 m61 m23 m32 m24 m42 m25 m52 m26 m62 m34 m43 m35 m53 m36 m63 m45 m54 m46 m64 m56 m65)
       refine (kg).mono ?_; rintro e w13 ⟨rfl, hw⟩
       have HC := Lib.hid (HC.out.call hw)
       clear hw
       (obtain ⟨⟨r1, f1, i1, b1, l1⟩, ⟨r2, f2, i2, b2, l2⟩, ⟨r3, f3, i3, b3, l3⟩, ⟨r4, f4, i4, b4, l4⟩, ⟨r5, f5, i5, b5, l5⟩, ⟨r6, f6, i6, b6, l6⟩, m12, m21, m13, m31, m14, m41, m15, m51, m16, m61, m23, m32, m24, m42, m25, m52, m26, m62, m34, m43, m35, m53, m36, m63, m45, m54, m46, m64, m56, m65⟩ := St.facts6 (HC.out.pick [0, 1, 2, 3, 4, 5] (by decide) rfl))
       go_wp2_with fail
       (clear r1 f1 i1 b1 l1 r2 f2 i2 b2 l2 r3 f3 i3 b3 l3 r4 f4 i4 b4 l4 r5 f5 i5 b5 l5 r6 f6 i6 b6 l6 m12 m21 m13 m31 m14 m41 m15 m51 m16 m61 m23 m32 m24 m42 m25 m52 m26 m62 m34 m43 m35 m53 m36 m63 m45 m54 m46 m64 m56 m65)
       clear kg
       refine (KU.out _).mono ?_; rintro e w14 ⟨rfl, hw⟩
       have HC := Lib.hid (HC.out.call hw)
       clear hw
       (obtain ⟨⟨r1, f1, i1, b1, l1⟩, ⟨r2, f2, i2, b2, l2⟩, ⟨r3, f3, i3, b3, l3⟩, ⟨r4, f4, i4, b4, l4⟩, ⟨r5, f5, i5, b5, l5⟩, ⟨r6, f6, i6, b6, l6⟩, m12, m21, m13, m31, m14, m41, m15, m51, m16, m61, m23, m32, m24, m42, m25, m52, m26, m62, m34, m43, m35, m53, m36, m63, m45, m54, m46, m64, m56, m65⟩ := St.facts6 (HC.out.pick [0, 1, 2, 3, 4, 5] (by decide) rfl))
       go_wp2_with fail
       (clear r1 f1 i1 b1 l1 r2 f2 i2 b2 l2 r3 f3 i3 b3 l3 r4 f4 i4 b4 l4 r5 f5 i5 b5 l5 r6 f6 i6 b6 l6 m12 m21 m13 m31 m14 m41 m15 m51 m16 m61 m23 m32 m24 m42 m25 m52 m26 m62 m34 m43 m35 m53 m36 m63 m45 m54 m46 m64 m56 m65)
       have HC := Lib.hid ((HC.out.push (rg (T + 1) G) 44).sub (L' := (w14.heap.size, rg (T + 1) G) :: (w.heap.size, opC o) :: L') (.cons_cons _ (.cons _ (.cons _ (.cons _ (.cons_cons _ (List.Sublist.refl _)))))))
       generalize w14.heap.size = g9 at HC ⊢
       have v5 : (((T + 1 : Nat) : Int) != ((T + 1 : Nat) : Int)) = false := by simp
       refine (term_any (T + 1) G _).mono ?_; rintro e w15 ⟨rfl, hw⟩
       have HC := Lib.hid (HC.out.call hw)
       clear hw
       (obtain ⟨⟨r1, f1, i1, b1, l1⟩, ⟨r2, f2, i2, b2, l2⟩, ⟨r3, f3, i3, b3, l3⟩, ⟨r4, f4, i4, b4, l4⟩, m12, m21, m13, m31, m14, m41, m23, m32, m24, m42, m34, m43⟩ := St.facts4 (HC.out.pick [0, 1, 2, 3] (by decide) rfl))
       go_wp2_with fail
       (clear r1 f1 i1 b1 l1 r2 f2 i2 b2 l2 r3 f3 i3 b3 l3 r4 f4 i4 b4 l4 m12 m21 m13 m31 m14 m41 m23 m32 m24 m42 m34 m43)
       have hq := HC.out.st.at (g := q) (c := #[.map (some mm)]) (.tail _ (.head _))
       refine (notesFork_any q mm N1 _ hq.1 hq.2.2.1 hq.2.2.2.2 HC.out.mp).mono ?_
       rintro e w16 ⟨q2, m2, rfl, hs2, hm2, hle⟩
       have H2 := Lib.hid (Nat.le_trans HC.out.st.below.size hle)
       have HC := Lib.hid (HC.out.join hs2)
       have HM2 := Lib.hid hm2
       clear hs2 hm2 hle hq
       (obtain ⟨⟨r1, f1, i1, b1, l1⟩, ⟨r2, f2, i2, b2, l2⟩, ⟨r3, f3, i3, b3, l3⟩, ⟨r4, f4, i4, b4, l4⟩, ⟨r5, f5, i5, b5, l5⟩, m12, m21, m13, m31, m14, m41, m15, m51, m23, m32, m24, m42, m25, m52, m34, m43, m35, m53, m45, m54⟩ := St.facts5 (HC.out.pick [0, 1, 2, 3, 4] (by decide) rfl))
       go_wp2_with fail
       (clear r1 f1 i1 b1 l1 r2 f2 i2 b2 l2 r3 f3 i3 b3 l3 r4 f4 i4 b4 l4 r5 f5 i5 b5 l5 m12 m21 m13 m31 m14 m41 m15 m51 m23 m32 m24 m42 m25 m52 m34 m43 m35 m53 m45 m54)
       have kn := new_bar id (.pointer (some ⟨q2, 0, none⟩)) w _ q2 m2 N1 _ (fun _ => rfl) (HC.out.st.perm (List.perm_middle (l₁ := [_, _])).symm) HM2.out H2.out HC.out.sz
       rw [hkd] at kn
       refine kn.mono ?_
       clear kn
       rintro e w17 ⟨gc, rfl, hB⟩
       have HC := Lib.hid (hB.sub (L' := (g9, rg (T + 1) G) :: (w.heap.size, opC o) :: L') (.cons _ (.cons _ (List.Sublist.refl _))))
       clear hB HM2 H2
       (obtain ⟨⟨r1, f1, i1, b1, l1⟩, ⟨r2, f2, i2, b2, l2⟩, ⟨r3, f3, i3, b3, l3⟩, ⟨r4, f4, i4, b4, l4⟩, m12, m21, m13, m31, m14, m41, m23, m32, m24, m42, m34, m43⟩ := St.facts4 (HC.out.pick [0, 1, 2, 3] (by decide) rfl))
       go_wp2_with fail
       (clear r1 f1 i1 b1 l1 r2 f2 i2 b2 l2 r3 f3 i3 b3 l3 r4 f4 i4 b4 l4 m12 m21 m13 m31 m14 m41 m23 m32 m24 m42 m34 m43)
       refine (open_good HC.out (T + 1) G 1001 0 rfl (by omega) (by omega) hk3).mono ?_
       rintro e w18 ⟨rfl, hB⟩
       have HC := Lib.hid hB
       clear hB
       (obtain ⟨⟨r1, f1, i1, b1, l1⟩, ⟨r2, f2, i2, b2, l2⟩, ⟨r3, f3, i3, b3, l3⟩, ⟨r4, f4, i4, b4, l4⟩, m12, m21, m13, m31, m14, m41, m23, m32, m24, m42, m34, m43⟩ := St.facts4 (HC.out.pick [0, 1, 2, 3] (by decide) rfl))
       go_wp2_with fail
       have kg := get_bar id w _ gc _ q2 m2 N1 _ o.p S (by omega) (by have := HZ.out; omega) HC.out (o.t, 0) (GP.out (T + 1) G _ (by omega) (by omega) HG.out HFI.out)
       (clear r1 f1 i1 b1 l1 r2 f2 i2 b2 l2 r3 f3 i3 b3 l3 r4 f4 i4 b4 l4 m12 m21 m13 m31 m14 m41 m23 m32 m24 m42 m34 m43)
       refine (kg).mono ?_; rintro e w19 ⟨rfl, hw⟩
       have HC := Lib.hid (HC.out.call hw)
       clear hw
       (obtain ⟨⟨r1, f1, i1, b1, l1⟩, ⟨r2, f2, i2, b2, l2⟩, ⟨r3, f3, i3, b3, l3⟩, ⟨r4, f4, i4, b4, l4⟩, m12, m21, m13, m31, m14, m41, m23, m32, m24, m42, m34, m43⟩ := St.facts4 (HC.out.pick [0, 1, 2, 3] (by decide) rfl))
       go_wp2_with fail
       (clear r1 f1 i1 b1 l1 r2 f2 i2 b2 l2 r3 f3 i3 b3 l3 r4 f4 i4 b4 l4 m12 m21 m13 m31 m14 m41 m23 m32 m24 m42 m34 m43)
       refine (awake21_any _).mono ?_; rintro e w20 ⟨rfl, hw⟩
       have HC := Lib.hid (HC.out.call hw)
       clear hw
       go_wp2_with fail
       go_ret
       exact ⟨rfl, HC.out.st.below⟩)
    · obtain ⟨id, hid⟩ : ∃ i : Bool, i = true := ⟨_, rfl⟩
      have hkd : ((kdOf id : Nat) : Int) = 1 := by rw [hid]; rfl
      clear hid
      (obtain ⟨⟨r1, f1, i1, b1, l1⟩, ⟨r2, f2, i2, b2, l2⟩, ⟨r3, f3, i3, b3, l3⟩, m12, m21, m13, m31, m23, m32⟩ := St.facts3 (HC.out.pick [0, 1, 2] (by decide) rfl))
      go_wp2_with fail
      ((clear r1 f1 i1 b1 l1 r2 f2 i2 b2 l2 r3 f3 i3 b3 l3 m12 m21 m13 m31 m23 m32)
       refine St.region_store1_last (w0 := w2) (L := []) 6 9 36 (blk 16 fun _ => 0) (blk 16 m) (.agg (blk 16 m)) 41 (St.nil w2) (by kernel_rfl) (by decide +kernel) (by decide +kernel) _ _ rfl rfl (fun w a => by simp [go_sem, ptrTo, hz]) (stores_whole 41 _ _ (by rw [blk_size, blk_size]) (fun w => by simp [go_sem]) (oneCells_blk _ _) rfl) (by rw [blk_size, blk_size]) (by simp) ?_
       (simp only [List.take])
       (apply walkB_step
        focus
          intro w0 hC
          obtain ⟨⟨r1, f1, i1, b1, l1⟩, ⟨r2, f2, i2, b2, l2⟩, ⟨r3, f3, i3, b3, l3⟩, m12, m21, m13, m31, m23, m32⟩ := St.facts3 ((HC.out.call hC.below).pick [0, 1, 2] (by decide) rfl)
          clear hC
          go_simp
          with_reducible rfl
        try simp only [Act.put, List.setIfInBounds_toArray, List.set])
       (apply walkB_step
        focus
          intro w0 hC
          obtain ⟨⟨r1, f1, i1, b1, l1⟩, ⟨r2, f2, i2, b2, l2⟩, ⟨r3, f3, i3, b3, l3⟩, m12, m21, m13, m31, m23, m32⟩ := St.facts3 ((HC.out.call hC.below).pick [0, 1, 2] (by decide) rfl)
          clear hC
          go_simp
          with_reducible rfl
        try simp only [Act.put, List.setIfInBounds_toArray, List.set])
       (apply walkB_step
        focus
          intro w0 hC
          obtain ⟨⟨r1, f1, i1, b1, l1⟩, ⟨r2, f2, i2, b2, l2⟩, ⟨r3, f3, i3, b3, l3⟩, m12, m21, m13, m31, m23, m32⟩ := St.facts3 ((HC.out.call hC.below).pick [0, 1, 2] (by decide) rfl)
          clear hC
          go_simp
          with_reducible rfl
        try simp only [Act.put, List.setIfInBounds_toArray, List.set])
       (apply walkB_step
        focus
          intro w0 hC
          obtain ⟨⟨r1, f1, i1, b1, l1⟩, ⟨r2, f2, i2, b2, l2⟩, ⟨r3, f3, i3, b3, l3⟩, m12, m21, m13, m31, m23, m32⟩ := St.facts3 ((HC.out.call hC.below).pick [0, 1, 2] (by decide) rfl)
          clear hC
          go_simp
          with_reducible rfl
        try simp only [Act.put, List.setIfInBounds_toArray, List.set])
       (apply walkB_step
        focus
          intro w0 hC
          obtain ⟨⟨r1, f1, i1, b1, l1⟩, ⟨r2, f2, i2, b2, l2⟩, ⟨r3, f3, i3, b3, l3⟩, m12, m21, m13, m31, m23, m32⟩ := St.facts3 ((HC.out.call hC.below).pick [0, 1, 2] (by decide) rfl)
          clear hC
          go_simp
          with_reducible rfl
        try simp only [Act.put, List.setIfInBounds_toArray, List.set])
       (apply walkB_step
        focus
          intro w0 hC
          obtain ⟨⟨r1, f1, i1, b1, l1⟩, ⟨r2, f2, i2, b2, l2⟩, ⟨r3, f3, i3, b3, l3⟩, m12, m21, m13, m31, m23, m32⟩ := St.facts3 ((HC.out.call hC.below).pick [0, 1, 2] (by decide) rfl)
          clear hC
          go_simp
          with_reducible rfl
        try simp only [Act.put, List.setIfInBounds_toArray, List.set])
       refine walkB_nil ⟨rfl, ?_⟩
       intro w3 g3 hC
       unfold ptrTo
       have HM := Lib.hid (HM.out.call _ hC.below)
       have HC := Lib.hid (HC.out.join hC)
       clear hC
       go_wp2_with fail
       refine St.region_tail (w0 := w3) (L := []) 6 (St.nil w3) (by kernel_rfl) (by decide +kernel) ?_
       (first
          | (apply head_skip rfl)
          | (apply head_step_g rfl
             focus
               intro w0 hC
               have hC' := Lib.hid hC
               obtain ⟨⟨r1, f1, i1, b1, l1⟩, ⟨r2, f2, i2, b2, l2⟩, ⟨r3, f3, i3, b3, l3⟩, ⟨r4, f4, i4, b4, l4⟩, m12, m21, m13, m31, m14, m41, m23, m32, m24, m42, m34, m43⟩ := St.facts4 ((HC.out.call hC.below).pick [0, 1, 2, 3] (by decide) rfl)
               clear hC
               go_simp
               have hC := hC'.out
               first
                 | with_reducible rfl
                 | (skip
                    go_at_call 27
                    refine (K0.out _).mono ?_
                    rintro e w' ⟨rfl, hw⟩
                    exact ⟨rfl, St.call hC hw⟩))
        try simp only [Act.put, List.setIfInBounds_toArray, List.set])
       (first
          | (apply head_skip rfl)
          | (apply head_step_g rfl
             focus
               intro w0 hC
               have hC' := Lib.hid hC
               obtain ⟨⟨r1, f1, i1, b1, l1⟩, ⟨r2, f2, i2, b2, l2⟩, ⟨r3, f3, i3, b3, l3⟩, ⟨r4, f4, i4, b4, l4⟩, m12, m21, m13, m31, m14, m41, m23, m32, m24, m42, m34, m43⟩ := St.facts4 ((HC.out.call hC.below).pick [0, 1, 2, 3] (by decide) rfl)
               clear hC
               go_simp
               have hC := hC'.out
               first
                 | with_reducible rfl
                 | (skip
                    go_at_call 27
                    refine (K0.out _).mono ?_
                    rintro e w' ⟨rfl, hw⟩
                    exact ⟨rfl, St.call hC hw⟩))
        try simp only [Act.put, List.setIfInBounds_toArray, List.set])
       (first
          | (apply head_skip rfl)
          | (apply head_step_g rfl
             focus
               intro w0 hC
               have hC' := Lib.hid hC
               obtain ⟨⟨r1, f1, i1, b1, l1⟩, ⟨r2, f2, i2, b2, l2⟩, ⟨r3, f3, i3, b3, l3⟩, ⟨r4, f4, i4, b4, l4⟩, m12, m21, m13, m31, m14, m41, m23, m32, m24, m42, m34, m43⟩ := St.facts4 ((HC.out.call hC.below).pick [0, 1, 2, 3] (by decide) rfl)
               clear hC
               go_simp
               have hC := hC'.out
               first
                 | with_reducible rfl
                 | (skip
                    go_at_call 27
                    refine (K0.out _).mono ?_
                    rintro e w' ⟨rfl, hw⟩
                    exact ⟨rfl, St.call hC hw⟩))
        try simp only [Act.put, List.setIfInBounds_toArray, List.set])
       (first
          | (apply head_skip rfl)
          | (apply head_step_g rfl
             focus
               intro w0 hC
               have hC' := Lib.hid hC
               obtain ⟨⟨r1, f1, i1, b1, l1⟩, ⟨r2, f2, i2, b2, l2⟩, ⟨r3, f3, i3, b3, l3⟩, ⟨r4, f4, i4, b4, l4⟩, m12, m21, m13, m31, m14, m41, m23, m32, m24, m42, m34, m43⟩ := St.facts4 ((HC.out.call hC.below).pick [0, 1, 2, 3] (by decide) rfl)
               clear hC
               go_simp
               have hC := hC'.out
               first
                 | with_reducible rfl
                 | (skip
                    go_at_call 27
                    refine (K0.out _).mono ?_
                    rintro e w' ⟨rfl, hw⟩
                    exact ⟨rfl, St.call hC hw⟩))
        try simp only [Act.put, List.setIfInBounds_toArray, List.set])
       (first
          | (apply head_skip rfl)
          | (apply head_step_g rfl
             focus
               intro w0 hC
               have hC' := Lib.hid hC
               obtain ⟨⟨r1, f1, i1, b1, l1⟩, ⟨r2, f2, i2, b2, l2⟩, ⟨r3, f3, i3, b3, l3⟩, ⟨r4, f4, i4, b4, l4⟩, m12, m21, m13, m31, m14, m41, m23, m32, m24, m42, m34, m43⟩ := St.facts4 ((HC.out.call hC.below).pick [0, 1, 2, 3] (by decide) rfl)
               clear hC
               go_simp
               have hC := hC'.out
               first
                 | with_reducible rfl
                 | (skip
                    go_at_call 27
                    refine (K0.out _).mono ?_
                    rintro e w' ⟨rfl, hw⟩
                    exact ⟨rfl, St.call hC hw⟩))
        try simp only [Act.put, List.setIfInBounds_toArray, List.set])
       (first
          | (apply head_skip rfl)
          | (apply head_step_g rfl
             focus
               intro w0 hC
               have hC' := Lib.hid hC
               obtain ⟨⟨r1, f1, i1, b1, l1⟩, ⟨r2, f2, i2, b2, l2⟩, ⟨r3, f3, i3, b3, l3⟩, ⟨r4, f4, i4, b4, l4⟩, m12, m21, m13, m31, m14, m41, m23, m32, m24, m42, m34, m43⟩ := St.facts4 ((HC.out.call hC.below).pick [0, 1, 2, 3] (by decide) rfl)
               clear hC
               go_simp
               have hC := hC'.out
               first
                 | with_reducible rfl
                 | (skip
                    go_at_call 27
                    refine (K0.out _).mono ?_
                    rintro e w' ⟨rfl, hw⟩
                    exact ⟨rfl, St.call hC hw⟩))
        try simp only [Act.put, List.setIfInBounds_toArray, List.set])
       refine wpQuiet_nil ?_
       intro w4 hC
       have HM := Lib.hid (HM.out.call _ hC.below)
       have HC := Lib.hid ((HC.out.call hC.below).perm (List.perm_middle (l₁ := [_]) (l₂ := [_, _])))
       clear hC
       go_wp2_with fail)
      (have ko := opened_bar id (.pointer (some ⟨q, 0, none⟩)) m T t1 (by omega) E C hk1 w _ q mm [] _ (fun _ => rfl) HC.out HM.out H0.out (fun _ _ h => by cases h)
       rw [hkd] at ko
       refine ko.mono ?_
       clear ko
       rintro e w5 ⟨g, L', rfl, hB, _⟩
       have HC := Lib.hid (hB.perm (L' := (g3, blk 16 m) :: (w.heap.size + 1, blk 16 m) :: (w.heap.size, opC o) :: L') (List.perm_append_comm (l₁ := [_, _, _]) (l₂ := L')))
       clear hB HM
       obtain ⟨F, hF⟩ : ∃ F, ringF m T = F := ⟨_, rfl⟩
       rw [hF] at HC
       obtain ⟨ba, hba⟩ : ∃ b, (⟨true, kdOf id, ntOf id q, T, F, E, C⟩ : Br) = b := ⟨_, rfl⟩
       rw [hba] at HC
       have x1 : ba.n = T := by rw [← hba]
       have x2 : ba.f = F := by rw [← hba]
       have x3 : ba.e = E := by rw [← hba]
       have x4 : ba.c = C := by rw [← hba]
       have te0 : takeE ba = 0 := takeE_yes ba (by rw [x1]; omega) (by rw [x3, x4]; exact hk1) (by rw [x4]; exact c1)
       have kp := put_yes HC.out o.p o.t (by omega) (by omega) te0
       obtain ⟨S, hS⟩ : ∃ S, putS id ba o.p o.t = S := ⟨_, rfl⟩
       have hSz : S.size = o.t.size + 32 := by rw [← hS, putS_yes _ _ _ _ te0, entry_size _ _ _ (nonceS_size _ _), hideS_size]; omega
       obtain ⟨N1, hN1⟩ : ∃ N1, putM id ba o.p o.t [] = N1 := ⟨_, rfl⟩
       have HFI := Lib.hid (show id = true → findN (nonceS ba.e ba.c) N1 = some (o.p, o.t) from fun h => by rw [← hN1]; unfold putM; rw [if_pos ⟨h, te0⟩, find_put, if_pos rfl])
       have GP := Lib.hid (fun n f M => get_put id ba o.p o.t n f M te0)
       obtain ⟨bb, hbb⟩ : ∃ b, ({ ba with c := ba.c + 1 } : Br) = b := ⟨_, rfl⟩
       have y1 : bb.n = T := by rw [← hbb]; exact x1
       have y2 : bb.f = F := by rw [← hbb]; exact x2
       have y3 : bb.e = E := by rw [← hbb]; exact x3
       have y4 : bb.c = C + 1 := by rw [← hbb]; exact congrArg (· + 1) x4
       rw [hS, x1, x2] at GP
       rw [hS, hN1, hbb] at kp
       have KP := Lib.hid kp
       clear hF hba hS hN1 te0 kp hbb x1 x2 x3 x4
       (obtain ⟨⟨r1, f1, i1, b1, l1⟩, ⟨r2, f2, i2, b2, l2⟩, ⟨r3, f3, i3, b3, l3⟩, ⟨r4, f4, i4, b4, l4⟩, ⟨r5, f5, i5, b5, l5⟩, m12, m21, m13, m31, m14, m41, m15, m51, m23, m32, m24, m42, m25, m52, m34, m43, m35, m53, m45, m54⟩ := St.facts5 (HC.out.pick [0, 1, 2, 3, 4] (by decide) rfl))
       go_wp2_with fail
       refine KP.out.mono ?_
       rintro e w6 ⟨rfl, hB, _⟩
       have HC := Lib.hid hB
       clear KP hB
       (clear r1 f1 i1 b1 l1 r2 f2 i2 b2 l2 r3 f3 i3 b3 l3 r4 f4 i4 b4 l4 r5 f5 i5 b5 l5 m12 m21 m13 m31 m14 m41 m15 m51 m23 m32 m24 m42 m25 m52 m34 m43 m35 m53 m45 m54)
       (obtain ⟨⟨r1, f1, i1, b1, l1⟩, ⟨r2, f2, i2, b2, l2⟩, ⟨r3, f3, i3, b3, l3⟩, ⟨r4, f4, i4, b4, l4⟩, ⟨r5, f5, i5, b5, l5⟩, m12, m21, m13, m31, m14, m41, m15, m51, m23, m32, m24, m42, m25, m52, m34, m43, m35, m53, m45, m54⟩ := St.facts5 (HC.out.pick [0, 1, 2, 3, 4] (by decide) rfl))
       have hs1 : (o.t.toList == o.t.toList) = true := text_same _
       have hs2 : ((S.size : Int) != (o.t.size : Int) + 32) = false := by rw [bne_eq_false_iff_eq]; omega
       have nt : (o.t.size : Int) ≤ 80 := by omega
       have Y := Lib.hid (And.intro y1 (And.intro y2 (And.intro y3 y4)))
       have HZ := Lib.hid hSz
       clear y1 y2 y3 y4 hSz
       have kg := Lib.hid (fun w' (h : BarAt id w g bb q mm N1 ((g3, blk 16 m) :: (w.heap.size + 1, blk 16 m) :: (w.heap.size, opC o) :: L') w') => get_bar id w w' g bb q mm N1 _ o.p S (by omega) (by have := HZ.out; omega) h (o.t, 0) (by rw [Y.out.1, Y.out.2.1]; exact GP.out T F _ (by omega) (Nat.le_refl _) (Ci.EqB.refl _) HFI.out))
       go_wp2_with fail
       (clear r1 f1 i1 b1 l1 r2 f2 i2 b2 l2 r3 f3 i3 b3 l3 r4 f4 i4 b4 l4 r5 f5 i5 b5 l5 m12 m21 m13 m31 m14 m41 m15 m51 m23 m32 m24 m42 m25 m52 m34 m43 m35 m53 m45 m54)
       refine (kg.out _ HC.out).mono ?_; rintro e w7 ⟨rfl, hw⟩
       have HC := Lib.hid (HC.out.call hw)
       clear hw
       (obtain ⟨⟨r1, f1, i1, b1, l1⟩, ⟨r2, f2, i2, b2, l2⟩, ⟨r3, f3, i3, b3, l3⟩, ⟨r4, f4, i4, b4, l4⟩, ⟨r5, f5, i5, b5, l5⟩, m12, m21, m13, m31, m14, m41, m15, m51, m23, m32, m24, m42, m25, m52, m34, m43, m35, m53, m45, m54⟩ := St.facts5 (HC.out.pick [0, 1, 2, 3, 4] (by decide) rfl))
       go_wp2_with fail
       clear kg
       (clear r1 f1 i1 b1 l1 r2 f2 i2 b2 l2 r3 f3 i3 b3 l3 r4 f4 i4 b4 l4 r5 f5 i5 b5 l5 m12 m21 m13 m31 m14 m41 m15 m51 m23 m32 m24 m42 m25 m52 m34 m43 m35 m53 m45 m54)
       have kr := rotate_yes T F m t5
       obtain ⟨F1, hF1⟩ : ∃ F1, addB F T (deriveB m (T + 1)) = F1 := ⟨_, rfl⟩
       rw [hF1] at kr
       have KR := Lib.hid kr
       have HF1 := Lib.hid hF1
       have KQ := Lib.hid (fun w' (h : BarAt id w g bb q mm N1 ((g3, blk 16 m) :: (w.heap.size + 1, blk 16 m) :: (w.heap.size, opC o) :: L') w') => show Calls Tryz.prog 28 #[.pointer (some ⟨g, 0, none⟩)] w' fun r w'' => r = .returned (.agg (rg T F)) ∧ Below w'.heap.size w' w'' by
         have k := ring_yes h (by rw [Y.out.1]; omega)
         rw [Y.out.1, Y.out.2.1] at k
         exact k)
       clear kr hF1
       refine St.region_store1_last (w0 := w7) (L := []) 7 16 94 (rg 0 fun _ => 0) (rg (T + 1) F1) (.agg (rg (T + 1) F1)) 44 (St.nil w7) (by kernel_rfl) (by decide +kernel) (by decide +kernel) _ _ rfl rfl (fun w a => by simp [go_sem, ptrTo, hz2]) (stores_whole 44 _ _ (by rw [rg_size, rg_size]) (fun w => by simp [go_sem]) (rg_one _ _) rfl) (by rw [rg_size, rg_size]) (by simp) ?_
       (simp only [List.take])
       (apply walkB_step
        focus
          intro w0 hC
          have hB := HC.out.call hC.below
          have hC' := Lib.hid hC
          obtain ⟨⟨r1, f1, i1, b1, l1⟩, ⟨r2, f2, i2, b2, l2⟩, ⟨r3, f3, i3, b3, l3⟩, m12, m21, m13, m31, m23, m32⟩ := St.facts3 (hB.pick [0, 1, 2] (by decide) rfl)
          have hB' := Lib.hid hB
          clear hC hB
          go_simp
          first
            | with_reducible rfl
            | (skip
               go_at_call 28
               refine (KQ.out _ hB'.out).mono ?_
               rintro e w' ⟨rfl, hw⟩
               exact ⟨rfl, hw⟩)
            | (skip
               go_at_call 29
               refine (KR.out _).mono ?_
               rintro e w' ⟨rfl, hw⟩
               exact ⟨rfl, hw⟩)
        try simp only [Act.put, List.setIfInBounds_toArray, List.set])
       (apply walkB_step
        focus
          intro w0 hC
          have hB := HC.out.call hC.below
          have hC' := Lib.hid hC
          obtain ⟨⟨r1, f1, i1, b1, l1⟩, ⟨r2, f2, i2, b2, l2⟩, ⟨r3, f3, i3, b3, l3⟩, m12, m21, m13, m31, m23, m32⟩ := St.facts3 (hB.pick [0, 1, 2] (by decide) rfl)
          have hB' := Lib.hid hB
          clear hC hB
          go_simp
          first
            | with_reducible rfl
            | (skip
               go_at_call 28
               refine (KQ.out _ hB'.out).mono ?_
               rintro e w' ⟨rfl, hw⟩
               exact ⟨rfl, hw⟩)
            | (skip
               go_at_call 29
               refine (KR.out _).mono ?_
               rintro e w' ⟨rfl, hw⟩
               exact ⟨rfl, hw⟩)
        try simp only [Act.put, List.setIfInBounds_toArray, List.set])
       (apply walkB_step
        focus
          intro w0 hC
          have hB := HC.out.call hC.below
          have hC' := Lib.hid hC
          obtain ⟨⟨r1, f1, i1, b1, l1⟩, ⟨r2, f2, i2, b2, l2⟩, ⟨r3, f3, i3, b3, l3⟩, m12, m21, m13, m31, m23, m32⟩ := St.facts3 (hB.pick [0, 1, 2] (by decide) rfl)
          have hB' := Lib.hid hB
          clear hC hB
          go_simp
          first
            | with_reducible rfl
            | (skip
               go_at_call 28
               refine (KQ.out _ hB'.out).mono ?_
               rintro e w' ⟨rfl, hw⟩
               exact ⟨rfl, hw⟩)
            | (skip
               go_at_call 29
               refine (KR.out _).mono ?_
               rintro e w' ⟨rfl, hw⟩
               exact ⟨rfl, hw⟩)
        try simp only [Act.put, List.setIfInBounds_toArray, List.set])
       (apply walkB_step
        focus
          intro w0 hC
          have hB := HC.out.call hC.below
          have hC' := Lib.hid hC
          obtain ⟨⟨r1, f1, i1, b1, l1⟩, ⟨r2, f2, i2, b2, l2⟩, ⟨r3, f3, i3, b3, l3⟩, m12, m21, m13, m31, m23, m32⟩ := St.facts3 (hB.pick [0, 1, 2] (by decide) rfl)
          have hB' := Lib.hid hB
          clear hC hB
          go_simp
          first
            | with_reducible rfl
            | (skip
               go_at_call 28
               refine (KQ.out _ hB'.out).mono ?_
               rintro e w' ⟨rfl, hw⟩
               exact ⟨rfl, hw⟩)
            | (skip
               go_at_call 29
               refine (KR.out _).mono ?_
               rintro e w' ⟨rfl, hw⟩
               exact ⟨rfl, hw⟩)
        try simp only [Act.put, List.setIfInBounds_toArray, List.set])
       (apply walkB_step
        focus
          intro w0 hC
          have hB := HC.out.call hC.below
          have hC' := Lib.hid hC
          obtain ⟨⟨r1, f1, i1, b1, l1⟩, ⟨r2, f2, i2, b2, l2⟩, ⟨r3, f3, i3, b3, l3⟩, m12, m21, m13, m31, m23, m32⟩ := St.facts3 (hB.pick [0, 1, 2] (by decide) rfl)
          have hB' := Lib.hid hB
          clear hC hB
          go_simp
          first
            | with_reducible rfl
            | (skip
               go_at_call 28
               refine (KQ.out _ hB'.out).mono ?_
               rintro e w' ⟨rfl, hw⟩
               exact ⟨rfl, hw⟩)
            | (skip
               go_at_call 29
               refine (KR.out _).mono ?_
               rintro e w' ⟨rfl, hw⟩
               exact ⟨rfl, hw⟩)
        try simp only [Act.put, List.setIfInBounds_toArray, List.set])
       (apply walkB_step
        focus
          intro w0 hC
          have hB := HC.out.call hC.below
          have hC' := Lib.hid hC
          obtain ⟨⟨r1, f1, i1, b1, l1⟩, ⟨r2, f2, i2, b2, l2⟩, ⟨r3, f3, i3, b3, l3⟩, m12, m21, m13, m31, m23, m32⟩ := St.facts3 (hB.pick [0, 1, 2] (by decide) rfl)
          have hB' := Lib.hid hB
          clear hC hB
          go_simp
          first
            | with_reducible rfl
            | (skip
               go_at_call 28
               refine (KQ.out _ hB'.out).mono ?_
               rintro e w' ⟨rfl, hw⟩
               exact ⟨rfl, hw⟩)
            | (skip
               go_at_call 29
               refine (KR.out _).mono ?_
               rintro e w' ⟨rfl, hw⟩
               exact ⟨rfl, hw⟩)
        try simp only [Act.put, List.setIfInBounds_toArray, List.set])
       (apply walkB_step
        focus
          intro w0 hC
          have hB := HC.out.call hC.below
          have hC' := Lib.hid hC
          obtain ⟨⟨r1, f1, i1, b1, l1⟩, ⟨r2, f2, i2, b2, l2⟩, ⟨r3, f3, i3, b3, l3⟩, m12, m21, m13, m31, m23, m32⟩ := St.facts3 (hB.pick [0, 1, 2] (by decide) rfl)
          have hB' := Lib.hid hB
          clear hC hB
          go_simp
          first
            | with_reducible rfl
            | (skip
               go_at_call 28
               refine (KQ.out _ hB'.out).mono ?_
               rintro e w' ⟨rfl, hw⟩
               exact ⟨rfl, hw⟩)
            | (skip
               go_at_call 29
               refine (KR.out _).mono ?_
               rintro e w' ⟨rfl, hw⟩
               exact ⟨rfl, hw⟩)
        try simp only [Act.put, List.setIfInBounds_toArray, List.set])
       refine walkB_nil ⟨rfl, ?_⟩
       intro w8 g8 hC
       unfold ptrTo
       have HC := Lib.hid (HC.out.join hC)
       clear hC KR KQ
       (obtain ⟨⟨r1, f1, i1, b1, l1⟩, ⟨r2, f2, i2, b2, l2⟩, ⟨r3, f3, i3, b3, l3⟩, ⟨r4, f4, i4, b4, l4⟩, ⟨r5, f5, i5, b5, l5⟩, ⟨r6, f6, i6, b6, l6⟩, m12, m21, m13, m31, m14, m41, m15, m51, m16, m61, m23, m32, m24, m42, m25, m52, m26, m62, m34, m43, m35, m53, m36, m63, m45, m54, m46, m64, m56, m65⟩ := St.facts6 (HC.out.pick [0, 1, 2, 3, 4, 5] (by decide) rfl))
       go_wp2_with fail
       (clear r1 f1 i1 b1 l1 r2 f2 i2 b2 l2 r3 f3 i3 b3 l3 r4 f4 i4 b4 l4 r5 f5 i5 b5 l5 r6 f6 i6 b6 l6 m12 m21 m13 m31 m14 m41 m15 m51 m16 m61 m23 m32 m24 m42 m25 m52 m26 m62 m34 m43 m35 m53 m36 m63 m45 m54 m46 m64 m56 m65)
       have kt := turn_yes HC.out (T + 1) F1 (by rw [Y.out.1]; omega) (by omega) (by omega)
       obtain ⟨bc, hbc⟩ : ∃ b, ({ bb with n := T + 1, f := F1 } : Br) = b := ⟨_, rfl⟩
       rw [hbc] at kt
       have Z := Lib.hid (show bc.n = T + 1 ∧ bc.f = F1 ∧ bc.e = E ∧ bc.c = C + 1 by rw [← hbc]; exact ⟨rfl, rfl, Y.out.2.2⟩)
       clear hbc Y
       refine kt.mono ?_
       clear kt
       rintro e w9 ⟨rfl, hB⟩
       have HC := Lib.hid hB
       clear hB
       (obtain ⟨⟨r1, f1, i1, b1, l1⟩, ⟨r2, f2, i2, b2, l2⟩, ⟨r3, f3, i3, b3, l3⟩, ⟨r4, f4, i4, b4, l4⟩, ⟨r5, f5, i5, b5, l5⟩, ⟨r6, f6, i6, b6, l6⟩, m12, m21, m13, m31, m14, m41, m15, m51, m16, m61, m23, m32, m24, m42, m25, m52, m26, m62, m34, m43, m35, m53, m36, m63, m45, m54, m46, m64, m56, m65⟩ := St.facts6 (HC.out.pick [0, 1, 2, 3, 4, 5] (by decide) rfl))
       go_wp2_with fail
       have kg := get_bar id w _ g bc q mm N1 _ o.p S (by omega) (by have := HZ.out; omega) HC.out (o.t, 0) (by rw [Z.out.1, Z.out.2.1]; exact GP.out (T + 1) F1 _ (by omega) (by omega) (by rw [← HF1.out]; exact add_key _ _ _ _ (by omega)) HFI.out)
       (clear r1 f1 i1 b1 l1 r2 f2 i2 b2 l2 r3 f3 i3 b3 l3 r4 f4 i4 b4 l4 r5 f5 i5 b5 l5 r6 f6 i6 b6 l6 m12 m21 m13 m31 m14 m41 m15 m51 m16 m61 m23 m32 m24 m42 m25 m52 m26 m62 m34 m43 m35 m53 m36 m63 m45 m54 m46 m64 m56 m65)
       refine (kg).mono ?_; rintro e w10 ⟨rfl, hw⟩
       have HC := Lib.hid (HC.out.call hw)
       clear hw
       (obtain ⟨⟨r1, f1, i1, b1, l1⟩, ⟨r2, f2, i2, b2, l2⟩, ⟨r3, f3, i3, b3, l3⟩, ⟨r4, f4, i4, b4, l4⟩, ⟨r5, f5, i5, b5, l5⟩, ⟨r6, f6, i6, b6, l6⟩, m12, m21, m13, m31, m14, m41, m15, m51, m16, m61, m23, m32, m24, m42, m25, m52, m26, m62, m34, m43, m35, m53, m36, m63, m45, m54, m46, m64, m56, m65⟩ := St.facts6 (HC.out.pick [0, 1, 2, 3, 4, 5] (by decide) rfl))
       go_wp2_with fail
       clear kg
       (clear r1 f1 i1 b1 l1 r2 f2 i2 b2 l2 r3 f3 i3 b3 l3 r4 f4 i4 b4 l4 r5 f5 i5 b5 l5 r6 f6 i6 b6 l6 m12 m21 m13 m31 m14 m41 m15 m51 m16 m61 m23 m32 m24 m42 m25 m52 m26 m62 m34 m43 m35 m53 m36 m63 m45 m54 m46 m64 m56 m65)
       have te1 : takeE bc = 0 := takeE_yes bc (by rw [Z.out.1]; omega) (by rw [Z.out.2.2.1, Z.out.2.2.2]; exact hk2) (by rw [Z.out.2.2.2]; exact c2)
       have kl := lock_yes HC.out m te1
       have ku := fun w => unlock_any m (headS 0 (nonceS bc.e bc.c) ++ sealedR m bc.n bc.f bc.e bc.c) (by rw [entry_size _ _ _ (nonceS_size _ _)]; unfold sealedR; rw [sealS_size, ringT_size, Z.out.1]; omega) w
       rw [unlock_back m bc.n bc.f bc.e bc.c (by rw [Z.out.1]; omega) (by rw [Z.out.1]; omega)] at ku
       obtain ⟨LK, hLK⟩ : ∃ LK, headS 0 (nonceS bc.e bc.c) ++ sealedR m bc.n bc.f bc.e bc.c = LK := ⟨_, rfl⟩
       rw [hLK] at kl ku
       rw [Z.out.1, Z.out.2.1] at ku
       obtain ⟨G, hG⟩ : ∃ G, parseB ((ringT (T + 1) F1).extract 1 (ringT (T + 1) F1).size) ((T + 1) * 16) = G := ⟨_, rfl⟩
       rw [hG] at ku
       have KU := Lib.hid ku
       have HG := Lib.hid (show Ci.EqB (keyB G (T - 1)) (keyB F (T - 1)) by
         rw [← hG]
         refine (parse_key (T + 1) F1 (T - 1) (by omega)).trans ?_
         rw [← HF1.out]
         exact add_key _ _ _ _ (by omega))
       obtain ⟨bd, hbd⟩ : ∃ b, ({ bc with c := bc.c + 1 } : Br) = b := ⟨_, rfl⟩
       rw [hbd] at kl
       clear ku hLK hG hbd te1
       refine kl.mono ?_
       clear kl
       rintro e w11 ⟨rfl, hB⟩
       have HC := Lib.hid hB
       clear hB
       (obtain ⟨⟨r1, f1, i1, b1, l1⟩, ⟨r2, f2, i2, b2, l2⟩, ⟨r3, f3, i3, b3, l3⟩, ⟨r4, f4, i4, b4, l4⟩, ⟨r5, f5, i5, b5, l5⟩, ⟨r6, f6, i6, b6, l6⟩, m12, m21, m13, m31, m14, m41, m15, m51, m16, m61, m23, m32, m24, m42, m25, m52, m26, m62, m34, m43, m35, m53, m36, m63, m45, m54, m46, m64, m56, m65⟩ := St.facts6 (HC.out.pick [0, 1, 2, 3, 4, 5] (by decide) rfl))
       go_wp2_with fail
       (clear r1 f1 i1 b1 l1 r2 f2 i2 b2 l2 r3 f3 i3 b3 l3 r4 f4 i4 b4 l4 r5 f5 i5 b5 l5 r6 f6 i6 b6 l6 m12 m21 m13 m31 m14 m41 m15 m51 m16 m61 m23 m32 m24 m42 m25 m52 m26 m62 m34 m43 m35 m53 m36 m63 m45 m54 m46 m64 m56 m65)
       refine (seal_yes HC.out).mono ?_
       rintro e w12 ⟨rfl, hB⟩
       have HC := Lib.hid hB
       clear hB
       (obtain ⟨⟨r1, f1, i1, b1, l1⟩, ⟨r2, f2, i2, b2, l2⟩, ⟨r3, f3, i3, b3, l3⟩, ⟨r4, f4, i4, b4, l4⟩, ⟨r5, f5, i5, b5, l5⟩, ⟨r6, f6, i6, b6, l6⟩, m12, m21, m13, m31, m14, m41, m15, m51, m16, m61, m23, m32, m24, m42, m25, m52, m26, m62, m34, m43, m35, m53, m36, m63, m45, m54, m46, m64, m56, m65⟩ := St.facts6 (HC.out.pick [0, 1, 2, 3, 4, 5] (by decide) rfl))
       go_wp2_with fail
       have kg := get_bar id w _ g bd.shut q mm N1 _ o.p S (by omega) (by have := HZ.out; omega) HC.out (⟨#[]⟩, 12) (by unfold getO; exact if_pos rfl)
       (clear r1 f1 i1 b1 l1 r2 f2 i2 b2 l2 r3 f3 i3 b3 l3 r4 f4 i4 b4 l4 r5 f5 i5 b5 l5 r6 f6 i6 b6 l6 m12 m21 m13 m31 m14 m41 m15 m51 m16 m61 m23 m32 m24 m42 m25 m52 m26 m62 m34 m43 m35 m53 m36 m63 m45 m54 m46 m64 m56 m65)
       refine (kg).mono ?_; rintro e w13 ⟨rfl, hw⟩
       have HC := Lib.hid (HC.out.call hw)
       clear hw
       (obtain ⟨⟨r1, f1, i1, b1, l1⟩, ⟨r2, f2, i2, b2, l2⟩, ⟨r3, f3, i3, b3, l3⟩, ⟨r4, f4, i4, b4, l4⟩, ⟨r5, f5, i5, b5, l5⟩, ⟨r6, f6, i6, b6, l6⟩, m12, m21, m13, m31, m14, m41, m15, m51, m16, m61, m23, m32, m24, m42, m25, m52, m26, m62, m34, m43, m35, m53, m36, m63, m45, m54, m46, m64, m56, m65⟩ := St.facts6 (HC.out.pick [0, 1, 2, 3, 4, 5] (by decide) rfl))
       go_wp2_with fail
       (clear r1 f1 i1 b1 l1 r2 f2 i2 b2 l2 r3 f3 i3 b3 l3 r4 f4 i4 b4 l4 r5 f5 i5 b5 l5 r6 f6 i6 b6 l6 m12 m21 m13 m31 m14 m41 m15 m51 m16 m61 m23 m32 m24 m42 m25 m52 m26 m62 m34 m43 m35 m53 m36 m63 m45 m54 m46 m64 m56 m65)
       clear kg
       refine (KU.out _).mono ?_; rintro e w14 ⟨rfl, hw⟩
       have HC := Lib.hid (HC.out.call hw)
       clear hw
       (obtain ⟨⟨r1, f1, i1, b1, l1⟩, ⟨r2, f2, i2, b2, l2⟩, ⟨r3, f3, i3, b3, l3⟩, ⟨r4, f4, i4, b4, l4⟩, ⟨r5, f5, i5, b5, l5⟩, ⟨r6, f6, i6, b6, l6⟩, m12, m21, m13, m31, m14, m41, m15, m51, m16, m61, m23, m32, m24, m42, m25, m52, m26, m62, m34, m43, m35, m53, m36, m63, m45, m54, m46, m64, m56, m65⟩ := St.facts6 (HC.out.pick [0, 1, 2, 3, 4, 5] (by decide) rfl))
       go_wp2_with fail
       (clear r1 f1 i1 b1 l1 r2 f2 i2 b2 l2 r3 f3 i3 b3 l3 r4 f4 i4 b4 l4 r5 f5 i5 b5 l5 r6 f6 i6 b6 l6 m12 m21 m13 m31 m14 m41 m15 m51 m16 m61 m23 m32 m24 m42 m25 m52 m26 m62 m34 m43 m35 m53 m36 m63 m45 m54 m46 m64 m56 m65)
       have HC := Lib.hid ((HC.out.push (rg (T + 1) G) 44).sub (L' := (w14.heap.size, rg (T + 1) G) :: (w.heap.size, opC o) :: L') (.cons_cons _ (.cons _ (.cons _ (.cons _ (.cons_cons _ (List.Sublist.refl _)))))))
       generalize w14.heap.size = g9 at HC ⊢
       have v5 : (((T + 1 : Nat) : Int) != ((T + 1 : Nat) : Int)) = false := by simp
       refine (term_any (T + 1) G _).mono ?_; rintro e w15 ⟨rfl, hw⟩
       have HC := Lib.hid (HC.out.call hw)
       clear hw
       (obtain ⟨⟨r1, f1, i1, b1, l1⟩, ⟨r2, f2, i2, b2, l2⟩, ⟨r3, f3, i3, b3, l3⟩, ⟨r4, f4, i4, b4, l4⟩, m12, m21, m13, m31, m14, m41, m23, m32, m24, m42, m34, m43⟩ := St.facts4 (HC.out.pick [0, 1, 2, 3] (by decide) rfl))
       go_wp2_with fail
       (clear r1 f1 i1 b1 l1 r2 f2 i2 b2 l2 r3 f3 i3 b3 l3 r4 f4 i4 b4 l4 m12 m21 m13 m31 m14 m41 m23 m32 m24 m42 m34 m43)
       have hq := HC.out.st.at (g := q) (c := #[.map (some mm)]) (.tail _ (.head _))
       refine (notesFork_any q mm N1 _ hq.1 hq.2.2.1 hq.2.2.2.2 HC.out.mp).mono ?_
       rintro e w16 ⟨q2, m2, rfl, hs2, hm2, hle⟩
       have H2 := Lib.hid (Nat.le_trans HC.out.st.below.size hle)
       have HC := Lib.hid (HC.out.join hs2)
       have HM2 := Lib.hid hm2
       clear hs2 hm2 hle hq
       (obtain ⟨⟨r1, f1, i1, b1, l1⟩, ⟨r2, f2, i2, b2, l2⟩, ⟨r3, f3, i3, b3, l3⟩, ⟨r4, f4, i4, b4, l4⟩, ⟨r5, f5, i5, b5, l5⟩, m12, m21, m13, m31, m14, m41, m15, m51, m23, m32, m24, m42, m25, m52, m34, m43, m35, m53, m45, m54⟩ := St.facts5 (HC.out.pick [0, 1, 2, 3, 4] (by decide) rfl))
       go_wp2_with fail
       (clear r1 f1 i1 b1 l1 r2 f2 i2 b2 l2 r3 f3 i3 b3 l3 r4 f4 i4 b4 l4 r5 f5 i5 b5 l5 m12 m21 m13 m31 m14 m41 m15 m51 m23 m32 m24 m42 m25 m52 m34 m43 m35 m53 m45 m54)
       have kn := new_bar id (.pointer (some ⟨q2, 0, none⟩)) w _ q2 m2 N1 _ (fun _ => rfl) (HC.out.st.perm (List.perm_middle (l₁ := [_, _])).symm) HM2.out H2.out HC.out.sz
       rw [hkd] at kn
       refine kn.mono ?_
       clear kn
       rintro e w17 ⟨gc, rfl, hB⟩
       have HC := Lib.hid (hB.sub (L' := (g9, rg (T + 1) G) :: (w.heap.size, opC o) :: L') (.cons _ (.cons _ (List.Sublist.refl _))))
       clear hB HM2 H2
       (obtain ⟨⟨r1, f1, i1, b1, l1⟩, ⟨r2, f2, i2, b2, l2⟩, ⟨r3, f3, i3, b3, l3⟩, ⟨r4, f4, i4, b4, l4⟩, m12, m21, m13, m31, m14, m41, m23, m32, m24, m42, m34, m43⟩ := St.facts4 (HC.out.pick [0, 1, 2, 3] (by decide) rfl))
       go_wp2_with fail
       (clear r1 f1 i1 b1 l1 r2 f2 i2 b2 l2 r3 f3 i3 b3 l3 r4 f4 i4 b4 l4 m12 m21 m13 m31 m14 m41 m23 m32 m24 m42 m34 m43)
       refine (open_good HC.out (T + 1) G 1001 0 rfl (by omega) (by omega) hk3).mono ?_
       rintro e w18 ⟨rfl, hB⟩
       have HC := Lib.hid hB
       clear hB
       (obtain ⟨⟨r1, f1, i1, b1, l1⟩, ⟨r2, f2, i2, b2, l2⟩, ⟨r3, f3, i3, b3, l3⟩, ⟨r4, f4, i4, b4, l4⟩, m12, m21, m13, m31, m14, m41, m23, m32, m24, m42, m34, m43⟩ := St.facts4 (HC.out.pick [0, 1, 2, 3] (by decide) rfl))
       go_wp2_with fail
       have kg := get_bar id w _ gc _ q2 m2 N1 _ o.p S (by omega) (by have := HZ.out; omega) HC.out (o.t, 0) (GP.out (T + 1) G _ (by omega) (by omega) HG.out HFI.out)
       (clear r1 f1 i1 b1 l1 r2 f2 i2 b2 l2 r3 f3 i3 b3 l3 r4 f4 i4 b4 l4 m12 m21 m13 m31 m14 m41 m23 m32 m24 m42 m34 m43)
       refine (kg).mono ?_; rintro e w19 ⟨rfl, hw⟩
       have HC := Lib.hid (HC.out.call hw)
       clear hw
       (obtain ⟨⟨r1, f1, i1, b1, l1⟩, ⟨r2, f2, i2, b2, l2⟩, ⟨r3, f3, i3, b3, l3⟩, ⟨r4, f4, i4, b4, l4⟩, m12, m21, m13, m31, m14, m41, m23, m32, m24, m42, m34, m43⟩ := St.facts4 (HC.out.pick [0, 1, 2, 3] (by decide) rfl))
       go_wp2_with fail
       (clear r1 f1 i1 b1 l1 r2 f2 i2 b2 l2 r3 f3 i3 b3 l3 r4 f4 i4 b4 l4 m12 m21 m13 m31 m14 m41 m23 m32 m24 m42 m34 m43)
       refine (awake21_any _).mono ?_; rintro e w20 ⟨rfl, hw⟩
       have HC := Lib.hid (HC.out.call hw)
       clear hw
       go_wp2_with fail
       go_ret
       exact ⟨rfl, HC.out.st.below⟩)
end Go.Proofs.YtgaecjhghpkcoaaGreat
