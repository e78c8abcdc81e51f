/- BarrierDoes returns true. -/
import Derived.Test.YtgaecjhghpkcoaaGreatRb12
import Derived.Test.YtgaecjhghpkcoaaGreatMBar2
namespace Go.Proofs.YtgaecjhghpkcoaaGreat
open Go.RowKit
theorem run_loadVar_cells {P : Program} {w : World} (ty : TypeId) (a : Addr) (n : Nat) (cs : Array Value) (ha : (isAgg ty).run P w = .ok true w) (hs : (sizeOf ty).run P w = .ok n w) (hl : (loadCells a n).run P w = .ok cs w) : (loadVar ty a).run P w = .ok (.agg cs) w := by
  simp only [loadVar, Sem.run_bind, ha, Result.andThen_ok]
  simp only [if_true, Sem.run_bind, hs, Result.andThen_ok, hl, Sem.run_pure]
theorem run_loadAt_cells {P : Program} {w : World} (ty : TypeId) (a : Addr) (n : Nat) (cs : Array Value) (ha : (isAgg ty).run P w = .ok true w) (hs : (sizeOf ty).run P w = .ok n w) (hl : (loadCells a n).run P w = .ok cs w) : (Instr.loadAt ty (.pointer (some a))).run P w = .ok (.agg cs) w := by
  have h := run_loadVar_cells ty a n cs ha hs hl
  unfold Instr.loadAt Instr.sureAddr
  simp only [Sem.run_bind, Sem.run_pure, Result.andThen_ok, h]
attribute [local go_sem] B_xor B_or B_and
attribute [local go_sem] blk_set blk_size blk_get blk_getE upd_same oneCells_blk paste_blk cut_blk szOf
attribute [local go_sem high] paste_all cut_head
attribute [local go_sem] rowAt_alloc rowAt_drew rowAt_drewN isRow_alloc isRow_drew isRow_drewN freeRow_alloc freeRow_end freeRow_drew freeRow_drewN
attribute [local go_sem] setRow_alloc setRow_drew setRow_drewN setCell_drewN alloc_drewN rowAt_put isRow_setRow freeRow_put
attribute [local go_sem ↓] loadS_in storeS_in indexS_in copyS_in
attribute [local go_sem] loadS_row loadS_one storeS_row storeS_one indexS_blk copyS_rows run_equalIn_blk same_refl arrayAt_row
attribute [local go_sem] cell_row frozen_row st_setCell st_blk_ne stepAt stepUpon
attribute [local go_sem high] run_eql_blk run_neq_blk
attribute [local go_sem ↓] convBS_in
attribute [local go_sem] convBS_row convBS_nil allBytes_blk bytesOf_blk
attribute [local go_sem] rg_size rg_get0 rg_getE0 rg_ne rg_set0 rg_one rg_cut rg_key rg_put rg_paste part_rg0 part_rg1
attribute [local go_sem] size_cn agg_cn cn_size cn_get0 cn_get1 cn_getE0 cn_getE1 cn_set0 cn_set1 cn_ne cn_one cn_cut cn_paste
attribute [local go_sem] size_op agg_op opC_size opC_get0 opC_get1 opC_get2 opC_get3 opC_get4 opC_get5 opC_getE0 opC_getE1 opC_getE2 opC_getE3 opC_getE4 opC_getE5 opC_ne opC_one opC_cut opC_count
attribute [local go_sem] rb_size rb_get0 rb_get1 rb_get2 rb_get3 rb_get4 rb_getE0 rb_getE1 rb_getE2 rb_getE3 rb_getE4 rb_ne rb_one rb_cut rb_count rb_paste rb_set0 rb_set1 rb_set3 rb_set4 rb_build size_rb agg_rb

/-- one of a list, read whole -/
theorem OpsAt.whole {w : World} {ad : Addr} {M c i : Nat} {o : Nat → OpR} (h : OpsAt w (.slice (some ad) M c) M o) (hi : i < M) :
    (loadS 40 (.pointer (some (ad.add (i * 6))))).run Tryz.prog w = .ok (.agg (opC (o i))) w := by
  obtain ⟨h1, h2, h3⟩ : (ad.add (i * 6)).block < w.heap.size ∧ (ad.add (i * 6)).spot = none ∧ ∀ j, j < 6 → w.cell? ⟨(ad.add (i * 6)).block, (ad.add (i * 6)).off + j, none⟩ = (opC (o i))[j]? := by
    obtain ⟨a', c', he, h⟩ := h
    injection he with e1 _ _
    subst e1
    obtain ⟨ad', e, h1, h2, h3⟩ := h i hi
    cases e
    exact ⟨h1, h2, h3⟩
  obtain ⟨⟨x, y, z⟩, hX⟩ : ∃ X, ad.add (i * 6) = X := ⟨_, rfl⟩
  rw [hX] at h1 h2 h3 ⊢
  dsimp only at h1 h2 h3
  subst h2
  have hl : (opC (o i)).toList.length = 6 := by simp [opC_size]
  have k := run_loadCells_list (P := Tryz.prog) w ⟨x, y, none⟩ (opC (o i)).toList (fun j v hv => by
    rw [add_mid, h3 j (by have := (List.getElem?_eq_some_iff.1 hv).1; omega)]
    rw [Array.getElem?_toList] at hv
    exact hv)
  rw [hl, Array.toArray_toList] at k
  exact run_loadAt_cells _ _ _ _ (agg_op w) (size_op w) k
def opZero : OpR := ⟨0, ⟨#[]⟩, ⟨#[]⟩, 0, 0, 0⟩
theorem op_zero : #[Value.int .u8 0, .string ⟨#[]⟩, .string ⟨#[]⟩, .int .u8 0, .int .u64 0, .int .u64 0] = opC opZero := rfl
theorem opC_paste (a b : OpR) : paste (opC a) 0 (opC b) = opC b := paste_whole _ _ (by rw [opC_size, opC_size])
attribute [local go_sem] opC_paste
theorem rem_nat (x : UInt8) (k : Nat) (hk : 0 < k) : ∃ t : Nat, t < k ∧ (B x).tmod (k : Int) = (t : Int) := by
  refine ⟨x.toNat % k, Nat.mod_lt _ hk, ?_⟩
  unfold B
  rw [Int.tmod_eq_emod_of_nonneg (by omega)]
  rfl
theorem rem9 (x : UInt8) : (B x).tmod 9 = 0 ∨ (B x).tmod 9 = 1 ∨ (B x).tmod 9 = 2 ∨ (B x).tmod 9 = 3 ∨ (B x).tmod 9 = 4 ∨ (B x).tmod 9 = 5 ∨ (B x).tmod 9 = 6 ∨ (B x).tmod 9 = 7 ∨ (B x).tmod 9 = 8 := by
  obtain ⟨t, h, e⟩ := rem_nat x 9 (by omega)
  have e : (B x).tmod 9 = (t : Int) := e
  omega
theorem bd_order {x1 x2 x3 x4 : Nat × Array Value} {L : List (Nat × Array Value)} : (x3 :: x4 :: x1 :: x2 :: L).Perm (x1 :: x2 :: x3 :: x4 :: L) :=
  List.perm_append_comm_assoc [x3, x4] [x1, x2] L
set_option maxRecDepth 100000 in
set_option maxHeartbeats 8000000 in
theorem barrierDoes_walk (v : Value) (M : Nat) (o : Nat → OpR) (m : Nat → UInt8) (ideal : Bool) (w : World) (hO : OpsAt w v M o) : Calls Tryz.prog 3 #[.bool ideal, .agg (blk 16 m), v] w fun e w' => e = .returned (.bool true) ∧ Below w.heap.size w w' := by
  have hz2 := zero97
  have hz3 := cn_zero
  have hz4 := rb_zero
  obtain ⟨a, c, rfl, _⟩ := id hO
  have HO := Lib.hid hO
  have HC := Lib.hid ((St.nil w).pushA (blk 16 m) 22 rfl)
  clear hO
  go_enter Tryz.func3, Tryz.ntmps3
  (obtain ⟨r1, f1, i1, b1, l1⟩ := St.facts1 (HC.out.pick [0] (by decide) rfl))
  go_wp2_with fail
  (clear r1 f1 i1 b1 l1)
  by_cases hov : overP M o
  · refine (over21_any _ M o true ⟨fun _ => hov, fun _ => rfl⟩ _ (HO.out.call HC.out.below)).mono ?_; rintro e w1 ⟨rfl, hw⟩
    have HC := Lib.hid (HC.out.call hw)
    clear hw
    go_wp2_with fail
    refine (awake21_any _).mono ?_; rintro e w2 ⟨rfl, hw⟩
    have HC := Lib.hid (HC.out.call hw)
    clear hw
    go_wp2_with fail
    go_ret
    exact ⟨rfl, HC.out.below⟩
  · refine (over21_any _ M o false ⟨fun h => Bool.noConfusion h, fun h => (hov h).elim⟩ _ (HO.out.call HC.out.below)).mono ?_; rintro e w1 ⟨rfl, hw⟩
    have HC := Lib.hid (HC.out.call hw)
    have m16 : M ≤ 16 := Nat.le_of_not_lt fun h => hov (.inl h)
    have HS := Lib.hid (show ∀ i, i < M → (o i).p.size ≤ 40 ∧ (o i).t.size ≤ 80 from fun i hi => ⟨Nat.le_of_not_lt fun h => hov (.inr ⟨i, hi, .inl h⟩), Nat.le_of_not_lt fun h => hov (.inr ⟨i, hi, .inr h⟩)⟩)
    clear hw hov
    go_upto_if 23 with fail
    go_cut [7] from 7 to 7 (fun k wx => k = .int .u8 ((kdOf ideal : Nat) : Int) ∧ Hid (wx = w1))
    case first =>
      cases ideal
      · go_wp2_with fail
        go_meet
        exact ⟨rfl, Lib.hid rfl⟩
      · go_wp2_with fail
        go_meet
        exact ⟨rfl, Lib.hid rfl⟩
    case rest =>
      obtain ⟨rfl, hx⟩ := hcut
      obtain rfl := hx.out
      clear hx
      go_wp2_with fail
      refine (newNotes_any _ w _ [(w.heap.size, blk 16 m)] (St.sk HC.out)).mono ?_; rintro e w2 ⟨q, mm, rfl, hs, hM, h0⟩
      have HC := Lib.hid hs.toSt
      have HM := Lib.hid hM
      have H0 := Lib.hid h0
      clear hs hM h0
      go_wp2_with fail
      refine (new_bar ideal (.pointer (some ⟨q, 0, none⟩)) w _ q mm [] _ (fun _ => rfl) HC.out HM.out H0.out (fun _ _ h => by cases h)).mono ?_; rintro e w3 ⟨g, rfl, hB⟩
      have HC := Lib.hid hB
      clear hB HM H0
      have hzr : (rbC rbZero).setIfInBounds 0 (.bool ideal) = rbC ⟨ideal, none, 0, 0, 0, 0, none, 0, 0⟩ := rb_set0 rbZero ideal
      go_upto_region 8 with fail
      have HC := Lib.hid (HC.out.push (rbC ⟨ideal, none, 0, 0, 0, 0, none, 0, 0⟩) 38)
      generalize w3.alloc (Obj.cells (rbC ⟨ideal, none, 0, 0, 0, 0, none, 0, 0⟩) 38) = w4 at HC ⊢
      generalize w3.heap.size = gr at HC ⊢
      go_wp2_with fail
      go_loopw [8, 11, 12] (fun p last i wr => ∃ j : Nat, j ≤ M ∧ i = .int .i64 (j : Int) ∧ ∃ g b N r nl L S, p = .pointer (some ⟨g, 0, none⟩) ∧ last = .string S ∧ Hid (S.size ≤ 200) ∧ Hid (nl.length ≤ j) ∧ Hid (Twin ideal b N r nl L) ∧ Hid (BarAt ideal w g b q mm N ((gr, rbC r) :: (w.heap.size, blk 16 m) :: L) wr)) (fun _ _ i _ => M - (intOf i).toNat)
      case atStart => exact ⟨0, by omega, rfl, g, _, [], _, [], [], ⟨#[]⟩, rfl, rfl, Lib.hid (Nat.zero_le _), Lib.hid (Nat.zero_le _), Lib.hid (Twin.fresh ideal _ _ []), HC⟩
      case round =>
        clear HC
        obtain ⟨j, hj, rfl, g, b, N, r, nl, L, S, rfl, rfl, HSS, HNL, HT, HC⟩ := hrel
        by_cases hlt : j < M
        · have d1 : (j : Int) < (M : Int) := by omega
          have hcl := (HO.out.call HC.out.st.below)
          obtain ⟨ad, rfl⟩ : ∃ ad, a = some ad := by
            obtain ⟨a', c', he, h⟩ := hcl
            injection he with e1 _ _
            obtain ⟨ad, e2, _⟩ := h j hlt
            exact ⟨ad, e1.trans e2⟩
          have hld := hcl.whole hlt
          clear hcl
          obtain ⟨hp, ht⟩ := HS.out j hlt
          have HP := Lib.hid hp
          have HTX := Lib.hid ht
          clear hp ht
          obtain ⟨t, ht5, hte⟩ := rem_nat (o j).m 5 (by omega)
          rw [show ((5 : Nat) : Int) = 5 from rfl] at hte
          have t6 : t ≤ 6 := by omega
          have hz5 := op_zero
          (obtain ⟨⟨r1, f1, i1, b1, l1⟩, ⟨r2, f2, i2, b2, l2⟩, m12, m21⟩ := St.facts2 (HC.out.pick [2, 3] (by decide) rfl))
          go_upto_region 15 with fail
          (clear r1 f1 i1 b1 l1 r2 f2 i2 b2 l2 m12 m21)
          clear hld
          have HC := Lib.hid (HC.out.push (opC (o j)) 40)
          generalize wr.alloc (Obj.cells (opC (o j)) 40) = w5 at HC ⊢
          generalize wr.heap.size = go at HC ⊢
          have HC := Lib.hid (HC.out.perm (L' := (gr, rbC r) :: (w.heap.size, blk 16 m) :: (go, opC (o j)) :: L) (List.perm_append_comm_assoc [_, _] [_] L))
          obtain ⟨⟨r1, f1, i1, b1, l1⟩, ⟨r2, f2, i2, b2, l2⟩, ⟨r3, f3, i3, b3, l3⟩, m12, m21, m13, m31, m23, m32⟩ := St.facts3 (HC.out.pick [2, 3, 4] (by decide) rfl)
          go_wp2_with fail
          clear r1 f1 i1 b1 l1 r2 f2 i2 b2 l2 r3 f3 i3 b3 l3 m12 m21 m13 m31 m23 m32 hz5 hte
          refine (ringLaw_any m t t6 _).mono ?_; rintro e w6 ⟨dv, Lx, rfl, hk, hs⟩
          obtain ⟨F, hF⟩ : ∃ F, ringF m t = F := ⟨_, rfl⟩
          rw [hF] at hk ⊢
          clear hF
          obtain ⟨da, dc, rfl⟩ := hk.form
          have HC := Lib.hid ((HC.out.join hs).perm (L' := (gr, rbC r) :: (w.heap.size, blk 16 m) :: (go, opC (o j)) :: (Lx ++ L)) (List.perm_append_comm_assoc [_, _, _] Lx L))
          have HT := Lib.hid (HT.out.mono (L' := Lx ++ L) fun x hx => List.mem_append.2 (.inr hx))
          have HK := Lib.hid (hk.mono (L' := Lx ++ L) fun x hx => List.mem_append.2 (.inl hx))
          clear hk hs
          generalize Lx ++ L = L1 at HC HT HK
          go_upto_region 18 with fail
          have HC := Lib.hid ((HC.out.push (rg t F) 44).perm (L' := (gr, rbC r) :: (w.heap.size, blk 16 m) :: (go, opC (o j)) :: (w6.heap.size, rg t F) :: L1) (List.perm_append_comm_assoc [_, _, _] [_] L1))
          generalize w6.alloc (Obj.cells (rg t F) 44) = w7 at HC ⊢
          generalize w6.heap.size = ga at HC ⊢
          (obtain ⟨⟨r1, f1, i1, b1, l1⟩, ⟨r2, f2, i2, b2, l2⟩, ⟨r3, f3, i3, b3, l3⟩, ⟨r4, f4, i4, b4, l4⟩, m12, m21, m13, m31, m14, m41, m23, m32, m24, m42, m34, m43⟩ := St.facts4 (HC.out.pick [2, 3, 4, 5] (by decide) rfl))
          go_upto_block 2 with fail
          go_cut [8, 11, 14, 15, 16, 17] from 59 to 168 (fun p last x y f e wx => ∃ g' b' N' r' nl' L' S' X E, p = .pointer (some ⟨g', 0, none⟩) ∧ last = .string S' ∧ x = .string X ∧ y = .string X ∧ f = .int .i64 ((E : Nat) : Int) ∧ e = .int .i64 ((E : Nat) : Int) ∧ Hid (S'.size ≤ 200) ∧ Hid (nl'.length ≤ j + 1) ∧ Hid (Twin ideal b' N' r' nl' L') ∧ Hid (BarAt ideal w g' b' q mm N' ((gr, rbC r') :: (w.heap.size, blk 16 m) :: L') wx))
          case first =>
            rcases rem9 (o j).k with hk | hk | hk | hk | hk | hk | hk | hk | hk
            · go_wp2_with fail
              ((clear r1 f1 i1 b1 l1 r2 f2 i2 b2 l2 r3 f3 i3 b3 l3 r4 f4 i4 b4 l4 m12 m21 m13 m31 m14 m41 m23 m32 m24 m42 m34 m43)
               refine (put_bar ideal w _ g b q mm N _ (o j).p (o j).t (by have := HP.out; omega) (by have := HTX.out; omega) HC.out).mono ?_; rintro e w8 ⟨rfl, hB, _⟩
               have HC := Lib.hid hB
               clear hB
               (obtain ⟨⟨r1, f1, i1, b1, l1⟩, ⟨r2, f2, i2, b2, l2⟩, ⟨r3, f3, i3, b3, l3⟩, ⟨r4, f4, i4, b4, l4⟩, m12, m21, m13, m31, m14, m41, m23, m32, m24, m42, m34, m43⟩ := St.facts4 (HC.out.pick [2, 3, 4, 5] (by decide) rfl))
               go_wp2_with fail
               (clear r1 f1 i1 b1 l1 r2 f2 i2 b2 l2 r3 f3 i3 b3 l3 r4 f4 i4 b4 l4 m12 m21 m13 m31 m14 m41 m23 m32 m24 m42 m34 m43)
               refine (HT.out.put (o j).p (o j).t (by have := HP.out; omega) (by have := HTX.out; omega) (by have := HNL.out; omega) HC.out.st.tail.tail.tail.tail.tail.tail).mono ?_; rintro e w9 ⟨r', nl', Ly, rfl, ht, hn, hs⟩
               have HC := Lib.hid ((HC.out.join hs).perm (L' := (gr, rbC r) :: (w.heap.size, blk 16 m) :: (go, opC (o j)) :: (ga, rg t F) :: (Ly ++ L1)) (List.perm_append_comm_assoc [_, _, _, _] Ly L1))
               (obtain ⟨⟨r1, f1, i1, b1, l1⟩, ⟨r2, f2, i2, b2, l2⟩, ⟨r3, f3, i3, b3, l3⟩, ⟨r4, f4, i4, b4, l4⟩, m12, m21, m13, m31, m14, m41, m23, m32, m24, m42, m34, m43⟩ := St.facts4 (HC.out.pick [2, 3, 4, 5] (by decide) rfl))
               go_wp2_with fail
               (clear r1 f1 i1 b1 l1 r2 f2 i2 b2 l2 r3 f3 i3 b3 l3 r4 f4 i4 b4 l4 m12 m21 m13 m31 m14 m41 m23 m32 m24 m42 m34 m43)
               go_meet
               exact ⟨g, b.took, putM ideal b (o j).p (o j).t N, r', nl', (go, opC (o j)) :: (ga, rg t F) :: (Ly ++ L1), putS ideal b (o j).p (o j).t, putS ideal b (o j).p (o j).t, takeE b, rfl, rfl, rfl, rfl, rfl, rfl, Lib.hid (by have := putS_size ideal b (o j).p (o j).t; have := HTX.out; omega), Lib.hid (by have := HNL.out; omega), Lib.hid (ht.mono fun x hx => .tail _ (.tail _ hx)), Lib.hid (HC.out.set (rbC r') (by rw [rb_size, rb_size]))⟩)
            · go_wp2_with fail
              ((clear r1 f1 i1 b1 l1 r2 f2 i2 b2 l2 r3 f3 i3 b3 l3 r4 f4 i4 b4 l4 m12 m21 m13 m31 m14 m41 m23 m32 m24 m42 m34 m43)
               refine (put_bar ideal w _ g b q mm N _ (o j).p (o j).t (by have := HP.out; omega) (by have := HTX.out; omega) HC.out).mono ?_; rintro e w8 ⟨rfl, hB, _⟩
               have HC := Lib.hid hB
               clear hB
               (obtain ⟨⟨r1, f1, i1, b1, l1⟩, ⟨r2, f2, i2, b2, l2⟩, ⟨r3, f3, i3, b3, l3⟩, ⟨r4, f4, i4, b4, l4⟩, m12, m21, m13, m31, m14, m41, m23, m32, m24, m42, m34, m43⟩ := St.facts4 (HC.out.pick [2, 3, 4, 5] (by decide) rfl))
               go_wp2_with fail
               (clear r1 f1 i1 b1 l1 r2 f2 i2 b2 l2 r3 f3 i3 b3 l3 r4 f4 i4 b4 l4 m12 m21 m13 m31 m14 m41 m23 m32 m24 m42 m34 m43)
               refine (HT.out.put (o j).p (o j).t (by have := HP.out; omega) (by have := HTX.out; omega) (by have := HNL.out; omega) HC.out.st.tail.tail.tail.tail.tail.tail).mono ?_; rintro e w9 ⟨r', nl', Ly, rfl, ht, hn, hs⟩
               have HC := Lib.hid ((HC.out.join hs).perm (L' := (gr, rbC r) :: (w.heap.size, blk 16 m) :: (go, opC (o j)) :: (ga, rg t F) :: (Ly ++ L1)) (List.perm_append_comm_assoc [_, _, _, _] Ly L1))
               (obtain ⟨⟨r1, f1, i1, b1, l1⟩, ⟨r2, f2, i2, b2, l2⟩, ⟨r3, f3, i3, b3, l3⟩, ⟨r4, f4, i4, b4, l4⟩, m12, m21, m13, m31, m14, m41, m23, m32, m24, m42, m34, m43⟩ := St.facts4 (HC.out.pick [2, 3, 4, 5] (by decide) rfl))
               go_wp2_with fail
               (clear r1 f1 i1 b1 l1 r2 f2 i2 b2 l2 r3 f3 i3 b3 l3 r4 f4 i4 b4 l4 m12 m21 m13 m31 m14 m41 m23 m32 m24 m42 m34 m43)
               go_meet
               exact ⟨g, b.took, putM ideal b (o j).p (o j).t N, r', nl', (go, opC (o j)) :: (ga, rg t F) :: (Ly ++ L1), putS ideal b (o j).p (o j).t, putS ideal b (o j).p (o j).t, takeE b, rfl, rfl, rfl, rfl, rfl, rfl, Lib.hid (by have := putS_size ideal b (o j).p (o j).t; have := HTX.out; omega), Lib.hid (by have := HNL.out; omega), Lib.hid (ht.mono fun x hx => .tail _ (.tail _ hx)), Lib.hid (HC.out.set (rbC r') (by rw [rb_size, rb_size]))⟩)
            · obtain ⟨⟨R, E⟩, hR⟩ : ∃ R, getO ideal b.n b.f (fun k => findN k N) (o j).p S = R := ⟨_, rfl⟩
              have KG := Lib.hid hR
              clear hR
              go_wp2_with fail
              (clear r1 f1 i1 b1 l1 r2 f2 i2 b2 l2 r3 f3 i3 b3 l3 r4 f4 i4 b4 l4 m12 m21 m13 m31 m14 m41 m23 m32 m24 m42 m34 m43)
              refine (get_bar ideal w _ g b q mm N _ (o j).p S (by have := HP.out; omega) (by have := HSS.out; omega) HC.out _ KG.out).mono ?_; rintro e w8 ⟨rfl, hw⟩
              (have HC := Lib.hid (HC.out.call hw)
               clear hw
               (obtain ⟨⟨r1, f1, i1, b1, l1⟩, ⟨r2, f2, i2, b2, l2⟩, ⟨r3, f3, i3, b3, l3⟩, ⟨r4, f4, i4, b4, l4⟩, m12, m21, m13, m31, m14, m41, m23, m32, m24, m42, m34, m43⟩ := St.facts4 (HC.out.pick [2, 3, 4, 5] (by decide) rfl))
               go_wp2_with fail
               (clear r1 f1 i1 b1 l1 r2 f2 i2 b2 l2 r3 f3 i3 b3 l3 r4 f4 i4 b4 l4 m12 m21 m13 m31 m14 m41 m23 m32 m24 m42 m34 m43))
              refine (HT.out.get (o j).p S (by have := HP.out; omega) (by have := HSS.out; omega) (by have := HNL.out; omega) HC.out.st.tail.tail.tail.tail.tail.tail _ KG.out).mono ?_; rintro e w9 ⟨rfl, hw⟩
              (have HC := Lib.hid (HC.out.call hw)
               clear hw
               (obtain ⟨⟨r1, f1, i1, b1, l1⟩, ⟨r2, f2, i2, b2, l2⟩, ⟨r3, f3, i3, b3, l3⟩, ⟨r4, f4, i4, b4, l4⟩, m12, m21, m13, m31, m14, m41, m23, m32, m24, m42, m34, m43⟩ := St.facts4 (HC.out.pick [2, 3, 4, 5] (by decide) rfl))
               go_wp2_with fail
               (clear r1 f1 i1 b1 l1 r2 f2 i2 b2 l2 r3 f3 i3 b3 l3 r4 f4 i4 b4 l4 m12 m21 m13 m31 m14 m41 m23 m32 m24 m42 m34 m43))
              go_meet
              exact ⟨g, b, N, r, nl, _, S, R, E, rfl, rfl, rfl, rfl, rfl, rfl, HSS, Lib.hid (by have := HNL.out; omega), Lib.hid (HT.out.mono fun x hx => .tail _ (.tail _ hx)), HC⟩
            · obtain ⟨⟨R, E⟩, hR⟩ : ∃ R, getO ideal b.n b.f (fun k => findN k N) (o j).p (o j).t = R := ⟨_, rfl⟩
              have KG := Lib.hid hR
              clear hR
              go_wp2_with fail
              (clear r1 f1 i1 b1 l1 r2 f2 i2 b2 l2 r3 f3 i3 b3 l3 r4 f4 i4 b4 l4 m12 m21 m13 m31 m14 m41 m23 m32 m24 m42 m34 m43)
              refine (get_bar ideal w _ g b q mm N _ (o j).p (o j).t (by have := HP.out; omega) (by have := HTX.out; omega) HC.out _ KG.out).mono ?_; rintro e w8 ⟨rfl, hw⟩
              (have HC := Lib.hid (HC.out.call hw)
               clear hw
               (obtain ⟨⟨r1, f1, i1, b1, l1⟩, ⟨r2, f2, i2, b2, l2⟩, ⟨r3, f3, i3, b3, l3⟩, ⟨r4, f4, i4, b4, l4⟩, m12, m21, m13, m31, m14, m41, m23, m32, m24, m42, m34, m43⟩ := St.facts4 (HC.out.pick [2, 3, 4, 5] (by decide) rfl))
               go_wp2_with fail
               (clear r1 f1 i1 b1 l1 r2 f2 i2 b2 l2 r3 f3 i3 b3 l3 r4 f4 i4 b4 l4 m12 m21 m13 m31 m14 m41 m23 m32 m24 m42 m34 m43))
              refine (HT.out.get (o j).p (o j).t (by have := HP.out; omega) (by have := HTX.out; omega) (by have := HNL.out; omega) HC.out.st.tail.tail.tail.tail.tail.tail _ KG.out).mono ?_; rintro e w9 ⟨rfl, hw⟩
              (have HC := Lib.hid (HC.out.call hw)
               clear hw
               (obtain ⟨⟨r1, f1, i1, b1, l1⟩, ⟨r2, f2, i2, b2, l2⟩, ⟨r3, f3, i3, b3, l3⟩, ⟨r4, f4, i4, b4, l4⟩, m12, m21, m13, m31, m14, m41, m23, m32, m24, m42, m34, m43⟩ := St.facts4 (HC.out.pick [2, 3, 4, 5] (by decide) rfl))
               go_wp2_with fail
               (clear r1 f1 i1 b1 l1 r2 f2 i2 b2 l2 r3 f3 i3 b3 l3 r4 f4 i4 b4 l4 m12 m21 m13 m31 m14 m41 m23 m32 m24 m42 m34 m43))
              go_meet
              exact ⟨g, b, N, r, nl, _, S, R, E, rfl, rfl, rfl, rfl, rfl, rfl, HSS, Lib.hid (by have := HNL.out; omega), Lib.hid (HT.out.mono fun x hx => .tail _ (.tail _ hx)), HC⟩
            · go_wp2_with fail
              (clear r1 f1 i1 b1 l1 r2 f2 i2 b2 l2 r3 f3 i3 b3 l3 r4 f4 i4 b4 l4 m12 m21 m13 m31 m14 m41 m23 m32 m24 m42 m34 m43)
              refine (open_bar HC.out t F (o j).e (o j).n t6).mono ?_; rintro e w8 ⟨rfl, hB⟩
              have HC := Lib.hid hB
              clear hB
              (obtain ⟨⟨r1, f1, i1, b1, l1⟩, ⟨r2, f2, i2, b2, l2⟩, ⟨r3, f3, i3, b3, l3⟩, ⟨r4, f4, i4, b4, l4⟩, m12, m21, m13, m31, m14, m41, m23, m32, m24, m42, m34, m43⟩ := St.facts4 (HC.out.pick [2, 3, 4, 5] (by decide) rfl))
              go_wp2_with fail
              (clear r1 f1 i1 b1 l1 r2 f2 i2 b2 l2 r3 f3 i3 b3 l3 r4 f4 i4 b4 l4 m12 m21 m13 m31 m14 m41 m23 m32 m24 m42 m34 m43)
              refine (twin_open HT.out da t dc (o j).e (o j).n _).mono ?_; rintro e w9 ⟨rfl, hw⟩
              (have HC := Lib.hid (HC.out.call hw)
               clear hw
               (obtain ⟨⟨r1, f1, i1, b1, l1⟩, ⟨r2, f2, i2, b2, l2⟩, ⟨r3, f3, i3, b3, l3⟩, ⟨r4, f4, i4, b4, l4⟩, m12, m21, m13, m31, m14, m41, m23, m32, m24, m42, m34, m43⟩ := St.facts4 (HC.out.pick [2, 3, 4, 5] (by decide) rfl))
               go_wp2_with fail
               (clear r1 f1 i1 b1 l1 r2 f2 i2 b2 l2 r3 f3 i3 b3 l3 r4 f4 i4 b4 l4 m12 m21 m13 m31 m14 m41 m23 m32 m24 m42 m34 m43))
              go_meet
              exact ⟨g, b.opened t F (o j).e (o j).n, N, r.opened da t dc (o j).e (o j).n, nl, (go, opC (o j)) :: (ga, rg t F) :: L1, S, ⟨#[]⟩, openE b t (o j).e (o j).n, rfl, rfl, rfl, rfl, rfl, rfl, HSS, Lib.hid (by have := HNL.out; omega), Lib.hid ((HT.out.opened da t dc F (o j).e (o j).n t6 HK.out).mono fun x hx => .tail _ (.tail _ hx)), Lib.hid (HC.out.set (rbC (r.opened da t dc (o j).e (o j).n)) (by rw [rb_size, rb_size]))⟩
            · go_wp2_with fail
              (clear r1 f1 i1 b1 l1 r2 f2 i2 b2 l2 r3 f3 i3 b3 l3 r4 f4 i4 b4 l4 m12 m21 m13 m31 m14 m41 m23 m32 m24 m42 m34 m43)
              refine (seal_yes HC.out).mono ?_; rintro e w8 ⟨rfl, hB⟩
              have HC := Lib.hid hB
              clear hB
              (obtain ⟨⟨r1, f1, i1, b1, l1⟩, ⟨r2, f2, i2, b2, l2⟩, ⟨r3, f3, i3, b3, l3⟩, ⟨r4, f4, i4, b4, l4⟩, m12, m21, m13, m31, m14, m41, m23, m32, m24, m42, m34, m43⟩ := St.facts4 (HC.out.pick [2, 3, 4, 5] (by decide) rfl))
              go_wp2_with fail
              (clear r1 f1 i1 b1 l1 r2 f2 i2 b2 l2 r3 f3 i3 b3 l3 r4 f4 i4 b4 l4 m12 m21 m13 m31 m14 m41 m23 m32 m24 m42 m34 m43)
              refine (refSeal21 r _).mono ?_; rintro e w9 ⟨rfl, hw⟩
              (have HC := Lib.hid (HC.out.call hw)
               clear hw
               (obtain ⟨⟨r1, f1, i1, b1, l1⟩, ⟨r2, f2, i2, b2, l2⟩, ⟨r3, f3, i3, b3, l3⟩, ⟨r4, f4, i4, b4, l4⟩, m12, m21, m13, m31, m14, m41, m23, m32, m24, m42, m34, m43⟩ := St.facts4 (HC.out.pick [2, 3, 4, 5] (by decide) rfl))
               go_wp2_with fail
               (clear r1 f1 i1 b1 l1 r2 f2 i2 b2 l2 r3 f3 i3 b3 l3 r4 f4 i4 b4 l4 m12 m21 m13 m31 m14 m41 m23 m32 m24 m42 m34 m43))
              go_meet
              exact ⟨g, b.shut, N, r.shut, nl, (go, opC (o j)) :: (ga, rg t F) :: L1, S, ⟨#[]⟩, 0, rfl, rfl, rfl, rfl, rfl, rfl, HSS, Lib.hid (by have := HNL.out; omega), Lib.hid (HT.out.shut.mono fun x hx => .tail _ (.tail _ hx)), Lib.hid (HC.out.set (rbC r.shut) (by rw [rb_size, rb_size]))⟩
            · go_wp2_with fail
              (clear r1 f1 i1 b1 l1 r2 f2 i2 b2 l2 r3 f3 i3 b3 l3 r4 f4 i4 b4 l4 m12 m21 m13 m31 m14 m41 m23 m32 m24 m42 m34 m43)
              refine (turn_bar HC.out t F t6).mono ?_; rintro e w8 ⟨rfl, hB⟩
              have HC := Lib.hid hB
              clear hB
              (obtain ⟨⟨r1, f1, i1, b1, l1⟩, ⟨r2, f2, i2, b2, l2⟩, ⟨r3, f3, i3, b3, l3⟩, ⟨r4, f4, i4, b4, l4⟩, m12, m21, m13, m31, m14, m41, m23, m32, m24, m42, m34, m43⟩ := St.facts4 (HC.out.pick [2, 3, 4, 5] (by decide) rfl))
              go_wp2_with fail
              (clear r1 f1 i1 b1 l1 r2 f2 i2 b2 l2 r3 f3 i3 b3 l3 r4 f4 i4 b4 l4 m12 m21 m13 m31 m14 m41 m23 m32 m24 m42 m34 m43)
              refine (twin_turn HT.out da t dc _).mono ?_; rintro e w9 ⟨rfl, hw⟩
              (have HC := Lib.hid (HC.out.call hw)
               clear hw
               (obtain ⟨⟨r1, f1, i1, b1, l1⟩, ⟨r2, f2, i2, b2, l2⟩, ⟨r3, f3, i3, b3, l3⟩, ⟨r4, f4, i4, b4, l4⟩, m12, m21, m13, m31, m14, m41, m23, m32, m24, m42, m34, m43⟩ := St.facts4 (HC.out.pick [2, 3, 4, 5] (by decide) rfl))
               go_wp2_with fail
               (clear r1 f1 i1 b1 l1 r2 f2 i2 b2 l2 r3 f3 i3 b3 l3 r4 f4 i4 b4 l4 m12 m21 m13 m31 m14 m41 m23 m32 m24 m42 m34 m43))
              go_meet
              exact ⟨g, b.turned t F, N, r.turned da t dc, nl, (go, opC (o j)) :: (ga, rg t F) :: L1, S, ⟨#[]⟩, turnE b t, rfl, rfl, rfl, rfl, rfl, rfl, HSS, Lib.hid (by have := HNL.out; omega), Lib.hid ((HT.out.turned da t dc F t6 HK.out).mono fun x hx => .tail _ (.tail _ hx)), Lib.hid (HC.out.set (rbC (r.turned da t dc)) (by rw [rb_size, rb_size]))⟩
            · go_wp2_with fail
              (clear r1 f1 i1 b1 l1 r2 f2 i2 b2 l2 r3 f3 i3 b3 l3 r4 f4 i4 b4 l4 m12 m21 m13 m31 m14 m41 m23 m32 m24 m42 m34 m43)
              refine (lock_bar HC.out m).mono ?_; rintro e w8 ⟨rfl, hB⟩
              have HC := Lib.hid hB
              clear hB
              (obtain ⟨⟨r1, f1, i1, b1, l1⟩, ⟨r2, f2, i2, b2, l2⟩, ⟨r3, f3, i3, b3, l3⟩, ⟨r4, f4, i4, b4, l4⟩, m12, m21, m13, m31, m14, m41, m23, m32, m24, m42, m34, m43⟩ := St.facts4 (HC.out.pick [2, 3, 4, 5] (by decide) rfl))
              go_wp2_with fail
              (clear r1 f1 i1 b1 l1 r2 f2 i2 b2 l2 r3 f3 i3 b3 l3 r4 f4 i4 b4 l4 m12 m21 m13 m31 m14 m41 m23 m32 m24 m42 m34 m43)
              refine (HT.out.lock m HC.out.st.tail.tail.tail.tail.tail.tail).mono ?_; rintro e w9 ⟨rfl, hw⟩
              (have HC := Lib.hid (HC.out.call hw)
               clear hw
               (obtain ⟨⟨r1, f1, i1, b1, l1⟩, ⟨r2, f2, i2, b2, l2⟩, ⟨r3, f3, i3, b3, l3⟩, ⟨r4, f4, i4, b4, l4⟩, m12, m21, m13, m31, m14, m41, m23, m32, m24, m42, m34, m43⟩ := St.facts4 (HC.out.pick [2, 3, 4, 5] (by decide) rfl))
               go_wp2_with fail
               (clear r1 f1 i1 b1 l1 r2 f2 i2 b2 l2 r3 f3 i3 b3 l3 r4 f4 i4 b4 l4 m12 m21 m13 m31 m14 m41 m23 m32 m24 m42 m34 m43))
              go_meet
              exact ⟨g, b.took, N, r.took, nl, (go, opC (o j)) :: (ga, rg t F) :: L1, S, lockS b m, takeE b, rfl, rfl, rfl, rfl, rfl, rfl, HSS, Lib.hid (by have := HNL.out; omega), Lib.hid (HT.out.took.mono fun x hx => .tail _ (.tail _ hx)), Lib.hid (HC.out.set (rbC r.took) (by rw [rb_size, rb_size]))⟩
            · go_wp2_with fail
              (clear r1 f1 i1 b1 l1 r2 f2 i2 b2 l2 r3 f3 i3 b3 l3 r4 f4 i4 b4 l4 m12 m21 m13 m31 m14 m41 m23 m32 m24 m42 m34 m43)
              refine (fork_bar HC.out).mono ?_; rintro e w8 ⟨g', rfl, hB⟩
              have HC := Lib.hid (hB.perm (L' := (gr, rbC r) :: (w.heap.size, blk 16 m) :: (g, br b) :: (go, opC (o j)) :: (ga, rg t F) :: L1) (List.perm_append_comm_assoc [_, _] [_] _))
              clear hB
              go_wp2_with fail
              go_meet
              exact ⟨g', b, N, r, nl, (g, br b) :: (go, opC (o j)) :: (ga, rg t F) :: L1, S, ⟨#[]⟩, 0, rfl, rfl, rfl, rfl, rfl, rfl, HSS, Lib.hid (by have := HNL.out; omega), Lib.hid (HT.out.mono fun x hx => .tail _ (.tail _ (.tail _ hx))), HC⟩
          case rest =>
            obtain ⟨g', b', N', r', nl', L', S', X, E, rfl, rfl, rfl, rfl, rfl, rfl, HSS', HNL', HT', HC'⟩ := hcut
            clear HC HT HSS HNL HK HP HTX
            have s1 := text_same X
            have e0 : ((E : Int) != (E : Int)) = false := by simp
            obtain ⟨r1, f1, i1, b1, l1⟩ := St.facts1 (HC'.out.pick [2] (by decide) rfl)
            go_wp2_with fail
            clear r1 f1 i1 b1 l1
            refine (HT'.out.like HC'.out fun x hx => .tail _ (.tail _ hx)).mono ?_; rintro e w8 ⟨rfl, hw⟩
            have HC := Lib.hid (HC'.out.call hw)
            clear hw HC'
            go_wp2_with fail
            go_roundw
            case rel => exact ⟨j + 1, by omega, by go_num, g', b', N', r', nl', L', S', rfl, rfl, HSS', HNL', HT', HC⟩
            case measure => simp [intOf]; omega
        · obtain rfl : j = M := by omega
          go_wp2_with fail
          refine (awake21_any _).mono ?_; rintro e w6 ⟨rfl, hw⟩
          have HC := Lib.hid (HC.out.call hw)
          clear hw
          go_wp2_with fail
          go_ret
          exact ⟨rfl, HC.out.st.below⟩
end Go.Proofs.YtgaecjhghpkcoaaGreat
