/- The reference's one, at any place; its Take. -/
import Derived.Test.YtinlcpenllfcpaaEnRefPairs
namespace Go.Proofs.Ytinlcpenllfcpaa
open Go.RowKit
attribute [local go_sem] B_xor B_or B_and
attribute [local go_sem] blk_set blk_size blk_get blk_getE upd_same oneCells_blk paste_blk cut_blk szOf
attribute [local go_sem high] paste_all cut_head
attribute [local go_sem] rowAt_alloc rowAt_drew rowAt_drewN isRow_alloc isRow_drew isRow_drewN freeRow_alloc freeRow_end freeRow_drew freeRow_drewN
attribute [local go_sem] setRow_alloc setRow_drew setRow_drewN setCell_drewN alloc_drewN rowAt_put isRow_setRow freeRow_put
attribute [local go_sem ↓] loadS_in storeS_in indexS_in copyS_in
attribute [local go_sem] loadS_row loadS_one storeS_row storeS_one indexS_blk copyS_rows run_equalIn_blk same_refl arrayAt_row
attribute [local go_sem] cell_row frozen_row st_setCell st_blk_ne stepAt stepUpon
attribute [local go_sem high] run_eql_blk run_neq_blk
attribute [local go_sem ↓] convBS_in
attribute [local go_sem] convBS_row convBS_nil allBytes_blk bytesOf_blk
attribute [local go_sem] ndC_size ndC_get0 ndC_get1 ndC_get2 ndC_get3 ndC_get4 ndC_getE0 ndC_getE1 ndC_getE2 ndC_getE3 ndC_getE4 ndC_ne ndC_one ndC_cut ndC_paste ndC_set0 ndC_set1 ndC_set2 ndC_set3 ndC_set4 size_nd agg_nd
attribute [local go_sem] size_rtk agg_rtk sc_size sc_get0 sc_get1 sc_get2 sc_getE0 sc_getE1 sc_getE2 sc_set1 sc_set2 sc_ne sc_one sc_cut sc_paste
set_option maxRecDepth 100000 in
set_option maxHeartbeats 2000000 in
theorem ro_deep (s : ByteArray) (hs : s.size < 2 ^ 30) (d : Nat) (hd : 4 ≤ d) (hd2 : d ≤ 10) (p : Nat) (w : World) (hn : p + 1 ≤ s.size) (k : Nat) (hk : numAt s p 1 = k) (h5 : k = 5 ∨ k = 6) :
    Calls Try.prog 34 #[.agg (sc s p 0), .int .i64 (d : Int)] w (One w s (.error 24)) := by
  have hz := rtk_nought
  have hnz := ndC_zero
  have HC := Lib.hid (ro_start s p w)
  have K := Lib.hid (fun w => rNum_any s p 0 1 (by omega) (by omega) (by omega) (by omega) w)
  have e1 : tk s p 0 1 = (numAt s p 1, p + 1, 0) := by unfold tk; rw [if_neg (fun h => h rfl), if_pos hn]
  rw [e1, hk] at K
  obtain ⟨q, hq⟩ : ∃ q, p + 1 = q := ⟨_, rfl⟩
  rw [hq] at K hn
  have d4 : (4 : Int) ≤ (d : Int) := by omega
  have d0 : (d : Int) ≤ 10 := by omega
  have HQ := Lib.hid hn
  have h24 : (sc s q 0).setIfInBounds 2 (.int .i64 24) = sc s q 24 := by simp [sc]
  clear e1 hk hq hn hd hd2
  rcases h5 with rfl | rfl
  · ((go_enter Try.func34, Try.ntmps34
      (obtain ⟨⟨r1, f1, i1, b1, l1⟩, ⟨r2, f2, i2, b2, l2⟩, ⟨r3, f3, i3, b3, l3⟩, m12, m21, m13, m31, m23, m32⟩ := St.facts3 (HC.out.pick [0, 1, 2] (by decide) rfl))
      go_wp2_with fail
      (clear r1 f1 i1 b1 l1 r2 f2 i2 b2 l2 r3 f3 i3 b3 l3 m12 m21 m13 m31 m23 m32)
      refine (K.out _).mono ?_; rintro r0 w1 ⟨rfl, hw⟩
      have HC := Lib.hid (HC.out.call hw)
      clear hw K
      (obtain ⟨r1, f1, i1, b1, l1⟩ := St.facts1 (HC.out.pick [0] (by decide) rfl))
      go_upto_region 2 with fail
      (clear r1 f1 i1 b1 l1))
     have HC := Lib.hid (HC.out.set_head (sc s q 0) (by rw [sc_size, sc_size]))
     generalize w1.setRow w.heap.size (sc s q 0) = w2 at HC ⊢)
    (obtain ⟨r1, f1, i1, b1, l1⟩ := St.facts1 (HC.out.pick [0] (by decide) rfl))
    go_upto_region 19 with fail
    (clear r1 f1 i1 b1 l1)
    have HC := Lib.hid (HC.out.set_head (sc s q 24) (by rw [sc_size, sc_size]))
    generalize w2.setRow w.heap.size (sc s q 24) = w3 at HC ⊢
    ((obtain ⟨⟨r1, f1, i1, b1, l1⟩, ⟨r2, f2, i2, b2, l2⟩, ⟨r3, f3, i3, b3, l3⟩, m12, m21, m13, m31, m23, m32⟩ := St.facts3 (HC.out.pick [0, 1, 2] (by decide) rfl))
     go_region
     all_goals
       go_wp2_with fail
       (clear r1 f1 i1 b1 l1 r2 f2 i2 b2 l2 r3 f3 i3 b3 l3 m12 m21 m13 m31 m23 m32)
       first
         | refine ro_ends rfl rfl rfl (HC.out.tail.drew.end2 _ _ (by simp only [ndC_size]) (by simp only [sc_size])) ?_
         | refine ro_ends rfl rfl rfl (HC.out.tail.drew.end2' _ _ (by simp only [ndC_size]) (by simp only [sc_size])) ?_)
    all_goals exact fun h => .bad 24 (by decide) rfl HQ.out h.below
  · ((go_enter Try.func34, Try.ntmps34
      (obtain ⟨⟨r1, f1, i1, b1, l1⟩, ⟨r2, f2, i2, b2, l2⟩, ⟨r3, f3, i3, b3, l3⟩, m12, m21, m13, m31, m23, m32⟩ := St.facts3 (HC.out.pick [0, 1, 2] (by decide) rfl))
      go_wp2_with fail
      (clear r1 f1 i1 b1 l1 r2 f2 i2 b2 l2 r3 f3 i3 b3 l3 m12 m21 m13 m31 m23 m32)
      refine (K.out _).mono ?_; rintro r0 w1 ⟨rfl, hw⟩
      have HC := Lib.hid (HC.out.call hw)
      clear hw K
      (obtain ⟨r1, f1, i1, b1, l1⟩ := St.facts1 (HC.out.pick [0] (by decide) rfl))
      go_upto_region 2 with fail
      (clear r1 f1 i1 b1 l1))
     have HC := Lib.hid (HC.out.set_head (sc s q 0) (by rw [sc_size, sc_size]))
     generalize w1.setRow w.heap.size (sc s q 0) = w2 at HC ⊢)
    (obtain ⟨r1, f1, i1, b1, l1⟩ := St.facts1 (HC.out.pick [0] (by decide) rfl))
    go_upto_region 19 with fail
    (clear r1 f1 i1 b1 l1)
    have HC := Lib.hid (HC.out.set_head (sc s q 24) (by rw [sc_size, sc_size]))
    generalize w2.setRow w.heap.size (sc s q 24) = w3 at HC ⊢
    ((obtain ⟨⟨r1, f1, i1, b1, l1⟩, ⟨r2, f2, i2, b2, l2⟩, ⟨r3, f3, i3, b3, l3⟩, m12, m21, m13, m31, m23, m32⟩ := St.facts3 (HC.out.pick [0, 1, 2] (by decide) rfl))
     go_region
     all_goals
       go_wp2_with fail
       (clear r1 f1 i1 b1 l1 r2 f2 i2 b2 l2 r3 f3 i3 b3 l3 m12 m21 m13 m31 m23 m32)
       first
         | refine ro_ends rfl rfl rfl (HC.out.tail.drew.end2 _ _ (by simp only [ndC_size]) (by simp only [sc_size])) ?_
         | refine ro_ends rfl rfl rfl (HC.out.tail.drew.end2' _ _ (by simp only [ndC_size]) (by simp only [sc_size])) ?_)
    all_goals exact fun h => .bad 24 (by decide) rfl HQ.out h.below
theorem ro_any (s : ByteArray) (hs : s.size < 2 ^ 30) : ∀ (r d : Nat), d + r = 4 → ∀ (p : Nat) (w : World), p ≤ s.size → Calls Try.prog 34 #[.agg (sc s p 0), .int .i64 (d : Int)] w (One w s (oneP s r p))
  | 0, d, h, p, w, hp => by
    rw [oneP]
    by_cases hk : s.size < p + 1 ∨ numAt s p 1 < 5 ∨ 6 < numAt s p 1
    · exact ro_leaf s hs none d p w hp hk
    · have hn : p + 1 ≤ s.size := by omega
      have h5 : numAt s p 1 = 5 ∨ numAt s p 1 = 6 := by omega
      rw [oneWith_eq, if_pos hn, restR_list s none _ _ d h5 (fun _ => .error 0) (.inl ⟨rfl, by omega⟩), itR_deep _ _ _ _ _ (by omega)]
      exact ro_deep s hs d (by omega) (by omega) p w hn _ rfl h5
  | r + 1, d, h, p, w, hp => by
    rw [oneP]
    by_cases hk : s.size < p + 1 ∨ numAt s p 1 < 5 ∨ 6 < numAt s p 1
    · exact ro_leaf s hs _ d p w hp hk
    · have hn : p + 1 ≤ s.size := by omega
      have IH : ∀ p w, p ≤ s.size → Calls Try.prog 34 #[.agg (sc s p 0), .int .i64 ((d : Int) + 1)] w (One w s (oneP s r p)) := fun p w hp => by
        have k := ro_any s hs r (d + 1) (by omega) p w hp
        rw [show ((d + 1 : Nat) : Int) = (d : Int) + 1 by omega] at k
        exact k
      have h5 : numAt s p 1 = 5 ∨ numAt s p 1 = 6 := by omega
      rw [oneWith_eq, if_pos hn, restR_list s _ _ _ d h5 (oneP s r) (.inr ⟨rfl, by omega⟩)]
      rcases h5 with h5 | h5
      · rw [h5]
        exact ro_list s hs (oneP s r) d (by omega) IH p w hn h5
      · rw [h5]
        exact ro_pairs s hs (oneP s r) d (by omega) IH p w hn h5
/-- what Take tells -/
inductive RtakeR (w : World) (c : NdC) (e : Nat) (w' : World) : Except Nat Nd → Prop
  | bad (d : Nat) (hd : d ≠ 0) (hc : c = ndZero) (he : e = d) (hb : Below w.heap.size w w') : RtakeR w c e w' (.error d)
  | ok (x : Nd) (L : List (Nat × Array Value)) (hx : NodeIn L c x) (he : e = 0) (hC : St w L w') : RtakeR w c e w' (.ok x)
def Rtake (w : World) (R : Except Nat Nd) (r : Ending) (w' : World) : Prop := ∃ c e, r = .returned (.tuple #[.agg (ndC c), .int .i64 ((e : Nat) : Int)]) ∧ RtakeR w c e w' R
theorem rt_results {w0 W : World} {L : List (Nat × Array Value)} {c : NdC} {v : Value} (g : Nat) (tmps : Array Value) (h2 : tmps.getD 2 undef = .pointer (some ⟨g, 0, none⟩)) (h3 : tmps.getD 3 undef = v) (hC : St w0 ((g, ndC c) :: L) W) :
    (results Try.f16 tmps).run Try.prog W = .ok (.tuple #[.agg (ndC c), v]) W := by
  obtain ⟨_, r4, _, i4⟩ := hC.rows (g, ndC c) (.head _)
  exact results_pair rfl tmps g h2 (ndC c) r4 (agg_nd W) (by rw [ndC_size]; exact size_nd W) i4 v h3
set_option maxRecDepth 100000 in
set_option maxHeartbeats 2000000 in
theorem refTake_any (s : ByteArray) (hs : s.size < 2 ^ 30) (w : World) : Calls Try.prog 16 #[.string s] w (Rtake w (ndTake s)) := by
  have hz := rtk_nought
  have hnz := ndC_zero
  have hz2 : (sc ⟨#[]⟩ 0 0).setIfInBounds 0 (.string s) = sc s 0 0 := by simp [sc]
  have HC := Lib.hid ((St.nil w).push (ndC ndZero) 26)
  have KV := Lib.hid (fun w' => ro_any s hs 4 0 rfl 0 w' (Nat.zero_le _))
  have KE := Lib.hid (fun q e (h : q ≤ s.size) => rEnd_any s q e h)
  obtain ⟨R, hR⟩ : ∃ R, ndTake s = R := ⟨_, rfl⟩
  rw [hR]
  unfold ndTake at hR
  obtain ⟨Y, hY⟩ : ∃ Y, oneP s 4 0 = Y := ⟨_, rfl⟩
  rw [hY] at hR KV
  have HR := Lib.hid hR
  clear hR hY
  go_enter Try.func16, Try.ntmps16
  go_wp2_with fail
  refine (KV.out _).mono ?_; rintro r0 w2 ⟨c, q, e, rfl, ht⟩
  clear KV
  cases ht with
  | bad d hd he hq hb =>
    subst he
    obtain ⟨L2, hL2⟩ : ∃ L2 : List (Nat × Array Value), [] = L2 := ⟨[], rfl⟩
    have HC := Lib.hid (HC.out.call hb)
    rw [hL2] at HC
    clear hL2
    have e0 : endR s q e = e := by unfold endR; rw [if_pos hd]
    have K := KE.out q e hq
    rw [e0] at K
    have KK := Lib.hid K
    have e1 : ((e : Int) != 0) = true := by rw [bne_iff_ne]; omega
    have HD := Lib.hid hd
    clear hb hd hq e0 K KE
    (go_upto_region 2 with fail
     have HC := Lib.hid ((HC.out.push (ndC c) 26).pushA (sc s q e) 76 (g := w2.heap.size + 1) (by simp))
     generalize (w2.alloc (Obj.cells (ndC c) 26)).alloc (Obj.cells (sc s q e) 76) = w3 at HC ⊢
     generalize w2.heap.size = gk at HC ⊢
     (obtain ⟨⟨r1, f1, i1, b1, l1⟩, ⟨r2, f2, i2, b2, l2⟩, m12, m21⟩ := St.facts2 (HC.out.pick [0, 1] (by decide) rfl))
     go_wp2_with fail
     (clear r1 f1 i1 b1 l1 r2 f2 i2 b2 l2 m12 m21)
     refine (KK.out _).mono ?_; rintro r0 w4 ⟨rfl, hw⟩
     have HC := Lib.hid ((HC.out.call hw).perm (L' := (w.heap.size, ndC ndZero) :: (gk, ndC c) :: (gk + 1, sc s q e) :: L2) (perm_of fun _ _ _ c2 c3 => by simp only [c2]; omega))
     clear hw KK
     (obtain ⟨⟨r1, f1, i1, b1, l1⟩, ⟨r2, f2, i2, b2, l2⟩, m12, m21⟩ := St.facts2 (HC.out.pick [0, 1] (by decide) rfl))
     go_wp2_with fail
     (clear r1 f1 i1 b1 l1 r2 f2 i2 b2 l2 m12 m21))
    have HC := Lib.hid (HC.out.set_head (ndC ndZero) (by simp only [ndC_size]))
    refine bodyPost_ret (rt_results _ _ rfl rfl HC.out) rfl ⟨ndZero, e, rfl, ?_⟩
    rw [← HR.out]
    exact .bad e HD.out rfl rfl HC.out.below
  | ok x L2 hx he hq hS =>
    have HC := Lib.hid ((HC.out.joins hS).perm (L' := (w.heap.size, ndC ndZero) :: L2) (perm_of fun _ _ c1 c2 c3 => by simp only [c1, c2]; omega))
    have K := KE.out q e hq
    have HX := Lib.hid hx
    by_cases hqs : q = s.size
    · have e0 : endR s q e = 0 := by rw [he]; unfold endR; rw [if_neg (fun h => h rfl), if_neg (fun h => h hqs)]
      rw [e0] at K
      have KK := Lib.hid K
      have hR := HR.out
      dsimp only at hR
      rw [if_pos hqs] at hR
      have HR := Lib.hid hR
      clear hR hS hx hq e0 K KE hqs he
      (go_upto_region 2 with fail
       have HC := Lib.hid ((HC.out.push (ndC c) 26).pushA (sc s q e) 76 (g := w2.heap.size + 1) (by simp))
       generalize (w2.alloc (Obj.cells (ndC c) 26)).alloc (Obj.cells (sc s q e) 76) = w3 at HC ⊢
       generalize w2.heap.size = gk at HC ⊢
       (obtain ⟨⟨r1, f1, i1, b1, l1⟩, ⟨r2, f2, i2, b2, l2⟩, m12, m21⟩ := St.facts2 (HC.out.pick [0, 1] (by decide) rfl))
       go_wp2_with fail
       (clear r1 f1 i1 b1 l1 r2 f2 i2 b2 l2 m12 m21)
       refine (KK.out _).mono ?_; rintro r0 w4 ⟨rfl, hw⟩
       have HC := Lib.hid ((HC.out.call hw).perm (L' := (w.heap.size, ndC ndZero) :: (gk, ndC c) :: (gk + 1, sc s q e) :: L2) (perm_of fun _ _ _ c2 c3 => by simp only [c2]; omega))
       clear hw KK
       (obtain ⟨⟨r1, f1, i1, b1, l1⟩, ⟨r2, f2, i2, b2, l2⟩, m12, m21⟩ := St.facts2 (HC.out.pick [0, 1] (by decide) rfl))
       go_wp2_with fail
       (clear r1 f1 i1 b1 l1 r2 f2 i2 b2 l2 m12 m21))
      have HC := Lib.hid (HC.out.set_head (ndC c) (by simp only [ndC_size]))
      refine bodyPost_ret (rt_results _ _ rfl rfl HC.out) rfl ⟨c, 0, rfl, ?_⟩
      rw [← HR.out]
      exact .ok x L2 HX.out rfl HC.out.tail.tail.tail
    · have e0 : endR s q e = 4 := by rw [he]; unfold endR; rw [if_neg (fun h => h rfl), if_pos hqs]
      rw [e0] at K
      have KK := Lib.hid K
      have hR := HR.out
      dsimp only at hR
      rw [if_neg hqs] at hR
      have HR := Lib.hid hR
      clear hR hS hx hq e0 K KE hqs he
      (go_upto_region 2 with fail
       have HC := Lib.hid ((HC.out.push (ndC c) 26).pushA (sc s q e) 76 (g := w2.heap.size + 1) (by simp))
       generalize (w2.alloc (Obj.cells (ndC c) 26)).alloc (Obj.cells (sc s q e) 76) = w3 at HC ⊢
       generalize w2.heap.size = gk at HC ⊢
       (obtain ⟨⟨r1, f1, i1, b1, l1⟩, ⟨r2, f2, i2, b2, l2⟩, m12, m21⟩ := St.facts2 (HC.out.pick [0, 1] (by decide) rfl))
       go_wp2_with fail
       (clear r1 f1 i1 b1 l1 r2 f2 i2 b2 l2 m12 m21)
       refine (KK.out _).mono ?_; rintro r0 w4 ⟨rfl, hw⟩
       have HC := Lib.hid ((HC.out.call hw).perm (L' := (w.heap.size, ndC ndZero) :: (gk, ndC c) :: (gk + 1, sc s q e) :: L2) (perm_of fun _ _ _ c2 c3 => by simp only [c2]; omega))
       clear hw KK
       (obtain ⟨⟨r1, f1, i1, b1, l1⟩, ⟨r2, f2, i2, b2, l2⟩, m12, m21⟩ := St.facts2 (HC.out.pick [0, 1] (by decide) rfl))
       go_wp2_with fail
       (clear r1 f1 i1 b1 l1 r2 f2 i2 b2 l2 m12 m21))
      have HC := Lib.hid (HC.out.set_head (ndC ndZero) (by simp only [ndC_size]))
      refine bodyPost_ret (rt_results _ _ rfl rfl HC.out) rfl ⟨ndZero, 4, rfl, ?_⟩
      rw [← HR.out]
      exact .bad 4 (by decide) rfl rfl HC.out.below
end Go.Proofs.Ytinlcpenllfcpaa
