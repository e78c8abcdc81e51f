/- The reference's one: pairs off a text. -/
import Derived.Test.YtinlcpenllfcpaaEnRefList
namespace Go.Proofs.Ytinlcpenllfcpaa
open Go.RowKit
attribute [local go_sem] B_xor B_or B_and
attribute [local go_sem] blk_set blk_size blk_get blk_getE upd_same oneCells_blk paste_blk cut_blk szOf
attribute [local go_sem high] paste_all cut_head
attribute [local go_sem] rowAt_alloc rowAt_drew rowAt_drewN isRow_alloc isRow_drew isRow_drewN freeRow_alloc freeRow_end freeRow_drew freeRow_drewN
attribute [local go_sem] setRow_alloc setRow_drew setRow_drewN setCell_drewN alloc_drewN rowAt_put isRow_setRow freeRow_put
attribute [local go_sem ↓] loadS_in storeS_in indexS_in copyS_in
attribute [local go_sem] loadS_row loadS_one storeS_row storeS_one indexS_blk copyS_rows run_equalIn_blk same_refl arrayAt_row
attribute [local go_sem] cell_row frozen_row st_setCell st_blk_ne stepAt stepUpon
attribute [local go_sem high] run_eql_blk run_neq_blk
attribute [local go_sem ↓] convBS_in
attribute [local go_sem] convBS_row convBS_nil allBytes_blk bytesOf_blk
attribute [local go_sem] ndC_size ndC_get0 ndC_get1 ndC_get2 ndC_get3 ndC_get4 ndC_getE0 ndC_getE1 ndC_getE2 ndC_getE3 ndC_getE4 ndC_ne ndC_one ndC_cut ndC_paste ndC_set0 ndC_set1 ndC_set2 ndC_set3 ndC_set4 size_nd agg_nd
attribute [local go_sem] size_rtk agg_rtk sc_size sc_get0 sc_get1 sc_get2 sc_getE0 sc_getE1 sc_getE2 sc_set1 sc_set2 sc_ne sc_one sc_cut sc_paste

theorem Hold.cell {n c : Nat} {a : Option Addr} {f : Nat → ByteArray} {B : List (Nat × Array Value)} (h : Hold 1 a n c (fun i => #[.string (f i)]) B) (y : Nat) (hy : y < n) : ∃ g, a = some ⟨g, 0, none⟩ ∧ ∀ (w0 w : World) (L : List (Nat × Array Value)), (∀ x ∈ B, x ∈ L) → St w0 L w → w.cell? ⟨g, y, none⟩ = some (.string (f y)) := by
  cases h with
  | nil => omega
  | own g n cap F cells hn hF =>
    refine ⟨g, rfl, fun w0 w L hm hC => ?_⟩
    obtain ⟨_, k3, _, k5⟩ := hC.rows (g, vlk (c * 1) F) (hm _ (.head _))
    have k := hF y hy 0 (by omega)
    rw [Nat.mul_one, Nat.add_zero] at k
    rw [cell_row g _ k5, k3, vlk_get _ _ _ (by omega), k]
    rfl
theorem nameOf_snoc (l : List ByteArray) (r : ByteArray) (i : Nat) {j : Nat} (hj : l.length = j) : nameOf (l ++ [r]) i = if i = j then r else nameOf l i := by
  unfold nameOf
  rw [List.getD_eq_getElem?_getD, List.getD_eq_getElem?_getD]
  by_cases e : i = j
  · subst e
    rw [if_pos rfl, List.getElem?_append_right (by omega), hj, Nat.sub_self]
    rfl
  · rw [if_neg e]
    by_cases h : i < j
    · rw [List.getElem?_append_left (by omega)]
    · rw [List.getElem?_eq_none (by simp; omega), List.getElem?_eq_none (by omega)]
inductive RpSt (w : World) (s : ByteArray) (f : Nat → PR) (N : Nat) (R : LR) (g : Nat) (j : Nat) (wr : World) : Prop
  | bad (c : NdC) (q d : Nat) (hd : d ≠ 0) (hq : q ≤ s.size) (hR : R = .error d) (hC : St w [(g, ndC c), (w.heap.size, sc s q d), (w.heap.size + 1, ndC ndZero), (w.heap.size + 1 + 1, sc ⟨#[]⟩ 0 0)] wr) : RpSt w s f N R g j wr
  | ok (hN : N ≤ 64) (ka : Option Addr) (kc : Nat) (na : Option Addr) (nc : Nat) (cs : Nat → NdC) (Bk Bn L' : List (Nat × Array Value)) (acc : List (ByteArray × Nd)) (p : Nat) (hp : p ≤ s.size) (hk : Hold 5 ka j kc (fun i => ndC (cs i)) Bk) (hn : Hold 1 na j nc (fun i => #[.string (nameOf (acc.map Prod.fst) i)]) Bn) (h3 : acc.length = j) (h4 : ∀ i (h : i < acc.length), NodeIn L' (cs i) acc[i].2)
      (hR : itemsA s f true (N - j) acc p = R) (hC : St w ((g, ndC ⟨5, 0, ⟨#[]⟩, ka, j, kc, na, j, nc⟩) :: (w.heap.size, sc s p 0) :: (w.heap.size + 1, ndC ndZero) :: (w.heap.size + 1 + 1, sc ⟨#[]⟩ 0 0) :: (Bk ++ (Bn ++ L'))) wr) : RpSt w s f N R g j wr
set_option maxRecDepth 100000 in
set_option maxHeartbeats 8000000 in
theorem ro_pairs (s : ByteArray) (hs : s.size < 2 ^ 30) (f : Nat → PR) (d : Nat) (hd : d < 4) (IH : ∀ p w, p ≤ s.size → Calls Try.prog 34 #[.agg (sc s p 0), .int .i64 ((d : Int) + 1)] w (One w s (f p)))
    (p : Nat) (w : World) (hn : p + 1 ≤ s.size) (hk : numAt s p 1 = 6) :
    Calls Try.prog 34 #[.agg (sc s p 0), .int .i64 (d : Int)] w (One w s (finish 5 (itR s f true (p + 1) d))) := by
  have hz := rtk_nought
  have hnz := ndC_zero
  have HC := Lib.hid (ro_start s p w)
  have K := Lib.hid (fun w => rNum_any s p 0 1 (by omega) (by omega) (by omega) (by omega) w)
  have e1 : tk s p 0 1 = (numAt s p 1, p + 1, 0) := by unfold tk; rw [if_neg (fun h => h rfl), if_pos hn]
  rw [e1, hk] at K
  obtain ⟨q, hq⟩ : ∃ q, p + 1 = q := ⟨_, rfl⟩
  rw [hq] at K hn ⊢
  have K2 := Lib.hid (fun w => rNum_any s q 0 1 (by omega) (by omega) hn (by omega) w)
  have d4 : (d : Int) < 4 := by omega
  have d3 : ¬ (4 : Int) ≤ (d : Int) := by omega
  have d0 : (d : Int) ≤ 10 := by omega
  obtain ⟨R, hR⟩ : ∃ R, itR s f true q d = R := ⟨_, rfl⟩
  rw [hR]
  unfold itR countR at hR
  rw [if_neg (show ¬ 4 ≤ d by omega)] at hR
  clear e1 hk hq
  have HQ := Lib.hid hn
  have HI := Lib.hid IH
  have hb : (ndC ndZero).setIfInBounds 0 (.int .u8 5) = ndC ⟨5, 0, ⟨#[]⟩, none, 0, 0, none, 0, 0⟩ := ndC_set0 ndZero 5
  by_cases h1 : q + 1 ≤ s.size
  · have e2 : tk s q 0 1 = (numAt s q 1, q + 1, 0) := by unfold tk; rw [if_neg (fun h => h rfl), if_pos h1]
    rw [if_pos h1] at hR
    rw [e2] at K2
    have hN := numAt1_lt s q
    obtain ⟨N, hNe⟩ : ∃ N, numAt s q 1 = N := ⟨_, rfl⟩
    obtain ⟨q1, hq1⟩ : ∃ q1, q + 1 = q1 := ⟨_, rfl⟩
    rw [hNe] at K2 hR hN
    rw [hq1] at K2 hR h1
    dsimp only at hR
    clear e2 hNe hq1 IH hn
    have HQ := Lib.hid h1
    by_cases h64 : 64 < N
    · rw [if_pos h64, if_pos (show (5 : Nat) ≠ 0 by decide)] at hR
      have HR := Lib.hid hR
      have n64 : (64 : Int) < (N : Int) := by omega
      have n255 : (N : Int) ≤ 255 := by omega
      clear hR h1 h64 hN HI hd
      ((go_enter Try.func34, Try.ntmps34
        (obtain ⟨⟨r1, f1, i1, b1, l1⟩, ⟨r2, f2, i2, b2, l2⟩, ⟨r3, f3, i3, b3, l3⟩, m12, m21, m13, m31, m23, m32⟩ := St.facts3 (HC.out.pick [0, 1, 2] (by decide) rfl))
        go_wp2_with fail
        (clear r1 f1 i1 b1 l1 r2 f2 i2 b2 l2 r3 f3 i3 b3 l3 m12 m21 m13 m31 m23 m32)
        refine (K.out _).mono ?_; rintro r0 w1 ⟨rfl, hw⟩
        have HC := Lib.hid (HC.out.call hw)
        clear hw K
        (obtain ⟨r1, f1, i1, b1, l1⟩ := St.facts1 (HC.out.pick [0] (by decide) rfl))
        go_upto_region 2 with fail
        (clear r1 f1 i1 b1 l1))
       have HC := Lib.hid (HC.out.set_head (sc s q 0) (by rw [sc_size, sc_size]))
       generalize w1.setRow w.heap.size (sc s q 0) = w2 at HC ⊢)
      (obtain ⟨r1, f1, i1, b1, l1⟩ := St.facts1 (HC.out.pick [0] (by decide) rfl))
      go_wp2_with fail
      (clear r1 f1 i1 b1 l1)
      refine (K2.out _).mono ?_; rintro r0 w3 ⟨rfl, hw⟩
      have HC := Lib.hid (HC.out.call hw)
      clear hw K2
      have h5 : (sc s q1 0).setIfInBounds 2 (.int .i64 5) = sc s q1 5 := by simp [sc]
      ((obtain ⟨r1, f1, i1, b1, l1⟩ := St.facts1 (HC.out.pick [0] (by decide) rfl))
       go_upto_region 21 with fail
       (clear r1 f1 i1 b1 l1)
       have HC := Lib.hid (HC.out.set_head (sc s q1 0) (by rw [sc_size, sc_size]))
       generalize w3.setRow w.heap.size (sc s q1 0) = w4 at HC ⊢
       (obtain ⟨r1, f1, i1, b1, l1⟩ := St.facts1 (HC.out.pick [0] (by decide) rfl))
       go_upto_region 22 with fail
       (clear r1 f1 i1 b1 l1)
       have HC := Lib.hid (HC.out.push (ndC ⟨5, 0, ⟨#[]⟩, none, 0, 0, none, 0, 0⟩) 26)
       generalize w4.alloc (Obj.cells (ndC ⟨5, 0, ⟨#[]⟩, none, 0, 0, none, 0, 0⟩) 26) = w5 at HC ⊢
       generalize w4.heap.size = go at HC ⊢)
      (obtain ⟨⟨r1, f1, i1, b1, l1⟩, ⟨r2, f2, i2, b2, l2⟩, m12, m21⟩ := St.facts2 (HC.out.pick [0, 1] (by decide) rfl))
      go_upto_region 24 with fail
      (clear r1 f1 i1 b1 l1 r2 f2 i2 b2 l2 m12 m21)
      have HC := Lib.hid (HC.out.swap.set_head (sc s q1 5) (by rw [sc_size, sc_size])).swap
      generalize w5.setRow w.heap.size (sc s q1 5) = w6 at HC ⊢
      go_wp2_with fail
      go_loopw [13] (fun i wr => i = .int .i64 0 ∧ wr = w6) (fun _ _ => 0)
      case atStart => exact ⟨rfl, rfl⟩
      case round =>
        obtain ⟨rfl, rfl⟩ := hrel
        (obtain ⟨⟨r1, f1, i1, b1, l1⟩, ⟨r2, f2, i2, b2, l2⟩, m12, m21⟩ := St.facts2 (HC.out.pick [0, 1] (by decide) rfl))
        go_wp2_with fail
        (clear r1 f1 i1 b1 l1 r2 f2 i2 b2 l2 m12 m21)
        (go_upto_region 38 with fail
         obtain ⟨⟨r1, f1, i1, b1, l1⟩, ⟨r2, f2, i2, b2, l2⟩, ⟨r3, f3, i3, b3, l3⟩, ⟨r4, f4, i4, b4, l4⟩, m12, m21, m13, m31, m14, m41, m23, m32, m24, m42, m34, m43⟩ := St.facts4 (HC.out.pick [0, 1, 2, 3] (by decide) rfl)
         go_region
         all_goals
           go_wp2_with fail
           (clear r1 f1 i1 b1 l1 r2 f2 i2 b2 l2 r3 f3 i3 b3 l3 r4 f4 i4 b4 l4 m12 m21 m13 m31 m14 m41 m23 m32 m24 m42 m34 m43)
           first
             | refine ro_ends rfl rfl rfl (HC.out.tail.tail.drew.end2 _ _ (by simp only [ndC_size]) (by simp only [sc_size])) ?_
             | refine ro_ends rfl rfl rfl (HC.out.tail.tail.drew.end2' _ _ (by simp only [ndC_size]) (by simp only [sc_size])) ?_)
        all_goals
          intro h
          rw [← HR.out]
          exact .bad 5 (by decide) rfl HQ.out h.below
    · rw [if_neg h64, if_neg (show ¬ (0 : Nat) ≠ 0 by decide)] at hR
      have HR := Lib.hid hR
      have n64 : (N : Int) ≤ 64 := by omega
      have n64' : ¬ (64 : Int) < (N : Int) := by omega
      clear hR h1 hN hd
      ((go_enter Try.func34, Try.ntmps34
        (obtain ⟨⟨r1, f1, i1, b1, l1⟩, ⟨r2, f2, i2, b2, l2⟩, ⟨r3, f3, i3, b3, l3⟩, m12, m21, m13, m31, m23, m32⟩ := St.facts3 (HC.out.pick [0, 1, 2] (by decide) rfl))
        go_wp2_with fail
        (clear r1 f1 i1 b1 l1 r2 f2 i2 b2 l2 r3 f3 i3 b3 l3 m12 m21 m13 m31 m23 m32)
        refine (K.out _).mono ?_; rintro r0 w1 ⟨rfl, hw⟩
        have HC := Lib.hid (HC.out.call hw)
        clear hw K
        (obtain ⟨r1, f1, i1, b1, l1⟩ := St.facts1 (HC.out.pick [0] (by decide) rfl))
        go_upto_region 2 with fail
        (clear r1 f1 i1 b1 l1))
       have HC := Lib.hid (HC.out.set_head (sc s q 0) (by rw [sc_size, sc_size]))
       generalize w1.setRow w.heap.size (sc s q 0) = w2 at HC ⊢)
      (obtain ⟨r1, f1, i1, b1, l1⟩ := St.facts1 (HC.out.pick [0] (by decide) rfl))
      go_wp2_with fail
      (clear r1 f1 i1 b1 l1)
      refine (K2.out _).mono ?_; rintro r0 w3 ⟨rfl, hw⟩
      have HC := Lib.hid (HC.out.call hw)
      clear hw K2
      ((obtain ⟨r1, f1, i1, b1, l1⟩ := St.facts1 (HC.out.pick [0] (by decide) rfl))
       go_upto_region 21 with fail
       (clear r1 f1 i1 b1 l1)
       have HC := Lib.hid (HC.out.set_head (sc s q1 0) (by rw [sc_size, sc_size]))
       generalize w3.setRow w.heap.size (sc s q1 0) = w4 at HC ⊢
       (obtain ⟨r1, f1, i1, b1, l1⟩ := St.facts1 (HC.out.pick [0] (by decide) rfl))
       go_upto_region 22 with fail
       (clear r1 f1 i1 b1 l1)
       have HC := Lib.hid (HC.out.push (ndC ⟨5, 0, ⟨#[]⟩, none, 0, 0, none, 0, 0⟩) 26)
       generalize w4.alloc (Obj.cells (ndC ⟨5, 0, ⟨#[]⟩, none, 0, 0, none, 0, 0⟩) 26) = w5 at HC ⊢
       generalize w4.heap.size = go at HC ⊢)
      (obtain ⟨⟨r1, f1, i1, b1, l1⟩, ⟨r2, f2, i2, b2, l2⟩, m12, m21⟩ := St.facts2 (HC.out.pick [0, 1] (by decide) rfl))
      go_upto_region 24 with fail
      (clear r1 f1 i1 b1 l1 r2 f2 i2 b2 l2 m12 m21)
      go_wp2_with fail
      go_loopw [13] (fun i wr => ∃ j : Nat, j ≤ N ∧ i = .int .i64 (j : Int) ∧ Hid (RpSt w s f N R go j wr)) (fun i _ => N - (intOf i).toNat)
      case atStart => exact ⟨0, by omega, rfl, Lib.hid (.ok (by omega) none 0 none 0 (fun _ => ndZero) [] [] [] [] q1 HQ.out (.nil _) (.nil _) rfl (fun i h => by cases h) HR.out HC.out)⟩
      case round =>
        clear HC HR
        obtain ⟨j, hj, rfl, HJ⟩ := hrel
        by_cases hlt : j < N
        · have d6 : (j : Int) < (N : Int) := by omega
          cases HJ.out with
          | bad c q2 d' hd' hq' hR hC =>
            have e1 : ((d' : Int) == 0) = false := by rw [beq_eq_false_iff_ne]; omega
            (have HC := Lib.hid hC
             have HR := Lib.hid hR
             have HD := Lib.hid hd'
             have HQ := Lib.hid hq'
             clear hC hR HJ hd' hq'
             (obtain ⟨⟨r1, f1, i1, b1, l1⟩, ⟨r2, f2, i2, b2, l2⟩, m12, m21⟩ := St.facts2 (HC.out.pick [0, 1] (by decide) rfl))
             go_wp2_with fail
             (clear r1 f1 i1 b1 l1 r2 f2 i2 b2 l2 m12 m21)
             (go_upto_region 38 with fail
              obtain ⟨⟨r1, f1, i1, b1, l1⟩, ⟨r2, f2, i2, b2, l2⟩, ⟨r3, f3, i3, b3, l3⟩, ⟨r4, f4, i4, b4, l4⟩, m12, m21, m13, m31, m14, m41, m23, m32, m24, m42, m34, m43⟩ := St.facts4 (HC.out.pick [0, 1, 2, 3] (by decide) rfl)
              go_region
              all_goals
                go_wp2_with fail
                (clear r1 f1 i1 b1 l1 r2 f2 i2 b2 l2 r3 f3 i3 b3 l3 r4 f4 i4 b4 l4 m12 m21 m13 m31 m14 m41 m23 m32 m24 m42 m34 m43)
                first
                  | refine ro_ends rfl rfl rfl (HC.out.tail.tail.drew.end2 _ _ (by simp only [ndC_size]) (by simp only [sc_size])) ?_
                  | refine ro_ends rfl rfl rfl (HC.out.tail.tail.drew.end2' _ _ (by simp only [ndC_size]) (by simp only [sc_size])) ?_)
             all_goals
               intro h
               rw [HR.out]
               exact .bad d' HD.out rfl HQ.out h.below)
          | ok hN ka kc na nc cs Bk Bn L' acc p' hp hk hnm h3 h4 hR hC =>
            obtain ⟨u, hu⟩ : ∃ u, N - j = u + 1 := ⟨N - j - 1, by omega⟩
            rw [hu] at hR
            have KR := Lib.hid (fun w => rRow_any s p' hp (by omega) w)
            obtain ⟨⟨r, q2, e2⟩, hrow⟩ : ∃ x, tkRow s p' = x := ⟨_, rfl⟩
            rw [hrow] at KR
            dsimp only at KR
            have HW := Lib.hid (tkRow_cases hrow)
            have HC := Lib.hid hC
            have HR := Lib.hid hR
            have HK := Lib.hid hk
            have HM := Lib.hid hnm
            have HL := Lib.hid h3
            have H4 := Lib.hid h4
            have HU := Lib.hid hu
            have HP := Lib.hid hp
            clear hC hR HJ hk h3 h4 hu hp hnm hrow
            (obtain ⟨⟨r1, f1, i1, b1, l1⟩, ⟨r2, f2, i2, b2, l2⟩, m12, m21⟩ := St.facts2 (HC.out.pick [0, 1] (by decide) rfl))
            go_wp2_with fail
            (clear r1 f1 i1 b1 l1 r2 f2 i2 b2 l2 m12 m21)
            refine (KR.out _).mono ?_; rintro r0 w7 ⟨rfl, hw⟩
            have HC := Lib.hid (HC.out.call hw)
            clear hw KR
            go_upto_region 29 with fail
            have HC := Lib.hid ((HC.out.push (sc s q2 e2) 76).perm (L' := (go, ndC ⟨5, 0, ⟨#[]⟩, ka, j, kc, na, j, nc⟩) :: (w.heap.size, sc s p' 0) :: (w7.heap.size, sc s q2 e2) :: (w.heap.size + 1, ndC ndZero) :: (w.heap.size + 1 + 1, sc ⟨#[]⟩ 0 0) :: (Bk ++ (Bn ++ L'))) (perm_of fun _ _ c1 c2 c3 => by simp only [c1, c2]; omega))
            generalize w7.alloc (Obj.cells (sc s q2 e2) 76) = w8 at HC ⊢
            generalize w7.heap.size = gr at HC ⊢
            (obtain ⟨⟨r1, f1, i1, b1, l1⟩, ⟨r2, f2, i2, b2, l2⟩, ⟨r3, f3, i3, b3, l3⟩, m12, m21, m13, m31, m23, m32⟩ := St.facts3 (HC.out.pick [0, 1, 2] (by decide) rfl))
            go_upto_region 30 with fail
            (clear r1 f1 i1 b1 l1 r2 f2 i2 b2 l2 r3 f3 i3 b3 l3 m12 m21 m13 m31 m23 m32)
            have HC := Lib.hid ((HC.out.swap.set_head (sc s q2 e2) (by rw [sc_size, sc_size])).swap.perm (L' := (go, ndC ⟨5, 0, ⟨#[]⟩, ka, j, kc, na, j, nc⟩) :: (w.heap.size, sc s q2 e2) :: (w.heap.size + 1, ndC ndZero) :: (w.heap.size + 1 + 1, sc ⟨#[]⟩ 0 0) :: (Bn ++ ((gr, sc s q2 e2) :: (Bk ++ L')))) (perm_of fun _ _ c1 c2 c3 => by simp only [c1, c2]; omega))
            generalize w8.setRow w.heap.size (sc s q2 e2) = w9 at HC ⊢
            obtain ⟨bo, hbo⟩ : ∃ b, badOrder acc r = b := ⟨_, rfl⟩
            have HBO := Lib.hid hbo
            clear hbo
            obtain ⟨bb, hbb⟩ : ∃ b, (decide (e2 = 0) && bo) = b := ⟨_, rfl⟩
            have HBB := Lib.hid hbb
            clear hbb
            go_cut [120] from 104 to 120 (fun v wx => v = .bool bb ∧ Hid (St w ((go, ndC ⟨5, 0, ⟨#[]⟩, ka, j, kc, na, j, nc⟩) :: (w.heap.size, sc s q2 e2) :: (w.heap.size + 1, ndC ndZero) :: (w.heap.size + 1 + 1, sc ⟨#[]⟩ 0 0) :: (Bn ++ ((gr, sc s q2 e2) :: (Bk ++ L')))) wx))
            case first =>
              by_cases he : e2 = 0
              · by_cases hj0 : j = 0
                · have hb := HBB.out
                  have h := HBO.out
                  rw [List.eq_nil_of_length_eq_zero (HL.out.trans hj0)] at h
                  obtain rfl : bb = false := by rw [← hb, ← h]; exact Bool.and_false _
                  subst hj0 he
                  clear hb h
                  (obtain ⟨⟨r1, f1, i1, b1, l1⟩, ⟨r2, f2, i2, b2, l2⟩, m12, m21⟩ := St.facts2 (HC.out.pick [0, 1] (by decide) rfl))
                  go_wp2_with fail
                  go_meet
                  exact ⟨rfl, HC⟩
                · obtain ⟨y, hy⟩ : ∃ y, j = y + 1 := ⟨j - 1, by omega⟩
                  have hb := badOrder_at acc r y (HL.out.trans hy)
                  rw [HBO.out] at hb
                  have hbb := HBB.out
                  rw [decide_eq_true he, Bool.true_and, hb] at hbb
                  have p1 : (0 : Int) < (j : Int) := by omega
                  have p2 : 0 < j := by omega
                  have v1 : IntKind.i64.wrap ((j : Int) - 1) = (y : Int) := by rw [IntWalk.i64_in _ (by omega)]; omega
                  have v2 : (j : Int) - 1 = (y : Int) := by omega
                  have v3 : IntKind.i64.wrap (y : Int) = (y : Int) := IntWalk.i64_in _ (by omega)
                  have y1 : (y : Int) < (j : Int) := by omega
                  have y2 : y < j := by omega
                  have y0 : (0 : Int) ≤ (y : Int) := by omega
                  obtain ⟨gn, rfl, hcell⟩ := HM.out.cell y y2
                  have k2 := hcell _ _ _ (fun x hx => .tail _ (.tail _ (.tail _ (.tail _ (List.mem_append.2 (.inl hx)))))) HC.out
                  clear hcell hb
                  generalize nameOf (acc.map Prod.fst) y = t' at k2 hbb
                  subst he
                  by_cases hle : lessT t' r = true
                  · obtain rfl : bb = false := by rw [← hbb, hle]; rfl
                    unfold lessT at hle
                    clear hbb hj0 hy
                    (obtain ⟨⟨r1, f1, i1, b1, l1⟩, ⟨r2, f2, i2, b2, l2⟩, m12, m21⟩ := St.facts2 (HC.out.pick [0, 1] (by decide) rfl))
                    go_wp2_with fail
                    go_meet
                    exact ⟨rfl, HC⟩
                  · have hle : lessT t' r = false := by simpa using hle
                    obtain rfl : bb = true := by rw [← hbb, hle]; rfl
                    unfold lessT at hle
                    clear hbb hj0 hy
                    (obtain ⟨⟨r1, f1, i1, b1, l1⟩, ⟨r2, f2, i2, b2, l2⟩, m12, m21⟩ := St.facts2 (HC.out.pick [0, 1] (by decide) rfl))
                    go_wp2_with fail
                    go_meet
                    exact ⟨rfl, HC⟩
              · have hb := HBB.out
                obtain rfl : bb = false := by rw [← hb, decide_eq_false he]; rfl
                have e1 : ((e2 : Int) == 0) = false := by rw [beq_eq_false_iff_ne]; omega
                clear hb he
                (obtain ⟨⟨r1, f1, i1, b1, l1⟩, ⟨r2, f2, i2, b2, l2⟩, m12, m21⟩ := St.facts2 (HC.out.pick [0, 1] (by decide) rfl))
                go_wp2_with fail
                go_meet
                exact ⟨rfl, HC⟩
            case rest =>
              obtain ⟨rfl, HJC⟩ := hcut
              clear HC
              have HC := HJC
              clear HJC
              rcases HW.out with ⟨he0, ht⟩ | ⟨he, hqp, ht⟩
              · obtain rfl : bb = bo := by have h := HBB.out; rw [decide_eq_true he0, Bool.true_and] at h; exact h.symm
                subst he0
                have HTR := Lib.hid ht
                have HQ2 := Lib.hid (takeR_le ht)
                clear ht HW HBB
                cases bb
                · have KK := Lib.hid (fun w => HI.out q2 w HQ2.out)
                  obtain ⟨Y, hY⟩ : ∃ Y, f q2 = Y := ⟨_, rfl⟩
                  rw [hY] at KK
                  have HY := Lib.hid hY
                  clear hY
                  (obtain ⟨⟨r1, f1, i1, b1, l1⟩, ⟨r2, f2, i2, b2, l2⟩, m12, m21⟩ := St.facts2 (HC.out.pick [0, 1] (by decide) rfl))
                  go_wp2_with (at_builtin; refine stop_list ?_)
                  (clear r1 f1 i1 b1 l1 r2 f2 i2 b2 l2 m12 m21)
                  have HC := Lib.hid ((HC.out.push #[.string r] 9).perm (L' := (wc.heap.size, #[.string r]) :: (Bn ++ ((go, ndC ⟨5, 0, ⟨#[]⟩, ka, j, kc, na, j, nc⟩) :: (w.heap.size, sc s q2 0) :: (w.heap.size + 1, ndC ndZero) :: (w.heap.size + 1 + 1, sc ⟨#[]⟩ 0 0) :: (gr, sc s q2 0) :: (Bk ++ L')))) (perm_of fun _ _ c1 c2 c3 => by simp only [c1, c2]; omega))
                  refine wpList_hold (w0 := w) rfl (.tmp 128) (.tmp 130) 24 9 rfl 1 grows_text na j nc _ Bn HM.out rfl wc.heap.size 1 #[.string r] rfl rfl (by simp [oneCells, Value.oneCell']) HC.out (by omega) (fun i => #[.string (nameOf (acc.map Prod.fst ++ [r]) i)]) (fun i hi => by rw [nameOf_snoc (j := j) _ _ _ (by rw [List.length_map]; exact HL.out), if_neg (by omega)]) (by rw [nameOf_snoc (j := j) _ _ _ (by rw [List.length_map]; exact HL.out), if_pos rfl]) ?_
                  intro bn cn Bn' w10 hHn hC'
                  have HMN := Lib.hid hHn
                  have HC := Lib.hid ((hC'.perm (L' := ((go, ndC ⟨5, 0, ⟨#[]⟩, ka, j, kc, na, j, nc⟩) :: (w.heap.size, sc s q2 0) :: (w.heap.size + 1, ndC ndZero) :: (w.heap.size + 1 + 1, sc ⟨#[]⟩ 0 0) :: (Bk ++ (Bn' ++ L'))) ++ [(gr, sc s q2 0)]) (perm_of fun _ _ c1 c2 c3 => by simp only [c1, c2]; omega)).forget)
                  clear hHn hC' HM
                  (obtain ⟨r1, f1, i1, b1, l1⟩ := St.facts1 (HC.out.pick [0] (by decide) rfl))
                  go_upto_region 35 with fail
                  (clear r1 f1 i1 b1 l1)
                  have HC := Lib.hid (HC.out.set_head (ndC ⟨5, 0, ⟨#[]⟩, ka, j, kc, bn, j + 1, cn⟩) (by rw [ndC_size, ndC_size]))
                  generalize w10.setRow go (ndC ⟨5, 0, ⟨#[]⟩, ka, j, kc, bn, j + 1, cn⟩) = w11 at HC ⊢
                  (obtain ⟨⟨r1, f1, i1, b1, l1⟩, ⟨r2, f2, i2, b2, l2⟩, m12, m21⟩ := St.facts2 (HC.out.pick [0, 1] (by decide) rfl))
                  go_wp2_with fail
                  (clear r1 f1 i1 b1 l1 r2 f2 i2 b2 l2 m12 m21)
                  refine (KK.out _).mono ?_; rintro r0 w7 ⟨c, q3, e3, rfl, ht⟩
                  cases ht with
                  | bad d' hd' he hq' hb' =>
                    have HC := Lib.hid (HC.out.call hb')
                    have HE := Lib.hid he
                    have HD := Lib.hid hd'
                    have HQ3 := Lib.hid hq'
                    clear hb' hd' hq' he KK
                    (go_upto_region 36 with fail
                     have HC := Lib.hid (((HC.out.push (ndC c) 26).pushA (sc s q3 e3) 76 (g := w7.heap.size + 1) (by simp)).perm (L' := (go, ndC ⟨5, 0, ⟨#[]⟩, ka, j, kc, bn, j + 1, cn⟩) :: (w.heap.size, sc s q2 0) :: (w7.heap.size, ndC c) :: (w7.heap.size + 1, sc s q3 e3) :: (w.heap.size + 1, ndC ndZero) :: (w.heap.size + 1 + 1, sc ⟨#[]⟩ 0 0) :: (Bk ++ (Bn' ++ L'))) (perm_of fun _ _ c1 c2 c3 => by simp only [c1, c2]; omega))
                     generalize (w7.alloc (Obj.cells (ndC c) 26)).alloc (Obj.cells (sc s q3 e3) 76) = w8 at HC ⊢
                     generalize w7.heap.size = gk at HC ⊢
                     (obtain ⟨⟨r1, f1, i1, b1, l1⟩, ⟨r2, f2, i2, b2, l2⟩, ⟨r3, f3, i3, b3, l3⟩, ⟨r4, f4, i4, b4, l4⟩, m12, m21, m13, m31, m14, m41, m23, m32, m24, m42, m34, m43⟩ := St.facts4 (HC.out.pick [0, 1, 2, 3] (by decide) rfl))
                     go_upto_region 37 with fail
                     (clear r1 f1 i1 b1 l1 r2 f2 i2 b2 l2 r3 f3 i3 b3 l3 r4 f4 i4 b4 l4 m12 m21 m13 m31 m14 m41 m23 m32 m24 m42 m34 m43)
                     have HC := Lib.hid (HC.out.swap.set_head (sc s q3 e3) (by rw [sc_size, sc_size])).swap
                     generalize w8.setRow w.heap.size (sc s q3 e3) = w9 at HC ⊢
                     (obtain ⟨⟨r1, f1, i1, b1, l1⟩, ⟨r2, f2, i2, b2, l2⟩, ⟨r3, f3, i3, b3, l3⟩, m12, m21, m13, m31, m23, m32⟩ := St.facts3 (HC.out.pick [0, 1, 2] (by decide) rfl))
                     go_wp2_with (at_builtin; refine stop_list ?_)
                     (clear r1 f1 i1 b1 l1 r2 f2 i2 b2 l2 r3 f3 i3 b3 l3 m12 m21 m13 m31 m23 m32)
                     have HC := Lib.hid ((HC.out.push (ndC c) 26).perm (L' := (w9.heap.size, ndC c) :: (Bk ++ ((go, ndC ⟨5, 0, ⟨#[]⟩, ka, j, kc, bn, j + 1, cn⟩) :: (w.heap.size, sc s q3 e3) :: (gk, ndC c) :: (gk + 1, sc s q3 e3) :: (w.heap.size + 1, ndC ndZero) :: (w.heap.size + 1 + 1, sc ⟨#[]⟩ 0 0) :: (Bn' ++ L')))) (perm_of fun _ _ c1 c2 c3 => by simp only [c1, c2]; omega))
                     refine wpList_hold (w0 := w) rfl (.tmp 142) (.tmp 144) 23 26 rfl 5 grows_node ka j kc _ Bk HK.out rfl w9.heap.size 1 (ndC c) rfl (ndC_size _) (ndC_one _) HC.out (by omega) (fun i => ndC (if i = j then c else cs i)) (fun i hi => by rw [if_neg (by omega)]) (by rw [if_pos rfl]) ?_)
                    intro b' c' B' w12 hH' hC'
                    have HC := Lib.hid ((hC'.perm (L' := ((go, ndC ⟨5, 0, ⟨#[]⟩, ka, j, kc, bn, j + 1, cn⟩) :: (w.heap.size, sc s q3 e3) :: (w.heap.size + 1, ndC ndZero) :: (w.heap.size + 1 + 1, sc ⟨#[]⟩ 0 0) :: []) ++ (B' ++ (Bn' ++ (gk, ndC c) :: (gk + 1, sc s q3 e3) :: L'))) (perm_of fun _ _ c1 c2 c3 => by simp only [c1, c2]; omega)).forget)
                    clear hC' hH'
                    ((obtain ⟨r1, f1, i1, b1, l1⟩ := St.facts1 (HC.out.pick [0] (by decide) rfl))
                     go_upto_region 26 with fail
                     (clear r1 f1 i1 b1 l1)
                     have HC := Lib.hid (HC.out.set_head (ndC ⟨5, 0, ⟨#[]⟩, b', j + 1, c', bn, j + 1, cn⟩) (by rw [ndC_size, ndC_size]))
                     generalize w12.setRow go (ndC ⟨5, 0, ⟨#[]⟩, b', j + 1, c', bn, j + 1, cn⟩) = w13 at HC ⊢
                     go_wp2_with fail
                     go_roundw)
                    case rel => exact ⟨j + 1, by omega, by go_num, Lib.hid (.bad _ q3 e3 (by rw [HE.out]; exact HD.out) HQ3.out (by rw [HE.out]; exact HR.out.symm.trans (named_bad HTR.out HBO.out HY.out)) HC.out)⟩
                    case measure => simp [intOf]; omega
                  | ok x L2 hx he hq' hS =>
                    have HC := Lib.hid ((HC.out.joins hS).perm (L' := (go, ndC ⟨5, 0, ⟨#[]⟩, ka, j, kc, bn, j + 1, cn⟩) :: (w.heap.size, sc s q2 0) :: (w.heap.size + 1, ndC ndZero) :: (w.heap.size + 1 + 1, sc ⟨#[]⟩ 0 0) :: (Bk ++ (Bn' ++ (L2 ++ L')))) (perm_of fun _ _ c1 c2 c3 => by simp only [c1, c2]; omega))
                    have HM4 := Lib.hid (more_node (r := r) HL.out H4.out hx)
                    have HE := Lib.hid he
                    have HQ3 := Lib.hid hq'
                    obtain ⟨L', hLL⟩ : ∃ LL, L2 ++ L' = LL := ⟨_, rfl⟩
                    rw [hLL] at HC HM4
                    clear hS he hq' hx H4 hLL KK
                    (go_upto_region 36 with fail
                     have HC := Lib.hid (((HC.out.push (ndC c) 26).pushA (sc s q3 e3) 76 (g := w7.heap.size + 1) (by simp)).perm (L' := (go, ndC ⟨5, 0, ⟨#[]⟩, ka, j, kc, bn, j + 1, cn⟩) :: (w.heap.size, sc s q2 0) :: (w7.heap.size, ndC c) :: (w7.heap.size + 1, sc s q3 e3) :: (w.heap.size + 1, ndC ndZero) :: (w.heap.size + 1 + 1, sc ⟨#[]⟩ 0 0) :: (Bk ++ (Bn' ++ L'))) (perm_of fun _ _ c1 c2 c3 => by simp only [c1, c2]; omega))
                     generalize (w7.alloc (Obj.cells (ndC c) 26)).alloc (Obj.cells (sc s q3 e3) 76) = w8 at HC ⊢
                     generalize w7.heap.size = gk at HC ⊢
                     (obtain ⟨⟨r1, f1, i1, b1, l1⟩, ⟨r2, f2, i2, b2, l2⟩, ⟨r3, f3, i3, b3, l3⟩, ⟨r4, f4, i4, b4, l4⟩, m12, m21, m13, m31, m14, m41, m23, m32, m24, m42, m34, m43⟩ := St.facts4 (HC.out.pick [0, 1, 2, 3] (by decide) rfl))
                     go_upto_region 37 with fail
                     (clear r1 f1 i1 b1 l1 r2 f2 i2 b2 l2 r3 f3 i3 b3 l3 r4 f4 i4 b4 l4 m12 m21 m13 m31 m14 m41 m23 m32 m24 m42 m34 m43)
                     have HC := Lib.hid (HC.out.swap.set_head (sc s q3 e3) (by rw [sc_size, sc_size])).swap
                     generalize w8.setRow w.heap.size (sc s q3 e3) = w9 at HC ⊢
                     (obtain ⟨⟨r1, f1, i1, b1, l1⟩, ⟨r2, f2, i2, b2, l2⟩, ⟨r3, f3, i3, b3, l3⟩, m12, m21, m13, m31, m23, m32⟩ := St.facts3 (HC.out.pick [0, 1, 2] (by decide) rfl))
                     go_wp2_with (at_builtin; refine stop_list ?_)
                     (clear r1 f1 i1 b1 l1 r2 f2 i2 b2 l2 r3 f3 i3 b3 l3 m12 m21 m13 m31 m23 m32)
                     have HC := Lib.hid ((HC.out.push (ndC c) 26).perm (L' := (w9.heap.size, ndC c) :: (Bk ++ ((go, ndC ⟨5, 0, ⟨#[]⟩, ka, j, kc, bn, j + 1, cn⟩) :: (w.heap.size, sc s q3 e3) :: (gk, ndC c) :: (gk + 1, sc s q3 e3) :: (w.heap.size + 1, ndC ndZero) :: (w.heap.size + 1 + 1, sc ⟨#[]⟩ 0 0) :: (Bn' ++ L')))) (perm_of fun _ _ c1 c2 c3 => by simp only [c1, c2]; omega))
                     refine wpList_hold (w0 := w) rfl (.tmp 142) (.tmp 144) 23 26 rfl 5 grows_node ka j kc _ Bk HK.out rfl w9.heap.size 1 (ndC c) rfl (ndC_size _) (ndC_one _) HC.out (by omega) (fun i => ndC (if i = j then c else cs i)) (fun i hi => by rw [if_neg (by omega)]) (by rw [if_pos rfl]) ?_)
                    intro b' c' B' w12 hH' hC'
                    have HC := Lib.hid ((hC'.perm (L' := ((go, ndC ⟨5, 0, ⟨#[]⟩, ka, j, kc, bn, j + 1, cn⟩) :: (w.heap.size, sc s q3 e3) :: (w.heap.size + 1, ndC ndZero) :: (w.heap.size + 1 + 1, sc ⟨#[]⟩ 0 0) :: (B' ++ (Bn' ++ L'))) ++ ((gk, ndC c) :: (gk + 1, sc s q3 e3) :: [])) (perm_of fun _ _ c1 c2 c3 => by simp only [c1, c2]; omega)).forget)
                    have HH := Lib.hid hH'
                    clear hC' hH'
                    ((obtain ⟨r1, f1, i1, b1, l1⟩ := St.facts1 (HC.out.pick [0] (by decide) rfl))
                     go_upto_region 26 with fail
                     (clear r1 f1 i1 b1 l1)
                     have HC := Lib.hid (HC.out.set_head (ndC ⟨5, 0, ⟨#[]⟩, b', j + 1, c', bn, j + 1, cn⟩) (by rw [ndC_size, ndC_size]))
                     generalize w12.setRow go (ndC ⟨5, 0, ⟨#[]⟩, b', j + 1, c', bn, j + 1, cn⟩) = w13 at HC ⊢
                     go_wp2_with fail
                     go_roundw)
                    case rel => exact ⟨j + 1, by omega, by go_num, Lib.hid (.ok hN b' c' bn cn (fun i => if i = j then c else cs i) B' Bn' L' (acc ++ [(r, x)]) q3 HQ3.out HH.out (by rw [List.map_append]; exact HMN.out) (by rw [List.length_append, HL.out]; rfl) HM4.out (by rw [show N - (j + 1) = u by have := HU.out; omega]; exact (named_ok HTR.out HBO.out HY.out).symm.trans HR.out) (by have h := HC.out; rw [HE.out] at h; exact h))⟩
                    case measure => simp [intOf]; omega
                · have h4' : (sc s q2 0).setIfInBounds 2 (.int .i64 4) = sc s q2 4 := by simp [sc]
                  (obtain ⟨⟨r1, f1, i1, b1, l1⟩, ⟨r2, f2, i2, b2, l2⟩, m12, m21⟩ := St.facts2 (HC.out.pick [0, 1] (by decide) rfl))
                  go_upto_region 32 with fail
                  (clear r1 f1 i1 b1 l1 r2 f2 i2 b2 l2 m12 m21)
                  have HC := Lib.hid (HC.out.swap.set_head (sc s q2 4) (by rw [sc_size, sc_size])).swap
                  generalize wc.setRow w.heap.size (sc s q2 4) = w11 at HC ⊢
                  ((obtain ⟨⟨r1, f1, i1, b1, l1⟩, ⟨r2, f2, i2, b2, l2⟩, m12, m21⟩ := St.facts2 (HC.out.pick [0, 1] (by decide) rfl))
                   go_upto_region 33 with fail
                   (clear r1 f1 i1 b1 l1 r2 f2 i2 b2 l2 m12 m21)
                   obtain ⟨⟨r1, f1, i1, b1, l1⟩, ⟨r2, f2, i2, b2, l2⟩, ⟨r3, f3, i3, b3, l3⟩, m12, m21, m13, m31, m23, m32⟩ := St.facts3 (HC.out.pick [1, 2, 3] (by decide) rfl)
                   go_region
                   all_goals
                     go_wp2_with fail
                     (clear r1 f1 i1 b1 l1 r2 f2 i2 b2 l2 r3 f3 i3 b3 l3 m12 m21 m13 m31 m23 m32)
                     first
                       | refine ro_ends rfl rfl rfl (HC.out.tail.tail.drew.end2 _ _ (by simp only [ndC_size]) (by simp only [sc_size])) ?_
                       | refine ro_ends rfl rfl rfl (HC.out.tail.tail.drew.end2' _ _ (by simp only [ndC_size]) (by simp only [sc_size])) ?_)
                  all_goals
                    intro h
                    rw [← HR.out, named_order HTR.out HBO.out]
                    exact .bad 4 (by decide) rfl HQ2.out h.below
              · obtain rfl : bb = false := by have h := HBB.out; rw [decide_eq_false he] at h; exact h.symm
                have e1 : ((e2 : Int) != 0) = true := by rw [bne_iff_ne]; omega
                have HE := Lib.hid he
                have HTR := Lib.hid ht
                have HQ2 := Lib.hid (show q2 ≤ s.size by rw [hqp]; exact HP.out)
                clear ht he hqp HW HBB
                ((obtain ⟨⟨r1, f1, i1, b1, l1⟩, ⟨r2, f2, i2, b2, l2⟩, m12, m21⟩ := St.facts2 (HC.out.pick [0, 1] (by decide) rfl))
                 go_upto_region 33 with fail
                 (clear r1 f1 i1 b1 l1 r2 f2 i2 b2 l2 m12 m21)
                 obtain ⟨⟨r1, f1, i1, b1, l1⟩, ⟨r2, f2, i2, b2, l2⟩, ⟨r3, f3, i3, b3, l3⟩, m12, m21, m13, m31, m23, m32⟩ := St.facts3 (HC.out.pick [1, 2, 3] (by decide) rfl)
                 go_region
                 all_goals
                   go_wp2_with fail
                   (clear r1 f1 i1 b1 l1 r2 f2 i2 b2 l2 r3 f3 i3 b3 l3 m12 m21 m13 m31 m23 m32)
                   first
                     | refine ro_ends rfl rfl rfl (HC.out.tail.tail.drew.end2 _ _ (by simp only [ndC_size]) (by simp only [sc_size])) ?_
                     | refine ro_ends rfl rfl rfl (HC.out.tail.tail.drew.end2' _ _ (by simp only [ndC_size]) (by simp only [sc_size])) ?_)
                all_goals
                  intro h
                  rw [← HR.out, named_row HTR.out]
                  exact .bad e2 HE.out rfl HQ2.out h.below
        · obtain rfl : j = N := by omega
          cases HJ.out with
          | bad c q2 d' hd' hq' hR hC =>
            (have HC := Lib.hid hC
             have HR := Lib.hid hR
             have HD := Lib.hid hd'
             have HQ := Lib.hid hq'
             clear hC hR HJ hd' hq'
             (obtain ⟨⟨r1, f1, i1, b1, l1⟩, ⟨r2, f2, i2, b2, l2⟩, m12, m21⟩ := St.facts2 (HC.out.pick [0, 1] (by decide) rfl))
             go_wp2_with fail
             (clear r1 f1 i1 b1 l1 r2 f2 i2 b2 l2 m12 m21)
             (go_upto_region 38 with fail
              obtain ⟨⟨r1, f1, i1, b1, l1⟩, ⟨r2, f2, i2, b2, l2⟩, ⟨r3, f3, i3, b3, l3⟩, ⟨r4, f4, i4, b4, l4⟩, m12, m21, m13, m31, m14, m41, m23, m32, m24, m42, m34, m43⟩ := St.facts4 (HC.out.pick [0, 1, 2, 3] (by decide) rfl)
              go_region
              all_goals
                go_wp2_with fail
                (clear r1 f1 i1 b1 l1 r2 f2 i2 b2 l2 r3 f3 i3 b3 l3 r4 f4 i4 b4 l4 m12 m21 m13 m31 m14 m41 m23 m32 m24 m42 m34 m43)
                first
                  | refine ro_ends rfl rfl rfl (HC.out.tail.tail.drew.end2 _ _ (by simp only [ndC_size]) (by simp only [sc_size])) ?_
                  | refine ro_ends rfl rfl rfl (HC.out.tail.tail.drew.end2' _ _ (by simp only [ndC_size]) (by simp only [sc_size])) ?_)
             all_goals
               intro h
               rw [HR.out]
               exact .bad d' HD.out rfl HQ.out h.below)
          | ok hN ka kc na nc cs Bk Bn L' acc p' hp hk hnm h3 h4 hR hC =>
            rw [Nat.sub_self, itemsA] at hR
            have HM := Lib.hid hnm
            have HC := Lib.hid hC
            have HR := Lib.hid hR
            have HK := Lib.hid hk
            have HL := Lib.hid h3
            have H4 := Lib.hid h4
            have HP := Lib.hid hp
            clear hC hR HJ hk h3 h4 hp hnm
            (obtain ⟨⟨r1, f1, i1, b1, l1⟩, ⟨r2, f2, i2, b2, l2⟩, m12, m21⟩ := St.facts2 (HC.out.pick [0, 1] (by decide) rfl))
            go_wp2_with fail
            (clear r1 f1 i1 b1 l1 r2 f2 i2 b2 l2 m12 m21)
            (go_upto_region 38 with fail
             obtain ⟨⟨r1, f1, i1, b1, l1⟩, ⟨r2, f2, i2, b2, l2⟩, ⟨r3, f3, i3, b3, l3⟩, ⟨r4, f4, i4, b4, l4⟩, m12, m21, m13, m31, m14, m41, m23, m32, m24, m42, m34, m43⟩ := St.facts4 (HC.out.pick [0, 1, 2, 3] (by decide) rfl)
             go_region
             all_goals
               go_wp2_with fail
               (clear r1 f1 i1 b1 l1 r2 f2 i2 b2 l2 r3 f3 i3 b3 l3 r4 f4 i4 b4 l4 m12 m21 m13 m31 m14 m41 m23 m32 m24 m42 m34 m43)
               first
                 | refine ro_ends rfl rfl rfl (HC.out.tail.tail.drew.end2 _ _ (by simp only [ndC_size]) (by simp only [sc_size])) ?_
                 | refine ro_ends rfl rfl rfl (HC.out.tail.tail.drew.end2' _ _ (by simp only [ndC_size]) (by simp only [sc_size])) ?_)
            all_goals
              intro h
              rw [← HR.out]
              refine .ok (ofItems 5 acc) (Bk ++ (Bn ++ L')) ?_ rfl HP.out h
              have hl : (acc.map Prod.snd).length = j := by rw [List.length_map]; exact HL.out
              have hl2 : (acc.map Prod.fst).length = j := by rw [List.length_map]; exact HL.out
              unfold ofItems
              rw [if_pos rfl]
              have k := NodeIn.mk (L := Bk ++ (Bn ++ L')) ⟨5, 0, noT, ka, (acc.map Prod.snd).length, kc, na, (acc.map Prod.fst).length, nc⟩ (acc.map Prod.snd) (acc.map Prod.fst) cs (show 5 < 256 by decide) (show 0 < 18446744073709551616 by decide) rfl rfl (by rw [hl]; exact HK.out.in fun x hx => List.mem_append.2 (.inl hx)) (fun i hi => by
                rw [List.getElem_map]
                exact (H4.out i (by rw [List.length_map] at hi; exact hi)).mono fun x hx => List.mem_append.2 (.inr (List.mem_append.2 (.inr hx)))) (by rw [hl2]; exact HM.out.in fun x hx => List.mem_append.2 (.inr (List.mem_append.2 (.inl hx))))
              rw [hl, hl2] at k
              exact k
  · have e2 : tk s q 0 1 = (0, q, 3) := by unfold tk; rw [if_neg (fun h => h rfl), if_neg h1]
    rw [if_neg h1, if_pos (show (3 : Nat) ≠ 0 by decide)] at hR
    rw [e2] at K2
    have HR := Lib.hid hR
    clear hR h1 HI hd e2 IH hn
    ((go_enter Try.func34, Try.ntmps34
      (obtain ⟨⟨r1, f1, i1, b1, l1⟩, ⟨r2, f2, i2, b2, l2⟩, ⟨r3, f3, i3, b3, l3⟩, m12, m21, m13, m31, m23, m32⟩ := St.facts3 (HC.out.pick [0, 1, 2] (by decide) rfl))
      go_wp2_with fail
      (clear r1 f1 i1 b1 l1 r2 f2 i2 b2 l2 r3 f3 i3 b3 l3 m12 m21 m13 m31 m23 m32)
      refine (K.out _).mono ?_; rintro r0 w1 ⟨rfl, hw⟩
      have HC := Lib.hid (HC.out.call hw)
      clear hw K
      (obtain ⟨r1, f1, i1, b1, l1⟩ := St.facts1 (HC.out.pick [0] (by decide) rfl))
      go_upto_region 2 with fail
      (clear r1 f1 i1 b1 l1))
     have HC := Lib.hid (HC.out.set_head (sc s q 0) (by rw [sc_size, sc_size]))
     generalize w1.setRow w.heap.size (sc s q 0) = w2 at HC ⊢)
    (obtain ⟨r1, f1, i1, b1, l1⟩ := St.facts1 (HC.out.pick [0] (by decide) rfl))
    go_wp2_with fail
    (clear r1 f1 i1 b1 l1)
    refine (K2.out _).mono ?_; rintro r0 w3 ⟨rfl, hw⟩
    have HC := Lib.hid (HC.out.call hw)
    clear hw K2
    (obtain ⟨r1, f1, i1, b1, l1⟩ := St.facts1 (HC.out.pick [0] (by decide) rfl))
    go_upto_region 21 with fail
    (clear r1 f1 i1 b1 l1)
    have HC := Lib.hid (HC.out.set_head (sc s q 3) (by rw [sc_size, sc_size]))
    generalize w3.setRow w.heap.size _ = w4 at HC ⊢
    (obtain ⟨r1, f1, i1, b1, l1⟩ := St.facts1 (HC.out.pick [0] (by decide) rfl))
    go_upto_region 22 with fail
    (clear r1 f1 i1 b1 l1)
    have HC := Lib.hid (HC.out.push (ndC ⟨5, 0, ⟨#[]⟩, none, 0, 0, none, 0, 0⟩) 26)
    generalize w4.alloc _ = w5 at HC ⊢
    generalize w4.heap.size = go at HC ⊢
    (obtain ⟨⟨r1, f1, i1, b1, l1⟩, ⟨r2, f2, i2, b2, l2⟩, m12, m21⟩ := St.facts2 (HC.out.pick [0, 1] (by decide) rfl))
    go_upto_region 24 with fail
    (clear r1 f1 i1 b1 l1 r2 f2 i2 b2 l2 m12 m21)
    go_wp2_with fail
    go_loopw [13] (fun i wr => i = .int .i64 0 ∧ wr = w5) (fun _ _ => 0)
    case atStart => exact ⟨rfl, rfl⟩
    case round =>
      obtain ⟨rfl, rfl⟩ := hrel
      (obtain ⟨⟨r1, f1, i1, b1, l1⟩, ⟨r2, f2, i2, b2, l2⟩, m12, m21⟩ := St.facts2 (HC.out.pick [0, 1] (by decide) rfl))
      go_wp2_with fail
      (clear r1 f1 i1 b1 l1 r2 f2 i2 b2 l2 m12 m21)
      (go_upto_region 38 with fail
       obtain ⟨⟨r1, f1, i1, b1, l1⟩, ⟨r2, f2, i2, b2, l2⟩, ⟨r3, f3, i3, b3, l3⟩, ⟨r4, f4, i4, b4, l4⟩, m12, m21, m13, m31, m14, m41, m23, m32, m24, m42, m34, m43⟩ := St.facts4 (HC.out.pick [0, 1, 2, 3] (by decide) rfl)
       go_region
       all_goals
         go_wp2_with fail
         (clear r1 f1 i1 b1 l1 r2 f2 i2 b2 l2 r3 f3 i3 b3 l3 r4 f4 i4 b4 l4 m12 m21 m13 m31 m14 m41 m23 m32 m24 m42 m34 m43)
         first
           | refine ro_ends rfl rfl rfl (HC.out.tail.tail.drew.end2 _ _ (by simp only [ndC_size]) (by simp only [sc_size])) ?_
           | refine ro_ends rfl rfl rfl (HC.out.tail.tail.drew.end2' _ _ (by simp only [ndC_size]) (by simp only [sc_size])) ?_)
      all_goals
        intro h
        rw [← HR.out]
        exact .bad 3 (by decide) rfl HQ.out h.below
end Go.Proofs.Ytinlcpenllfcpaa
