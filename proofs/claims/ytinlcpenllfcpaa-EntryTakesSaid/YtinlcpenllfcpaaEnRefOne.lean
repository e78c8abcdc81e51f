/- The reference's one: a value off a text; where it is no list. -/
import Derived.Test.YtinlcpenllfcpaaEnHold
import Derived.Test.YtinlcpenllfcpaaEnRefTk
import Derived.Test.YtinlcpenllfcpaaEnValue
namespace Go.Proofs.Ytinlcpenllfcpaa
open Go.RowKit
attribute [local go_sem] B_xor B_or B_and
attribute [local go_sem] blk_set blk_size blk_get blk_getE upd_same oneCells_blk paste_blk cut_blk szOf
attribute [local go_sem high] paste_all cut_head
attribute [local go_sem] rowAt_alloc rowAt_drew rowAt_drewN isRow_alloc isRow_drew isRow_drewN freeRow_alloc freeRow_end freeRow_drew freeRow_drewN
attribute [local go_sem] setRow_alloc setRow_drew setRow_drewN setCell_drewN alloc_drewN rowAt_put isRow_setRow freeRow_put
attribute [local go_sem ↓] loadS_in storeS_in indexS_in copyS_in
attribute [local go_sem] loadS_row loadS_one storeS_row storeS_one indexS_blk copyS_rows run_equalIn_blk same_refl arrayAt_row
attribute [local go_sem] cell_row frozen_row st_setCell st_blk_ne stepAt stepUpon
attribute [local go_sem high] run_eql_blk run_neq_blk
attribute [local go_sem ↓] convBS_in
attribute [local go_sem] convBS_row convBS_nil allBytes_blk bytesOf_blk
attribute [local go_sem] ndC_size ndC_get0 ndC_get1 ndC_get2 ndC_get3 ndC_get4 ndC_getE0 ndC_getE1 ndC_getE2 ndC_getE3 ndC_getE4 ndC_ne ndC_one ndC_cut ndC_paste ndC_set0 ndC_set1 ndC_set2 ndC_set3 ndC_set4 size_nd agg_nd
attribute [local go_sem] size_rtk agg_rtk sc_size sc_get0 sc_get1 sc_get2 sc_getE0 sc_getE1 sc_getE2 sc_set1 sc_set2 sc_ne sc_one sc_cut sc_paste

/-- what one tells -/
inductive OneR (w : World) (s : ByteArray) (c : NdC) (q e : Nat) (w' : World) : PR → Prop
  | bad (d : Nat) (hd : d ≠ 0) (he : e = d) (hq : q ≤ s.size) (hb : Below w.heap.size w w') : OneR w s c q e w' (.error d)
  | ok (x : Nd) (L : List (Nat × Array Value)) (hx : NodeIn L c x) (he : e = 0) (hq : q ≤ s.size) (hC : St w L w') : OneR w s c q e w' (.ok (x, q))
def One (w : World) (s : ByteArray) (R : PR) (r : Ending) (w' : World) : Prop := ∃ c q e, r = .returned (.tuple #[.agg (ndC c), .agg (sc s q e)]) ∧ OneR w s c q e w' R
theorem ro_results {w0 W : World} {L : List (Nat × Array Value)} {c : NdC} {s : ByteArray} {q e : Nat} (g4 g5 : Nat) (tmps : Array Value) (h4 : tmps.getD 4 undef = .pointer (some ⟨g4, 0, none⟩)) (h5 : tmps.getD 5 undef = .pointer (some ⟨g5, 0, none⟩)) (hC : St w0 ((g4, ndC c) :: (g5, sc s q e) :: L) W) :
    (results Try.f34 tmps).run Try.prog W = .ok (.tuple #[.agg (ndC c), .agg (sc s q e)]) W := by
  obtain ⟨_, r4, _, i4⟩ := hC.rows (g4, ndC c) (.head _)
  obtain ⟨_, r5, _, i5⟩ := hC.rows (g5, sc s q e) (.tail _ (.head _))
  refine results_pp rfl tmps g4 g5 h4 h5 _ _ r4 r5 (agg_nd W) ?_ i4 (agg_rtk W) ?_ i5
  · rw [ndC_size]; exact size_nd W
  · rw [sc_size]; exact size_rtk W
theorem ndC_bool (m : Nat) : ((ndC ndZero).setIfInBounds 0 (.int .u8 1)).setIfInBounds 1 (.int .u64 (m : Int)) = ndC ⟨1, m, ⟨#[]⟩, none, 0, 0, none, 0, 0⟩ := by simp [ndC, ndZero]
theorem ndC_num (m : Nat) : ((ndC ndZero).setIfInBounds 0 (.int .u8 2)).setIfInBounds 1 (.int .u64 (m : Int)) = ndC ⟨2, m, ⟨#[]⟩, none, 0, 0, none, 0, 0⟩ := by simp [ndC, ndZero]
theorem ndC_text (t : ByteArray) : ((ndC ndZero).setIfInBounds 0 (.int .u8 3)).setIfInBounds 2 (.string t) = ndC ⟨3, 0, t, none, 0, 0, none, 0, 0⟩ := by simp [ndC, ndZero]
/-- the ends -/
theorem ro_ends {w : World} {W : World} {s : ByteArray} {q e : Nat} {c : NdC} {L : List (Nat × Array Value)} {R : PR} {a : Act} (hd : a.defers = []) (h4 : a.tmps.getD 4 undef = .pointer (some ⟨w.heap.size + 1, 0, none⟩)) (h5 : a.tmps.getD 5 undef = .pointer (some ⟨w.heap.size + 1 + 1, 0, none⟩)) (hC : St w ((w.heap.size + 1, ndC c) :: (w.heap.size + 1 + 1, sc s q e) :: L) W)
    (hR : St w L W → OneR w s c q e W R) : bodyPost Try.prog Try.f34 (One w s R) .ret a W :=
  bodyPost_ret (ro_results _ _ _ h4 h5 hC) hd ⟨c, q, e, rfl, hR hC.tail.tail⟩
theorem ro_start (s : ByteArray) (p : Nat) (w : World) : St w [(w.heap.size, sc s p 0), (w.heap.size + 1, ndC ndZero), (w.heap.size + 1 + 1, sc ⟨#[]⟩ 0 0)] (((w.alloc (.cells (sc s p 0) 76)).alloc (.cells (ndC ndZero) 26)).alloc (.cells (sc ⟨#[]⟩ 0 0) 76)) :=
  ((((St.nil w).pushA (sc s p 0) 76 rfl).pushA (ndC ndZero) 26 (g := w.heap.size + 1) (by simp)).pushA (sc ⟨#[]⟩ 0 0) 76 (g := w.heap.size + 1 + 1) (by simp)).pick [2, 1, 0] (by decide) rfl
set_option maxRecDepth 100000 in
set_option maxHeartbeats 2000000 in
theorem ro_leaf (s : ByteArray) (hs : s.size < 2 ^ 30) (f : Option (Nat → PR)) (d : Nat) (p : Nat) (w : World) (hp : p ≤ s.size) (hk : s.size < p + 1 ∨ numAt s p 1 < 5 ∨ 6 < numAt s p 1) :
    Calls Try.prog 34 #[.agg (sc s p 0), .int .i64 (d : Int)] w (One w s (oneWith s f p)) := by
  have hz := rtk_nought
  have hnz := ndC_zero
  have HC := Lib.hid (ro_start s p w)
  have K := Lib.hid (fun w => rNum_any s p 0 1 (by omega) (by omega) hp (by omega) w)
  rw [oneWith_eq]
  by_cases hn : p + 1 ≤ s.size
  · rw [if_pos hn]
    have hk := hk.resolve_left (by omega)
    have e1 : tk s p 0 1 = (numAt s p 1, p + 1, 0) := by unfold tk; rw [if_neg (fun h => h rfl), if_pos hn]
    rw [e1] at K
    obtain ⟨k, hke⟩ : ∃ k, numAt s p 1 = k := ⟨_, rfl⟩
    obtain ⟨q, hq⟩ : ∃ q, p + 1 = q := ⟨_, rfl⟩
    rw [hke] at K hk ⊢
    rw [hq] at K hn ⊢
    clear e1 hke hq hp
    have HQ := Lib.hid hn
    by_cases c6 : 6 < k
    · have e : restR s f k q = .error 22 := by unfold restR; rw [if_pos c6]
      rw [e]
      have d6 : (6 : Int) < (k : Int) := by omega
      have h22 : (sc s q 0).setIfInBounds 2 (.int .i64 22) = sc s q 22 := by simp [sc]
      clear e hn hk c6
      ((go_enter Try.func34, Try.ntmps34
        (obtain ⟨⟨r1, f1, i1, b1, l1⟩, ⟨r2, f2, i2, b2, l2⟩, ⟨r3, f3, i3, b3, l3⟩, m12, m21, m13, m31, m23, m32⟩ := St.facts3 (HC.out.pick [0, 1, 2] (by decide) rfl))
        go_wp2_with fail
        (clear r1 f1 i1 b1 l1 r2 f2 i2 b2 l2 r3 f3 i3 b3 l3 m12 m21 m13 m31 m23 m32)
        refine (K.out _).mono ?_; rintro r0 w1 ⟨rfl, hw⟩
        have HC := Lib.hid (HC.out.call hw)
        clear hw K
        (obtain ⟨r1, f1, i1, b1, l1⟩ := St.facts1 (HC.out.pick [0] (by decide) rfl))
        go_upto_region 2 with fail
        (clear r1 f1 i1 b1 l1))
       have HC := Lib.hid (HC.out.set_head (sc s q 0) (by rw [sc_size, sc_size]))
       generalize w1.setRow w.heap.size (sc s q 0) = w2 at HC ⊢)
      (obtain ⟨r1, f1, i1, b1, l1⟩ := St.facts1 (HC.out.pick [0] (by decide) rfl))
      go_upto_region 6 with fail
      (clear r1 f1 i1 b1 l1)
      have HC := Lib.hid (HC.out.set_head (sc s q 22) (by rw [sc_size, sc_size]))
      generalize w2.setRow w.heap.size (sc s q 22) = w3 at HC ⊢
      ((obtain ⟨⟨r1, f1, i1, b1, l1⟩, ⟨r2, f2, i2, b2, l2⟩, ⟨r3, f3, i3, b3, l3⟩, m12, m21, m13, m31, m23, m32⟩ := St.facts3 (HC.out.pick [0, 1, 2] (by decide) rfl))
       go_region
       all_goals
         go_wp2_with fail
         (clear r1 f1 i1 b1 l1 r2 f2 i2 b2 l2 r3 f3 i3 b3 l3 m12 m21 m13 m31 m23 m32)
         first
           | refine ro_ends rfl rfl rfl (HC.out.tail.drew.end2 _ _ (by simp only [ndC_size]) (by simp only [sc_size])) ?_
           | refine ro_ends rfl rfl rfl (HC.out.tail.drew.end2' _ _ (by simp only [ndC_size]) (by simp only [sc_size])) ?_)
      all_goals exact fun h => .bad 22 (by decide) rfl HQ.out h.below
    · obtain rfl | rfl | rfl | rfl | rfl : k = 0 ∨ k = 1 ∨ k = 2 ∨ k = 3 ∨ k = 4 := by omega
      · have e : restR s f 0 q = .ok (.zero, q) := rfl
        rw [e]
        clear e hn hk c6
        ((go_enter Try.func34, Try.ntmps34
          (obtain ⟨⟨r1, f1, i1, b1, l1⟩, ⟨r2, f2, i2, b2, l2⟩, ⟨r3, f3, i3, b3, l3⟩, m12, m21, m13, m31, m23, m32⟩ := St.facts3 (HC.out.pick [0, 1, 2] (by decide) rfl))
          go_wp2_with fail
          (clear r1 f1 i1 b1 l1 r2 f2 i2 b2 l2 r3 f3 i3 b3 l3 m12 m21 m13 m31 m23 m32)
          refine (K.out _).mono ?_; rintro r0 w1 ⟨rfl, hw⟩
          have HC := Lib.hid (HC.out.call hw)
          clear hw K
          (obtain ⟨r1, f1, i1, b1, l1⟩ := St.facts1 (HC.out.pick [0] (by decide) rfl))
          go_upto_region 2 with fail
          (clear r1 f1 i1 b1 l1))
         have HC := Lib.hid (HC.out.set_head (sc s q 0) (by rw [sc_size, sc_size]))
         generalize w1.setRow w.heap.size (sc s q 0) = w2 at HC ⊢)
        (obtain ⟨r1, f1, i1, b1, l1⟩ := St.facts1 (HC.out.pick [0] (by decide) rfl))
        go_upto_region 8 with fail
        (clear r1 f1 i1 b1 l1)
        ((obtain ⟨⟨r1, f1, i1, b1, l1⟩, ⟨r2, f2, i2, b2, l2⟩, ⟨r3, f3, i3, b3, l3⟩, m12, m21, m13, m31, m23, m32⟩ := St.facts3 (HC.out.pick [0, 1, 2] (by decide) rfl))
         go_region
         all_goals
           go_wp2_with fail
           (clear r1 f1 i1 b1 l1 r2 f2 i2 b2 l2 r3 f3 i3 b3 l3 m12 m21 m13 m31 m23 m32)
           first
             | refine ro_ends rfl rfl rfl (HC.out.tail.drew.end2 _ _ (by simp only [ndC_size]) (by simp only [sc_size])) ?_
             | refine ro_ends rfl rfl rfl (HC.out.tail.drew.end2' _ _ (by simp only [ndC_size]) (by simp only [sc_size])) ?_)
        all_goals exact fun h => .ok .zero [] (NodeIn.nil [] 0 0 noT (by decide) (by decide)) rfl HQ.out h
      · have e : restR s f 1 q = .ok (.mk 1 0 noT [] [], q) := rfl
        have hb : ((ndC ndZero).setIfInBounds 0 (.int .u8 1)).setIfInBounds 1 (.int .u64 0) = ndC ⟨1, 0, ⟨#[]⟩, none, 0, 0, none, 0, 0⟩ := ndC_bool 0
        rw [e]
        clear e hn hk c6
        ((go_enter Try.func34, Try.ntmps34
          (obtain ⟨⟨r1, f1, i1, b1, l1⟩, ⟨r2, f2, i2, b2, l2⟩, ⟨r3, f3, i3, b3, l3⟩, m12, m21, m13, m31, m23, m32⟩ := St.facts3 (HC.out.pick [0, 1, 2] (by decide) rfl))
          go_wp2_with fail
          (clear r1 f1 i1 b1 l1 r2 f2 i2 b2 l2 r3 f3 i3 b3 l3 m12 m21 m13 m31 m23 m32)
          refine (K.out _).mono ?_; rintro r0 w1 ⟨rfl, hw⟩
          have HC := Lib.hid (HC.out.call hw)
          clear hw K
          (obtain ⟨r1, f1, i1, b1, l1⟩ := St.facts1 (HC.out.pick [0] (by decide) rfl))
          go_upto_region 2 with fail
          (clear r1 f1 i1 b1 l1))
         have HC := Lib.hid (HC.out.set_head (sc s q 0) (by rw [sc_size, sc_size]))
         generalize w1.setRow w.heap.size (sc s q 0) = w2 at HC ⊢)
        (obtain ⟨r1, f1, i1, b1, l1⟩ := St.facts1 (HC.out.pick [0] (by decide) rfl))
        go_upto_region 10 with fail
        (clear r1 f1 i1 b1 l1)
        ((obtain ⟨⟨r1, f1, i1, b1, l1⟩, ⟨r2, f2, i2, b2, l2⟩, ⟨r3, f3, i3, b3, l3⟩, m12, m21, m13, m31, m23, m32⟩ := St.facts3 (HC.out.pick [0, 1, 2] (by decide) rfl))
         go_region
         all_goals
           go_wp2_with fail
           (clear r1 f1 i1 b1 l1 r2 f2 i2 b2 l2 r3 f3 i3 b3 l3 m12 m21 m13 m31 m23 m32)
           first
             | refine ro_ends rfl rfl rfl (HC.out.tail.drew.end2 _ _ (by simp only [ndC_size]) (by simp only [sc_size])) ?_
             | refine ro_ends rfl rfl rfl (HC.out.tail.drew.end2' _ _ (by simp only [ndC_size]) (by simp only [sc_size])) ?_)
        all_goals exact fun h => .ok (.mk 1 0 noT [] []) [] (NodeIn.nil [] 1 0 noT (by decide) (by decide)) rfl HQ.out h
      · have e : restR s f 2 q = .ok (.mk 1 1 noT [] [], q) := rfl
        have hb : ((ndC ndZero).setIfInBounds 0 (.int .u8 1)).setIfInBounds 1 (.int .u64 1) = ndC ⟨1, 1, ⟨#[]⟩, none, 0, 0, none, 0, 0⟩ := ndC_bool 1
        rw [e]
        clear e hn hk c6
        ((go_enter Try.func34, Try.ntmps34
          (obtain ⟨⟨r1, f1, i1, b1, l1⟩, ⟨r2, f2, i2, b2, l2⟩, ⟨r3, f3, i3, b3, l3⟩, m12, m21, m13, m31, m23, m32⟩ := St.facts3 (HC.out.pick [0, 1, 2] (by decide) rfl))
          go_wp2_with fail
          (clear r1 f1 i1 b1 l1 r2 f2 i2 b2 l2 r3 f3 i3 b3 l3 m12 m21 m13 m31 m23 m32)
          refine (K.out _).mono ?_; rintro r0 w1 ⟨rfl, hw⟩
          have HC := Lib.hid (HC.out.call hw)
          clear hw K
          (obtain ⟨r1, f1, i1, b1, l1⟩ := St.facts1 (HC.out.pick [0] (by decide) rfl))
          go_upto_region 2 with fail
          (clear r1 f1 i1 b1 l1))
         have HC := Lib.hid (HC.out.set_head (sc s q 0) (by rw [sc_size, sc_size]))
         generalize w1.setRow w.heap.size (sc s q 0) = w2 at HC ⊢)
        (obtain ⟨r1, f1, i1, b1, l1⟩ := St.facts1 (HC.out.pick [0] (by decide) rfl))
        go_upto_region 10 with fail
        (clear r1 f1 i1 b1 l1)
        ((obtain ⟨⟨r1, f1, i1, b1, l1⟩, ⟨r2, f2, i2, b2, l2⟩, ⟨r3, f3, i3, b3, l3⟩, m12, m21, m13, m31, m23, m32⟩ := St.facts3 (HC.out.pick [0, 1, 2] (by decide) rfl))
         go_region
         all_goals
           go_wp2_with fail
           (clear r1 f1 i1 b1 l1 r2 f2 i2 b2 l2 r3 f3 i3 b3 l3 m12 m21 m13 m31 m23 m32)
           first
             | refine ro_ends rfl rfl rfl (HC.out.tail.drew.end2 _ _ (by simp only [ndC_size]) (by simp only [sc_size])) ?_
             | refine ro_ends rfl rfl rfl (HC.out.tail.drew.end2' _ _ (by simp only [ndC_size]) (by simp only [sc_size])) ?_)
        all_goals exact fun h => .ok (.mk 1 1 noT [] []) [] (NodeIn.nil [] 1 1 noT (by decide) (by decide)) rfl HQ.out h
      · have K2 := Lib.hid (fun w => rNum_any s q 0 8 (by omega) (by omega) hn (by omega) w)
        by_cases h8 : q + 8 ≤ s.size
        · have e : restR s f 3 q = .ok (.mk 2 (numAt s q 8) noT [] [], q + 8) := by
            show (match takeN s q 8 with | .error e => .error e | .ok (n, p2) => .ok (.mk 2 n noT [] [], p2) : PR) = _
            unfold takeN; rw [if_pos h8]
          have e2 : tk s q 0 8 = (numAt s q 8, q + 8, 0) := by unfold tk; rw [if_neg (fun h => h rfl), if_pos h8]
          rw [e]
          rw [e2] at K2
          have hN : numAt s q 8 < 18446744073709551616 := numTo_lt _ 8
          have HB := Lib.hid (And.intro hN h8)
          generalize numAt s q 8 = n at K2 HB
          generalize q + 8 = q8 at K2 HB
          have hb := ndC_num n
          clear e e2 hn hk c6 hN h8
          ((go_enter Try.func34, Try.ntmps34
            (obtain ⟨⟨r1, f1, i1, b1, l1⟩, ⟨r2, f2, i2, b2, l2⟩, ⟨r3, f3, i3, b3, l3⟩, m12, m21, m13, m31, m23, m32⟩ := St.facts3 (HC.out.pick [0, 1, 2] (by decide) rfl))
            go_wp2_with fail
            (clear r1 f1 i1 b1 l1 r2 f2 i2 b2 l2 r3 f3 i3 b3 l3 m12 m21 m13 m31 m23 m32)
            refine (K.out _).mono ?_; rintro r0 w1 ⟨rfl, hw⟩
            have HC := Lib.hid (HC.out.call hw)
            clear hw K
            (obtain ⟨r1, f1, i1, b1, l1⟩ := St.facts1 (HC.out.pick [0] (by decide) rfl))
            go_upto_region 2 with fail
            (clear r1 f1 i1 b1 l1))
           have HC := Lib.hid (HC.out.set_head (sc s q 0) (by rw [sc_size, sc_size]))
           generalize w1.setRow w.heap.size (sc s q 0) = w2 at HC ⊢)
          (obtain ⟨r1, f1, i1, b1, l1⟩ := St.facts1 (HC.out.pick [0] (by decide) rfl))
          go_wp2_with fail
          (clear r1 f1 i1 b1 l1)
          refine (K2.out _).mono ?_; rintro r0 w3 ⟨rfl, hw⟩
          have HC := Lib.hid (HC.out.call hw)
          clear hw K2
          go_upto_region 13 with fail
          have HC := Lib.hid ((HC.out.push (sc s q8 0) 76).pick [0, 2, 3] (by decide) rfl)
          generalize w3.alloc (Obj.cells (sc s q8 0) 76) = w4 at HC ⊢
          generalize w3.heap.size = gn at HC ⊢
          ((obtain ⟨⟨r1, f1, i1, b1, l1⟩, ⟨r2, f2, i2, b2, l2⟩, ⟨r3, f3, i3, b3, l3⟩, m12, m21, m13, m31, m23, m32⟩ := St.facts3 (HC.out.pick [0, 1, 2] (by decide) rfl))
           go_region
           all_goals
             go_wp2_with fail
             (clear r1 f1 i1 b1 l1 r2 f2 i2 b2 l2 r3 f3 i3 b3 l3 m12 m21 m13 m31 m23 m32)
             first
               | refine ro_ends rfl rfl rfl (HC.out.tail.drew.end2 _ _ (by simp only [ndC_size]) (by simp only [sc_size])) ?_
               | refine ro_ends rfl rfl rfl (HC.out.tail.drew.end2' _ _ (by simp only [ndC_size]) (by simp only [sc_size])) ?_)
          all_goals exact fun h => .ok (.mk 2 n noT [] []) [] (NodeIn.nil [] 2 n noT (by decide) HB.out.1) rfl HB.out.2 h
        · have e : restR s f 3 q = .error 3 := by
            show (match takeN s q 8 with | .error e => .error e | .ok (n, p2) => .ok (.mk 2 n noT [] [], p2) : PR) = _
            unfold takeN; rw [if_neg h8]
          have e2 : tk s q 0 8 = (0, q, 3) := by unfold tk; rw [if_neg (fun h => h rfl), if_neg h8]
          have hb : ((ndC ndZero).setIfInBounds 0 (.int .u8 2)).setIfInBounds 1 (.int .u64 0) = ndC ⟨2, 0, ⟨#[]⟩, none, 0, 0, none, 0, 0⟩ := ndC_num 0
          rw [e]
          rw [e2] at K2
          clear e e2 hn hk c6 h8
          ((go_enter Try.func34, Try.ntmps34
            (obtain ⟨⟨r1, f1, i1, b1, l1⟩, ⟨r2, f2, i2, b2, l2⟩, ⟨r3, f3, i3, b3, l3⟩, m12, m21, m13, m31, m23, m32⟩ := St.facts3 (HC.out.pick [0, 1, 2] (by decide) rfl))
            go_wp2_with fail
            (clear r1 f1 i1 b1 l1 r2 f2 i2 b2 l2 r3 f3 i3 b3 l3 m12 m21 m13 m31 m23 m32)
            refine (K.out _).mono ?_; rintro r0 w1 ⟨rfl, hw⟩
            have HC := Lib.hid (HC.out.call hw)
            clear hw K
            (obtain ⟨r1, f1, i1, b1, l1⟩ := St.facts1 (HC.out.pick [0] (by decide) rfl))
            go_upto_region 2 with fail
            (clear r1 f1 i1 b1 l1))
           have HC := Lib.hid (HC.out.set_head (sc s q 0) (by rw [sc_size, sc_size]))
           generalize w1.setRow w.heap.size (sc s q 0) = w2 at HC ⊢)
          (obtain ⟨r1, f1, i1, b1, l1⟩ := St.facts1 (HC.out.pick [0] (by decide) rfl))
          go_wp2_with fail
          (clear r1 f1 i1 b1 l1)
          refine (K2.out _).mono ?_; rintro r0 w3 ⟨rfl, hw⟩
          have HC := Lib.hid (HC.out.call hw)
          clear hw K2
          go_upto_region 13 with fail
          have HC := Lib.hid ((HC.out.push (sc s q 3) 76).pick [0, 2, 3] (by decide) rfl)
          generalize w3.alloc (Obj.cells (sc s q 3) 76) = w4 at HC ⊢
          generalize w3.heap.size = gn at HC ⊢
          ((obtain ⟨⟨r1, f1, i1, b1, l1⟩, ⟨r2, f2, i2, b2, l2⟩, ⟨r3, f3, i3, b3, l3⟩, m12, m21, m13, m31, m23, m32⟩ := St.facts3 (HC.out.pick [0, 1, 2] (by decide) rfl))
           go_region
           all_goals
             go_wp2_with fail
             (clear r1 f1 i1 b1 l1 r2 f2 i2 b2 l2 r3 f3 i3 b3 l3 m12 m21 m13 m31 m23 m32)
             first
               | refine ro_ends rfl rfl rfl (HC.out.tail.drew.end2 _ _ (by simp only [ndC_size]) (by simp only [sc_size])) ?_
               | refine ro_ends rfl rfl rfl (HC.out.tail.drew.end2' _ _ (by simp only [ndC_size]) (by simp only [sc_size])) ?_)
          all_goals exact fun h => .bad 3 (by decide) rfl HQ.out h.below
      · have K2 := Lib.hid (fun w => rRow_any s q hn (by omega) w)
        have e : restR s f 4 q = (match takeR s q with | .error e => .error e | .ok (r, p2) => .ok (.mk 3 0 r [] [], p2) : PR) := rfl
        obtain ⟨Y, hY⟩ : ∃ Y, restR s f 4 q = Y := ⟨_, rfl⟩
        rw [hY]
        have HY := Lib.hid (e.symm.trans hY)
        clear hY
        obtain ⟨⟨r, q1, e1⟩, hrow⟩ : ∃ x, tkRow s q = x := ⟨_, rfl⟩
        rw [hrow] at K2
        have HW := Lib.hid (tkRow_cases hrow)
        have hb := ndC_text r
        clear e hn hk c6 hrow
        ((go_enter Try.func34, Try.ntmps34
          (obtain ⟨⟨r1, f1, i1, b1, l1⟩, ⟨r2, f2, i2, b2, l2⟩, ⟨r3, f3, i3, b3, l3⟩, m12, m21, m13, m31, m23, m32⟩ := St.facts3 (HC.out.pick [0, 1, 2] (by decide) rfl))
          go_wp2_with fail
          (clear r1 f1 i1 b1 l1 r2 f2 i2 b2 l2 r3 f3 i3 b3 l3 m12 m21 m13 m31 m23 m32)
          refine (K.out _).mono ?_; rintro r0 w1 ⟨rfl, hw⟩
          have HC := Lib.hid (HC.out.call hw)
          clear hw K
          (obtain ⟨r1, f1, i1, b1, l1⟩ := St.facts1 (HC.out.pick [0] (by decide) rfl))
          go_upto_region 2 with fail
          (clear r1 f1 i1 b1 l1))
         have HC := Lib.hid (HC.out.set_head (sc s q 0) (by rw [sc_size, sc_size]))
         generalize w1.setRow w.heap.size (sc s q 0) = w2 at HC ⊢)
        (obtain ⟨r1, f1, i1, b1, l1⟩ := St.facts1 (HC.out.pick [0] (by decide) rfl))
        go_wp2_with fail
        (clear r1 f1 i1 b1 l1)
        refine (K2.out _).mono ?_; rintro r0 w3 ⟨rfl, hw⟩
        have HC := Lib.hid (HC.out.call hw)
        clear hw K2
        go_upto_region 16 with fail
        have HC := Lib.hid ((HC.out.push (sc s q1 e1) 76).pick [0, 2, 3] (by decide) rfl)
        generalize w3.alloc (Obj.cells (sc s q1 e1) 76) = w4 at HC ⊢
        generalize w3.heap.size = gn at HC ⊢
        ((obtain ⟨⟨r1, f1, i1, b1, l1⟩, ⟨r2, f2, i2, b2, l2⟩, ⟨r3, f3, i3, b3, l3⟩, m12, m21, m13, m31, m23, m32⟩ := St.facts3 (HC.out.pick [0, 1, 2] (by decide) rfl))
         go_region
         all_goals
           go_wp2_with fail
           (clear r1 f1 i1 b1 l1 r2 f2 i2 b2 l2 r3 f3 i3 b3 l3 m12 m21 m13 m31 m23 m32)
           first
             | refine ro_ends rfl rfl rfl (HC.out.tail.drew.end2 _ _ (by simp only [ndC_size]) (by simp only [sc_size])) ?_
             | refine ro_ends rfl rfl rfl (HC.out.tail.drew.end2' _ _ (by simp only [ndC_size]) (by simp only [sc_size])) ?_)
        all_goals
          intro h
          rw [← HY.out]
          rcases HW.out with ⟨rfl, ht⟩ | ⟨he, hqq, ht⟩
          · rw [ht]
            exact .ok (.mk 3 0 r [] []) [] (NodeIn.nil [] 3 0 r (by decide) (by decide)) rfl (takeR_le ht) h
          · rw [ht]
            exact .bad e1 he rfl (by rw [hqq]; exact HQ.out) h.below
  · rw [if_neg hn]
    have e1 : tk s p 0 1 = (0, p, 3) := by unfold tk; rw [if_neg (fun h => h rfl), if_neg hn]
    rw [e1] at K
    have HQ := Lib.hid hp
    clear e1 hn
    (go_enter Try.func34, Try.ntmps34
     (obtain ⟨⟨r1, f1, i1, b1, l1⟩, ⟨r2, f2, i2, b2, l2⟩, ⟨r3, f3, i3, b3, l3⟩, m12, m21, m13, m31, m23, m32⟩ := St.facts3 (HC.out.pick [0, 1, 2] (by decide) rfl))
     go_wp2_with fail
     (clear r1 f1 i1 b1 l1 r2 f2 i2 b2 l2 r3 f3 i3 b3 l3 m12 m21 m13 m31 m23 m32)
     refine (K.out _).mono ?_; rintro r0 w1 ⟨rfl, hw⟩
     have HC := Lib.hid (HC.out.call hw)
     clear hw K
     (obtain ⟨r1, f1, i1, b1, l1⟩ := St.facts1 (HC.out.pick [0] (by decide) rfl))
     go_upto_region 2 with fail
     (clear r1 f1 i1 b1 l1))
    have HC := Lib.hid (HC.out.set_head (sc s p 3) (by rw [sc_size, sc_size]))
    generalize w1.setRow w.heap.size (sc s p 3) = w2 at HC ⊢
    (obtain ⟨r1, f1, i1, b1, l1⟩ := St.facts1 (HC.out.pick [0] (by decide) rfl))
    go_upto_region 3 with fail
    (clear r1 f1 i1 b1 l1)
    ((obtain ⟨⟨r1, f1, i1, b1, l1⟩, ⟨r2, f2, i2, b2, l2⟩, ⟨r3, f3, i3, b3, l3⟩, m12, m21, m13, m31, m23, m32⟩ := St.facts3 (HC.out.pick [0, 1, 2] (by decide) rfl))
     go_region
     all_goals
       go_wp2_with fail
       (clear r1 f1 i1 b1 l1 r2 f2 i2 b2 l2 r3 f3 i3 b3 l3 m12 m21 m13 m31 m23 m32)
       first
         | refine ro_ends rfl rfl rfl (HC.out.tail.drew.end2 _ _ (by simp only [ndC_size]) (by simp only [sc_size])) ?_
         | refine ro_ends rfl rfl rfl (HC.out.tail.drew.end2' _ _ (by simp only [ndC_size]) (by simp only [sc_size])) ?_)
    all_goals exact fun h => .bad 3 (by decide) rfl HQ.out h.below
end Go.Proofs.Ytinlcpenllfcpaa
