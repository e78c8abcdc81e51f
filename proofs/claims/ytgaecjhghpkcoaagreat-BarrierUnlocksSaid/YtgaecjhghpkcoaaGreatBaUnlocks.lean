/- BarrierUnlocks returns true. -/
import Derived.Test.YtgaecjhghpkcoaaGreatMBar2
import Derived.Test.YtgaecjhghpkcoaaGreatMKeyRef
namespace Go.Proofs.YtgaecjhghpkcoaaGreat
open Go.RowKit
attribute [local go_sem] B_xor B_or B_and
attribute [local go_sem] blk_set blk_size blk_get blk_getE upd_same oneCells_blk paste_blk cut_blk szOf
attribute [local go_sem high] paste_all cut_head
attribute [local go_sem] rowAt_alloc rowAt_drew rowAt_drewN isRow_alloc isRow_drew isRow_drewN freeRow_alloc freeRow_end freeRow_drew freeRow_drewN
attribute [local go_sem] setRow_alloc setRow_drew setRow_drewN setCell_drewN alloc_drewN rowAt_put isRow_setRow freeRow_put
attribute [local go_sem ↓] loadS_in storeS_in indexS_in copyS_in
attribute [local go_sem] loadS_row loadS_one storeS_row storeS_one indexS_blk copyS_rows run_equalIn_blk same_refl arrayAt_row
attribute [local go_sem] cell_row frozen_row st_setCell st_blk_ne stepAt stepUpon
attribute [local go_sem high] run_eql_blk run_neq_blk
attribute [local go_sem ↓] convBS_in
attribute [local go_sem] convBS_row convBS_nil allBytes_blk bytesOf_blk
attribute [local go_sem] rg_size rg_get0 rg_getE0 rg_ne rg_set0 rg_one rg_cut rg_key rg_put rg_paste part_rg0 part_rg1
attribute [local go_sem] size_cn agg_cn cn_size cn_get0 cn_get1 cn_getE0 cn_getE1 cn_set0 cn_set1 cn_ne cn_one cn_cut cn_paste
attribute [local go_sem] br_size br_get0 br_get1 br_get2 br_getE0 br_getE1 br_getE2 br_ne br_ring br_count br_whole br_put_ring br_put_count br_paste br_one size_br agg_br

theorem unlockR_n (m : Nat → UInt8) (s : ByteArray) : (unlockR m s).1 ≤ 6 ∧ ((unlockR m s).2.2 ≠ 0 → (unlockR m s).1 = 0) := by
  unfold unlockR
  split
  · exact ⟨Nat.zero_le _, fun _ => rfl⟩
  · split
    · exact ⟨Nat.zero_le _, fun _ => rfl⟩
    · split
      · exact ⟨Nat.zero_le _, fun _ => rfl⟩
      · split
        · exact ⟨Nat.zero_le _, fun _ => rfl⟩
        · rename_i n f h
          exact ⟨(parseR_n h).2, fun h => (h rfl).elim⟩
theorem Out16.keys {w0 : World} {L : List (Nat × Array Value)} {v : Value} {n : Nat} {f : Nat → UInt8} {w : World} (h : Out16 w0 L v n f w) : Keys16 w v n f := by
  rcases h with ⟨h1, h2, _⟩ | ⟨g, c, F, h1, h2, h3, h4⟩
  · exact .inl ⟨h1, h2⟩
  · rw [h1]; exact Keys16.of h4 (.head _) h2 h3
theorem Out16.form {w0 : World} {L : List (Nat × Array Value)} {v : Value} {n : Nat} {f : Nat → UInt8} {w : World} (h : Out16 w0 L v n f w) : ∃ a c, v = .slice a n c := by
  rcases h with ⟨h1, h2, _⟩ | ⟨g, c, F, h1, _⟩
  · exact ⟨none, 0, by rw [h1, h2]⟩
  · exact ⟨_, _, h1⟩
/-- counts are held against each other -/
theorem run_eql_cn (a b c d : Nat) (w : World) : (binOp .eql 52 (.agg (cn a b)) (.agg (cn c d))).run Tryz.prog w = .ok (.bool (decide (a = c) && decide (b = d))) w := by
  unfold cn
  simp [go_sem]
  by_cases h1 : a = c
  · by_cases h2 : b = d
    · simp [h1, h2]
    · have h2' : ¬ (b : Int) = (d : Int) := by omega
      simp [h1, h2, h2']
  · have h1' : ¬ (a : Int) = (c : Int) := by omega
    simp [h1, h1']
theorem run_neq_cn (a b : Nat) (w : World) : (binOp .neq 52 (.agg (cn a b)) (.agg (cn a b))).run Tryz.prog w = .ok (.bool false) w := by
  unfold cn
  simp [go_sem]
theorem dead_of {w0 w : World} {L : List (Nat × Array Value)} {q : Nat} {b : Br} (hC : St w0 L w) (hm : (q, br b) ∈ L) (hb : b.md = false) : Dead w (.pointer (some ⟨q, 0, none⟩)) := by
  obtain ⟨h1, h2, h3, h4, h5⟩ := hC.at hm
  exact .inr ⟨q, b, rfl, hb, h5, h1, h3⟩
set_option maxRecDepth 100000 in
set_option maxHeartbeats 4000000 in
theorem barrierUnlocks_walk (m : Nat → UInt8) (s p : ByteArray) (w : World) : Calls Tryz.prog 5 #[.agg (blk 16 m), .string s, .string p] w fun e w' => e = .returned (.bool true) ∧ Below w.heap.size w w' := by
  by_cases hover : 200 < s.size ∨ 40 < p.size
  · have HC := Lib.hid ((St.nil w).skip (.cells (blk 16 m) 22))
    by_cases h1 : 200 < s.size
    · have o1 : decide (200 < (s.size : Int)) = true := decide_eq_true (by omega)
      go_enter Tryz.func5, Tryz.ntmps5
      go_wp2_with fail
      refine (awake21_any _).mono ?_; rintro e w1 ⟨rfl, hw⟩
      have HC := Lib.hid (HC.out.call hw)
      clear hw
      go_wp2_with fail
      go_ret
      exact ⟨rfl, HC.out.below⟩
    · have o1 : decide (200 < (s.size : Int)) = false := decide_eq_false (by omega)
      have o2 : decide (40 < (p.size : Int)) = true := decide_eq_true (by omega)
      go_enter Tryz.func5, Tryz.ntmps5
      go_wp2_with fail
      refine (awake21_any _).mono ?_; rintro e w1 ⟨rfl, hw⟩
      have HC := Lib.hid (HC.out.call hw)
      clear hw
      go_wp2_with fail
      go_ret
      exact ⟨rfl, HC.out.below⟩
  · have hz2 := zero97
    have hzb := br_zero
    have o1 : decide (200 < (s.size : Int)) = false := decide_eq_false (by omega)
    have o2 : decide (40 < (p.size : Int)) = false := decide_eq_false (by omega)
    obtain ⟨n6, hn0⟩ := unlockR_n m s
    have K1 := Lib.hid (unlock_any m s (by omega))
    have K2 := Lib.hid (fun w0 w L => refUnlock_any m s (by omega) w0 w L)
    obtain ⟨⟨n, f, E⟩, hU⟩ : ∃ x, unlockR m s = x := ⟨_, rfl⟩
    rw [hU] at n6 hn0 K1 K2
    simp only at n6 hn0 K1 K2
    have N6 := Lib.hid n6
    have NE := Lib.hid hn0
    clear hU n6 hn0 hover
    have HC := Lib.hid ((St.nil w).pushA (blk 16 m) 22 rfl)
    go_enter Tryz.func5, Tryz.ntmps5
    go_wp2_with fail
    refine (K1.out _).mono ?_; rintro e w1 ⟨rfl, hw⟩
    have HC := Lib.hid (HC.out.call hw)
    clear hw
    have hC := HC.out
    (have HC := Lib.hid hC
     have sos := hC.below.os
     obtain ⟨r1, f1, i1, b1, l1⟩ := St.facts1 hC
     clear hC)
    go_wp2_with fail
    (clear r1 f1 i1 b1 l1 sos)
    have HC := Lib.hid (HC.out.push (rg n f) 44)
    refine (K2.out w _ _ HC.out).mono ?_; rintro e w2 ⟨v, rfl, ho⟩
    obtain ⟨va, vc, rfl⟩ := ho.form
    have HO := Lib.hid ho.keys
    have HC := Lib.hid ho.inner
    clear ho
    generalize w1.heap.size = q1 at HC ⊢
    go_upto_region 5 with fail
    go_cut [63] from 42 to 63 (fun v wx => v = .bool false ∧ Hid (St w [(q1, rg n f), (w.heap.size, blk 16 m)] wx))
    case first =>
      have e0 : ((E : Int) != (E : Int)) = false := by simp
      have hC := HC.out
      by_cases hE : E = 0
      · have e1 : ((E : Int) == 0) = true := by rw [hE]; rfl
        have e2 : ((E : Int) != 0) = false := by rw [hE]; rfl
        clear hE
        (have HC := Lib.hid hC
         have sos := hC.below.os
         obtain ⟨⟨r1, f1, i1, b1, l1⟩, ⟨r2, f2, i2, b2, l2⟩, m12, m21⟩ := St.facts2 hC
         clear hC)
        go_wp2_with fail
        (clear r1 f1 i1 b1 l1 r2 f2 i2 b2 l2 m12 m21 sos)
        refine (like_any _ n f N6.out _ HO.out).mono ?_; rintro e w3 ⟨rfl, hw⟩
        have HC := Lib.hid (HC.out.call hw)
        clear hw
        have hC := HC.out
        (have HC := Lib.hid hC
         have sos := hC.below.os
         obtain ⟨⟨r1, f1, i1, b1, l1⟩, ⟨r2, f2, i2, b2, l2⟩, m12, m21⟩ := St.facts2 hC
         clear hC)
        go_wp2_with fail
        go_meet
        exact ⟨rfl, HC⟩
      · have e1 : ((E : Int) == 0) = false := by rw [beq_eq_false_iff_ne]; omega
        have e2 : ((E : Int) != 0) = true := by rw [bne_iff_ne]; omega
        have hn := NE.out hE
        subst hn
        clear hE
        (have HC := Lib.hid hC
         have sos := hC.below.os
         obtain ⟨⟨r1, f1, i1, b1, l1⟩, ⟨r2, f2, i2, b2, l2⟩, m12, m21⟩ := St.facts2 hC
         clear hC)
        go_wp2_with fail
        (clear r1 f1 i1 b1 l1 r2 f2 i2 b2 l2 m12 m21 sos)
        refine (term_any 0 f _).mono ?_; rintro e w3 ⟨rfl, hw⟩
        have HC := Lib.hid (HC.out.call hw)
        clear hw
        have hC := HC.out
        (have HC := Lib.hid hC
         have sos := hC.below.os
         obtain ⟨⟨r1, f1, i1, b1, l1⟩, ⟨r2, f2, i2, b2, l2⟩, m12, m21⟩ := St.facts2 hC
         clear hC)
        go_wp2_with fail
        go_meet
        exact ⟨rfl, HC⟩
    case rest =>
      obtain ⟨rfl, HR⟩ := hcut
      clear HC HO K1 K2 N6 NE
      have HC := Lib.hid HR.out
      clear HR
      go_wp2_with fail
      refine (notesFork_no _ _ (ok_nil _)).mono ?_; rintro e w4 ⟨rfl, hw⟩
      have HC := Lib.hid (HC.out.call hw)
      clear hw
      go_wp2_with fail
      refine (notesFork_no _ _ (ok_zero w4.heap.size (w4.alloc (.cells #[.map none] 78)) (by simp [rowAt_alloc]) (by simp [isRow_alloc]))).mono ?_; rintro e w5 ⟨rfl, hw⟩
      have HC := Lib.hid ((HC.out.skip (.cells #[.map none] 78)).call hw)
      clear hw
      go_wp2_with fail
      have he0 : (⟨#[]⟩ : ByteArray) ++ ⟨#[]⟩ = ⟨#[]⟩ := ByteArray.ext rfl
      have hs0 : ((⟨#[]⟩ : ByteArray).toList == (⟨#[]⟩ : ByteArray).toList) = true := text_same _
      have HC := Lib.hid ((HC.out.push (br Br.zero) 80).pushA #[.pointer none, .pointer (some ⟨w5.heap.size, 0, none⟩)] 26 (g := w5.heap.size + 1) (by simp))
      have HC := Lib.hid (HC.out.pick (L' := [(w5.heap.size, br Br.zero), (w5.heap.size + 1, #[.pointer none, .pointer (some ⟨w5.heap.size, 0, none⟩)]), (q1, rg n f), (w.heap.size, blk 16 m)]) [1, 0, 2, 3] (by decide) rfl)
      generalize w5.heap.size + 1 = q3 at HC ⊢
      generalize w5.heap.size = q2 at HC ⊢
      go_loopw [78] (fun i wr => ∃ j : Nat, j ≤ 2 ∧ i = .int .i64 (j : Int) ∧ Hid (St w [(q2, br Br.zero), (q3, #[.pointer none, .pointer (some ⟨q2, 0, none⟩)]), (q1, rg n f), (w.heap.size, blk 16 m)] wr)) (fun i _ => 2 - (intOf i).toNat)
      case atStart => exact ⟨0, by omega, rfl, HC⟩
      case round =>
        clear HC
        obtain ⟨j, hj, rfl, HC⟩ := hrel
        rcases (show j = 0 ∨ j = 1 ∨ j = 2 by omega) with rfl | rfl | rfl
        · have HD : Hid (∀ w', St w [(q2, br Br.zero), (q3, #[.pointer none, .pointer (some ⟨q2, 0, none⟩)]), (q1, rg n f), (w.heap.size, blk 16 m)] w' → Dead w' (.pointer none)) := Lib.hid fun _ _ => .inl rfl
          have HS : Hid (∀ w', St w [(q2, br Br.zero), (q3, #[.pointer none, .pointer (some ⟨q2, 0, none⟩)]), (q1, rg n f), (w.heap.size, blk 16 m)] w' → Calls Tryz.prog 16 #[.pointer none] w' fun e w'' => e = .returned (.tuple #[]) ∧ St w [(q2, br Br.zero), (q3, #[.pointer none, .pointer (some ⟨q2, 0, none⟩)]), (q1, rg n f), (w.heap.size, blk 16 m)] w'') := Lib.hid fun w' h => (seal_nil w').mono fun _ _ ⟨h1, h2⟩ => ⟨h1, h.call h2⟩
          have HR : Hid (∀ w', St w [(q2, br Br.zero), (q3, #[.pointer none, .pointer (some ⟨q2, 0, none⟩)]), (q1, rg n f), (w.heap.size, blk 16 m)] w' → Calls Tryz.prog 28 #[.pointer none] w' fun e w'' => e = .returned (.agg (rg 0 fun _ => 0)) ∧ Below w'.heap.size w' w'') := Lib.hid fun w' _ => ring_nil w'
          have HT : Hid (∀ w', St w [(q2, br Br.zero), (q3, #[.pointer none, .pointer (some ⟨q2, 0, none⟩)]), (q1, rg n f), (w.heap.size, blk 16 m)] w' → Calls Tryz.prog 37 #[.pointer none] w' fun e w'' => e = .returned (.agg (cn 0 0)) ∧ Below w'.heap.size w' w'') := Lib.hid fun w' _ => count_nil w'
          (obtain ⟨⟨r1, f1, i1, b1, l1⟩, ⟨r2, f2, i2, b2, l2⟩, ⟨r3, f3, i3, b3, l3⟩, ⟨r4, f4, i4, b4, l4⟩, m12, m21, m13, m31, m14, m41, m23, m32, m24, m42, m34, m43⟩ := St.facts4 (HC.out.pick [0, 1, 2, 3] (by decide) rfl))
          (go_wp2_with fail
           (clear r1 f1 i1 b1 l1 r2 f2 i2 b2 l2 r3 f3 i3 b3 l3 r4 f4 i4 b4 l4 m12 m21 m13 m31 m14 m41 m23 m32 m24 m42 m34 m43)
           refine (put_dead _ _ _ _ (HD.out _ HC.out)).mono ?_; rintro e w6 ⟨rfl, hw⟩
           have HC := Lib.hid (HC.out.call hw)
           clear hw
           (obtain ⟨⟨r1, f1, i1, b1, l1⟩, ⟨r2, f2, i2, b2, l2⟩, ⟨r3, f3, i3, b3, l3⟩, ⟨r4, f4, i4, b4, l4⟩, m12, m21, m13, m31, m14, m41, m23, m32, m24, m42, m34, m43⟩ := St.facts4 (HC.out.pick [0, 1, 2, 3] (by decide) rfl))
           go_wp2_with fail
           (clear r1 f1 i1 b1 l1 r2 f2 i2 b2 l2 r3 f3 i3 b3 l3 r4 f4 i4 b4 l4 m12 m21 m13 m31 m14 m41 m23 m32 m24 m42 m34 m43)
           refine (get_dead _ _ _ _ (HD.out _ HC.out)).mono ?_; rintro e w7 ⟨rfl, hw⟩
           have HC := Lib.hid (HC.out.call hw)
           clear hw
           (obtain ⟨⟨r1, f1, i1, b1, l1⟩, ⟨r2, f2, i2, b2, l2⟩, ⟨r3, f3, i3, b3, l3⟩, ⟨r4, f4, i4, b4, l4⟩, m12, m21, m13, m31, m14, m41, m23, m32, m24, m42, m34, m43⟩ := St.facts4 (HC.out.pick [0, 1, 2, 3] (by decide) rfl))
           go_wp2_with fail
           (clear r1 f1 i1 b1 l1 r2 f2 i2 b2 l2 r3 f3 i3 b3 l3 r4 f4 i4 b4 l4 m12 m21 m13 m31 m14 m41 m23 m32 m24 m42 m34 m43)
           refine (lock_dead _ _ _ (HD.out _ HC.out)).mono ?_; rintro e w8 ⟨rfl, hw⟩
           have HC := Lib.hid (HC.out.call hw)
           clear hw
           (obtain ⟨⟨r1, f1, i1, b1, l1⟩, ⟨r2, f2, i2, b2, l2⟩, ⟨r3, f3, i3, b3, l3⟩, ⟨r4, f4, i4, b4, l4⟩, m12, m21, m13, m31, m14, m41, m23, m32, m24, m42, m34, m43⟩ := St.facts4 (HC.out.pick [0, 1, 2, 3] (by decide) rfl))
           go_wp2_with fail
           (clear r1 f1 i1 b1 l1 r2 f2 i2 b2 l2 r3 f3 i3 b3 l3 r4 f4 i4 b4 l4 m12 m21 m13 m31 m14 m41 m23 m32 m24 m42 m34 m43)
           refine (HS.out _ HC.out).mono ?_; rintro e w9 ⟨rfl, hC⟩
           have HC := Lib.hid hC
           clear hC
           (obtain ⟨⟨r1, f1, i1, b1, l1⟩, ⟨r2, f2, i2, b2, l2⟩, ⟨r3, f3, i3, b3, l3⟩, ⟨r4, f4, i4, b4, l4⟩, m12, m21, m13, m31, m14, m41, m23, m32, m24, m42, m34, m43⟩ := St.facts4 (HC.out.pick [0, 1, 2, 3] (by decide) rfl))
           go_wp2_with fail
           (clear r1 f1 i1 b1 l1 r2 f2 i2 b2 l2 r3 f3 i3 b3 l3 r4 f4 i4 b4 l4 m12 m21 m13 m31 m14 m41 m23 m32 m24 m42 m34 m43)
           refine (new_any m _).mono ?_; rintro e w10 ⟨rfl, hw⟩
           have HC := Lib.hid (HC.out.call hw)
           clear hw
           (obtain ⟨⟨r1, f1, i1, b1, l1⟩, ⟨r2, f2, i2, b2, l2⟩, ⟨r3, f3, i3, b3, l3⟩, ⟨r4, f4, i4, b4, l4⟩, m12, m21, m13, m31, m14, m41, m23, m32, m24, m42, m34, m43⟩ := St.facts4 (HC.out.pick [0, 1, 2, 3] (by decide) rfl))
           go_wp2_with fail
           (clear r1 f1 i1 b1 l1 r2 f2 i2 b2 l2 r3 f3 i3 b3 l3 r4 f4 i4 b4 l4 m12 m21 m13 m31 m14 m41 m23 m32 m24 m42 m34 m43)
           refine (open_dead _ 1 (newB m) 1 0 _ (HD.out _ HC.out)).mono ?_; rintro e w11 ⟨rfl, hw⟩
           have HC := Lib.hid (HC.out.call hw)
           clear hw
           (obtain ⟨⟨r1, f1, i1, b1, l1⟩, ⟨r2, f2, i2, b2, l2⟩, ⟨r3, f3, i3, b3, l3⟩, ⟨r4, f4, i4, b4, l4⟩, m12, m21, m13, m31, m14, m41, m23, m32, m24, m42, m34, m43⟩ := St.facts4 (HC.out.pick [0, 1, 2, 3] (by decide) rfl))
           go_wp2_with fail
           (clear r1 f1 i1 b1 l1 r2 f2 i2 b2 l2 r3 f3 i3 b3 l3 r4 f4 i4 b4 l4 m12 m21 m13 m31 m14 m41 m23 m32 m24 m42 m34 m43)
           refine (turn_dead _ n f _ (HD.out _ HC.out)).mono ?_; rintro e w12 ⟨rfl, hw⟩
           have HC := Lib.hid (HC.out.call hw)
           clear hw
           (obtain ⟨⟨r1, f1, i1, b1, l1⟩, ⟨r2, f2, i2, b2, l2⟩, ⟨r3, f3, i3, b3, l3⟩, ⟨r4, f4, i4, b4, l4⟩, m12, m21, m13, m31, m14, m41, m23, m32, m24, m42, m34, m43⟩ := St.facts4 (HC.out.pick [0, 1, 2, 3] (by decide) rfl))
           go_wp2_with fail
           (clear r1 f1 i1 b1 l1 r2 f2 i2 b2 l2 r3 f3 i3 b3 l3 r4 f4 i4 b4 l4 m12 m21 m13 m31 m14 m41 m23 m32 m24 m42 m34 m43)
           refine (sealed_dead _ _ (HD.out _ HC.out)).mono ?_; rintro e w13 ⟨rfl, hw⟩
           have HC := Lib.hid (HC.out.call hw)
           clear hw
           (obtain ⟨⟨r1, f1, i1, b1, l1⟩, ⟨r2, f2, i2, b2, l2⟩, ⟨r3, f3, i3, b3, l3⟩, ⟨r4, f4, i4, b4, l4⟩, m12, m21, m13, m31, m14, m41, m23, m32, m24, m42, m34, m43⟩ := St.facts4 (HC.out.pick [0, 1, 2, 3] (by decide) rfl))
           go_wp2_with fail
           (clear r1 f1 i1 b1 l1 r2 f2 i2 b2 l2 r3 f3 i3 b3 l3 r4 f4 i4 b4 l4 m12 m21 m13 m31 m14 m41 m23 m32 m24 m42 m34 m43)
           refine (HR.out _ HC.out).mono ?_; rintro e w14 ⟨rfl, hw⟩
           have HC := Lib.hid (HC.out.call hw)
           clear hw
           (obtain ⟨⟨r1, f1, i1, b1, l1⟩, ⟨r2, f2, i2, b2, l2⟩, ⟨r3, f3, i3, b3, l3⟩, ⟨r4, f4, i4, b4, l4⟩, m12, m21, m13, m31, m14, m41, m23, m32, m24, m42, m34, m43⟩ := St.facts4 (HC.out.pick [0, 1, 2, 3] (by decide) rfl))
           go_wp2_with fail
           (clear r1 f1 i1 b1 l1 r2 f2 i2 b2 l2 r3 f3 i3 b3 l3 r4 f4 i4 b4 l4 m12 m21 m13 m31 m14 m41 m23 m32 m24 m42 m34 m43)
           refine (term_any 0 _ _).mono ?_; rintro e w15 ⟨rfl, hw⟩
           have HC := Lib.hid (HC.out.call hw)
           clear hw
           (obtain ⟨⟨r1, f1, i1, b1, l1⟩, ⟨r2, f2, i2, b2, l2⟩, ⟨r3, f3, i3, b3, l3⟩, ⟨r4, f4, i4, b4, l4⟩, m12, m21, m13, m31, m14, m41, m23, m32, m24, m42, m34, m43⟩ := St.facts4 (HC.out.pick [0, 1, 2, 3] (by decide) rfl))
           go_wp2_with fail
           (clear r1 f1 i1 b1 l1 r2 f2 i2 b2 l2 r3 f3 i3 b3 l3 r4 f4 i4 b4 l4 m12 m21 m13 m31 m14 m41 m23 m32 m24 m42 m34 m43)
           refine (HT.out _ HC.out).mono ?_; rintro e w16 ⟨rfl, hw⟩
           have HC := Lib.hid (HC.out.call hw)
           clear hw
           (obtain ⟨⟨r1, f1, i1, b1, l1⟩, ⟨r2, f2, i2, b2, l2⟩, ⟨r3, f3, i3, b3, l3⟩, ⟨r4, f4, i4, b4, l4⟩, m12, m21, m13, m31, m14, m41, m23, m32, m24, m42, m34, m43⟩ := St.facts4 (HC.out.pick [0, 1, 2, 3] (by decide) rfl))
           go_wp2_with fail
           (clear r1 f1 i1 b1 l1 r2 f2 i2 b2 l2 r3 f3 i3 b3 l3 r4 f4 i4 b4 l4 m12 m21 m13 m31 m14 m41 m23 m32 m24 m42 m34 m43)
           refine (fork_dead _ _ (HD.out _ HC.out)).mono ?_; rintro e w17 ⟨rfl, hw⟩
           have HC := Lib.hid (HC.out.call hw)
           clear hw
           go_wp2_with fail
           go_roundw)
          case rel => exact ⟨1, by omega, by go_num, HC⟩
          case measure => simp [intOf]
        · have HD : Hid (∀ w', St w [(q2, br Br.zero), (q3, #[.pointer none, .pointer (some ⟨q2, 0, none⟩)]), (q1, rg n f), (w.heap.size, blk 16 m)] w' → Dead w' (.pointer (some ⟨q2, 0, none⟩))) := Lib.hid fun w' h => dead_of h (.head _) rfl
          have HS : Hid (∀ w', St w [(q2, br Br.zero), (q3, #[.pointer none, .pointer (some ⟨q2, 0, none⟩)]), (q1, rg n f), (w.heap.size, blk 16 m)] w' → Calls Tryz.prog 16 #[.pointer (some ⟨q2, 0, none⟩)] w' fun e w'' => e = .returned (.tuple #[]) ∧ St w [(q2, br Br.zero), (q3, #[.pointer none, .pointer (some ⟨q2, 0, none⟩)]), (q1, rg n f), (w.heap.size, blk 16 m)] w'') := Lib.hid fun w' h => (seal_made Br.zero q2 w w' _ h).mono fun _ _ ⟨h1, h2⟩ => ⟨h1, h2.1⟩
          have HR : Hid (∀ w', St w [(q2, br Br.zero), (q3, #[.pointer none, .pointer (some ⟨q2, 0, none⟩)]), (q1, rg n f), (w.heap.size, blk 16 m)] w' → Calls Tryz.prog 28 #[.pointer (some ⟨q2, 0, none⟩)] w' fun e w'' => e = .returned (.agg (rg 0 fun _ => 0)) ∧ Below w'.heap.size w' w'') := Lib.hid fun w' h => ring_raw Br.zero rfl q2 w w' _ h
          have HT : Hid (∀ w', St w [(q2, br Br.zero), (q3, #[.pointer none, .pointer (some ⟨q2, 0, none⟩)]), (q1, rg n f), (w.heap.size, blk 16 m)] w' → Calls Tryz.prog 37 #[.pointer (some ⟨q2, 0, none⟩)] w' fun e w'' => e = .returned (.agg (cn 0 0)) ∧ Below w'.heap.size w' w'') := Lib.hid fun w' h => count_raw Br.zero rfl q2 w w' _ h
          (obtain ⟨⟨r1, f1, i1, b1, l1⟩, ⟨r2, f2, i2, b2, l2⟩, ⟨r3, f3, i3, b3, l3⟩, ⟨r4, f4, i4, b4, l4⟩, m12, m21, m13, m31, m14, m41, m23, m32, m24, m42, m34, m43⟩ := St.facts4 (HC.out.pick [0, 1, 2, 3] (by decide) rfl))
          (go_wp2_with fail
           (clear r1 f1 i1 b1 l1 r2 f2 i2 b2 l2 r3 f3 i3 b3 l3 r4 f4 i4 b4 l4 m12 m21 m13 m31 m14 m41 m23 m32 m24 m42 m34 m43)
           refine (put_dead _ _ _ _ (HD.out _ HC.out)).mono ?_; rintro e w6 ⟨rfl, hw⟩
           have HC := Lib.hid (HC.out.call hw)
           clear hw
           (obtain ⟨⟨r1, f1, i1, b1, l1⟩, ⟨r2, f2, i2, b2, l2⟩, ⟨r3, f3, i3, b3, l3⟩, ⟨r4, f4, i4, b4, l4⟩, m12, m21, m13, m31, m14, m41, m23, m32, m24, m42, m34, m43⟩ := St.facts4 (HC.out.pick [0, 1, 2, 3] (by decide) rfl))
           go_wp2_with fail
           (clear r1 f1 i1 b1 l1 r2 f2 i2 b2 l2 r3 f3 i3 b3 l3 r4 f4 i4 b4 l4 m12 m21 m13 m31 m14 m41 m23 m32 m24 m42 m34 m43)
           refine (get_dead _ _ _ _ (HD.out _ HC.out)).mono ?_; rintro e w7 ⟨rfl, hw⟩
           have HC := Lib.hid (HC.out.call hw)
           clear hw
           (obtain ⟨⟨r1, f1, i1, b1, l1⟩, ⟨r2, f2, i2, b2, l2⟩, ⟨r3, f3, i3, b3, l3⟩, ⟨r4, f4, i4, b4, l4⟩, m12, m21, m13, m31, m14, m41, m23, m32, m24, m42, m34, m43⟩ := St.facts4 (HC.out.pick [0, 1, 2, 3] (by decide) rfl))
           go_wp2_with fail
           (clear r1 f1 i1 b1 l1 r2 f2 i2 b2 l2 r3 f3 i3 b3 l3 r4 f4 i4 b4 l4 m12 m21 m13 m31 m14 m41 m23 m32 m24 m42 m34 m43)
           refine (lock_dead _ _ _ (HD.out _ HC.out)).mono ?_; rintro e w8 ⟨rfl, hw⟩
           have HC := Lib.hid (HC.out.call hw)
           clear hw
           (obtain ⟨⟨r1, f1, i1, b1, l1⟩, ⟨r2, f2, i2, b2, l2⟩, ⟨r3, f3, i3, b3, l3⟩, ⟨r4, f4, i4, b4, l4⟩, m12, m21, m13, m31, m14, m41, m23, m32, m24, m42, m34, m43⟩ := St.facts4 (HC.out.pick [0, 1, 2, 3] (by decide) rfl))
           go_wp2_with fail
           (clear r1 f1 i1 b1 l1 r2 f2 i2 b2 l2 r3 f3 i3 b3 l3 r4 f4 i4 b4 l4 m12 m21 m13 m31 m14 m41 m23 m32 m24 m42 m34 m43)
           refine (HS.out _ HC.out).mono ?_; rintro e w9 ⟨rfl, hC⟩
           have HC := Lib.hid hC
           clear hC
           (obtain ⟨⟨r1, f1, i1, b1, l1⟩, ⟨r2, f2, i2, b2, l2⟩, ⟨r3, f3, i3, b3, l3⟩, ⟨r4, f4, i4, b4, l4⟩, m12, m21, m13, m31, m14, m41, m23, m32, m24, m42, m34, m43⟩ := St.facts4 (HC.out.pick [0, 1, 2, 3] (by decide) rfl))
           go_wp2_with fail
           (clear r1 f1 i1 b1 l1 r2 f2 i2 b2 l2 r3 f3 i3 b3 l3 r4 f4 i4 b4 l4 m12 m21 m13 m31 m14 m41 m23 m32 m24 m42 m34 m43)
           refine (new_any m _).mono ?_; rintro e w10 ⟨rfl, hw⟩
           have HC := Lib.hid (HC.out.call hw)
           clear hw
           (obtain ⟨⟨r1, f1, i1, b1, l1⟩, ⟨r2, f2, i2, b2, l2⟩, ⟨r3, f3, i3, b3, l3⟩, ⟨r4, f4, i4, b4, l4⟩, m12, m21, m13, m31, m14, m41, m23, m32, m24, m42, m34, m43⟩ := St.facts4 (HC.out.pick [0, 1, 2, 3] (by decide) rfl))
           go_wp2_with fail
           (clear r1 f1 i1 b1 l1 r2 f2 i2 b2 l2 r3 f3 i3 b3 l3 r4 f4 i4 b4 l4 m12 m21 m13 m31 m14 m41 m23 m32 m24 m42 m34 m43)
           refine (open_dead _ 1 (newB m) 1 0 _ (HD.out _ HC.out)).mono ?_; rintro e w11 ⟨rfl, hw⟩
           have HC := Lib.hid (HC.out.call hw)
           clear hw
           (obtain ⟨⟨r1, f1, i1, b1, l1⟩, ⟨r2, f2, i2, b2, l2⟩, ⟨r3, f3, i3, b3, l3⟩, ⟨r4, f4, i4, b4, l4⟩, m12, m21, m13, m31, m14, m41, m23, m32, m24, m42, m34, m43⟩ := St.facts4 (HC.out.pick [0, 1, 2, 3] (by decide) rfl))
           go_wp2_with fail
           (clear r1 f1 i1 b1 l1 r2 f2 i2 b2 l2 r3 f3 i3 b3 l3 r4 f4 i4 b4 l4 m12 m21 m13 m31 m14 m41 m23 m32 m24 m42 m34 m43)
           refine (turn_dead _ n f _ (HD.out _ HC.out)).mono ?_; rintro e w12 ⟨rfl, hw⟩
           have HC := Lib.hid (HC.out.call hw)
           clear hw
           (obtain ⟨⟨r1, f1, i1, b1, l1⟩, ⟨r2, f2, i2, b2, l2⟩, ⟨r3, f3, i3, b3, l3⟩, ⟨r4, f4, i4, b4, l4⟩, m12, m21, m13, m31, m14, m41, m23, m32, m24, m42, m34, m43⟩ := St.facts4 (HC.out.pick [0, 1, 2, 3] (by decide) rfl))
           go_wp2_with fail
           (clear r1 f1 i1 b1 l1 r2 f2 i2 b2 l2 r3 f3 i3 b3 l3 r4 f4 i4 b4 l4 m12 m21 m13 m31 m14 m41 m23 m32 m24 m42 m34 m43)
           refine (sealed_dead _ _ (HD.out _ HC.out)).mono ?_; rintro e w13 ⟨rfl, hw⟩
           have HC := Lib.hid (HC.out.call hw)
           clear hw
           (obtain ⟨⟨r1, f1, i1, b1, l1⟩, ⟨r2, f2, i2, b2, l2⟩, ⟨r3, f3, i3, b3, l3⟩, ⟨r4, f4, i4, b4, l4⟩, m12, m21, m13, m31, m14, m41, m23, m32, m24, m42, m34, m43⟩ := St.facts4 (HC.out.pick [0, 1, 2, 3] (by decide) rfl))
           go_wp2_with fail
           (clear r1 f1 i1 b1 l1 r2 f2 i2 b2 l2 r3 f3 i3 b3 l3 r4 f4 i4 b4 l4 m12 m21 m13 m31 m14 m41 m23 m32 m24 m42 m34 m43)
           refine (HR.out _ HC.out).mono ?_; rintro e w14 ⟨rfl, hw⟩
           have HC := Lib.hid (HC.out.call hw)
           clear hw
           (obtain ⟨⟨r1, f1, i1, b1, l1⟩, ⟨r2, f2, i2, b2, l2⟩, ⟨r3, f3, i3, b3, l3⟩, ⟨r4, f4, i4, b4, l4⟩, m12, m21, m13, m31, m14, m41, m23, m32, m24, m42, m34, m43⟩ := St.facts4 (HC.out.pick [0, 1, 2, 3] (by decide) rfl))
           go_wp2_with fail
           (clear r1 f1 i1 b1 l1 r2 f2 i2 b2 l2 r3 f3 i3 b3 l3 r4 f4 i4 b4 l4 m12 m21 m13 m31 m14 m41 m23 m32 m24 m42 m34 m43)
           refine (term_any 0 _ _).mono ?_; rintro e w15 ⟨rfl, hw⟩
           have HC := Lib.hid (HC.out.call hw)
           clear hw
           (obtain ⟨⟨r1, f1, i1, b1, l1⟩, ⟨r2, f2, i2, b2, l2⟩, ⟨r3, f3, i3, b3, l3⟩, ⟨r4, f4, i4, b4, l4⟩, m12, m21, m13, m31, m14, m41, m23, m32, m24, m42, m34, m43⟩ := St.facts4 (HC.out.pick [0, 1, 2, 3] (by decide) rfl))
           go_wp2_with fail
           (clear r1 f1 i1 b1 l1 r2 f2 i2 b2 l2 r3 f3 i3 b3 l3 r4 f4 i4 b4 l4 m12 m21 m13 m31 m14 m41 m23 m32 m24 m42 m34 m43)
           refine (HT.out _ HC.out).mono ?_; rintro e w16 ⟨rfl, hw⟩
           have HC := Lib.hid (HC.out.call hw)
           clear hw
           (obtain ⟨⟨r1, f1, i1, b1, l1⟩, ⟨r2, f2, i2, b2, l2⟩, ⟨r3, f3, i3, b3, l3⟩, ⟨r4, f4, i4, b4, l4⟩, m12, m21, m13, m31, m14, m41, m23, m32, m24, m42, m34, m43⟩ := St.facts4 (HC.out.pick [0, 1, 2, 3] (by decide) rfl))
           go_wp2_with fail
           (clear r1 f1 i1 b1 l1 r2 f2 i2 b2 l2 r3 f3 i3 b3 l3 r4 f4 i4 b4 l4 m12 m21 m13 m31 m14 m41 m23 m32 m24 m42 m34 m43)
           refine (fork_dead _ _ (HD.out _ HC.out)).mono ?_; rintro e w17 ⟨rfl, hw⟩
           have HC := Lib.hid (HC.out.call hw)
           clear hw
           go_wp2_with fail
           go_roundw)
          case rel => exact ⟨2, by omega, by go_num, HC⟩
          case measure => simp [intOf]
        · go_wp2_with fail
          refine (awake21_any _).mono ?_; rintro e w6 ⟨rfl, hw⟩
          have HC := Lib.hid (HC.out.call hw)
          clear hw
          go_wp2_with fail
          go_ret
          exact ⟨rfl, HC.out.below⟩
end Go.Proofs.YtgaecjhghpkcoaaGreat
