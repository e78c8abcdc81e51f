/- The program's barrier: Open. -/
import Derived.Test.YtgaecjhghpkcoaaGreatBar4
namespace Go.Proofs.YtgaecjhghpkcoaaGreat
open Go.RowKit
attribute [local go_sem] B_xor B_or B_and
attribute [local go_sem] blk_set blk_size blk_get blk_getE upd_same oneCells_blk paste_blk cut_blk szOf
attribute [local go_sem high] paste_all cut_head
attribute [local go_sem] rowAt_alloc rowAt_drew rowAt_drewN isRow_alloc isRow_drew isRow_drewN freeRow_alloc freeRow_end freeRow_drew freeRow_drewN
attribute [local go_sem] setRow_alloc setRow_drew setRow_drewN setCell_drewN alloc_drewN rowAt_put isRow_setRow freeRow_put
attribute [local go_sem ↓] loadS_in storeS_in indexS_in copyS_in
attribute [local go_sem] loadS_row loadS_one storeS_row storeS_one indexS_blk copyS_rows run_equalIn_blk same_refl arrayAt_row
attribute [local go_sem] cell_row frozen_row st_setCell st_blk_ne stepAt stepUpon
attribute [local go_sem high] run_eql_blk run_neq_blk
attribute [local go_sem ↓] convBS_in
attribute [local go_sem] convBS_row convBS_nil allBytes_blk bytesOf_blk
attribute [local go_sem] rg_size rg_get0 rg_getE0 rg_ne rg_set0 rg_one rg_cut rg_key rg_put rg_paste part_rg0 part_rg1
attribute [local go_sem] size_cn agg_cn cn_size cn_get0 cn_get1 cn_getE0 cn_getE1 cn_set0 cn_set1 cn_ne cn_one cn_cut cn_paste
attribute [local go_sem] br_size br_get0 br_get1 br_get2 br_getE0 br_getE1 br_getE2 br_ne br_ring br_count br_whole br_put_ring br_put_count br_paste br_one size_br agg_br

set_option maxRecDepth 100000 in
set_option maxHeartbeats 2000000 in
theorem open_yes (b : Br) (hm : b.md = true) (hn : b.n = 0) (n : Nat) (f : Nat → UInt8) (e c : Nat) (hr : n ≠ 0) (hk : mayC e c) (g : Nat) (w0 w : World) (L : List (Nat × Array Value)) (hC : St w0 ((g, br b) :: L) w) : Calls Tryz.prog 14 #[.pointer (some ⟨g, 0, none⟩), .agg (rg n f), .agg (cn e c)] w fun r w' => r = .returned (.int .i64 0) ∧ St w0 ((g, br { b with n := n, f := f, e := e, c := c }) :: L) w' ∧ Mk w w' := by
  have hr0 : ((n : Int) == 0) = false := by rw [beq_eq_false_iff_ne]; omega
  have HK := Lib.hid hk
  have HM := Lib.hid hm
  have HN := Lib.hid hn
  have HC := Lib.hid ((hC.push (rg n f) 44).pushA (cn e c) 52 (g := w.heap.size + 1) (by simp))
  clear hC hm hn hk hr
  go_enter Tryz.func14, Tryz.ntmps14
  go_wp2_with fail
  refine (state_made b HM.out g w0 _ _ HC.out.tail.tail 12 (.inl ⟨HN.out, rfl⟩)).mono ?_; rintro r w1 ⟨rfl, hw⟩
  have HC := Lib.hid (HC.out.call hw)
  have HW1 := Lib.hid hw
  clear hw
  (obtain ⟨⟨r1, f1, i1, b1, l1⟩, ⟨r2, f2, i2, b2, l2⟩, ⟨r3, f3, i3, b3, l3⟩, m12, m21, m13, m31, m23, m32⟩ := St.facts3 (HC.out.pick [0, 1, 2] (by decide) rfl))
  go_wp2_with fail
  (clear r1 f1 i1 b1 l1 r2 f2 i2 b2 l2 r3 f3 i3 b3 l3 m12 m21 m13 m31 m23 m32)
  refine (term_any n f _).mono ?_; rintro e w2 ⟨rfl, hw⟩
  have HC := Lib.hid (HC.out.call hw)
  have HW2 := Lib.hid hw
  clear hw
  (obtain ⟨⟨r1, f1, i1, b1, l1⟩, ⟨r2, f2, i2, b2, l2⟩, ⟨r3, f3, i3, b3, l3⟩, m12, m21, m13, m31, m23, m32⟩ := St.facts3 (HC.out.pick [0, 1, 2] (by decide) rfl))
  go_wp2_with fail
  (clear r1 f1 i1 b1 l1 r2 f2 i2 b2 l2 r3 f3 i3 b3 l3 m12 m21 m13 m31 m23 m32)
  refine (nonceCheck_yes e c HK.out _).mono ?_; rintro e w3 ⟨rfl, hw⟩
  have HC := Lib.hid (HC.out.call hw)
  have HW3 := Lib.hid hw
  clear hw
  (obtain ⟨⟨r1, f1, i1, b1, l1⟩, ⟨r2, f2, i2, b2, l2⟩, ⟨r3, f3, i3, b3, l3⟩, m12, m21, m13, m31, m23, m32⟩ := St.facts3 (HC.out.pick [0, 1, 2] (by decide) rfl))
  go_wp2_with fail
  (clear r1 f1 i1 b1 l1 r2 f2 i2 b2 l2 r3 f3 i3 b3 l3 m12 m21 m13 m31 m23 m32)
  generalize w.heap.size + 1 = q at HC ⊢
  generalize w.heap.size = p at HC ⊢
  (obtain ⟨⟨r1, f1, i1, b1, l1⟩, ⟨r2, f2, i2, b2, l2⟩, ⟨r3, f3, i3, b3, l3⟩, m12, m21, m13, m31, m23, m32⟩ := St.facts3 (HC.out.pick [0, 1, 2] (by decide) rfl))
  go_region
  all_goals
    go_wp2_with fail
    go_ret
    refine ⟨rfl, ?_, ?_⟩
    · first
        | exact ((HC.out.tail.tail.set_head (br { b with n := n, f := f }) (by rw [br_size, br_size])).set_head (br { b with n := n, f := f, e := e, c := c }) (by rw [br_size, br_size])).drew
        | exact ((HC.out.tail.tail.set_head (br { b with e := e, c := c }) (by rw [br_size, br_size])).set_head (br { b with n := n, f := f, e := e, c := c }) (by rw [br_size, br_size])).drew
    · (repeat
         first
           | (with_reducible exact Mk.refl _)
           | (with_reducible refine Mk.setRow ?_ _ _)
           | (with_reducible refine Mk.alloc ?_ _)
           | (with_reducible refine Mk.drew ?_)
           | (with_reducible refine Mk.drewN ?_ _)
           | (with_reducible refine Mk.call HW1.out ?_)
           | (with_reducible refine Mk.call HW2.out ?_)
           | (with_reducible refine Mk.call HW3.out ?_)
           | (with_reducible refine Mk.call HW4.out ?_)
           | (with_reducible refine Mk.call HW5.out ?_)
           | (with_reducible refine Mk.call HW6.out ?_))
set_option maxRecDepth 100000 in
theorem open_was (b : Br) (hm : b.md = true) (hn : b.n ≠ 0) (n : Nat) (f : Nat → UInt8) (e c : Nat) (g : Nat) (w0 w : World) (L : List (Nat × Array Value)) (hC : St w0 ((g, br b) :: L) w) : Calls Tryz.prog 14 #[.pointer (some ⟨g, 0, none⟩), .agg (rg n f), .agg (cn e c)] w fun r w' => r = .returned (.int .i64 9) ∧ Below w.heap.size w w' := by
  have HM := Lib.hid hm
  have HN := Lib.hid hn
  have HC := Lib.hid ((hC.push (rg n f) 44).pushA (cn e c) 52 (g := w.heap.size + 1) (by simp))
  have HO := Lib.hid (((St.nil w).skip (.cells (rg n f) 44)).skip (.cells (cn e c) 52))
  clear hC hm hn
  go_enter Tryz.func14, Tryz.ntmps14
  go_wp2_with fail
  refine (state_made b HM.out g w0 _ _ HC.out.tail.tail 0 (.inr ⟨HN.out, rfl⟩)).mono ?_; rintro r w1 ⟨rfl, hw⟩
  have HO := Lib.hid (HO.out.call hw)
  clear hw
  go_wp2_with fail
  go_ret
  exact ⟨rfl, HO.out.below⟩
set_option maxRecDepth 100000 in
theorem open_bad (b : Br) (hm : b.md = true) (hn : b.n = 0) (n : Nat) (f : Nat → UInt8) (e c : Nat) (h : n = 0 ∨ (n ≠ 0 ∧ ¬ mayC e c)) (g : Nat) (w0 w : World) (L : List (Nat × Array Value)) (hC : St w0 ((g, br b) :: L) w) : Calls Tryz.prog 14 #[.pointer (some ⟨g, 0, none⟩), .agg (rg n f), .agg (cn e c)] w fun r w' => r = .returned (.int .i64 2) ∧ Below w.heap.size w w' := by
  have HM := Lib.hid hm
  have HN := Lib.hid hn
  have HC := Lib.hid ((hC.push (rg n f) 44).pushA (cn e c) 52 (g := w.heap.size + 1) (by simp))
  have HO := Lib.hid (((St.nil w).pushA (rg n f) 44 rfl).pushA (cn e c) 52 (g := w.heap.size + 1) (by simp))
  clear hC hm hn
  rcases h with h | ⟨h, hk⟩
  · have d1 : ((n : Int) == 0) = true := by rw [beq_iff_eq]; omega
    clear h
    go_enter Tryz.func14, Tryz.ntmps14
    go_wp2_with fail
    refine (state_made b HM.out g w0 _ _ HC.out.tail.tail 12 (.inl ⟨HN.out, rfl⟩)).mono ?_; rintro r w1 ⟨rfl, hw⟩
    have HC := Lib.hid (HO.out.call hw)
    clear hw
    (obtain ⟨⟨r1, f1, i1, b1, l1⟩, ⟨r2, f2, i2, b2, l2⟩, m12, m21⟩ := St.facts2 (HC.out.pick [0, 1] (by decide) rfl))
    go_wp2_with fail
    (clear r1 f1 i1 b1 l1 r2 f2 i2 b2 l2 m12 m21)
    refine (term_any n f _).mono ?_; rintro e w2 ⟨rfl, hw⟩
    have HC := Lib.hid (HC.out.call hw)
    clear hw
    (obtain ⟨⟨r1, f1, i1, b1, l1⟩, ⟨r2, f2, i2, b2, l2⟩, m12, m21⟩ := St.facts2 (HC.out.pick [0, 1] (by decide) rfl))
    go_wp2_with fail
    go_ret
    exact ⟨rfl, HC.out.below⟩
  · have d1 : ((n : Int) == 0) = false := by rw [beq_eq_false_iff_ne]; omega
    have HK := Lib.hid hk
    clear h hk
    go_enter Tryz.func14, Tryz.ntmps14
    go_wp2_with fail
    refine (state_made b HM.out g w0 _ _ HC.out.tail.tail 12 (.inl ⟨HN.out, rfl⟩)).mono ?_; rintro r w1 ⟨rfl, hw⟩
    have HC := Lib.hid (HO.out.call hw)
    clear hw
    (obtain ⟨⟨r1, f1, i1, b1, l1⟩, ⟨r2, f2, i2, b2, l2⟩, m12, m21⟩ := St.facts2 (HC.out.pick [0, 1] (by decide) rfl))
    go_wp2_with fail
    (clear r1 f1 i1 b1 l1 r2 f2 i2 b2 l2 m12 m21)
    refine (term_any n f _).mono ?_; rintro e w2 ⟨rfl, hw⟩
    have HC := Lib.hid (HC.out.call hw)
    clear hw
    (obtain ⟨⟨r1, f1, i1, b1, l1⟩, ⟨r2, f2, i2, b2, l2⟩, m12, m21⟩ := St.facts2 (HC.out.pick [0, 1] (by decide) rfl))
    go_wp2_with fail
    (clear r1 f1 i1 b1 l1 r2 f2 i2 b2 l2 m12 m21)
    refine (nonceCheck_no e c HK.out _).mono ?_; rintro e w3 ⟨rfl, hw⟩
    have HC := Lib.hid (HC.out.call hw)
    clear hw
    (obtain ⟨⟨r1, f1, i1, b1, l1⟩, ⟨r2, f2, i2, b2, l2⟩, m12, m21⟩ := St.facts2 (HC.out.pick [0, 1] (by decide) rfl))
    go_wp2_with fail
    go_ret
    exact ⟨rfl, HC.out.below⟩
/-! ### in one -/
def openE (b : Br) (n e c : Nat) : Nat := if b.n ≠ 0 then 9 else if n = 0 ∨ ¬ mayC e c then 2 else 0
def Br.opened (b : Br) (n : Nat) (f : Nat → UInt8) (e c : Nat) : Br := if openE b n e c = 0 then { b with n := n, f := f, e := e, c := c } else b
theorem barOpen_any (b : Br) (hm : b.md = true) (n : Nat) (f : Nat → UInt8) (e c : Nat) (g : Nat) (w0 w : World) (L : List (Nat × Array Value)) (hC : St w0 ((g, br b) :: L) w) : Calls Tryz.prog 14 #[.pointer (some ⟨g, 0, none⟩), .agg (rg n f), .agg (cn e c)] w fun r w' => r = .returned (.int .i64 ((openE b n e c : Nat) : Int)) ∧ St w0 ((g, br (b.opened n f e c)) :: L) w' ∧ Mk w w' := by
  unfold Br.opened
  by_cases hn : b.n = 0
  · by_cases h : n = 0 ∨ ¬ mayC e c
    · have hE : openE b n e c = 2 := by unfold openE; rw [if_neg (by omega), if_pos h]
      rw [hE]
      refine (open_bad b hm hn n f e c (by rcases h with h | h; exact .inl h; by_cases h0 : n = 0; exact .inl h0; exact .inr ⟨h0, h⟩) g w0 w L hC).mono ?_
      rintro r w' ⟨rfl, hw⟩
      exact ⟨rfl, hC.call hw, Mk.call hw (Mk.refl _)⟩
    · have hE : openE b n e c = 0 := by unfold openE; rw [if_neg (by omega), if_neg h]
      rw [hE]
      have h1 : n ≠ 0 := fun e => h (.inl e)
      exact open_yes b hm hn n f e c h1 (Decidable.byContradiction fun k => h (.inr k)) g w0 w L hC
  · have hE : openE b n e c = 9 := by unfold openE; rw [if_pos hn]
    rw [hE]
    refine (open_was b hm hn n f e c g w0 w L hC).mono ?_
    rintro r w' ⟨rfl, hw⟩
    exact ⟨rfl, hC.call hw, Mk.call hw (Mk.refl _)⟩
theorem open_sk (b : Br) (hm : b.md = true) (n : Nat) (f : Nat → UInt8) (e c : Nat) (g : Nat) (v w0 w : World) (L : List (Nat × Array Value)) (hC : Sk v w0 ((g, br b) :: L) w) : Calls Tryz.prog 14 #[.pointer (some ⟨g, 0, none⟩), .agg (rg n f), .agg (cn e c)] w fun r w' => r = .returned (.int .i64 ((openE b n e c : Nat) : Int)) ∧ Sk v w0 ((g, br (b.opened n f e c)) :: L) w' :=
  (barOpen_any b hm n f e c g w0 w L hC.toSt).mono fun _ _ ⟨h1, h2⟩ => ⟨h1, hC.next h2⟩
end Go.Proofs.YtgaecjhghpkcoaaGreat
