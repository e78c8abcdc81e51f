/- The reference's barrier: take, Lock. -/
import Derived.Test.YtgaecjhghpkcoaaGreatRb
namespace Go.Proofs.YtgaecjhghpkcoaaGreat
open Go.RowKit
attribute [local go_sem] B_xor B_or B_and
attribute [local go_sem] blk_set blk_size blk_get blk_getE upd_same oneCells_blk paste_blk cut_blk szOf
attribute [local go_sem high] paste_all cut_head
attribute [local go_sem] rowAt_alloc rowAt_drew rowAt_drewN isRow_alloc isRow_drew isRow_drewN freeRow_alloc freeRow_end freeRow_drew freeRow_drewN
attribute [local go_sem] setRow_alloc setRow_drew setRow_drewN setCell_drewN alloc_drewN rowAt_put isRow_setRow freeRow_put
attribute [local go_sem ↓] loadS_in storeS_in indexS_in copyS_in
attribute [local go_sem] loadS_row loadS_one storeS_row storeS_one indexS_blk copyS_rows run_equalIn_blk same_refl arrayAt_row
attribute [local go_sem] cell_row frozen_row st_setCell st_blk_ne stepAt stepUpon
attribute [local go_sem high] run_eql_blk run_neq_blk
attribute [local go_sem ↓] convBS_in
attribute [local go_sem] convBS_row convBS_nil allBytes_blk bytesOf_blk
attribute [local go_sem] size_c19 agg_c19 cn_size cn_get0 cn_get1 cn_getE0 cn_getE1 cn_set0 cn_set1 cn_ne cn_one cn_cut cn_paste
attribute [local go_sem] rb_size rb_get0 rb_get1 rb_get2 rb_get3 rb_get4 rb_getE0 rb_getE1 rb_getE2 rb_getE3 rb_getE4 rb_ne rb_one rb_cut rb_count rb_paste rb_set0 rb_set1 rb_set3 rb_set4 rb_build size_rb agg_rb

def takeN (n e c : Nat) : Nat := if n = 0 then 12 else if ¬ mayC e c then 2 else if c = 281474976710656 then 19 else 0
def takeNS (n e c : Nat) : ByteArray := if takeN n e c = 0 then nonceS e c else ⟨#[]⟩
def Rb.took (r : Rb) : Rb := if takeN r.kn r.e r.c = 0 then { r with c := r.c + 1 } else r
set_option maxRecDepth 100000 in
set_option maxHeartbeats 2000000 in
theorem refTake_no (r : Rb) (E : Nat) (hE : E ≠ 0) (h0 : r.kn ≠ 0) (hT : ∀ w, Calls Tryz.prog 81 #[.agg (cn r.e r.c)] w fun x w' => x = .returned (.tuple #[.string ⟨#[]⟩, .int .i64 (E : Int)]) ∧ Below w.heap.size w w') (w : World) : Calls Tryz.prog 56 #[.agg (rbC r)] w fun x w' => x = .returned (.tuple #[.string (if E = 0 then nonceS r.e r.c else ⟨#[]⟩), .agg (rbC (if E = 0 then { r with c := r.c + 1 } else r)), .int .i64 (E : Int)]) ∧ Below w.heap.size w w' := by
  have hz := rb_zero
  have HC := Lib.hid (((St.nil w).pushA (rbC r) 38 rfl).pushA (rbC rbZero) 38 (g := w.heap.size + 1) (by simp))
  rw [if_neg hE, if_neg hE]
  have d1 : ((r.kn : Int) == 0) = false := by rw [beq_eq_false_iff_ne]; omega
  have HK := Lib.hid hT
  have hd : ((E : Int) != 0) = true := by rw [bne_iff_ne]; omega
  clear hT hE h0
  go_enter Tryz.func56, Tryz.ntmps56
  (obtain ⟨⟨r1, f1, i1, b1, l1⟩, ⟨r2, f2, i2, b2, l2⟩, m12, m21⟩ := St.facts2 (HC.out.pick [0, 1] (by decide) rfl))
  go_wp2_with fail
  (clear r1 f1 i1 b1 l1 r2 f2 i2 b2 l2 m12 m21)
  refine (HK.out _).mono ?_; rintro e w1 ⟨rfl, hw⟩
  have HC := Lib.hid (HC.out.call hw)
  clear hw
  (obtain ⟨⟨r1, f1, i1, b1, l1⟩, ⟨r2, f2, i2, b2, l2⟩, m12, m21⟩ := St.facts2 (HC.out.pick [0, 1] (by decide) rfl))
  go_upto_region 5 with fail
  go_region
  all_goals
    go_wp2_with fail
    refine bodyPost_ret (results_qpr rfl _ (w.heap.size + 1) rfl (rbC r) ?_ ?_ ?_ ?_ (.string ⟨#[]⟩) (.int .i64 (E : Int)) rfl rfl) rfl ⟨rfl, ?_⟩
    (· simp [go_sem, *]
     · simp [go_sem]
     · simp [go_sem]
     · simp [go_sem, *]
     · repeat
         first
           | (with_reducible exact HC.out.below)
           | (with_reducible refine Below.drew ?_)
           | (with_reducible exact Below.refl _ _)
           | (with_reducible refine Below.alloc ?_ (by first | exact Nat.le_refl _ | simp) _)
           | (with_reducible refine below_setRow' ?_ (by omega) _))
set_option maxRecDepth 100000 in
set_option maxHeartbeats 2000000 in
theorem refTake21 (r : Rb) (w : World) : Calls Tryz.prog 56 #[.agg (rbC r)] w fun x w' => x = .returned (.tuple #[.string (takeNS r.kn r.e r.c), .agg (rbC r.took), .int .i64 ((takeN r.kn r.e r.c : Nat) : Int)]) ∧ Below w.heap.size w w' := by
  have hz := rb_zero
  have HC := Lib.hid (((St.nil w).pushA (rbC r) 38 rfl).pushA (rbC rbZero) 38 (g := w.heap.size + 1) (by simp))
  unfold Rb.took takeNS
  by_cases h0 : r.kn = 0
  · have hE : takeN r.kn r.e r.c = 12 := by unfold takeN; rw [if_pos h0]
    have d1 : ((r.kn : Int) == 0) = true := by rw [beq_iff_eq]; omega
    rw [hE]
    clear hE h0
    go_enter Tryz.func56, Tryz.ntmps56
    (obtain ⟨⟨r1, f1, i1, b1, l1⟩, ⟨r2, f2, i2, b2, l2⟩, m12, m21⟩ := St.facts2 (HC.out.pick [0, 1] (by decide) rfl))
    go_upto_region 2 with fail
    go_region
    all_goals
      go_wp2_with fail
      refine bodyPost_ret (results_qpr rfl _ (w.heap.size + 1) rfl (rbC r) ?_ ?_ ?_ ?_ (.string ⟨#[]⟩) (.int .i64 12) rfl rfl) rfl ⟨rfl, ?_⟩
      (· simp [go_sem, *]
       · simp [go_sem]
       · simp [go_sem]
       · simp [go_sem, *]
       · repeat
           first
             | (with_reducible exact HC.out.below)
             | (with_reducible refine Below.drew ?_)
             | (with_reducible exact Below.refl _ _)
             | (with_reducible refine Below.alloc ?_ (by first | exact Nat.le_refl _ | simp) _)
             | (with_reducible refine below_setRow' ?_ (by omega) _))
  · have d1 : ((r.kn : Int) == 0) = false := by rw [beq_eq_false_iff_ne]; omega
    by_cases hk : mayC r.e r.c
    · by_cases hc : r.c = 281474976710656
      · have hE : takeN r.kn r.e r.c = 19 := by unfold takeN; rw [if_neg h0, if_neg (fun h => h hk), if_pos hc]
        rw [hE]
        exact refTake_no r 19 (by omega) h0 (fun w => refText19_end r.e r.c hk hc w) w
      · have hE : takeN r.kn r.e r.c = 0 := by unfold takeN; rw [if_neg h0, if_neg (fun h => h hk), if_neg hc]
        have HT := Lib.hid (refText19_yes r.e r.c hk hc)
        have n1 : (r.c : Int) ≤ 281474976710656 := by have := hk.2.2; omega
        have hset : (rbC r).setIfInBounds 3 (.int .u64 ((r.c : Int) + 1)) = rbC { r with c := r.c + 1 } := rb_set3 r (r.c + 1)
        rw [hE]
        clear hE h0 hk hc
        go_enter Tryz.func56, Tryz.ntmps56
        (obtain ⟨⟨r1, f1, i1, b1, l1⟩, ⟨r2, f2, i2, b2, l2⟩, m12, m21⟩ := St.facts2 (HC.out.pick [0, 1] (by decide) rfl))
        go_wp2_with fail
        (clear r1 f1 i1 b1 l1 r2 f2 i2 b2 l2 m12 m21)
        refine (HT.out _).mono ?_; rintro e w1 ⟨rfl, hw⟩
        have HC := Lib.hid (HC.out.call hw)
        clear hw
        (obtain ⟨⟨r1, f1, i1, b1, l1⟩, ⟨r2, f2, i2, b2, l2⟩, m12, m21⟩ := St.facts2 (HC.out.pick [0, 1] (by decide) rfl))
        go_upto_region 7 with fail
        (clear r1 f1 i1 b1 l1 r2 f2 i2 b2 l2 m12 m21)
        have HC := Lib.hid (HC.out.swap.set_head (rbC { r with c := r.c + 1 }) (by rw [rb_size, rb_size]))
        generalize w1.setRow w.heap.size (rbC { r with c := r.c + 1 }) = w2 at HC ⊢
        (obtain ⟨⟨r1, f1, i1, b1, l1⟩, ⟨r2, f2, i2, b2, l2⟩, m12, m21⟩ := St.facts2 (HC.out.pick [0, 1] (by decide) rfl))
        go_region
        all_goals
          go_wp2_with fail
          refine bodyPost_ret (results_qpr rfl _ (w.heap.size + 1) rfl (rbC { r with c := r.c + 1 }) ?_ ?_ ?_ ?_ (.string (nonceS r.e r.c)) (.int .i64 0) rfl rfl) rfl ⟨rfl, ?_⟩
          (· simp [go_sem, *]
           · simp [go_sem]
           · simp [go_sem]
           · simp [go_sem, *]
           · repeat
               first
                 | (with_reducible exact HC.out.below)
                 | (with_reducible refine Below.drew ?_)
                 | (with_reducible exact Below.refl _ _)
                 | (with_reducible refine Below.alloc ?_ (by first | exact Nat.le_refl _ | simp) _)
                 | (with_reducible refine below_setRow' ?_ (by omega) _))
    · have hE : takeN r.kn r.e r.c = 2 := by unfold takeN; rw [if_neg h0, if_pos hk]
      rw [hE]
      exact refTake_no r 2 (by omega) h0 (fun w => refText19_bad r.e r.c hk w) w
end Go.Proofs.YtgaecjhghpkcoaaGreat
