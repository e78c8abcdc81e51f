/- The reference's barrier: Get: sealed, too short, of no key. -/
import Derived.Test.YtgaecjhghpkcoaaGreatRb6
namespace Go.Proofs.YtgaecjhghpkcoaaGreat
open Go.RowKit
attribute [local go_sem] B_xor B_or B_and
attribute [local go_sem] blk_set blk_size blk_get blk_getE upd_same oneCells_blk paste_blk cut_blk szOf
attribute [local go_sem high] paste_all cut_head
attribute [local go_sem] rowAt_alloc rowAt_drew rowAt_drewN isRow_alloc isRow_drew isRow_drewN freeRow_alloc freeRow_end freeRow_drew freeRow_drewN
attribute [local go_sem] setRow_alloc setRow_drew setRow_drewN setCell_drewN alloc_drewN rowAt_put isRow_setRow freeRow_put
attribute [local go_sem ↓] loadS_in storeS_in indexS_in copyS_in
attribute [local go_sem] loadS_row loadS_one storeS_row storeS_one indexS_blk copyS_rows run_equalIn_blk same_refl arrayAt_row
attribute [local go_sem] cell_row frozen_row st_setCell st_blk_ne stepAt stepUpon
attribute [local go_sem high] run_eql_blk run_neq_blk
attribute [local go_sem ↓] convBS_in
attribute [local go_sem] convBS_row convBS_nil allBytes_blk bytesOf_blk
attribute [local go_sem] size_c19 agg_c19 cn_size cn_get0 cn_get1 cn_getE0 cn_getE1 cn_set0 cn_set1 cn_ne cn_one cn_cut cn_paste
attribute [local go_sem] rb_size rb_get0 rb_get1 rb_get2 rb_get3 rb_get4 rb_getE0 rb_getE1 rb_getE2 rb_getE3 rb_getE4 rb_ne rb_one rb_cut rb_count rb_paste rb_set0 rb_set1 rb_set3 rb_set4 rb_build size_rb agg_rb
attribute [local go_sem] size_rsc agg_rsc sc_size sc_get0 sc_get1 sc_get2 sc_getE0 sc_getE1 sc_getE2 sc_set1 sc_set2 sc_ne sc_one sc_cut sc_paste
set_option maxRecDepth 100000 in
set_option maxHeartbeats 1000000 in
theorem refGet_sealed (r : Rb) (p s : ByteArray) (h0 : r.kn = 0) (w : World) : Calls Tryz.prog 13 #[.agg (rbC r), .string p, .string s] w fun e w' => e = .returned (.tuple #[.string ⟨#[]⟩, .int .i64 12]) ∧ Below w.heap.size w w' := by
  have HC := Lib.hid ((St.nil w).pushA (rbC r) 38 rfl)
  have d1 : ((r.kn : Int) == 0) = true := by rw [beq_iff_eq]; omega
  clear h0
  go_enter Tryz.func13, Tryz.ntmps13
  (obtain ⟨r1, f1, i1, b1, l1⟩ := St.facts1 (HC.out.pick [0] (by decide) rfl))
  go_wp2_with fail
  go_ret2
  exact ⟨rfl, HC.out.below⟩
set_option maxRecDepth 100000 in
set_option maxHeartbeats 1000000 in
theorem refGet_short (r : Rb) (p s : ByteArray) (h0 : r.kn ≠ 0) (h : s.size < 32) (w : World) : Calls Tryz.prog 13 #[.agg (rbC r), .string p, .string s] w fun e w' => e = .returned (.tuple #[.string ⟨#[]⟩, .int .i64 3]) ∧ Below w.heap.size w w' := by
  have HC := Lib.hid ((St.nil w).pushA (rbC r) 38 rfl)
  have d1 : ((r.kn : Int) == 0) = false := by rw [beq_eq_false_iff_ne]; omega
  have d2 : decide ((s.size : Int) < 32) = true := decide_eq_true (by omega)
  clear h0 h
  go_enter Tryz.func13, Tryz.ntmps13
  (obtain ⟨r1, f1, i1, b1, l1⟩ := St.facts1 (HC.out.pick [0] (by decide) rfl))
  go_wp2_with fail
  go_ret2
  exact ⟨rfl, HC.out.below⟩
set_option maxRecDepth 100000 in
set_option maxHeartbeats 1000000 in
theorem refGet_none (r : Rb) (p s : ByteArray) (h0 : r.kn ≠ 0) (h6 : r.kn ≤ 6) (h : 32 ≤ s.size) (hs : s.size < 2 ^ 40) (ht : numAt s 0 4 < 1 ∨ r.kn < numAt s 0 4) (w : World) : Calls Tryz.prog 13 #[.agg (rbC r), .string p, .string s] w fun e w' => e = .returned (.tuple #[.string ⟨#[]⟩, .int .i64 6]) ∧ Below w.heap.size w w' := by
  have hz := sc_nought
  have hz2 := sc_build s
  have HC := Lib.hid ((St.nil w).pushA (rbC r) 38 rfl)
  have d1 : ((r.kn : Int) == 0) = false := by rw [beq_eq_false_iff_ne]; omega
  have d2 : decide ((s.size : Int) < 32) = false := decide_eq_false (by omega)
  have k6 : (r.kn : Int) ≤ 6 := by omega
  have T1 := Lib.hid (refTake4 s (by omega) hs)
  obtain ⟨T, hT⟩ : ∃ T, numAt s 0 4 = T := ⟨_, rfl⟩
  rw [hT] at T1 ht
  have d3 : decide ((T : Int) < 1) = decide (T < 1) := by rw [decide_eq_decide]; omega
  have d4 : decide (r.kn < T) = true ∨ decide (T < 1) = true := ht.elim (fun h => .inr (decide_eq_true h)) fun h => .inl (decide_eq_true h)
  clear h0 h hs hT ht
  by_cases hT1 : T < 1
  · have d5 : decide ((T : Int) < 1) = true := decide_eq_true (by omega)
    clear d3 d4 hT1
    go_enter Tryz.func13, Tryz.ntmps13
    (obtain ⟨r1, f1, i1, b1, l1⟩ := St.facts1 (HC.out.pick [0] (by decide) rfl))
    go_wp2_with fail
    (clear r1 f1 i1 b1 l1)
    refine (T1.out _).mono ?_; rintro e w1 ⟨rfl, hw⟩
    have HC := Lib.hid (HC.out.call hw)
    clear hw
    (obtain ⟨r1, f1, i1, b1, l1⟩ := St.facts1 (HC.out.pick [0] (by decide) rfl))
    go_wp2_with fail
    go_ret2
    exact ⟨rfl, (HC.out.skip _).below⟩
  · have d5 : decide ((T : Int) < 1) = false := decide_eq_false (by omega)
    have hT2 : r.kn < T := d4.elim (fun h => of_decide_eq_true h) fun h => absurd (of_decide_eq_true h) hT1
    have d6 : decide (r.kn < T) = true := decide_eq_true hT2
    clear d3 d4 hT1 hT2
    go_enter Tryz.func13, Tryz.ntmps13
    (obtain ⟨r1, f1, i1, b1, l1⟩ := St.facts1 (HC.out.pick [0] (by decide) rfl))
    go_wp2_with fail
    (clear r1 f1 i1 b1 l1)
    refine (T1.out _).mono ?_; rintro e w1 ⟨rfl, hw⟩
    have HC := Lib.hid (HC.out.call hw)
    clear hw
    (obtain ⟨r1, f1, i1, b1, l1⟩ := St.facts1 (HC.out.pick [0] (by decide) rfl))
    go_wp2_with fail
    go_ret2
    exact ⟨rfl, (HC.out.skip _).below⟩
end Go.Proofs.YtgaecjhghpkcoaaGreat
