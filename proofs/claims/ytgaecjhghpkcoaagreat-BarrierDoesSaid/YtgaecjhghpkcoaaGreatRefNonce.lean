/- The reference's numbers that are used once: padlockref19.Check, Text; the first bytes of an entry. -/
import Derived.Test.YtgaecjhghpkcoaaGreatRefNum
import Derived.Test.YtgaecjhghpkcoaaGreatMBar2
namespace Go.Proofs.YtgaecjhghpkcoaaGreat
open Go.RowKit
attribute [local go_sem] B_xor B_or B_and
attribute [local go_sem] blk_set blk_size blk_get blk_getE upd_same oneCells_blk paste_blk cut_blk szOf
attribute [local go_sem high] paste_all cut_head
attribute [local go_sem] rowAt_alloc rowAt_drew rowAt_drewN isRow_alloc isRow_drew isRow_drewN freeRow_alloc freeRow_end freeRow_drew freeRow_drewN
attribute [local go_sem] setRow_alloc setRow_drew setRow_drewN setCell_drewN alloc_drewN rowAt_put isRow_setRow freeRow_put
attribute [local go_sem ↓] loadS_in storeS_in indexS_in copyS_in
attribute [local go_sem] loadS_row loadS_one storeS_row storeS_one indexS_blk copyS_rows run_equalIn_blk same_refl arrayAt_row
attribute [local go_sem] cell_row frozen_row st_setCell st_blk_ne stepAt stepUpon
attribute [local go_sem high] run_eql_blk run_neq_blk
attribute [local go_sem ↓] convBS_in
attribute [local go_sem] convBS_row convBS_nil allBytes_blk bytesOf_blk
theorem size_c19 (w : World) : (sizeOf 35).run Tryz.prog w = .ok 2 w := by simp [go_sem]
theorem agg_c19 (w : World) : (isAgg 35).run Tryz.prog w = .ok true w := by simp [go_sem]
attribute [local go_sem] size_c19 agg_c19 cn_size cn_get0 cn_get1 cn_getE0 cn_getE1 cn_set0 cn_set1 cn_ne cn_one cn_cut cn_paste

theorem refCheck_yes (e n : Nat) (h : mayC e n) (w : World) : Calls Tryz.prog 51 #[.agg (cn e n)] w fun r w' => r = .returned (.int .i64 0) ∧ Below w.heap.size w w' := by
  obtain ⟨h1, h2, h3⟩ := h
  have d1 : decide ((e : Int) < 1) = false := decide_eq_false (by omega)
  have d2 : decide (1099511627776 < (e : Int)) = false := decide_eq_false (by omega)
  have d3 : decide (281474976710656 < (n : Int)) = false := decide_eq_false (by omega)
  clear h1 h2 h3
  go_enter Tryz.func51, Tryz.ntmps51
  go_wp2_with fail
  go_ret
  exact ⟨rfl, (Below.refl _ _).alloc (Nat.le_refl _) _⟩
theorem refCheck_no (e n : Nat) (h : ¬ mayC e n) (w : World) : Calls Tryz.prog 51 #[.agg (cn e n)] w fun r w' => r = .returned (.int .i64 2) ∧ Below w.heap.size w w' := by
  unfold mayC at h
  by_cases h1 : e < 1
  · have d1 : decide ((e : Int) < 1) = true := decide_eq_true (by omega)
    clear h
    go_enter Tryz.func51, Tryz.ntmps51
    go_wp2_with fail
    go_ret
    exact ⟨rfl, (Below.refl _ _).alloc (Nat.le_refl _) _⟩
  · have d1 : decide ((e : Int) < 1) = false := decide_eq_false (by omega)
    by_cases h2 : 1099511627776 < e
    · have d2 : decide (1099511627776 < (e : Int)) = true := decide_eq_true (by omega)
      clear h
      go_enter Tryz.func51, Tryz.ntmps51
      go_wp2_with fail
      go_ret
      exact ⟨rfl, (Below.refl _ _).alloc (Nat.le_refl _) _⟩
    · have d2 : decide (1099511627776 < (e : Int)) = false := decide_eq_false (by omega)
      have d3 : decide (281474976710656 < (n : Int)) = true := decide_eq_true (by omega)
      clear h
      go_enter Tryz.func51, Tryz.ntmps51
      go_wp2_with fail
      go_ret
      exact ⟨rfl, (Below.refl _ _).alloc (Nat.le_refl _) _⟩
set_option maxRecDepth 100000 in
set_option maxHeartbeats 2000000 in
theorem refText19_yes (e n : Nat) (h : mayC e n) (hn : n ≠ 281474976710656) (w : World) : Calls Tryz.prog 81 #[.agg (cn e n)] w fun r w' => r = .returned (.tuple #[.string (nonceS e n), .int .i64 0]) ∧ Below w.heap.size w w' := by
  have d1 : ((n : Int) == 281474976710656) = false := by rw [beq_eq_false_iff_ne]; omega
  have he : e < 18446744073709551616 := by have := h.2.1; omega
  have hn2 : n < 18446744073709551616 := by have := h.2.2; omega
  have HC := Lib.hid ((St.nil w).pushA (cn e n) 35 rfl)
  go_enter Tryz.func81, Tryz.ntmps81
  (obtain ⟨r1, f1, i1, b1, l1⟩ := St.facts1 (HC.out.pick [0] (by decide) rfl))
  go_wp2_with fail
  (clear r1 f1 i1 b1 l1)
  refine (refCheck_yes e n h _).mono ?_; rintro e w1 ⟨rfl, hw⟩
  have HC := Lib.hid (HC.out.call hw)
  clear hw
  have hC := HC.out
  (have HC := Lib.hid hC
   have sos := hC.below.os
   obtain ⟨r1, f1, i1, b1, l1⟩ := St.facts1 hC
   clear hC)
  go_upto_region 6 with fail
  go_region_with (first | (go_at_call 82; first | (refine (refNum_own g 6 c 6 n F (by omega) (by omega) hn2 X1.out (by omega) w _ _ (by repeat (first | exact HD.out | apply St.drew | apply St.drewN))).mono ?_; rintro r w3 ⟨g2, c2, F2, rfl, y1, y2, hw⟩; have hcs : 12 ≤ c2 := y1; have Y2 := Lib.hid y2; have HE := Lib.hid hw; clear y1 y2 hw; obtain ⟨⟨s1, t1, u1, v1, y1⟩, ⟨s2, t2, u2, v2, y2⟩, z12, z21⟩ := St.facts2 HE.out) | (refine (refNum_nil 6 e (by omega) (by omega) he w _ _ (by repeat (first | exact HC.out | apply St.drew | apply St.drewN))).mono ?_; rintro r w2 ⟨g, c, F, rfl, x1, x2, hw⟩; have X1 := Lib.hid x1; have X2 := Lib.hid x2; have HD := Lib.hid hw; clear x2 hw; obtain ⟨⟨s1, t1, u1, v1, y1⟩, ⟨s2, t2, u2, v2, y2⟩, z12, z21⟩ := St.facts2 HD.out)))
  all_goals
    go_wp2_with fail
    go_ret2
    refine ⟨congrArg (fun x => Ending.returned (.tuple #[.string x, .int .i64 0])) (strOf_congr fun i hi => ?_), by repeat (first | exact HE.out.below | apply Below.drew)⟩
    rw [Y2.out i hi]
    unfold nonceB glue
    split
    · exact X2.out i (by omega)
    · rfl
theorem refText19_bad (e n : Nat) (h : ¬ mayC e n) (w : World) : Calls Tryz.prog 81 #[.agg (cn e n)] w fun r w' => r = .returned (.tuple #[.string ⟨#[]⟩, .int .i64 2]) ∧ Below w.heap.size w w' := by
  have HC := Lib.hid ((St.nil w).pushA (cn e n) 35 rfl)
  go_enter Tryz.func81, Tryz.ntmps81
  (obtain ⟨r1, f1, i1, b1, l1⟩ := St.facts1 (HC.out.pick [0] (by decide) rfl))
  go_wp2_with fail
  (clear r1 f1 i1 b1 l1)
  refine (refCheck_no e n h _).mono ?_; rintro e w1 ⟨rfl, hw⟩
  have HC := Lib.hid (HC.out.call hw)
  clear hw
  have hC := HC.out
  (have HC := Lib.hid hC
   have sos := hC.below.os
   obtain ⟨r1, f1, i1, b1, l1⟩ := St.facts1 hC
   clear hC)
  go_wp2_with fail
  go_ret2
  exact ⟨rfl, HC.out.below⟩
theorem refText19_end (e n : Nat) (h : mayC e n) (hn : n = 281474976710656) (w : World) : Calls Tryz.prog 81 #[.agg (cn e n)] w fun r w' => r = .returned (.tuple #[.string ⟨#[]⟩, .int .i64 19]) ∧ Below w.heap.size w w' := by
  have d1 : ((n : Int) == 281474976710656) = true := by rw [beq_iff_eq]; omega
  have HC := Lib.hid ((St.nil w).pushA (cn e n) 35 rfl)
  clear hn
  go_enter Tryz.func81, Tryz.ntmps81
  (obtain ⟨r1, f1, i1, b1, l1⟩ := St.facts1 (HC.out.pick [0] (by decide) rfl))
  go_wp2_with fail
  (clear r1 f1 i1 b1 l1)
  refine (refCheck_yes e n h _).mono ?_; rintro e w1 ⟨rfl, hw⟩
  have HC := Lib.hid (HC.out.call hw)
  clear hw
  have hC := HC.out
  (have HC := Lib.hid hC
   have sos := hC.below.os
   obtain ⟨r1, f1, i1, b1, l1⟩ := St.facts1 hC
   clear hC)
  go_wp2_with fail
  go_ret2
  exact ⟨rfl, HC.out.below⟩
set_option maxRecDepth 100000 in
theorem refHead_any (t : Nat) (ht : t ≤ 6) (n : ByteArray) (hn : n.size < 2 ^ 40) (w : World) : Calls Tryz.prog 59 #[.int .i64 (t : Int), .string n] w fun e w' => e = .returned (.string (headS t n)) ∧ Below w.heap.size w w' := by
  have n6 : (t : Int) ≤ 6 := by omega
  have HC := Lib.hid (St.nil w)
  go_enter Tryz.func59, Tryz.ntmps59
  go_wp2_with fail
  refine (refNum_nil 4 t (by omega) (by omega) (by omega) w _ _ HC.out).mono ?_; rintro e w1 ⟨g, c, F, rfl, x1, x2, hw⟩
  have X2 := Lib.hid x2
  have HC := Lib.hid hw
  clear x2 hw
  have hC := HC.out
  (have HC := Lib.hid hC
   have sos := hC.below.os
   obtain ⟨r1, f1, i1, b1, l1⟩ := St.facts1 hC
   clear hC)
  have q1 : (strOf 4 F).size + n.size ≤ 9223372036854775807 := by rw [strOf_size]; omega
  go_wp2_with fail
  go_ret
  refine ⟨congrArg (fun x => Ending.returned (.string x)) ?_, HC.out.below⟩
  unfold headS
  rw [strOf_congr X2.out]
end Go.Proofs.YtgaecjhghpkcoaaGreat
