/- The program's barrier: state of none, Sealed, Ring, Count. -/
import Derived.Test.YtgaecjhghpkcoaaGreatBar
namespace Go.Proofs.YtgaecjhghpkcoaaGreat
open Go.RowKit
attribute [local go_sem] B_xor B_or B_and
attribute [local go_sem] blk_set blk_size blk_get blk_getE upd_same oneCells_blk paste_blk cut_blk szOf
attribute [local go_sem high] paste_all cut_head
attribute [local go_sem] rowAt_alloc rowAt_drew rowAt_drewN isRow_alloc isRow_drew isRow_drewN freeRow_alloc freeRow_end freeRow_drew freeRow_drewN
attribute [local go_sem] setRow_alloc setRow_drew setRow_drewN setCell_drewN alloc_drewN rowAt_put isRow_setRow freeRow_put
attribute [local go_sem ↓] loadS_in storeS_in indexS_in copyS_in
attribute [local go_sem] loadS_row loadS_one storeS_row storeS_one indexS_blk copyS_rows run_equalIn_blk same_refl arrayAt_row
attribute [local go_sem] cell_row frozen_row st_setCell st_blk_ne stepAt stepUpon
attribute [local go_sem high] run_eql_blk run_neq_blk
attribute [local go_sem ↓] convBS_in
attribute [local go_sem] convBS_row convBS_nil allBytes_blk bytesOf_blk
attribute [local go_sem] rg_size rg_get0 rg_getE0 rg_ne rg_set0 rg_one rg_cut rg_key rg_put rg_paste part_rg0 part_rg1
attribute [local go_sem] size_cn agg_cn cn_size cn_get0 cn_get1 cn_getE0 cn_getE1 cn_set0 cn_set1 cn_ne cn_one cn_cut cn_paste
attribute [local go_sem] br_size br_get0 br_get1 br_get2 br_getE0 br_getE1 br_getE2 br_ne br_ring br_count br_whole br_put_ring br_put_count br_paste br_one size_br agg_br

theorem state_nil (w : World) : Calls Tryz.prog 42 #[.pointer none] w fun e w' => e = .returned (.int .i64 1) ∧ Below w.heap.size w w' := by
  go_enter Tryz.func42, Tryz.ntmps42
  go_wp2_with fail
  go_ret
  exact ⟨rfl, Below.refl _ _⟩
theorem state_raw (b : Br) (hm : b.md = false) (g : Nat) (w0 w : World) (L : List (Nat × Array Value)) (hC : St w0 ((g, br b) :: L) w) : Calls Tryz.prog 42 #[.pointer (some ⟨g, 0, none⟩)] w fun e w' => e = .returned (.int .i64 1) ∧ Below w.heap.size w w' := by
  have HC := Lib.hid hC
  clear hC
  (obtain ⟨r1, f1, i1, b1, l1⟩ := St.facts1 (HC.out.pick [0] (by decide) rfl))
  go_enter Tryz.func42, Tryz.ntmps42
  go_wp2_with fail
  go_ret
  exact ⟨rfl, Below.refl _ _⟩
/-- of a barrier whose state is E -/
theorem sealed_any (p : Value) (E : Nat) (v : Bool) (hv : ((E : Int) != 0) = v) (w : World) (hS : Calls Tryz.prog 42 #[p] w fun e w' => e = .returned (.int .i64 (E : Int)) ∧ Below w.heap.size w w') : Calls Tryz.prog 36 #[p] w fun e w' => e = .returned (.bool v) ∧ Below w.heap.size w w' := by
  have HS := Lib.hid hS
  have HB := Lib.hid ((St.nil w))
  clear hS
  go_enter Tryz.func36, Tryz.ntmps36
  go_wp2_with fail
  refine HS.out.mono ?_; rintro e w1 ⟨rfl, hw⟩
  have HB := Lib.hid (HB.out.call hw)
  clear hw
  go_wp2_with fail
  go_ret
  exact ⟨rfl, HB.out.below⟩
theorem sealed_open (b : Br) (hm : b.md = true) (hn : b.n ≠ 0) (g : Nat) (w0 w : World) (L : List (Nat × Array Value)) (hC : St w0 ((g, br b) :: L) w) : Calls Tryz.prog 36 #[.pointer (some ⟨g, 0, none⟩)] w fun e w' => e = .returned (.bool false) ∧ Below w.heap.size w w' :=
  sealed_any _ 0 false rfl w (state_made b hm g w0 w L hC 0 (.inr ⟨hn, rfl⟩))
theorem sealed_shut (b : Br) (hm : b.md = true) (hn : b.n = 0) (g : Nat) (w0 w : World) (L : List (Nat × Array Value)) (hC : St w0 ((g, br b) :: L) w) : Calls Tryz.prog 36 #[.pointer (some ⟨g, 0, none⟩)] w fun e w' => e = .returned (.bool true) ∧ Below w.heap.size w w' :=
  sealed_any _ 12 true rfl w (state_made b hm g w0 w L hC 12 (.inl ⟨hn, rfl⟩))
theorem sealed_raw (b : Br) (hm : b.md = false) (g : Nat) (w0 w : World) (L : List (Nat × Array Value)) (hC : St w0 ((g, br b) :: L) w) : Calls Tryz.prog 36 #[.pointer (some ⟨g, 0, none⟩)] w fun e w' => e = .returned (.bool true) ∧ Below w.heap.size w w' :=
  sealed_any _ 1 true rfl w (state_raw b hm g w0 w L hC)
theorem sealed_nil (w : World) : Calls Tryz.prog 36 #[.pointer none] w fun e w' => e = .returned (.bool true) ∧ Below w.heap.size w w' :=
  sealed_any _ 1 true rfl w (state_nil w)
set_option maxRecDepth 100000 in
set_option maxHeartbeats 1000000 in
theorem ring_open (b : Br) (hm : b.md = true) (hn : b.n ≠ 0) (g : Nat) (w0 w : World) (L : List (Nat × Array Value)) (hC : St w0 ((g, br b) :: L) w) : Calls Tryz.prog 28 #[.pointer (some ⟨g, 0, none⟩)] w fun e w' => e = .returned (.agg (rg b.n b.f)) ∧ Below w.heap.size w w' := by
  have hz2 := zero97
  have HC := Lib.hid (hC.push (rg 0 fun _ => 0) 44)
  have HO := Lib.hid ((St.nil w).pushA (rg 0 fun _ => 0) 44 rfl)
  have HM := Lib.hid hm
  have HN := Lib.hid hn
  clear hC hm hn
  go_enter Tryz.func28, Tryz.ntmps28
  go_wp2_with fail
  refine (sealed_open b HM.out HN.out g w0 _ _ HC.out.swap).mono ?_; rintro e w1 ⟨rfl, hw⟩
  have HC := Lib.hid (HC.out.call hw)
  have HO := Lib.hid (HO.out.call hw)
  clear hw
  (obtain ⟨⟨r1, f1, i1, b1, l1⟩, ⟨r2, f2, i2, b2, l2⟩, m12, m21⟩ := St.facts2 (HC.out.pick [0, 1] (by decide) rfl))
  go_wp2_with fail
  refine bodyPost_ret (results_row rfl _ w.heap.size rfl (rg b.n b.f) ?_ ?_ ?_ ?_) rfl ⟨rfl, ?_⟩
  · simp [go_sem, *]
  · simp [go_sem]
  · simp [go_sem]
  · simp [go_sem, *]
  · exact below_setRow' HO.out.below (by omega) _
set_option maxRecDepth 100000 in
set_option maxHeartbeats 1000000 in
theorem ring_shut (b : Br) (hm : b.md = true) (hn : b.n = 0) (g : Nat) (w0 w : World) (L : List (Nat × Array Value)) (hC : St w0 ((g, br b) :: L) w) : Calls Tryz.prog 28 #[.pointer (some ⟨g, 0, none⟩)] w fun e w' => e = .returned (.agg (rg 0 fun _ => 0)) ∧ Below w.heap.size w w' := by
  have hz2 := zero97
  have HC := Lib.hid (hC.push (rg 0 fun _ => 0) 44)
  have HO := Lib.hid ((St.nil w).pushA (rg 0 fun _ => 0) 44 rfl)
  have HM := Lib.hid hm
  have HN := Lib.hid hn
  clear hC hm hn
  go_enter Tryz.func28, Tryz.ntmps28
  go_wp2_with fail
  refine (sealed_shut b HM.out HN.out g w0 _ _ HC.out.swap).mono ?_; rintro e w1 ⟨rfl, hw⟩
  have HC := Lib.hid (HC.out.call hw)
  have HO := Lib.hid (HO.out.call hw)
  clear hw
  (obtain ⟨⟨r1, f1, i1, b1, l1⟩, ⟨r2, f2, i2, b2, l2⟩, m12, m21⟩ := St.facts2 (HC.out.pick [0, 1] (by decide) rfl))
  go_wp2_with fail
  refine bodyPost_ret (results_row rfl _ w.heap.size rfl (rg 0 fun _ => 0) ?_ ?_ ?_ ?_) rfl ⟨rfl, ?_⟩
  · simp [go_sem, *]
  · simp [go_sem]
  · simp [go_sem]
  · simp [go_sem, *]
  · exact below_setRow' HO.out.below (by omega) _
set_option maxRecDepth 100000 in
set_option maxHeartbeats 1000000 in
theorem ring_raw (b : Br) (hm : b.md = false) (g : Nat) (w0 w : World) (L : List (Nat × Array Value)) (hC : St w0 ((g, br b) :: L) w) : Calls Tryz.prog 28 #[.pointer (some ⟨g, 0, none⟩)] w fun e w' => e = .returned (.agg (rg 0 fun _ => 0)) ∧ Below w.heap.size w w' := by
  have hz2 := zero97
  have HC := Lib.hid (hC.push (rg 0 fun _ => 0) 44)
  have HO := Lib.hid ((St.nil w).pushA (rg 0 fun _ => 0) 44 rfl)
  have HM := Lib.hid hm
  clear hC hm
  go_enter Tryz.func28, Tryz.ntmps28
  go_wp2_with fail
  refine (sealed_raw b HM.out g w0 _ _ HC.out.swap).mono ?_; rintro e w1 ⟨rfl, hw⟩
  have HC := Lib.hid (HC.out.call hw)
  have HO := Lib.hid (HO.out.call hw)
  clear hw
  (obtain ⟨⟨r1, f1, i1, b1, l1⟩, ⟨r2, f2, i2, b2, l2⟩, m12, m21⟩ := St.facts2 (HC.out.pick [0, 1] (by decide) rfl))
  go_wp2_with fail
  refine bodyPost_ret (results_row rfl _ w.heap.size rfl (rg 0 fun _ => 0) ?_ ?_ ?_ ?_) rfl ⟨rfl, ?_⟩
  · simp [go_sem, *]
  · simp [go_sem]
  · simp [go_sem]
  · simp [go_sem, *]
  · exact below_setRow' HO.out.below (by omega) _
set_option maxRecDepth 100000 in
theorem ring_nil (w : World) : Calls Tryz.prog 28 #[.pointer none] w fun e w' => e = .returned (.agg (rg 0 fun _ => 0)) ∧ Below w.heap.size w w' := by
  have hz2 := zero97
  have HC := Lib.hid ((St.nil w).pushA (rg 0 fun _ => 0) 44 rfl)
  go_enter Tryz.func28, Tryz.ntmps28
  go_wp2_with fail
  refine (sealed_nil _).mono ?_; rintro e w1 ⟨rfl, hw⟩
  have HC := Lib.hid (HC.out.call hw)
  clear hw
  have hC := HC.out
  (have HC := Lib.hid hC
   have sos := hC.below.os
   obtain ⟨r1, f1, i1, b1, l1⟩ := St.facts1 hC
   clear hC)
  go_wp2_with fail
  refine bodyPost_ret (results_row rfl _ w.heap.size rfl (rg 0 fun _ => 0) ?_ ?_ ?_ ?_) rfl ⟨rfl, ?_⟩
  · simp [go_sem, *]
  · simp [go_sem]
  · simp [go_sem]
  · simp [go_sem, *]
  · exact below_setRow' HC.out.below (by omega) _
set_option maxRecDepth 100000 in
set_option maxHeartbeats 1000000 in
theorem count_open (b : Br) (hm : b.md = true) (hn : b.n ≠ 0) (g : Nat) (w0 w : World) (L : List (Nat × Array Value)) (hC : St w0 ((g, br b) :: L) w) : Calls Tryz.prog 37 #[.pointer (some ⟨g, 0, none⟩)] w fun e w' => e = .returned (.agg (cn b.e b.c)) ∧ Below w.heap.size w w' := by
  have hz3 := cn_zero
  have HC := Lib.hid (hC.push (cn 0 0) 52)
  have HO := Lib.hid ((St.nil w).pushA (cn 0 0) 52 rfl)
  have HM := Lib.hid hm
  have HN := Lib.hid hn
  clear hC hm hn
  go_enter Tryz.func37, Tryz.ntmps37
  go_wp2_with fail
  refine (sealed_open b HM.out HN.out g w0 _ _ HC.out.swap).mono ?_; rintro e w1 ⟨rfl, hw⟩
  have HC := Lib.hid (HC.out.call hw)
  have HO := Lib.hid (HO.out.call hw)
  clear hw
  (obtain ⟨⟨r1, f1, i1, b1, l1⟩, ⟨r2, f2, i2, b2, l2⟩, m12, m21⟩ := St.facts2 (HC.out.pick [0, 1] (by decide) rfl))
  go_wp2_with fail
  refine bodyPost_ret (results_row rfl _ w.heap.size rfl (cn b.e b.c) ?_ ?_ ?_ ?_) rfl ⟨rfl, ?_⟩
  · simp [go_sem, *]
  · simp [go_sem]
  · simp [go_sem]
  · simp [go_sem, *]
  · exact below_setRow' HO.out.below (by omega) _
set_option maxRecDepth 100000 in
set_option maxHeartbeats 1000000 in
theorem count_shut (b : Br) (hm : b.md = true) (hn : b.n = 0) (g : Nat) (w0 w : World) (L : List (Nat × Array Value)) (hC : St w0 ((g, br b) :: L) w) : Calls Tryz.prog 37 #[.pointer (some ⟨g, 0, none⟩)] w fun e w' => e = .returned (.agg (cn 0 0)) ∧ Below w.heap.size w w' := by
  have hz3 := cn_zero
  have HC := Lib.hid (hC.push (cn 0 0) 52)
  have HO := Lib.hid ((St.nil w).pushA (cn 0 0) 52 rfl)
  have HM := Lib.hid hm
  have HN := Lib.hid hn
  clear hC hm hn
  go_enter Tryz.func37, Tryz.ntmps37
  go_wp2_with fail
  refine (sealed_shut b HM.out HN.out g w0 _ _ HC.out.swap).mono ?_; rintro e w1 ⟨rfl, hw⟩
  have HC := Lib.hid (HC.out.call hw)
  have HO := Lib.hid (HO.out.call hw)
  clear hw
  (obtain ⟨⟨r1, f1, i1, b1, l1⟩, ⟨r2, f2, i2, b2, l2⟩, m12, m21⟩ := St.facts2 (HC.out.pick [0, 1] (by decide) rfl))
  go_wp2_with fail
  refine bodyPost_ret (results_row rfl _ w.heap.size rfl (cn 0 0) ?_ ?_ ?_ ?_) rfl ⟨rfl, ?_⟩
  · simp [go_sem, *]
  · simp [go_sem]
  · simp [go_sem]
  · simp [go_sem, *]
  · exact below_setRow' HO.out.below (by omega) _
set_option maxRecDepth 100000 in
set_option maxHeartbeats 1000000 in
theorem count_raw (b : Br) (hm : b.md = false) (g : Nat) (w0 w : World) (L : List (Nat × Array Value)) (hC : St w0 ((g, br b) :: L) w) : Calls Tryz.prog 37 #[.pointer (some ⟨g, 0, none⟩)] w fun e w' => e = .returned (.agg (cn 0 0)) ∧ Below w.heap.size w w' := by
  have hz3 := cn_zero
  have HC := Lib.hid (hC.push (cn 0 0) 52)
  have HO := Lib.hid ((St.nil w).pushA (cn 0 0) 52 rfl)
  have HM := Lib.hid hm
  clear hC hm
  go_enter Tryz.func37, Tryz.ntmps37
  go_wp2_with fail
  refine (sealed_raw b HM.out g w0 _ _ HC.out.swap).mono ?_; rintro e w1 ⟨rfl, hw⟩
  have HC := Lib.hid (HC.out.call hw)
  have HO := Lib.hid (HO.out.call hw)
  clear hw
  (obtain ⟨⟨r1, f1, i1, b1, l1⟩, ⟨r2, f2, i2, b2, l2⟩, m12, m21⟩ := St.facts2 (HC.out.pick [0, 1] (by decide) rfl))
  go_wp2_with fail
  refine bodyPost_ret (results_row rfl _ w.heap.size rfl (cn 0 0) ?_ ?_ ?_ ?_) rfl ⟨rfl, ?_⟩
  · simp [go_sem, *]
  · simp [go_sem]
  · simp [go_sem]
  · simp [go_sem, *]
  · exact below_setRow' HO.out.below (by omega) _
set_option maxRecDepth 100000 in
theorem count_nil (w : World) : Calls Tryz.prog 37 #[.pointer none] w fun e w' => e = .returned (.agg (cn 0 0)) ∧ Below w.heap.size w w' := by
  have hz3 := cn_zero
  have HC := Lib.hid ((St.nil w).pushA (cn 0 0) 52 rfl)
  go_enter Tryz.func37, Tryz.ntmps37
  go_wp2_with fail
  refine (sealed_nil _).mono ?_; rintro e w1 ⟨rfl, hw⟩
  have HC := Lib.hid (HC.out.call hw)
  clear hw
  have hC := HC.out
  (have HC := Lib.hid hC
   have sos := hC.below.os
   obtain ⟨r1, f1, i1, b1, l1⟩ := St.facts1 hC
   clear hC)
  go_wp2_with fail
  refine bodyPost_ret (results_row rfl _ w.heap.size rfl (cn 0 0) ?_ ?_ ?_ ?_) rfl ⟨rfl, ?_⟩
  · simp [go_sem, *]
  · simp [go_sem]
  · simp [go_sem]
  · simp [go_sem, *]
  · exact below_setRow' HC.out.below (by omega) _
end Go.Proofs.YtgaecjhghpkcoaaGreat
