/- The program's numbers that are used once: Take. -/
import Derived.Test.YtgaecjhghpkcoaaGreatNonce
namespace Go.Proofs.YtgaecjhghpkcoaaGreat
open Go.RowKit
attribute [local go_sem] B_xor B_or B_and
attribute [local go_sem] blk_set blk_size blk_get blk_getE upd_same oneCells_blk paste_blk cut_blk szOf
attribute [local go_sem high] paste_all cut_head
attribute [local go_sem] rowAt_alloc rowAt_drew rowAt_drewN isRow_alloc isRow_drew isRow_drewN freeRow_alloc freeRow_end freeRow_drew freeRow_drewN
attribute [local go_sem] setRow_alloc setRow_drew setRow_drewN setCell_drewN alloc_drewN rowAt_put isRow_setRow freeRow_put
attribute [local go_sem ↓] loadS_in storeS_in indexS_in copyS_in
attribute [local go_sem] loadS_row loadS_one storeS_row storeS_one indexS_blk copyS_rows run_equalIn_blk same_refl arrayAt_row
attribute [local go_sem] cell_row frozen_row st_setCell st_blk_ne stepAt stepUpon
attribute [local go_sem high] run_eql_blk run_neq_blk
attribute [local go_sem ↓] convBS_in
attribute [local go_sem] convBS_row convBS_nil allBytes_blk bytesOf_blk
attribute [local go_sem] size_cn agg_cn cn_size cn_get0 cn_get1 cn_getE0 cn_getE1 cn_set0 cn_set1 cn_ne cn_one cn_cut cn_paste

/-- the results of a function: a slot, one that lies in a row, a slot -/
theorem results_qpr {P : Program} {w : World} {fn : Func} {p q r : Tmp} {ty : TypeId} (h : fn.results = #[.tmp q, .cell p ty, .tmp r]) (tmps : Array Value) (g : Nat) (hp : tmps.getD p undef = .pointer (some ⟨g, 0, none⟩)) (cs : Array Value) (hc : rowAt w g = cs)
    (ha : (isAgg ty).run P w = .ok true w) (hs : (sizeOf ty).run P w = .ok cs.size w) (hr : isRow w g = true) (v u : Value) (hq : tmps.getD q undef = v) (hu : tmps.getD r undef = u) :
    (results fn tmps).run P w = .ok (.tuple #[v, .agg cs, u]) w := by
  have hp' : tmps[p]?.getD undef = .pointer (some ⟨g, 0, none⟩) := by simpa using hp
  have hq' : tmps[q]?.getD undef = v := by simpa using hq
  have hu' : tmps[r]?.getD undef = u := by simpa using hu
  have hl := run_loadCells_row (P := P) g 0 cs.size hr (by rw [hc]; omega)
  rw [hc] at hl
  simp only [Nat.zero_add, Array.extract_size] at hl
  simp [results, h, hp', hq', hu', asAddr, loadVar, Sem.run_bind, ha, hs, hl]
set_option maxRecDepth 100000 in
set_option maxHeartbeats 1000000 in
theorem nonceTake_yes (e n : Nat) (h : mayC e n) (hn : n ≠ 281474976710656) (w : World) : Calls Tryz.prog 79 #[.agg (cn e n)] w fun r w' => r = .returned (.tuple #[.string (strOf 12 (nonceB e n)), .agg (cn e (n + 1)), .int .i64 0]) ∧ Below w.heap.size w w' := by
  have hz := cn_zero
  have n1 : (n : Int) ≤ 281474976710656 := by have := h.2.2; omega
  have v1 : IntKind.u64.wrap ((n : Int) + 1) = (n : Int) + 1 := by
    simp [IntKind.wrap, IntKind.signed, IntKind.bits]; omega
  have hset : (cn e n).setIfInBounds 1 (.int .u64 ((n : Int) + 1)) = cn e (n + 1) := cn_set1 e n (n + 1)
  have HC := Lib.hid (((St.nil w).pushA (cn e n) 52 rfl).pushA (cn 0 0) 52 (g := w.heap.size + 1) (by simp))
  go_enter Tryz.func79, Tryz.ntmps79
  go_wp2_with fail
  refine (nonceText_yes e n h hn _).mono ?_; rintro e w1 ⟨rfl, hw⟩
  have HC := Lib.hid (HC.out.call hw)
  clear hw
  have hC := HC.out
  (have HC := Lib.hid hC
   have sos := hC.below.os
   obtain ⟨⟨r1, f1, i1, b1, l1⟩, ⟨r2, f2, i2, b2, l2⟩, m12, m21⟩ := St.facts2 hC
   clear hC)
  go_wp2_with fail
  (clear r1 f1 i1 b1 l1 r2 f2 i2 b2 l2 m12 m21 sos)
  have HC := Lib.hid (HC.out.swap.set_head (cn e (n + 1)) (by rw [cn_size, cn_size]))
  generalize w1.setRow w.heap.size (cn e (n + 1)) = w2 at HC ⊢
  have hC := HC.out
  (have HC := Lib.hid hC
   have sos := hC.below.os
   obtain ⟨⟨r1, f1, i1, b1, l1⟩, ⟨r2, f2, i2, b2, l2⟩, m12, m21⟩ := St.facts2 hC
   clear hC)
  go_region
  all_goals
    go_wp2_with fail
    refine bodyPost_ret (results_qpr rfl _ (w.heap.size + 1) rfl (cn e (n + 1)) ?_ ?_ ?_ ?_ (.string (strOf 12 (nonceB e n))) (.int .i64 0) rfl rfl) rfl ⟨rfl, ?_⟩
    · simp [go_sem, *]
    · simp [go_sem]
    · simp [go_sem]
    · simp [go_sem, *]
    · exact (below_setRow' HC.out.below (by omega) _).drew
set_option maxRecDepth 100000 in
set_option maxHeartbeats 1000000 in
theorem nonceTake_no (e n d : Nat) (h : (¬ mayC e n ∧ d = 2) ∨ (mayC e n ∧ n = 281474976710656 ∧ d = 19)) (w : World) : Calls Tryz.prog 79 #[.agg (cn e n)] w fun r w' => r = .returned (.tuple #[.string ⟨#[]⟩, .agg (cn e n), .int .i64 (d : Int)]) ∧ Below w.heap.size w w' := by
  have hz := cn_zero
  have hT : ∀ w, Calls Tryz.prog 107 #[.agg (cn e n)] w fun r w' => r = .returned (.tuple #[.string ⟨#[]⟩, .int .i64 (d : Int)]) ∧ Below w.heap.size w w' := fun w => by
    rcases h with ⟨h1, rfl⟩ | ⟨h1, h2, rfl⟩
    · exact nonceText_bad e n h1 w
    · exact nonceText_end e n h1 h2 w
  have hd : ((d : Int) != 0) = true := by rw [bne_iff_ne]; omega
  have HT := Lib.hid hT
  clear hT h
  have HC := Lib.hid (((St.nil w).pushA (cn e n) 52 rfl).pushA (cn 0 0) 52 (g := w.heap.size + 1) (by simp))
  go_enter Tryz.func79, Tryz.ntmps79
  go_wp2_with fail
  refine (HT.out _).mono ?_; rintro e w1 ⟨rfl, hw⟩
  have HC := Lib.hid (HC.out.call hw)
  clear hw
  have hC := HC.out
  (have HC := Lib.hid hC
   have sos := hC.below.os
   obtain ⟨⟨r1, f1, i1, b1, l1⟩, ⟨r2, f2, i2, b2, l2⟩, m12, m21⟩ := St.facts2 hC
   clear hC)
  go_wp2_with fail
  go_region
  all_goals
    go_wp2_with fail
    refine bodyPost_ret (results_qpr rfl _ (w.heap.size + 1) rfl (cn e n) ?_ ?_ ?_ ?_ (.string ⟨#[]⟩) (.int .i64 (d : Int)) rfl rfl) rfl ⟨rfl, ?_⟩
    · simp [go_sem, *]
    · simp [go_sem]
    · simp [go_sem]
    · simp [go_sem, *]
    · exact (below_setRow' HC.out.below (by omega) _).drew
end Go.Proofs.YtgaecjhghpkcoaaGreat
