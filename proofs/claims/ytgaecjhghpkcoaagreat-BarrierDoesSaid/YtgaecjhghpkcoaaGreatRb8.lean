/- The reference's barrier: Get, of the real kind. -/
import Derived.Test.YtgaecjhghpkcoaaGreatRb7
import Derived.Test.YtgaecjhghpkcoaaGreatMKeyRef
namespace Go.Proofs.YtgaecjhghpkcoaaGreat
open Go.RowKit
attribute [local go_sem] B_xor B_or B_and
attribute [local go_sem] blk_set blk_size blk_get blk_getE upd_same oneCells_blk paste_blk cut_blk szOf
attribute [local go_sem high] paste_all cut_head
attribute [local go_sem] rowAt_alloc rowAt_drew rowAt_drewN isRow_alloc isRow_drew isRow_drewN freeRow_alloc freeRow_end freeRow_drew freeRow_drewN
attribute [local go_sem] setRow_alloc setRow_drew setRow_drewN setCell_drewN alloc_drewN rowAt_put isRow_setRow freeRow_put
attribute [local go_sem ↓] loadS_in storeS_in indexS_in copyS_in
attribute [local go_sem] loadS_row loadS_one storeS_row storeS_one indexS_blk copyS_rows run_equalIn_blk same_refl arrayAt_row
attribute [local go_sem] cell_row frozen_row st_setCell st_blk_ne stepAt stepUpon
attribute [local go_sem high] run_eql_blk run_neq_blk
attribute [local go_sem ↓] convBS_in
attribute [local go_sem] convBS_row convBS_nil allBytes_blk bytesOf_blk
attribute [local go_sem] size_c19 agg_c19 cn_size cn_get0 cn_get1 cn_getE0 cn_getE1 cn_set0 cn_set1 cn_ne cn_one cn_cut cn_paste
attribute [local go_sem] rb_size rb_get0 rb_get1 rb_get2 rb_get3 rb_get4 rb_getE0 rb_getE1 rb_getE2 rb_getE3 rb_getE4 rb_ne rb_one rb_cut rb_count rb_paste rb_set0 rb_set1 rb_set3 rb_set4 rb_build size_rb agg_rb
attribute [local go_sem] size_rsc agg_rsc sc_size sc_get0 sc_get1 sc_get2 sc_getE0 sc_getE1 sc_getE2 sc_set1 sc_set2 sc_ne sc_one sc_cut sc_paste
set_option maxRecDepth 100000 in
set_option maxHeartbeats 2000000 in
theorem refGet_realC (g0 kn kc e c : Nat) (na : Option Addr) (nn nc : Nat) (f : Nat → UInt8) (p s : ByteArray) (h6 : kn ≤ 6) (h : 32 ≤ s.size) (hs : s.size < 2 ^ 40) (hp : p.size < 2 ^ 40) (ht : ¬ (numAt s 0 4 < 1 ∨ kn < numAt s 0 4)) (w : World) (F0 : Nat → UInt8) (q1 : kn ≤ kc) (q2 : g0 < w.heap.size) (q3 : rowAt w g0 = blk (kc * 16) F0) (q4 : isRow w g0 = true) (q5 : ∀ j, j < kn * 16 → F0 j = f j) : Calls Tryz.prog 13 #[.agg (rbC ⟨false, some ⟨g0, 0, none⟩, kn, kc, e, c, na, nn, nc⟩), .string p, .string s] w fun x w' => x = .returned (.tuple #[.string (openR (keyB f (numAt s 0 4 - 1)) (s.extract 4 16) p (s.extract 16 s.size)).1, .int .i64 (((openR (keyB f (numAt s 0 4 - 1)) (s.extract 4 16) p (s.extract 16 s.size)).2 : Nat) : Int)]) ∧ Below w.heap.size w w' := by
  have hz := sc_nought
  have hz2 := sc_build s
  have HC := Lib.hid ((St.nil w).pushA (rbC ⟨false, some ⟨g0, 0, none⟩, kn, kc, e, c, na, nn, nc⟩) 38 rfl)
  have T1 := Lib.hid (refTake4 s (by omega) hs)
  obtain ⟨u, hu⟩ : ∃ u, numAt s 0 4 - 1 = u := ⟨_, rfl⟩
  have T2 := Lib.hid (openRef_at (keyB f u) (s.extract 4 16) p (s.extract 16 s.size) hp (by rw [ByteArray.size_extract]; omega) (by rw [ByteArray.size_extract]; omega) (by rw [ByteArray.size_extract]; omega))
  rw [hu]
  obtain ⟨T, hT⟩ : ∃ T, numAt s 0 4 = T := ⟨_, rfl⟩
  rw [hT] at T1 ht hu
  obtain ⟨R, hR⟩ : ∃ R, openR (keyB f u) (s.extract 4 16) p (s.extract 16 s.size) = R := ⟨_, rfl⟩
  rw [hR] at T2 ⊢
  have d1 : ((kn : Int) == 0) = false := by rw [beq_eq_false_iff_ne]; omega
  have d2 : decide ((s.size : Int) < 32) = false := decide_eq_false (by omega)
  have d3 : decide (T < 1) = false := decide_eq_false (by omega)
  have d4 : decide ((T : Int) < 1) = false := decide_eq_false (by omega)
  have d5 : decide (kn < T) = false := decide_eq_false (by omega)
  have k6 : (kn : Int) ≤ 6 := by omega
  have t6 : (T : Int) ≤ 6 := by omega
  have s1 : (4 : Int) ≤ (s.size : Int) := by omega
  have s2 : (16 : Int) ≤ (s.size : Int) := by omega
  have v1 : IntKind.i64.wrap ((T : Int) - 1) = (u : Int) := by rw [IntWalk.i64_in _ (by omega)]; omega
  have v2 : (T : Int) - 1 = (u : Int) := by omega
  have v3 : u < kn := by omega
  have v4 : IntKind.i64.wrap (u : Int) = (u : Int) := IntWalk.i64_in _ (by omega)
  have v5 : (u : Int) < (kn : Int) := by omega
  have b1' : u * 16 + 16 ≤ kc * 16 := by omega
  have hcut := cut_at16 kc u F0 b1'
  have hkey : blk 16 (fun j => F0 (u * 16 + j)) = blk 16 (keyB f u) := blk_congr fun i hi => by
    unfold keyB
    exact q5 _ (by omega)
  rw [hkey] at hcut
  have HQ := Lib.hid (And.intro q2 (And.intro q3 q4))
  clear hkey q1 q2 q3 q4 q5 hu hT hR ht h hs hp h6
  go_enter Tryz.func13, Tryz.ntmps13
  (obtain ⟨r1, f1, i1, b1, l1⟩ := St.facts1 (HC.out.pick [0] (by decide) rfl))
  go_wp2_with fail
  (clear r1 f1 i1 b1 l1)
  refine (T1.out _).mono ?_; rintro e w1 ⟨rfl, hw⟩
  have HC := Lib.hid (HC.out.call hw)
  clear hw
  (obtain ⟨r1, f1, i1, b1, l1⟩ := St.facts1 (HC.out.pick [0] (by decide) rfl))
  go_upto_region 8 with fail
  (clear r1 f1 i1 b1 l1)
  have HC := Lib.hid (HC.out.skip (.cells (sc s 4 0) 101))
  generalize w1.alloc (Obj.cells (sc s 4 0) 101) = w2 at HC ⊢
  (obtain ⟨r1, f1, i1, b1, l1⟩ := St.facts1 (HC.out.pick [0] (by decide) rfl))
  have r0 : rowAt w2 g0 = blk (kc * 16) F0 := (below_rowAt HC.out.below HQ.out.1).trans HQ.out.2.1
  have i0 : isRow w2 g0 = true := (below_isRow HC.out.below HQ.out.1).trans HQ.out.2.2
  go_region
  all_goals
    go_wp2_with (go_at_call 48; refine (T2.out _).mono ?_; rintro e w3 ⟨rfl, hw⟩; have hB := HC.out.drew.below.trans (hw.mono HC.out.drew.below.size); clear hw)
    go_ret2
    exact ⟨rfl, by assumption⟩
theorem refGet_real (r : Rb) (f : Nat → UInt8) (p s : ByteArray) (hid : r.id = false) (h6 : r.kn ≤ 6) (h : 32 ≤ s.size) (hs : s.size < 2 ^ 40) (hp : p.size < 2 ^ 40) (ht : ¬ (numAt s 0 4 < 1 ∨ r.kn < numAt s 0 4)) (w : World) (hv : Keys16 w (.slice r.ka r.kn r.kc) r.kn f) : Calls Tryz.prog 13 #[.agg (rbC r), .string p, .string s] w fun x w' => x = .returned (.tuple #[.string (openR (keyB f (numAt s 0 4 - 1)) (s.extract 4 16) p (s.extract 16 s.size)).1, .int .i64 (((openR (keyB f (numAt s 0 4 - 1)) (s.extract 4 16) p (s.extract 16 s.size)).2 : Nat) : Int)]) ∧ Below w.heap.size w w' := by
  obtain ⟨g0, F0, ha, q1, q2, q3, q4, q5⟩ := hv.open (by omega)
  obtain ⟨id, ka, kn, kc, e, c, na, nn, nc⟩ := r
  dsimp only at hid h6 ha q1 q3 q5 ht
  subst hid ha
  exact refGet_realC g0 kn kc e c na nn nc f p s h6 h hs hp ht w F0 q1 q2 q3 q4 q5
end Go.Proofs.YtgaecjhghpkcoaaGreat
