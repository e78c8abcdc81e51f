/- The reference's barrier: Put, of the real kind. -/
import Derived.Test.YtgaecjhghpkcoaaGreatRb3
import Derived.Test.YtgaecjhghpkcoaaGreatMKeyRef
namespace Go.Proofs.YtgaecjhghpkcoaaGreat
open Go.RowKit
attribute [local go_sem] B_xor B_or B_and
attribute [local go_sem] blk_set blk_size blk_get blk_getE upd_same oneCells_blk paste_blk cut_blk szOf
attribute [local go_sem high] paste_all cut_head
attribute [local go_sem] rowAt_alloc rowAt_drew rowAt_drewN isRow_alloc isRow_drew isRow_drewN freeRow_alloc freeRow_end freeRow_drew freeRow_drewN
attribute [local go_sem] setRow_alloc setRow_drew setRow_drewN setCell_drewN alloc_drewN rowAt_put isRow_setRow freeRow_put
attribute [local go_sem ↓] loadS_in storeS_in indexS_in copyS_in
attribute [local go_sem] loadS_row loadS_one storeS_row storeS_one indexS_blk copyS_rows run_equalIn_blk same_refl arrayAt_row
attribute [local go_sem] cell_row frozen_row st_setCell st_blk_ne stepAt stepUpon
attribute [local go_sem high] run_eql_blk run_neq_blk
attribute [local go_sem ↓] convBS_in
attribute [local go_sem] convBS_row convBS_nil allBytes_blk bytesOf_blk
attribute [local go_sem] size_c19 agg_c19 cn_size cn_get0 cn_get1 cn_getE0 cn_getE1 cn_set0 cn_set1 cn_ne cn_one cn_cut cn_paste
attribute [local go_sem] rb_size rb_get0 rb_get1 rb_get2 rb_get3 rb_get4 rb_getE0 rb_getE1 rb_getE2 rb_getE3 rb_getE4 rb_ne rb_one rb_cut rb_count rb_paste rb_set0 rb_set1 rb_set3 rb_set4 rb_build size_rb agg_rb

theorem refSealText_at (n : Nat) (f : Nat → UInt8) (e c : Nat) (p t : ByteArray) (hp : p.size < 2 ^ 39) (ht : t.size < 2 ^ 39) (w : World) : Calls Tryz.prog 57 #[.agg (blk 16 (keyB f (n - 1))), .string (nonceS e c), .string p, .string t] w fun e' w' => e' = .returned (.tuple #[.string (sealedT n f e c p t), .int .i64 0]) ∧ Below w.heap.size w w' :=
  refSeal09_any (keyB f (n - 1)) (nonceS e c) p t (by omega) (by omega) (nonceS_size _ _) w
set_option maxRecDepth 100000 in
set_option maxHeartbeats 2000000 in
theorem refPut_no (r : Rb) (p t : ByteArray) (hE : takeN r.kn r.e r.c ≠ 0) (w : World) : Calls Tryz.prog 24 #[.agg (rbC r), .string p, .string t] w fun x w' => x = .returned (.tuple #[.string ⟨#[]⟩, .agg (rbC r), .int .i64 ((takeN r.kn r.e r.c : Nat) : Int)]) ∧ Below w.heap.size w w' := by
  have hz := rb_zero
  have HC := Lib.hid (((St.nil w).pushA (rbC r) 38 rfl).pushA (rbC rbZero) 38 (g := w.heap.size + 1) (by simp))
  have T1 := Lib.hid (refTake21 r)
  have e1 : takeNS r.kn r.e r.c = ⟨#[]⟩ := by unfold takeNS; rw [if_neg hE]
  have e2 : r.took = r := by unfold Rb.took; rw [if_neg hE]
  rw [e1, e2] at T1
  have hd : (((takeN r.kn r.e r.c : Nat) : Int) != 0) = true := by rw [bne_iff_ne]; omega
  obtain ⟨E, hEE⟩ : ∃ E, takeN r.kn r.e r.c = E := ⟨_, rfl⟩
  rw [hEE] at T1 hd ⊢
  clear hE e1 e2 hEE
  go_enter Tryz.func24, Tryz.ntmps24
  (obtain ⟨⟨r1, f1, i1, b1, l1⟩, ⟨r2, f2, i2, b2, l2⟩, m12, m21⟩ := St.facts2 (HC.out.pick [0, 1] (by decide) rfl))
  go_wp2_with fail
  (clear r1 f1 i1 b1 l1 r2 f2 i2 b2 l2 m12 m21)
  refine (T1.out _).mono ?_; rintro e w1 ⟨rfl, hw⟩
  have HC := Lib.hid (HC.out.call hw)
  clear hw
  (obtain ⟨⟨r1, f1, i1, b1, l1⟩, ⟨r2, f2, i2, b2, l2⟩, m12, m21⟩ := St.facts2 (HC.out.pick [0, 1] (by decide) rfl))
  have hs1 := HC.out.below.size
  go_upto_region 3 with fail
  go_region
  all_goals
    go_wp2_with fail
    refine bodyPost_ret (results_qpr rfl _ (w.heap.size + 1) rfl (rbC r) ?_ ?_ ?_ ?_ (.string ⟨#[]⟩) (.int .i64 (E : Int)) rfl rfl) rfl ⟨rfl, ?_⟩
    (· simp [go_sem, *]
     · simp [go_sem]
     · simp [go_sem]
     · simp [go_sem, *]
     · repeat
         first
           | (with_reducible exact HC.out.below)
           | (with_reducible refine Below.drew ?_)
           | (with_reducible exact Below.refl _ _)
           | (with_reducible refine Below.alloc ?_ (by first | exact Nat.le_refl _ | (simp; done) | omega | (simp; omega)) _)
           | (with_reducible refine below_setRow' ?_ (by omega) _))
set_option maxRecDepth 100000 in
set_option maxHeartbeats 4000000 in
theorem refPut_realC (g0 kn kc e c : Nat) (na : Option Addr) (nn nc : Nat) (f : Nat → UInt8) (p t : ByteArray) (h6 : kn ≤ 6) (hE : takeN kn e c = 0) (hp : p.size < 2 ^ 39) (ht : t.size < 2 ^ 39) (w : World) (F0 : Nat → UInt8) (q1 : kn ≤ kc) (q2 : g0 < w.heap.size) (q3 : rowAt w g0 = blk (kc * 16) F0) (q4 : isRow w g0 = true) (q5 : ∀ j, j < kn * 16 → F0 j = f j) : Calls Tryz.prog 24 #[.agg (rbC ⟨false, some ⟨g0, 0, none⟩, kn, kc, e, c, na, nn, nc⟩), .string p, .string t] w fun x w' => x = .returned (.tuple #[.string (headS kn (nonceS e c) ++ sealedT kn f e c p t), .agg (rbC ⟨false, some ⟨g0, 0, none⟩, kn, kc, e, c + 1, na, nn, nc⟩), .int .i64 0]) ∧ Below w.heap.size w w' := by
  have hz := rb_zero
  have hn1 : 1 ≤ kn := by
    unfold takeN at hE
    split at hE
    · cases hE
    · omega
  have HC := Lib.hid (((St.nil w).pushA (rbC ⟨false, some ⟨g0, 0, none⟩, kn, kc, e, c, na, nn, nc⟩) 38 rfl).pushA (rbC rbZero) 38 (g := w.heap.size + 1) (by simp))
  have T1 := Lib.hid (refTake21 ⟨false, some ⟨g0, 0, none⟩, kn, kc, e, c, na, nn, nc⟩)
  have e1 : takeNS kn e c = nonceS e c := by unfold takeNS; rw [if_pos hE]
  have e2 : Rb.took ⟨false, some ⟨g0, 0, none⟩, kn, kc, e, c, na, nn, nc⟩ = ⟨false, some ⟨g0, 0, none⟩, kn, kc, e, c + 1, na, nn, nc⟩ := by unfold Rb.took; rw [if_pos hE]
  dsimp only at T1
  rw [e1, e2, hE] at T1
  obtain ⟨u, hu⟩ : ∃ u, kn - 1 = u := ⟨_, rfl⟩
  have v1 : IntKind.i64.wrap ((kn : Int) - 1) = (u : Int) := by rw [IntWalk.i64_in _ (by omega)]; omega
  have v2 : (kn : Int) - 1 = (u : Int) := by omega
  have v3 : u < kn := by omega
  have v4 : IntKind.i64.wrap (u : Int) = (u : Int) := IntWalk.i64_in _ (by omega)
  have v5 : (u : Int) < (kn : Int) := by omega
  have b1' : u * 16 + 16 ≤ kc * 16 := by omega
  have hcut := cut_at16 kc u F0 b1'
  have hkey : blk 16 (fun j => F0 (u * 16 + j)) = blk 16 (keyB f u) := blk_congr fun i hi => by
    unfold keyB
    exact q5 _ (by omega)
  rw [hkey] at hcut
  have T2 := Lib.hid (refSealText_at kn f e c p t hp ht)
  rw [hu] at T2
  have T3 := Lib.hid (fun w => refHead_any kn h6 (nonceS e c) (by rw [nonceS_size]; omega) w)
  obtain ⟨SR, hSR⟩ : ∃ SR, sealedT kn f e c p t = SR := ⟨_, rfl⟩
  have hsr : SR.size = t.size + 16 := by rw [← hSR]; unfold sealedT; rw [sealS_size]
  obtain ⟨HS, hHS⟩ : ∃ HS, headS kn (nonceS e c) = HS := ⟨_, rfl⟩
  have hhs : HS.size = 16 := by rw [← hHS]; unfold headS; rw [ByteArray.size_append, strOf_size, nonceS_size]
  have hsz : HS.size + SR.size ≤ 9223372036854775807 := by omega
  rw [hSR] at T2 ⊢
  rw [hHS] at T3 ⊢
  have HQ := Lib.hid (And.intro q2 (And.intro q3 q4))
  clear hSR hHS hsr hhs hE e1 e2 hp ht h6 hkey q1 q2 q3 q4 q5 hu
  go_enter Tryz.func24, Tryz.ntmps24
  (obtain ⟨⟨r1, f1, i1, b1, l1⟩, ⟨r2, f2, i2, b2, l2⟩, m12, m21⟩ := St.facts2 (HC.out.pick [0, 1] (by decide) rfl))
  go_wp2_with fail
  (clear r1 f1 i1 b1 l1 r2 f2 i2 b2 l2 m12 m21)
  refine (T1.out _).mono ?_; rintro e w1 ⟨rfl, hw⟩
  have HC := Lib.hid (HC.out.call hw)
  clear hw
  (obtain ⟨⟨r1, f1, i1, b1, l1⟩, ⟨r2, f2, i2, b2, l2⟩, m12, m21⟩ := St.facts2 (HC.out.pick [0, 1] (by decide) rfl))
  go_upto_region 8 with fail
  (clear r1 f1 i1 b1 l1 r2 f2 i2 b2 l2 m12 m21)
  have HC := Lib.hid (HC.out.push (rbC ⟨false, some ⟨g0, 0, none⟩, kn, kc, e, c + 1, na, nn, nc⟩) 38)
  generalize w1.alloc (Obj.cells (rbC ⟨false, some ⟨g0, 0, none⟩, kn, kc, e, c + 1, na, nn, nc⟩) 38) = w2 at HC ⊢
  generalize w1.heap.size = q at HC ⊢
  (obtain ⟨⟨r1, f1, i1, b1, l1⟩, ⟨r2, f2, i2, b2, l2⟩, ⟨r3, f3, i3, b3, l3⟩, m12, m21, m13, m31, m23, m32⟩ := St.facts3 (HC.out.pick [0, 1, 2] (by decide) rfl))
  have r0 : rowAt w2 g0 = blk (kc * 16) F0 := (below_rowAt HC.out.below HQ.out.1).trans HQ.out.2.1
  have i0 : isRow w2 g0 = true := (below_isRow HC.out.below HQ.out.1).trans HQ.out.2.2
  go_wp2_with (go_at_call 57; refine (T2.out _).mono ?_; rintro e w3 ⟨rfl, hw⟩; have hD : St w [(q, rbC ⟨false, some ⟨g0, 0, none⟩, kn, kc, e, c + 1, na, nn, nc⟩), (w.heap.size + 1, rbC rbZero), (w.heap.size, rbC ⟨false, some ⟨g0, 0, none⟩, kn, kc, e, c, na, nn, nc⟩)] w3 := St.call (by repeat (first | exact HC.out | apply St.drew | apply St.drewN)) hw; have HC := Lib.hid hD; clear hw hD)
  (obtain ⟨⟨r1, f1, i1, b1, l1⟩, ⟨r2, f2, i2, b2, l2⟩, ⟨r3, f3, i3, b3, l3⟩, m12, m21, m13, m31, m23, m32⟩ := St.facts3 (HC.out.pick [0, 1, 2] (by decide) rfl))
  go_region_with (go_at_call 59; refine (T3.out _).mono ?_; rintro e w4 ⟨rfl, hw⟩; have hD : St w [(q, rbC ⟨false, some ⟨g0, 0, none⟩, kn, kc, e, c + 1, na, nn, nc⟩), (w.heap.size + 1, rbC rbZero), (w.heap.size, rbC ⟨false, some ⟨g0, 0, none⟩, kn, kc, e, c, na, nn, nc⟩)] w4 := St.call (by repeat (first | exact HC.out | apply St.drew | apply St.drewN)) hw; have HC := Lib.hid hD; clear hw; obtain ⟨⟨r1, f1, i1, b1, l1⟩, ⟨r2, f2, i2, b2, l2⟩, ⟨r3, f3, i3, b3, l3⟩, m12, m21, m13, m31, m23, m32⟩ := St.facts3 hD; clear hD)
  all_goals
    go_wp2_with fail
    refine bodyPost_ret (results_qpr rfl _ (w.heap.size + 1) rfl (rbC ⟨false, some ⟨g0, 0, none⟩, kn, kc, e, c + 1, na, nn, nc⟩) ?_ ?_ ?_ ?_ (.string (HS ++ SR)) (.int .i64 0) rfl rfl) rfl ⟨rfl, ?_⟩
    (· simp [go_sem, *]
     · simp [go_sem]
     · simp [go_sem]
     · simp [go_sem, *]
     · repeat
         first
           | (with_reducible exact HC.out.below)
           | (with_reducible refine Below.drew ?_)
           | (with_reducible exact Below.refl _ _)
           | (with_reducible refine Below.alloc ?_ (by first | exact Nat.le_refl _ | (simp; done) | omega | (simp; omega)) _)
           | (with_reducible refine below_setRow' ?_ (by omega) _))
theorem refPut_real (r : Rb) (f : Nat → UInt8) (p t : ByteArray) (hid : r.id = false) (h6 : r.kn ≤ 6) (hE : takeN r.kn r.e r.c = 0) (hp : p.size < 2 ^ 39) (ht : t.size < 2 ^ 39) (w : World) (hv : Keys16 w (.slice r.ka r.kn r.kc) r.kn f) : Calls Tryz.prog 24 #[.agg (rbC r), .string p, .string t] w fun x w' => x = .returned (.tuple #[.string (headS r.kn (nonceS r.e r.c) ++ sealedT r.kn f r.e r.c p t), .agg (rbC { r with c := r.c + 1 }), .int .i64 0]) ∧ Below w.heap.size w w' := by
  have hn1 : 1 ≤ r.kn := by
    unfold takeN at hE
    split at hE
    · cases hE
    · omega
  obtain ⟨g0, F0, ha, q1, q2, q3, q4, q5⟩ := hv.open hn1
  obtain ⟨id, ka, kn, kc, e, c, na, nn, nc⟩ := r
  dsimp only at hid h6 hE ha q1 q3 q5
  subst hid ha
  exact refPut_realC g0 kn kc e c na nn nc f p t h6 hE hp ht w F0 q1 q2 q3 q4 q5
end Go.Proofs.YtgaecjhghpkcoaaGreat
