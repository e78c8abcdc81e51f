/- The program's Scan where it is bad already; its rows. -/
import Derived.Test.YtinlcpenllfcpaaEnPut
namespace Go.Proofs.Ytinlcpenllfcpaa
open Go.RowKit
attribute [local go_sem] B_xor B_or B_and
attribute [local go_sem] blk_set blk_size blk_get blk_getE upd_same oneCells_blk paste_blk cut_blk szOf
attribute [local go_sem high] paste_all cut_head
attribute [local go_sem] rowAt_alloc rowAt_drew rowAt_drewN isRow_alloc isRow_drew isRow_drewN freeRow_alloc freeRow_end freeRow_drew freeRow_drewN
attribute [local go_sem] setRow_alloc setRow_drew setRow_drewN setCell_drewN alloc_drewN rowAt_put isRow_setRow freeRow_put
attribute [local go_sem ↓] loadS_in storeS_in indexS_in copyS_in
attribute [local go_sem] loadS_row loadS_one storeS_row storeS_one indexS_blk copyS_rows run_equalIn_blk same_refl arrayAt_row
attribute [local go_sem] cell_row frozen_row st_setCell st_blk_ne stepAt stepUpon
attribute [local go_sem high] run_eql_blk run_neq_blk
attribute [local go_sem ↓] convBS_in
attribute [local go_sem] convBS_row convBS_nil allBytes_blk bytesOf_blk
attribute [local go_sem] size_sc agg_sc sc_size sc_get0 sc_get1 sc_get2 sc_getE0 sc_getE1 sc_getE2 sc_set1 sc_set2 sc_ne sc_one sc_cut sc_paste

set_option maxRecDepth 100000 in
set_option maxHeartbeats 1000000 in
theorem scanNum_bad (t : ByteArray) (p k e : Nat) (he : e ≠ 0) (w : World) : Calls Try.prog 58 #[.agg (sc t p e), .int .i64 (k : Int)] w fun r w' => r = .returned (.tuple #[.int .u64 0, .agg (sc t p e)]) ∧ Below w.heap.size w w' := by
  have hz := scan_zero
  have d1 : ((e : Int) != 0) = true := by rw [bne_iff_ne]; omega
  clear he
  have HC := Lib.hid (((St.nil w).pushA (sc t p e) 70 rfl).pushA (sc ⟨#[]⟩ 0 0) 70 (g := w.heap.size + 1) (by simp))
  go_enter Try.func58, Try.ntmps58
  (obtain ⟨⟨r1, f1, i1, b1, l1⟩, ⟨r2, f2, i2, b2, l2⟩, m12, m21⟩ := St.facts2 (HC.out.pick [0, 1] (by decide) rfl))
  go_upto_region 2 with fail
  go_region
  all_goals
    go_wp2_with fail
    refine bodyPost_ret (results_qp rfl _ (w.heap.size + 1) rfl (sc t p e) ?_ ?_ ?_ ?_ (.int .u64 0) rfl) rfl ⟨rfl, ?_⟩
    (· simp [go_sem, *]
     · simp [go_sem]
     · simp [go_sem]
     · simp [go_sem, *]
     · repeat
         first
           | (with_reducible exact HC.out.below)
           | (with_reducible refine Below.drew ?_)
           | (with_reducible exact Below.refl _ _)
           | (with_reducible refine Below.alloc ?_ (by first | exact Nat.le_refl _ | (simp; done) | omega | (simp; omega)) _)
           | (with_reducible refine below_setRow' ?_ (by first | omega | (simp; omega)) _))
set_option maxRecDepth 100000 in
set_option maxHeartbeats 2000000 in
theorem scanRow_none (t : ByteArray) (p : Nat) (hp : p ≤ t.size) (h : t.size < p + 2) (hs : t.size < 2 ^ 40) (w : World) : Calls Try.prog 59 #[.agg (sc t p 0)] w fun r w' => r = .returned (.tuple #[.string ⟨#[]⟩, .agg (sc t p 3)]) ∧ Below w.heap.size w w' := by
  have hz := scan_zero
  have HC := Lib.hid (((St.nil w).pushA (sc t p 0) 70 rfl).pushA (sc ⟨#[]⟩ 0 0) 70 (g := w.heap.size + 1) (by simp))
  have K := Lib.hid (fun w => scanNum_short t p 2 (by omega) (by omega) hp h hs w)
  clear hp h hs
  go_enter Try.func59, Try.ntmps59
  (obtain ⟨⟨r1, f1, i1, b1, l1⟩, ⟨r2, f2, i2, b2, l2⟩, m12, m21⟩ := St.facts2 (HC.out.pick [0, 1] (by decide) rfl))
  go_wp2_with fail
  (clear r1 f1 i1 b1 l1 r2 f2 i2 b2 l2 m12 m21)
  refine (K.out _).mono ?_; rintro e w1 ⟨rfl, hw⟩
  have HC := Lib.hid (HC.out.call hw)
  clear hw K
  go_upto_region 2 with fail
  have HC := Lib.hid (HC.out.push (sc t p 3) 70)
  generalize w1.alloc (Obj.cells (sc t p 3) 70) = w2 at HC ⊢
  generalize w1.heap.size = gn at HC ⊢
  (obtain ⟨⟨r1, f1, i1, b1, l1⟩, ⟨r2, f2, i2, b2, l2⟩, ⟨r3, f3, i3, b3, l3⟩, m12, m21, m13, m31, m23, m32⟩ := St.facts3 (HC.out.pick [0, 1, 2] (by decide) rfl))
  go_upto_region 3 with fail
  go_region
  all_goals
    go_wp2_with fail
    refine bodyPost_ret (results_qp rfl _ (w.heap.size + 1) rfl (sc t p 3) ?_ ?_ ?_ ?_ (.string ⟨#[]⟩) rfl) rfl ⟨rfl, ?_⟩
    (· simp [go_sem, *]
     · simp [go_sem]
     · simp [go_sem]
     · simp [go_sem, *]
     · repeat
         first
           | (with_reducible exact HC.out.below)
           | (with_reducible refine Below.drew ?_)
           | (with_reducible exact Below.refl _ _)
           | (with_reducible refine Below.alloc ?_ (by first | exact Nat.le_refl _ | (simp; done) | omega | (simp; omega)) _)
           | (with_reducible refine below_setRow' ?_ (by first | omega | (simp; omega)) _))
set_option maxRecDepth 100000 in
set_option maxHeartbeats 2000000 in
theorem scanRow_short (t : ByteArray) (p : Nat) (h : p + 2 ≤ t.size) (h2 : t.size < p + 2 + numAt t p 2) (hs : t.size < 2 ^ 40) (w : World) : Calls Try.prog 59 #[.agg (sc t p 0)] w fun r w' => r = .returned (.tuple #[.string ⟨#[]⟩, .agg (sc t p 3)]) ∧ Below w.heap.size w w' := by
  have hz := scan_zero
  have HC := Lib.hid (((St.nil w).pushA (sc t p 0) 70 rfl).pushA (sc ⟨#[]⟩ 0 0) 70 (g := w.heap.size + 1) (by simp))
  have K := Lib.hid (fun w => scanNum_ok t p 2 (by omega) (by omega) h hs w)
  have hN : numAt t p 2 < 256 ^ 2 := numTo_lt _ _
  obtain ⟨N, hNe⟩ : ∃ N, numAt t p 2 = N := ⟨_, rfl⟩
  rw [hNe] at K h2 hN
  obtain ⟨l, hl⟩ : ∃ l, p + 2 + l = t.size := ⟨t.size - (p + 2), by omega⟩
  have KL := Lib.hid (fun w => left_any t (p + 2) 0 l hl hs w)
  have d1 : (l : Int) < (N : Int) := by omega
  have d2 : l < N := by omega
  have n6 : (N : Int) ≤ 65535 := by omega
  have KF := Lib.hid (fun w => fails_any t p 0 3 w)
  clear h h2 hs hNe hl hN
  go_enter Try.func59, Try.ntmps59
  (obtain ⟨⟨r1, f1, i1, b1, l1⟩, ⟨r2, f2, i2, b2, l2⟩, m12, m21⟩ := St.facts2 (HC.out.pick [0, 1] (by decide) rfl))
  go_wp2_with fail
  (clear r1 f1 i1 b1 l1 r2 f2 i2 b2 l2 m12 m21)
  refine (K.out _).mono ?_; rintro e w1 ⟨rfl, hw⟩
  have HC := Lib.hid (HC.out.call hw)
  clear hw K
  go_upto_region 2 with fail
  have HC := Lib.hid (HC.out.push (sc t (p + 2) 0) 70)
  generalize w1.alloc (Obj.cells (sc t (p + 2) 0) 70) = w2 at HC ⊢
  generalize w1.heap.size = gn at HC ⊢
  (obtain ⟨⟨r1, f1, i1, b1, l1⟩, ⟨r2, f2, i2, b2, l2⟩, ⟨r3, f3, i3, b3, l3⟩, m12, m21, m13, m31, m23, m32⟩ := St.facts3 (HC.out.pick [0, 1, 2] (by decide) rfl))
  go_wp2_with fail
  (clear r1 f1 i1 b1 l1 r2 f2 i2 b2 l2 r3 f3 i3 b3 l3 m12 m21 m13 m31 m23 m32)
  refine (KL.out _).mono ?_; rintro e w3 ⟨rfl, hw⟩
  have HC := Lib.hid (HC.out.call hw)
  clear hw
  (obtain ⟨⟨r1, f1, i1, b1, l1⟩, ⟨r2, f2, i2, b2, l2⟩, ⟨r3, f3, i3, b3, l3⟩, m12, m21, m13, m31, m23, m32⟩ := St.facts3 (HC.out.pick [0, 1, 2] (by decide) rfl))
  go_wp2_with fail
  (clear r1 f1 i1 b1 l1 r2 f2 i2 b2 l2 r3 f3 i3 b3 l3 m12 m21 m13 m31 m23 m32)
  refine (KF.out _).mono ?_; rintro e w4 ⟨rfl, hw⟩
  have HC := Lib.hid (HC.out.call hw)
  clear hw
  (obtain ⟨⟨r1, f1, i1, b1, l1⟩, ⟨r2, f2, i2, b2, l2⟩, ⟨r3, f3, i3, b3, l3⟩, m12, m21, m13, m31, m23, m32⟩ := St.facts3 (HC.out.pick [0, 1, 2] (by decide) rfl))
  go_wp2_with fail
  refine bodyPost_ret (results_qp rfl _ (w.heap.size + 1) rfl (sc t p 3) ?_ ?_ ?_ ?_ (.string ⟨#[]⟩) rfl) rfl ⟨rfl, ?_⟩
  (· simp [go_sem, *]
   · simp [go_sem]
   · simp [go_sem]
   · simp [go_sem, *]
   · repeat
       first
         | (with_reducible exact HC.out.below)
         | (with_reducible refine Below.drew ?_)
         | (with_reducible exact Below.refl _ _)
         | (with_reducible refine Below.alloc ?_ (by first | exact Nat.le_refl _ | (simp; done) | omega | (simp; omega)) _)
         | (with_reducible refine below_setRow' ?_ (by first | omega | (simp; omega)) _))
set_option maxRecDepth 100000 in
set_option maxHeartbeats 2000000 in
theorem scanRow_ok (t : ByteArray) (p : Nat) (h : p + 2 ≤ t.size) (h2 : p + 2 + numAt t p 2 ≤ t.size) (hs : t.size < 2 ^ 40) (w : World) : Calls Try.prog 59 #[.agg (sc t p 0)] w fun r w' => r = .returned (.tuple #[.string (t.extract (p + 2) (p + 2 + numAt t p 2)), .agg (sc t (p + 2 + numAt t p 2) 0)]) ∧ Below w.heap.size w w' := by
  have hz := scan_zero
  have HC := Lib.hid (((St.nil w).pushA (sc t p 0) 70 rfl).pushA (sc ⟨#[]⟩ 0 0) 70 (g := w.heap.size + 1) (by simp))
  have K := Lib.hid (fun w => scanNum_ok t p 2 (by omega) (by omega) h hs w)
  have hN : numAt t p 2 < 256 ^ 2 := numTo_lt _ _
  obtain ⟨N, hNe⟩ : ∃ N, numAt t p 2 = N := ⟨_, rfl⟩
  rw [hNe] at K h2 hN ⊢
  obtain ⟨l, hl⟩ : ∃ l, p + 2 + l = t.size := ⟨t.size - (p + 2), by omega⟩
  have KL := Lib.hid (fun w => left_any t (p + 2) 0 l hl hs w)
  have d1 : ¬ (l : Int) < (N : Int) := by omega
  have d2 : ¬ l < N := by omega
  have n6 : (N : Int) ≤ 65535 := by omega
  obtain ⟨q, hq⟩ : ∃ q, p + 2 = q := ⟨_, rfl⟩
  obtain ⟨r, hr⟩ : ∃ r, q + N = r := ⟨_, rfl⟩
  rw [hq] at K KL hl h h2 ⊢
  rw [hr] at h2 ⊢
  have q1 : (q : Int) + (N : Int) = (r : Int) := by omega
  have q2 : IntKind.i64.wrap ((q : Int) + (N : Int)) = (r : Int) := by rw [IntWalk.i64_in _ (by omega)]; exact q1
  have q3 : (q : Int) ≤ (r : Int) := by omega
  have q4 : (r : Int) ≤ (t.size : Int) := by omega
  have q5 : q ≤ r := by omega
  have q40 : (q : Int) ≤ 1099511627776 := by omega
  clear h hs hNe hl hN hq hr
  go_enter Try.func59, Try.ntmps59
  (obtain ⟨⟨r1, f1, i1, b1, l1⟩, ⟨r2, f2, i2, b2, l2⟩, m12, m21⟩ := St.facts2 (HC.out.pick [0, 1] (by decide) rfl))
  go_wp2_with fail
  (clear r1 f1 i1 b1 l1 r2 f2 i2 b2 l2 m12 m21)
  refine (K.out _).mono ?_; rintro e w1 ⟨rfl, hw⟩
  have HC := Lib.hid (HC.out.call hw)
  clear hw K
  go_upto_region 2 with fail
  have HC := Lib.hid (HC.out.push (sc t q 0) 70)
  generalize w1.alloc (Obj.cells (sc t q 0) 70) = w2 at HC ⊢
  generalize w1.heap.size = gn at HC ⊢
  (obtain ⟨⟨r1, f1, i1, b1, l1⟩, ⟨r2, f2, i2, b2, l2⟩, ⟨r3, f3, i3, b3, l3⟩, m12, m21, m13, m31, m23, m32⟩ := St.facts3 (HC.out.pick [0, 1, 2] (by decide) rfl))
  go_wp2_with fail
  (clear r1 f1 i1 b1 l1 r2 f2 i2 b2 l2 r3 f3 i3 b3 l3 m12 m21 m13 m31 m23 m32)
  refine (KL.out _).mono ?_; rintro e w3 ⟨rfl, hw⟩
  have HC := Lib.hid (HC.out.call hw)
  clear hw
  (obtain ⟨⟨r1, f1, i1, b1, l1⟩, ⟨r2, f2, i2, b2, l2⟩, ⟨r3, f3, i3, b3, l3⟩, m12, m21, m13, m31, m23, m32⟩ := St.facts3 (HC.out.pick [0, 1, 2] (by decide) rfl))
  go_upto_region 8 with fail
  (clear r1 f1 i1 b1 l1 r2 f2 i2 b2 l2 r3 f3 i3 b3 l3 m12 m21 m13 m31 m23 m32)
  have HC := Lib.hid (HC.out.set_head (sc t r 0) (by rw [sc_size, sc_size]))
  generalize w3.setRow gn (sc t r 0) = w4 at HC ⊢
  (obtain ⟨⟨r1, f1, i1, b1, l1⟩, ⟨r2, f2, i2, b2, l2⟩, ⟨r3, f3, i3, b3, l3⟩, m12, m21, m13, m31, m23, m32⟩ := St.facts3 (HC.out.pick [0, 1, 2] (by decide) rfl))
  go_region
  all_goals
    go_wp2_with fail
    refine bodyPost_ret (results_qp rfl _ (w.heap.size + 1) rfl (sc t r 0) ?_ ?_ ?_ ?_ (.string (t.extract q r)) rfl) rfl ⟨rfl, ?_⟩
    (· simp [go_sem, *]
     · simp [go_sem]
     · simp [go_sem]
     · simp [go_sem, *]
     · repeat
         first
           | (with_reducible exact HC.out.below)
           | (with_reducible refine Below.drew ?_)
           | (with_reducible exact Below.refl _ _)
           | (with_reducible refine Below.alloc ?_ (by first | exact Nat.le_refl _ | (simp; done) | omega | (simp; omega)) _)
           | (with_reducible refine below_setRow' ?_ (by first | omega | (simp; omega)) _))
end Go.Proofs.Ytinlcpenllfcpaa
