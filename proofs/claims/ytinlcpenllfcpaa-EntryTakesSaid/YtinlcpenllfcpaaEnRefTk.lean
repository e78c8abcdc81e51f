/- The reference's Scan: Stands, bad, TakeNum, TakeRow, End. -/
import Derived.Test.YtinlcpenllfcpaaEnTk
import Derived.Test.YtinlcpenllfcpaaMGhaRef
namespace Go.Proofs.Ytinlcpenllfcpaa
open Go.RowKit
attribute [local go_sem] B_xor B_or B_and
attribute [local go_sem] blk_set blk_size blk_get blk_getE upd_same oneCells_blk paste_blk cut_blk szOf
attribute [local go_sem high] paste_all cut_head
attribute [local go_sem] rowAt_alloc rowAt_drew rowAt_drewN isRow_alloc isRow_drew isRow_drewN freeRow_alloc freeRow_end freeRow_drew freeRow_drewN
attribute [local go_sem] setRow_alloc setRow_drew setRow_drewN setCell_drewN alloc_drewN rowAt_put isRow_setRow freeRow_put
attribute [local go_sem ↓] loadS_in storeS_in indexS_in copyS_in
attribute [local go_sem] loadS_row loadS_one storeS_row storeS_one indexS_blk copyS_rows run_equalIn_blk same_refl arrayAt_row
attribute [local go_sem] cell_row frozen_row st_setCell st_blk_ne stepAt stepUpon
attribute [local go_sem high] run_eql_blk run_neq_blk
attribute [local go_sem ↓] convBS_in
attribute [local go_sem] convBS_row convBS_nil allBytes_blk bytesOf_blk
theorem size_rtk (w : World) : (sizeOf 76).run Try.prog w = .ok 3 w := by simp [go_sem]
theorem agg_rtk (w : World) : (isAgg 76).run Try.prog w = .ok true w := by simp [go_sem]
attribute [local go_sem] size_rtk agg_rtk sc_size sc_get0 sc_get1 sc_get2 sc_getE0 sc_getE1 sc_getE2 sc_set1 sc_set2 sc_ne sc_one sc_cut sc_paste
theorem rtk_nought : #[Value.string ⟨#[]⟩, .int .i64 0, .int .i64 0] = sc ⟨#[]⟩ 0 0 := rfl
theorem rtk_made (s : ByteArray) (p e : Nat) : #[Value.string s, .int .i64 (p : Int), .int .i64 (e : Int)] = sc s p e := rfl
theorem rtk_set (s t : ByteArray) (p q e d : Nat) : ((((sc t q d).setIfInBounds 0 (.string s)).setIfInBounds 1 (.int .i64 (p : Int))).setIfInBounds 2 (.int .i64 (e : Int))) = sc s p e := by simp [sc]
theorem rtk_set0 (s t : ByteArray) (p q d : Nat) : ((((sc t q d).setIfInBounds 0 (.string s)).setIfInBounds 1 (.int .i64 (p : Int))).setIfInBounds 2 (.int .i64 0)) = sc s p 0 := by simp [sc]
theorem rStands_any (s : ByteArray) (p e : Nat) (hp : p ≤ s.size) (w : World) : Calls Try.prog 52 #[.agg (sc s p e)] w fun r w' => r = .returned (.bool true) ∧ Below w.heap.size w w' := by
  have HC := Lib.hid ((St.nil w).pushA (sc s p e) 76 rfl)
  have d1 : decide ((0 : Int) ≤ (p : Int)) = true := decide_eq_true (by omega)
  have d2 : decide ((p : Int) ≤ (s.size : Int)) = true := decide_eq_true (by omega)
  have d3 : (0 : Int) ≤ (p : Int) := by omega
  have d4 : (p : Int) ≤ (s.size : Int) := by omega
  go_enter Try.func52, Try.ntmps52
  (obtain ⟨r1, f1, i1, b1, l1⟩ := St.facts1 (HC.out.pick [0] (by decide) rfl))
  go_wp2_with fail
  go_ret
  exact ⟨rfl, HC.out.below⟩
theorem rbad_any (s : ByteArray) (p e d : Nat) (w : World) : Calls Try.prog 61 #[.agg (sc s p e), .int .i64 (d : Int)] w fun r w' => r = .returned (.agg (sc s p d)) ∧ Below w.heap.size w w' := by
  have hz := rtk_nought
  have hbld := rtk_set s ⟨#[]⟩ p 0 d 0
  have HC := Lib.hid (((St.nil w).pushA (sc s p e) 76 rfl).pushA (sc ⟨#[]⟩ 0 0) 76 (g := w.heap.size + 1) (by simp))
  go_enter Try.func61, Try.ntmps61
  (obtain ⟨⟨r1, f1, i1, b1, l1⟩, ⟨r2, f2, i2, b2, l2⟩, m12, m21⟩ := St.facts2 (HC.out.pick [0, 1] (by decide) rfl))
  go_wp2_with fail
  refine bodyPost_ret (results_row rfl _ (w.heap.size + 1) rfl (sc s p d) (by simp [go_sem, *]) (by simp [go_sem]) (by simp [go_sem]) (by simp [go_sem, *])) rfl ⟨rfl, ?_⟩
  repeat
    first
      | (with_reducible exact HC.out.below)
      | (with_reducible refine Below.drew ?_)
      | (with_reducible exact Below.refl _ _)
      | (with_reducible refine Below.alloc ?_ (by first | exact Nat.le_refl _ | (simp; done) | omega | (simp; omega)) _)
      | (with_reducible refine below_setRow' ?_ (by first | omega | (simp; omega)) _)
set_option maxRecDepth 100000 in
set_option maxHeartbeats 1000000 in
theorem rNum_bad (t : ByteArray) (p k e : Nat) (he : e ≠ 0) (w : World) : Calls Try.prog 50 #[.agg (sc t p e), .int .i64 (k : Int)] w fun r w' => r = .returned (.tuple #[.int .u64 0, .agg (sc t p e)]) ∧ Below w.heap.size w w' := by
  have hz := rtk_nought
  have d1 : ((e : Int) != 0) = true := by rw [bne_iff_ne]; omega
  clear he
  have HC := Lib.hid (((St.nil w).pushA (sc t p e) 76 rfl).pushA (sc ⟨#[]⟩ 0 0) 76 (g := w.heap.size + 1) (by simp))
  go_enter Try.func50, Try.ntmps50
  (obtain ⟨⟨r1, f1, i1, b1, l1⟩, ⟨r2, f2, i2, b2, l2⟩, m12, m21⟩ := St.facts2 (HC.out.pick [0, 1] (by decide) rfl))
  go_upto_region 2 with fail
  go_region
  all_goals
    go_wp2_with fail
    refine bodyPost_ret (results_qp rfl _ (w.heap.size + 1) rfl (sc t p e) ?_ ?_ ?_ ?_ (.int .u64 0) rfl) rfl ⟨rfl, ?_⟩
    (· simp [go_sem, *]
     · simp [go_sem]
     · simp [go_sem]
     · simp [go_sem, *]
     · repeat
         first
           | (with_reducible exact HC.out.below)
           | (with_reducible refine Below.drew ?_)
           | (with_reducible exact Below.refl _ _)
           | (with_reducible refine Below.alloc ?_ (by first | exact Nat.le_refl _ | (simp; done) | omega | (simp; omega)) _)
           | (with_reducible refine below_setRow' ?_ (by first | omega | (simp; omega)) _))
set_option maxRecDepth 100000 in
set_option maxHeartbeats 1000000 in
theorem rNum_short (t : ByteArray) (p k : Nat) (h1 : 1 ≤ k) (h8 : k ≤ 8) (hp : p ≤ t.size) (hl : t.size < p + k) (w : World) : Calls Try.prog 50 #[.agg (sc t p 0), .int .i64 (k : Int)] w fun r w' => r = .returned (.tuple #[.int .u64 0, .agg (sc t p 3)]) ∧ Below w.heap.size w w' := by
  have hz := rtk_nought
  have T1 := Lib.hid (rStands_any t p 0 hp)
  have T2 := Lib.hid (rbad_any t p 0 3)
  have c1 : decide ((k : Int) < 1) = false := decide_eq_false (by omega)
  have c2 : decide ((8 : Int) < (k : Int)) = false := decide_eq_false (by omega)
  have c3 : ((t.size : Int) - (p : Int)) < (k : Int) := by omega
  have c4 : IntKind.i64.wrap ((t.size : Int) - (p : Int)) = (t.size : Int) - (p : Int) := IntWalk.i64_in _ (by omega)
  have c5 : decide (((t.size : Int) - (p : Int)) < (k : Int)) = true := decide_eq_true c3
  have k1 : ¬ (k : Int) < 1 := by omega
  have k8 : ¬ (8 : Int) < (k : Int) := by omega
  clear h1 h8 hp hl
  have HC := Lib.hid (((St.nil w).pushA (sc t p 0) 76 rfl).pushA (sc ⟨#[]⟩ 0 0) 76 (g := w.heap.size + 1) (by simp))
  go_enter Try.func50, Try.ntmps50
  (obtain ⟨⟨r1, f1, i1, b1, l1⟩, ⟨r2, f2, i2, b2, l2⟩, m12, m21⟩ := St.facts2 (HC.out.pick [0, 1] (by decide) rfl))
  go_wp2_with fail
  (clear r1 f1 i1 b1 l1 r2 f2 i2 b2 l2 m12 m21)
  refine (T1.out _).mono ?_; rintro e w1 ⟨rfl, hw⟩
  have HC := Lib.hid (HC.out.call hw)
  clear hw
  (obtain ⟨⟨r1, f1, i1, b1, l1⟩, ⟨r2, f2, i2, b2, l2⟩, m12, m21⟩ := St.facts2 (HC.out.pick [0, 1] (by decide) rfl))
  go_wp2_with fail
  (clear r1 f1 i1 b1 l1 r2 f2 i2 b2 l2 m12 m21)
  refine (T2.out _).mono ?_; rintro e w2 ⟨rfl, hw⟩
  have HC := Lib.hid (HC.out.call hw)
  clear hw
  (obtain ⟨⟨r1, f1, i1, b1, l1⟩, ⟨r2, f2, i2, b2, l2⟩, m12, m21⟩ := St.facts2 (HC.out.pick [0, 1] (by decide) rfl))
  go_wp2_with fail
  refine bodyPost_ret (results_qp rfl _ (w.heap.size + 1) rfl (sc t p 3) ?_ ?_ ?_ ?_ (.int .u64 0) rfl) rfl ⟨rfl, ?_⟩
  (· simp [go_sem, *]
   · simp [go_sem]
   · simp [go_sem]
   · simp [go_sem, *]
   · repeat
       first
         | (with_reducible exact HC.out.below)
         | (with_reducible refine Below.drew ?_)
         | (with_reducible exact Below.refl _ _)
         | (with_reducible refine Below.alloc ?_ (by first | exact Nat.le_refl _ | (simp; done) | omega | (simp; omega)) _)
         | (with_reducible refine below_setRow' ?_ (by first | omega | (simp; omega)) _))
set_option maxRecDepth 100000 in
set_option maxHeartbeats 2000000 in
theorem rNum_ok (s : ByteArray) (p k : Nat) (h1 : 1 ≤ k) (h8 : k ≤ 8) (h : p + k ≤ s.size) (hs : s.size < 2 ^ 40) (w : World) : Calls Try.prog 50 #[.agg (sc s p 0), .int .i64 (k : Int)] w fun r w' => r = .returned (.tuple #[.int .u64 ((numAt s p k : Nat) : Int), .agg (sc s (p + k) 0)]) ∧ Below w.heap.size w w' := by
  have hz := rtk_nought
  have T1 := Lib.hid (rStands_any s p 0 (by omega))
  have c1 : decide ((k : Int) < 1) = false := decide_eq_false (by omega)
  have c2 : decide ((8 : Int) < (k : Int)) = false := decide_eq_false (by omega)
  have c3 : ¬ ((s.size : Int) - (p : Int)) < (k : Int) := by omega
  have c4 : IntKind.i64.wrap ((s.size : Int) - (p : Int)) = (s.size : Int) - (p : Int) := IntWalk.i64_in _ (by omega)
  have c5 : decide (((s.size : Int) - (p : Int)) < (k : Int)) = false := decide_eq_false c3
  have k1 : ¬ (k : Int) < 1 := by omega
  have k8 : ¬ (8 : Int) < (k : Int) := by omega
  obtain ⟨q, hq⟩ : ∃ q, p + k = q := ⟨_, rfl⟩
  have q1 : (p : Int) + (k : Int) = (q : Int) := by omega
  have q2 : IntKind.i64.wrap ((p : Int) + (k : Int)) = (q : Int) := by rw [IntWalk.i64_in _ (by omega)]; exact q1
  have q3 : IntKind.i64.wrap (q : Int) = (q : Int) := IntWalk.i64_in _ (by omega)
  have q7 : RowKit.wrap64 (q : Int) = (q : Int) := by unfold RowKit.wrap64; omega
  unfold numAt
  obtain ⟨b, hb⟩ : ∃ b : Nat → UInt8, (fun i => ofText s (p + i)) = b := ⟨_, rfl⟩
  rw [hb, hq]
  have HX := Lib.hid (fun (wr : World) j (hj : j < k) => show (indexS 9 (.string s) (.int .i64 ((p : Int) + (j : Int)))).run Try.prog wr = .ok (.int .u8 (B (b j))) wr from by
    have := indexS_text (P := Try.prog) (w := wr) 9 s (p + j) Try.underlying9 (by omega)
    rw [← hb]
    rw [Int.natCast_add] at this
    exact this)
  have HW := Lib.hid (fun j (hj : j < k) => show IntKind.i64.wrap ((p : Int) + (j : Int)) = (p : Int) + (j : Int) from IntWalk.i64_in _ (by omega))
  have k9 : (k : Int) ≤ 8 := by omega
  have hbld := rtk_set0 s ⟨#[]⟩ q 0 0
  clear hb hq h hs
  have HC := Lib.hid (((St.nil w).pushA (sc s p 0) 76 rfl).pushA (sc ⟨#[]⟩ 0 0) 76 (g := w.heap.size + 1) (by simp))
  go_enter Try.func50, Try.ntmps50
  (obtain ⟨⟨r1, f1, i1, b1, l1⟩, ⟨r2, f2, i2, b2, l2⟩, m12, m21⟩ := St.facts2 (HC.out.pick [0, 1] (by decide) rfl))
  go_wp2_with fail
  (clear r1 f1 i1 b1 l1 r2 f2 i2 b2 l2 m12 m21)
  refine (T1.out _).mono ?_; rintro e w1 ⟨rfl, hw⟩
  have HC := Lib.hid (HC.out.call hw)
  clear hw
  (obtain ⟨⟨r1, f1, i1, b1, l1⟩, ⟨r2, f2, i2, b2, l2⟩, m12, m21⟩ := St.facts2 (HC.out.pick [0, 1] (by decide) rfl))
  go_wp2_with fail
  (clear r1 f1 i1 b1 l1 r2 f2 i2 b2 l2 m12 m21)
  go_loopw [6, 7] (fun n i wr => ∃ j : Nat, j ≤ k ∧ i = .int .i64 (j : Int) ∧ n = .int .u64 ((numTo b j : Nat) : Int) ∧ wr = w1) (fun _ i _ => k - (intOf i).toNat)
  case atStart => exact ⟨0, by omega, rfl, rfl, rfl⟩
  case round =>
    obtain ⟨j, hj, rfl, rfl, rfl⟩ := hrel
    by_cases hlt : j < k
    · have d1 : (j : Int) < (k : Int) := by omega
      have hb := numTo_lt b j
      have hp : 256 ^ j ≤ 256 ^ 7 := Nat.pow_le_pow_right (by omega) (by omega)
      have hstep : numTo b (j + 1) = 256 * numTo b j + (b j).toNat := by show numTo b j * 256 + _ = _; omega
      obtain ⟨N, hN⟩ : ∃ N, numTo b j = N := ⟨_, rfl⟩
      rw [hN] at hb hstep ⊢
      have nb : (N : Int) ≤ 72057594037927935 := by omega
      have hidx := HX.out wr j hlt
      have hwr := HW.out j hlt
      obtain ⟨c, hB⟩ : ∃ c : Nat, (b j).toNat = c := ⟨_, rfl⟩
      have hb8 : c < 256 := hB ▸ UInt8.toNat_lt _
      have hBB : B (b j) = (c : Int) := by rw [← hB]; rfl
      rw [hB] at hstep
      rw [hBB] at hidx
      have hb9 : (c : Int) ≤ 255 := by omega
      have n3 : (j : Int) ≤ 8 := by omega
      clear hb hp hN hB hBB
      (obtain ⟨⟨r1, f1, i1, b1, l1⟩, ⟨r2, f2, i2, b2, l2⟩, m12, m21⟩ := St.facts2 (HC.out.pick [0, 1] (by decide) rfl))
      go_wp2_with fail
      (clear r1 f1 i1 b1 l1 r2 f2 i2 b2 l2 m12 m21)
      go_roundw
      case rel => exact ⟨j + 1, by omega, by go_num, by rw [hstep]; go_num, trivial⟩
      case measure => simp [intOf]; omega
    · obtain rfl : j = k := by omega
      (obtain ⟨⟨r1, f1, i1, b1, l1⟩, ⟨r2, f2, i2, b2, l2⟩, m12, m21⟩ := St.facts2 (HC.out.pick [0, 1] (by decide) rfl))
      go_upto_region 12 with fail
      go_region
      all_goals
        go_wp2_with fail
        refine bodyPost_ret (results_qp rfl _ (w.heap.size + 1) rfl (sc s q 0) ?_ ?_ ?_ ?_ (.int .u64 ((numTo b j : Nat) : Int)) rfl) rfl ⟨rfl, ?_⟩
        (· simp [go_sem, *]
         · simp [go_sem]
         · simp [go_sem]
         · simp [go_sem, *]
         · repeat
             first
               | (with_reducible exact HC.out.below)
               | (with_reducible refine Below.drew ?_)
               | (with_reducible exact Below.refl _ _)
               | (with_reducible refine Below.alloc ?_ (by first | exact Nat.le_refl _ | (simp; done) | omega | (simp; omega)) _)
               | (with_reducible refine below_setRow' ?_ (by first | omega | (simp; omega)) _))
theorem rNum_any (s : ByteArray) (p e k : Nat) (h1 : 1 ≤ k) (h8 : k ≤ 8) (hp : p ≤ s.size) (hs : s.size < 2 ^ 40) (w : World) : Calls Try.prog 50 #[.agg (sc s p e), .int .i64 (k : Int)] w fun r w' => r = .returned (.tuple #[.int .u64 (((tk s p e k).1 : Nat) : Int), .agg (sc s (tk s p e k).2.1 (tk s p e k).2.2)]) ∧ Below w.heap.size w w' := by
  unfold tk
  by_cases he : e = 0
  · subst he
    rw [if_neg (fun h => h rfl)]
    by_cases h : p + k ≤ s.size
    · rw [if_pos h]; exact rNum_ok s p k h1 h8 h hs w
    · rw [if_neg h]; exact rNum_short s p k h1 h8 hp (by omega) w
  · rw [if_pos he]; exact rNum_bad s p k e he w
set_option maxRecDepth 100000 in
set_option maxHeartbeats 2000000 in
theorem rRow_none (t : ByteArray) (p : Nat) (hp : p ≤ t.size) (h : t.size < p + 2) (w : World) : Calls Try.prog 51 #[.agg (sc t p 0)] w fun r w' => r = .returned (.tuple #[.string ⟨#[]⟩, .agg (sc t p 3)]) ∧ Below w.heap.size w w' := by
  have hz := rtk_nought
  have HC := Lib.hid (((St.nil w).pushA (sc t p 0) 76 rfl).pushA (sc ⟨#[]⟩ 0 0) 76 (g := w.heap.size + 1) (by simp))
  have K := Lib.hid (fun w => rNum_short t p 2 (by omega) (by omega) hp h w)
  clear hp h
  go_enter Try.func51, Try.ntmps51
  (obtain ⟨⟨r1, f1, i1, b1, l1⟩, ⟨r2, f2, i2, b2, l2⟩, m12, m21⟩ := St.facts2 (HC.out.pick [0, 1] (by decide) rfl))
  go_wp2_with fail
  (clear r1 f1 i1 b1 l1 r2 f2 i2 b2 l2 m12 m21)
  refine (K.out _).mono ?_; rintro e w1 ⟨rfl, hw⟩
  have HC := Lib.hid (HC.out.call hw)
  clear hw K
  go_upto_region 2 with fail
  have HC := Lib.hid (HC.out.push (sc t p 3) 76)
  generalize w1.alloc (Obj.cells (sc t p 3) 76) = w2 at HC ⊢
  generalize w1.heap.size = gn at HC ⊢
  (obtain ⟨⟨r1, f1, i1, b1, l1⟩, ⟨r2, f2, i2, b2, l2⟩, ⟨r3, f3, i3, b3, l3⟩, m12, m21, m13, m31, m23, m32⟩ := St.facts3 (HC.out.pick [0, 1, 2] (by decide) rfl))
  go_upto_region 3 with fail
  go_region
  all_goals
    go_wp2_with fail
    refine bodyPost_ret (results_qp rfl _ (w.heap.size + 1) rfl (sc t p 3) ?_ ?_ ?_ ?_ (.string ⟨#[]⟩) rfl) rfl ⟨rfl, ?_⟩
    (· simp [go_sem, *]
     · simp [go_sem]
     · simp [go_sem]
     · simp [go_sem, *]
     · repeat
         first
           | (with_reducible exact HC.out.below)
           | (with_reducible refine Below.drew ?_)
           | (with_reducible exact Below.refl _ _)
           | (with_reducible refine Below.alloc ?_ (by first | exact Nat.le_refl _ | (simp; done) | omega | (simp; omega)) _)
           | (with_reducible refine below_setRow' ?_ (by first | omega | (simp; omega)) _))
set_option maxRecDepth 100000 in
set_option maxHeartbeats 2000000 in
theorem rRow_short (t : ByteArray) (p : Nat) (h : p + 2 ≤ t.size) (h2 : t.size < p + 2 + numAt t p 2) (hs : t.size < 2 ^ 40) (w : World) : Calls Try.prog 51 #[.agg (sc t p 0)] w fun r w' => r = .returned (.tuple #[.string ⟨#[]⟩, .agg (sc t p 3)]) ∧ Below w.heap.size w w' := by
  have hz := rtk_nought
  have HC := Lib.hid (((St.nil w).pushA (sc t p 0) 76 rfl).pushA (sc ⟨#[]⟩ 0 0) 76 (g := w.heap.size + 1) (by simp))
  have K := Lib.hid (fun w => rNum_ok t p 2 (by omega) (by omega) h hs w)
  have hN : numAt t p 2 < 256 ^ 2 := numTo_lt _ _
  obtain ⟨N, hNe⟩ : ∃ N, numAt t p 2 = N := ⟨_, rfl⟩
  rw [hNe] at K h2 hN
  obtain ⟨q, hq⟩ : ∃ q, p + 2 = q := ⟨_, rfl⟩
  rw [hq] at K h2 h
  have c4 : IntKind.i64.wrap ((t.size : Int) - (q : Int)) = (t.size : Int) - (q : Int) := IntWalk.i64_in _ (by omega)
  have c3 : ((t.size : Int) - (q : Int)) < (N : Int) := by omega
  have c5 : decide (((t.size : Int) - (q : Int)) < (N : Int)) = true := decide_eq_true c3
  have n6 : (N : Int) ≤ 65535 := by omega
  have KF := Lib.hid (fun w => rbad_any t p 0 3 w)
  clear h h2 hs hNe hN hq
  go_enter Try.func51, Try.ntmps51
  (obtain ⟨⟨r1, f1, i1, b1, l1⟩, ⟨r2, f2, i2, b2, l2⟩, m12, m21⟩ := St.facts2 (HC.out.pick [0, 1] (by decide) rfl))
  go_wp2_with fail
  (clear r1 f1 i1 b1 l1 r2 f2 i2 b2 l2 m12 m21)
  refine (K.out _).mono ?_; rintro e w1 ⟨rfl, hw⟩
  have HC := Lib.hid (HC.out.call hw)
  clear hw K
  go_upto_region 2 with fail
  have HC := Lib.hid (HC.out.push (sc t q 0) 76)
  generalize w1.alloc (Obj.cells (sc t q 0) 76) = w2 at HC ⊢
  generalize w1.heap.size = gn at HC ⊢
  have HC := Lib.hid (HC.out.pick [2, 1, 0] (by decide) rfl)
  (obtain ⟨⟨r1, f1, i1, b1, l1⟩, ⟨r2, f2, i2, b2, l2⟩, ⟨r3, f3, i3, b3, l3⟩, m12, m21, m13, m31, m23, m32⟩ := St.facts3 (HC.out.pick [0, 1, 2] (by decide) rfl))
  go_wp2_with fail
  (clear r1 f1 i1 b1 l1 r2 f2 i2 b2 l2 r3 f3 i3 b3 l3 m12 m21 m13 m31 m23 m32)
  refine (KF.out _).mono ?_; rintro e w4 ⟨rfl, hw⟩
  have HC := Lib.hid (HC.out.call hw)
  clear hw
  (obtain ⟨⟨r1, f1, i1, b1, l1⟩, ⟨r2, f2, i2, b2, l2⟩, ⟨r3, f3, i3, b3, l3⟩, m12, m21, m13, m31, m23, m32⟩ := St.facts3 (HC.out.pick [0, 1, 2] (by decide) rfl))
  go_wp2_with fail
  refine bodyPost_ret (results_qp rfl _ (w.heap.size + 1) rfl (sc t p 3) ?_ ?_ ?_ ?_ (.string ⟨#[]⟩) rfl) rfl ⟨rfl, ?_⟩
  (· simp [go_sem, *]
   · simp [go_sem]
   · simp [go_sem]
   · simp [go_sem, *]
   · repeat
       first
         | (with_reducible exact HC.out.below)
         | (with_reducible refine Below.drew ?_)
         | (with_reducible exact Below.refl _ _)
         | (with_reducible refine Below.alloc ?_ (by first | exact Nat.le_refl _ | (simp; done) | omega | (simp; omega)) _)
         | (with_reducible refine below_setRow' ?_ (by first | omega | (simp; omega)) _))
set_option maxRecDepth 100000 in
set_option maxHeartbeats 4000000 in
theorem rRow_ok (t : ByteArray) (p : Nat) (h : p + 2 ≤ t.size) (h2 : p + 2 + numAt t p 2 ≤ t.size) (hs : t.size < 2 ^ 40) (w : World) : Calls Try.prog 51 #[.agg (sc t p 0)] w fun r w' => r = .returned (.tuple #[.string (t.extract (p + 2) (p + 2 + numAt t p 2)), .agg (sc t (p + 2 + numAt t p 2) 0)]) ∧ Below w.heap.size w w' := by
  have hz := rtk_nought
  have HC := Lib.hid (((St.nil w).pushA (sc t p 0) 76 rfl).pushA (sc ⟨#[]⟩ 0 0) 76 (g := w.heap.size + 1) (by simp))
  have K := Lib.hid (fun w => rNum_ok t p 2 (by omega) (by omega) h hs w)
  have hN : numAt t p 2 < 256 ^ 2 := numTo_lt _ _
  obtain ⟨N, hNe⟩ : ∃ N, numAt t p 2 = N := ⟨_, rfl⟩
  rw [hNe] at K h2 hN ⊢
  obtain ⟨q, hq⟩ : ∃ q, p + 2 = q := ⟨_, rfl⟩
  obtain ⟨r, hr⟩ : ∃ r, q + N = r := ⟨_, rfl⟩
  rw [hq] at K h h2 ⊢
  rw [hr] at h2 ⊢
  have c4 : IntKind.i64.wrap ((t.size : Int) - (q : Int)) = (t.size : Int) - (q : Int) := IntWalk.i64_in _ (by omega)
  have c3 : ¬ ((t.size : Int) - (q : Int)) < (N : Int) := by omega
  have c5 : decide (((t.size : Int) - (q : Int)) < (N : Int)) = false := decide_eq_false c3
  have n6 : (N : Int) ≤ 65535 := by omega
  have q1 : (q : Int) + (N : Int) = (r : Int) := by omega
  have q2 : IntKind.i64.wrap ((q : Int) + (N : Int)) = (r : Int) := by rw [IntWalk.i64_in _ (by omega)]; exact q1
  have q9 : IntKind.i64.wrap (r : Int) = (r : Int) := IntWalk.i64_in _ (by omega)
  have q7 : RowKit.wrap64 (r : Int) = (r : Int) := by unfold RowKit.wrap64; omega
  have q3 : (q : Int) ≤ (r : Int) := by omega
  have q4 : (r : Int) ≤ (t.size : Int) := by omega
  have q5 : q ≤ r := by omega
  have q40 : (q : Int) ≤ 1099511627776 := by omega
  have hbld := rtk_set0 t ⟨#[]⟩ r 0 0
  clear h hs hNe hN hq hr
  go_enter Try.func51, Try.ntmps51
  (obtain ⟨⟨r1, f1, i1, b1, l1⟩, ⟨r2, f2, i2, b2, l2⟩, m12, m21⟩ := St.facts2 (HC.out.pick [0, 1] (by decide) rfl))
  go_wp2_with fail
  (clear r1 f1 i1 b1 l1 r2 f2 i2 b2 l2 m12 m21)
  refine (K.out _).mono ?_; rintro e w1 ⟨rfl, hw⟩
  have HC := Lib.hid (HC.out.call hw)
  clear hw K
  go_upto_region 2 with fail
  have HC := Lib.hid (HC.out.push (sc t q 0) 76)
  generalize w1.alloc (Obj.cells (sc t q 0) 76) = w2 at HC ⊢
  generalize w1.heap.size = gn at HC ⊢
  (obtain ⟨⟨r1, f1, i1, b1, l1⟩, ⟨r2, f2, i2, b2, l2⟩, ⟨r3, f3, i3, b3, l3⟩, m12, m21, m13, m31, m23, m32⟩ := St.facts3 (HC.out.pick [0, 1, 2] (by decide) rfl))
  go_upto_region 6 with fail
  go_region
  all_goals
    go_wp2_with fail
    refine bodyPost_ret (results_qp rfl _ (w.heap.size + 1) rfl (sc t r 0) ?_ ?_ ?_ ?_ (.string (t.extract q r)) rfl) rfl ⟨rfl, ?_⟩
    (· simp [go_sem, *]
     · simp [go_sem]
     · simp [go_sem]
     · simp [go_sem, *]
     · repeat
         first
           | (with_reducible exact HC.out.below)
           | (with_reducible refine Below.drew ?_)
           | (with_reducible exact Below.refl _ _)
           | (with_reducible refine Below.alloc ?_ (by first | exact Nat.le_refl _ | (simp; done) | omega | (simp; omega)) _)
           | (with_reducible refine below_setRow' ?_ (by first | omega | (simp; omega)) _))
theorem rRow_any (s : ByteArray) (p : Nat) (hp : p ≤ s.size) (hs : s.size < 2 ^ 40) (w : World) : Calls Try.prog 51 #[.agg (sc s p 0)] w fun r w' => r = .returned (.tuple #[.string (tkRow s p).1, .agg (sc s (tkRow s p).2.1 (tkRow s p).2.2)]) ∧ Below w.heap.size w w' := by
  unfold tkRow takeR
  by_cases h1 : p + 2 ≤ s.size
  · rw [if_pos h1]
    by_cases h2 : p + 2 + numAt s p 2 ≤ s.size
    · rw [if_pos h2]; exact rRow_ok s p h1 h2 hs w
    · rw [if_neg h2]; exact rRow_short s p h1 (by omega) hs w
  · rw [if_neg h1]; exact rRow_none s p hp (by omega) w
def endR (s : ByteArray) (p e : Nat) : Nat := if e ≠ 0 then e else if p ≠ s.size then 4 else 0
set_option maxRecDepth 100000 in
theorem rEnd_any (s : ByteArray) (p e : Nat) (hp : p ≤ s.size) (w : World) : Calls Try.prog 35 #[.agg (sc s p e)] w fun r w' => r = .returned (.int .i64 ((endR s p e : Nat) : Int)) ∧ Below w.heap.size w w' := by
  have T1 := Lib.hid (rStands_any s p e hp)
  have HC := Lib.hid ((St.nil w).pushA (sc s p e) 76 rfl)
  unfold endR
  by_cases he : e = 0
  · subst he
    rw [if_neg (fun h => h rfl)]
    by_cases hq : p = s.size
    · rw [if_neg (fun h => h hq)]
      have d1 : ((p : Int) != (s.size : Int)) = false := by rw [bne_eq_false_iff_eq]; omega
      clear hp hq
      go_enter Try.func35, Try.ntmps35
      (obtain ⟨r1, f1, i1, b1, l1⟩ := St.facts1 (HC.out.pick [0] (by decide) rfl))
      go_wp2_with fail
      (clear r1 f1 i1 b1 l1)
      refine (T1.out _).mono ?_; rintro e w1 ⟨rfl, hw⟩
      have HC := Lib.hid (HC.out.call hw)
      clear hw
      (obtain ⟨r1, f1, i1, b1, l1⟩ := St.facts1 (HC.out.pick [0] (by decide) rfl))
      go_wp2_with fail
      go_ret
      exact ⟨rfl, HC.out.below⟩
    · rw [if_pos hq]
      have d1 : ((p : Int) != (s.size : Int)) = true := by rw [bne_iff_ne]; omega
      clear hp hq
      go_enter Try.func35, Try.ntmps35
      (obtain ⟨r1, f1, i1, b1, l1⟩ := St.facts1 (HC.out.pick [0] (by decide) rfl))
      go_wp2_with fail
      (clear r1 f1 i1 b1 l1)
      refine (T1.out _).mono ?_; rintro e w1 ⟨rfl, hw⟩
      have HC := Lib.hid (HC.out.call hw)
      clear hw
      (obtain ⟨r1, f1, i1, b1, l1⟩ := St.facts1 (HC.out.pick [0] (by decide) rfl))
      go_wp2_with fail
      go_ret
      exact ⟨rfl, HC.out.below⟩
  · rw [if_pos he]
    have d1 : ((e : Int) != 0) = true := by rw [bne_iff_ne]; omega
    clear hp he
    go_enter Try.func35, Try.ntmps35
    (obtain ⟨r1, f1, i1, b1, l1⟩ := St.facts1 (HC.out.pick [0] (by decide) rfl))
    go_wp2_with fail
    go_ret
    exact ⟨rfl, HC.out.below⟩
end Go.Proofs.Ytinlcpenllfcpaa
