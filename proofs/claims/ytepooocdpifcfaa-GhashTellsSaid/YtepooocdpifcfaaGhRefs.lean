/- The reference's coefficient, row of coefficients and product. No condition. -/
import Derived.Test.YtepooocdpifcfaaGhRefPlain
import Derived.Test.YtepooocdpifcfaaCiPlain
namespace Go.Proofs.Ytepooocdpifcfaa
open Go.RowKit
attribute [local go_sem] B_xor B_or B_and
attribute [local go_sem] blk_set blk_size blk_get blk_getE upd_same oneCells_blk paste_blk cut_blk szOf
attribute [local go_sem high] paste_all cut_head
attribute [local go_sem] rowAt_alloc rowAt_drew rowAt_drewN isRow_alloc isRow_drew isRow_drewN freeRow_alloc freeRow_end freeRow_drew freeRow_drewN
attribute [local go_sem] setRow_alloc setRow_drew setRow_drewN setCell_drewN alloc_drewN rowAt_put isRow_setRow freeRow_put
attribute [local go_sem ↓] loadS_in storeS_in indexS_in copyS_in
attribute [local go_sem] loadS_row loadS_one storeS_row storeS_one indexS_blk copyS_rows run_equalIn_blk same_refl arrayAt_row
attribute [local go_sem] cell_row frozen_row st_setCell st_blk_ne stepAt stepUpon
attribute [local go_sem high] run_eql_blk run_neq_blk
attribute [local go_sem] blkB_size blkB_get blkB_getE blkB_set oneCells_blkB blkB_ne
attribute [local go_sem high] paste_allB cut_headB

theorem halfs_test (b : Nat → UInt8) (i : Nat) (hi : i < 128) : ((halved (b (quo8 i)).toNat (sh7 i) : Int) % 2 == 1) = bitB b i := by
  have h := byte_bit b (quo8 i) (sh7 i) (by unfold quo8; omega) (by unfold sh7; omega)
  rw [show 8 * (15 - quo8 i) + sh7 i = 127 - i by unfold quo8 sh7; omega] at h
  unfold bitB
  rw [← h, Nat.testBit_eq_decide_div_mod_eq, Bool.eq_iff_iff]
  simp only [beq_iff_eq, decide_eq_true_eq]
  unfold halved
  omega
def rj (i j : Nat) : Nat := i % 8 + j
theorem halved_wrap (x : UInt8) (j : Nat) : IntKind.i64.wrap (halved x.toNat j : Int) = (halved x.toNat j : Int) := IntWalk.i64_in _ (by have := halved_le x.toNat j; have := x.toNat_lt; omega)
set_option maxRecDepth 100000 in
set_option maxHeartbeats 1000000 in
theorem refBit_any (b : Nat → UInt8) (i : Nat) (hi : i < 128) (w : World) : Calls Try.prog 16 #[.agg (blk 16 b), .int .i64 (i : Int)] w fun e w' => e = .returned (.bool (bitB b i)) ∧ Below w.heap.size w w' := by
  have t1 : decide ((i : Int) < 0) = false := decide_eq_false (by omega)
  have t2 : decide ((127 : Int) < (i : Int)) = false := decide_eq_false (by omega)
  have v1 : (i : Int) / 8 = (quo8 i : Int) := by unfold quo8; omega
  have v2 : (i : Int) % 8 = (rem8 i : Int) := by unfold rem8; omega
  have v5 : IntKind.i64.wrap (quo8 i : Int) = (quo8 i : Int) := IntWalk.i64_in _ (by unfold quo8; omega)
  have v6 : IntKind.i64.wrap (B (b (quo8 i))) = (halved (b (quo8 i)).toNat 0 : Int) := by
    rw [halved_zero, IntWalk.i64_in _ (by have := B_bd (b (quo8 i)); omega)]; rfl
  have v7 : B (b (quo8 i)) = (halved (b (quo8 i)).toNat 0 : Int) := by rw [halved_zero]; rfl
  have e2 : quo8 i < 16 := by unfold quo8; omega
  have e3 : (quo8 i : Int) < 16 := by omega
  go_enter Try.func16, Try.ntmps16
  go_wp2_with fail
  clear v5 v6 v7
  have hle := fun j => halved_le (b (quo8 i)).toNat j
  have h255 := (b (quo8 i)).toNat_lt
  go_loop [5, 6] (fun v k => ∃ j : Nat, rj i j ≤ 7 ∧ k = .int .i64 (rj i j : Int) ∧ v = .int .i64 (halved (b (quo8 i)).toNat j : Int)) (fun _ k => 7 - (intOf k).toNat)
  case atStart =>
    refine ⟨0, by unfold rj; omega, ?_, ?_⟩
    · first | rfl | (congr 1; done) | (congr 1; unfold rj; omega)
    · first | rfl | (congr 1; done) | (congr 1; have := hle 0; first | exact halved_wrap _ _ | (simp [RowKit.wrap64]; omega))
  case round =>
    obtain ⟨j, hj, rfl, rfl⟩ := hrel
    have g1 := hle j
    have g2 := hle (j + 1)
    clear hle
    by_cases hlt : rj i j < 7
    · have a1 : (rj i j : Int) < 7 := by omega
      have a2 : (halved (b (quo8 i)).toNat j : Int) ≤ 255 := by omega
      have v1 : (halved (b (quo8 i)).toNat j : Int) / 2 = (halved (b (quo8 i)).toNat (j + 1) : Int) := by rw [halved_succ]; omega
      have v2 : IntKind.i64.wrap ((rj i j : Int) + 1) = (rj i (j + 1) : Int) := by unfold rj; rw [IntWalk.i64_in _ (by unfold rj at hlt; omega)]; omega
      have v3 : (rj i j : Int) + 1 = (rj i (j + 1) : Int) := by unfold rj; omega
      go_wp2_with fail
      go_round
      case rel => exact ⟨j + 1, by unfold rj at *; omega, by first | rfl | (congr 1), by first | rfl | (congr 1)⟩
      case measure => simp [intOf]; omega
    · have a1 : ¬ (rj i j : Int) < 7 := by omega
      have hj7 : j = sh7 i := by unfold rj at hlt hj; unfold sh7; omega
      subst hj7
      have e9 := halfs_test b i hi
      have a2 : (halved (b (quo8 i)).toNat (sh7 i) : Int) ≤ 255 := by omega
      go_wp2_with fail
      go_ret
      exact ⟨rfl, (Below.refl _ _).alloc (Nat.le_refl _) _⟩

def upToB (g : Nat → Bool) (k : Nat) : Nat → Bool := fun j => if j < k then g j else false
theorem upToB_zero (n : Nat) (g : Nat → Bool) : blkB n (upToB g 0) = blkB n (fun _ => false) := blkB_congr fun i _ => by simp [upToB]
theorem upToB_all (n : Nat) (g : Nat → Bool) : blkB n (upToB g n) = blkB n g := blkB_congr fun i hi => by simp [upToB, hi]
theorem upToB_next (n : Nat) (g : Nat → Bool) (k : Nat) : blkB n (updB (upToB g k) k (g k)) = blkB n (upToB g (k + 1)) := blkB_congr fun i _ => by
  unfold updB upToB
  by_cases h : i = k
  · subst h; simp
  · by_cases h2 : i < k
    · have h3 : i < k + 1 := by omega
      simp [h, h2, h3]
    · have h3 : ¬ i < k + 1 := by omega
      simp [h, h2, h3]
theorem zero128 : Try.zeroCells66 = blkB 128 (fun _ => false) := by kernel_rfl
theorem zero255 : Try.zeroCells68 = blkB 255 (fun _ => false) := by kernel_rfl

set_option maxRecDepth 100000 in
set_option maxHeartbeats 1000000 in
theorem poly_any (b : Nat → UInt8) (w : World) : Calls Try.prog 40 #[.agg (blk 16 b)] w fun e w' => e = .returned (.agg (blkB 128 (bitB b))) ∧ Below w.heap.size w w' := by
  have hz := zero128
  go_enter Try.func40, Try.ntmps40
  go_wp2_with fail
  go_loopw [4] (fun i wr => ∃ k : Nat, k ≤ 128 ∧ i = .int .i64 (k : Int) ∧ Hid (St w [(w.heap.size + 1 + 1, blkB 128 (upToB (bitB b) k)), (w.heap.size + 1, blkB 128 (fun _ => false)), (w.heap.size, blk 16 b)] wr)) (fun i _ => 128 - (intOf i).toNat)
  case atStart =>
    refine ⟨0, by omega, rfl, Lib.hid ?_⟩
    rw [upToB_zero]
    exact (((St.nil w).pushA _ _ rfl).pushA _ _ (by simp)).pushA _ _ (by simp)
  case round =>
    obtain ⟨k, hk, rfl, HR⟩ := hrel
    have hC := HR.out
    by_cases hlt : k < 128
    · have a1 : (k : Int) < 128 := by omega
      have hn := upToB_next 128 (bitB b) k
      (have HC := Lib.hid hC
       have sos := hC.below.os
       obtain ⟨⟨r1, f1, i1, b1, l1⟩, ⟨r2, f2, i2, b2, l2⟩, ⟨r3, f3, i3, b3, l3⟩, m12, m21, m13, m31, m23, m32⟩ := St.facts3 hC
       clear hC)
      go_wp2_with fail
      refine (refBit_any b k hlt _).mono ?_; rintro e w3 ⟨rfl, hw⟩
      have HC := Lib.hid (HC.out.call hw)
      clear hw
      (clear r1 f1 i1 b1 l1 r2 f2 i2 b2 l2 r3 f3 i3 b3 l3 m12 m21 m13 m31 m23 m32 sos)
      have hC := HC.out
      (have HC := Lib.hid hC
       have sos := hC.below.os
       obtain ⟨⟨r1, f1, i1, b1, l1⟩, ⟨r2, f2, i2, b2, l2⟩, ⟨r3, f3, i3, b3, l3⟩, m12, m21, m13, m31, m23, m32⟩ := St.facts3 hC
       clear hC)
      go_wp2_with fail
      have HC := Lib.hid (HC.out.set_head (blkB 128 (upToB (bitB b) (k + 1))))
      exact ⟨⟨k + 1, by omega, by go_num, HC⟩, by simp [intOf]; omega⟩
    · obtain rfl : k = 128 := by omega
      rw [upToB_all] at hC
      have HR := Lib.hid hC
      (have HC := Lib.hid hC
       have sos := hC.below.os
       obtain ⟨⟨r1, f1, i1, b1, l1⟩, ⟨r2, f2, i2, b2, l2⟩, ⟨r3, f3, i3, b3, l3⟩, m12, m21, m13, m31, m23, m32⟩ := St.facts3 hC
       clear hC)
      go_wp2_with fail
      refine bodyPost_ret (results_row rfl _ (w.heap.size + 1) rfl (blkB 128 (bitB b)) ?_ ?_ ?_ ?_) rfl ⟨rfl, ?_⟩
      · simp [go_sem, *]
      · simp [go_sem]
      · simp [go_sem]
      · simp [go_sem, *]
      · exact below_setRow' HR.out.below (by omega) _
end Go.Proofs.Ytepooocdpifcfaa
