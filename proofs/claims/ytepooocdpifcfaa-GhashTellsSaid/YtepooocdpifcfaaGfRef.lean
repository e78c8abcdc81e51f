/- The reference's powers, inverses, turned bytes and box return what the plain functions reckon. No condition on bytes. -/
import Derived.Test.YtepooocdpifcfaaGfPow
namespace Go.Proofs.Ytepooocdpifcfaa
open Go.RowKit
attribute [local go_sem] B_xor B_or B_and

set_option maxHeartbeats 400000 in
theorem refTurn_pur (a : UInt8) (n : Int) (h0 : 0 ≤ n) (h1 : n ≤ 1000) : Pur Try.prog 62 #[.int .u8 (B a), .int .i64 n] (.int .i64 (B (Gf.rot a n.toNat))) := by
  obtain ⟨n, rfl⟩ := Int.eq_ofNat_of_zero_le h0
  rw [Int.toNat_natCast]
  intro w
  have hstep : ∀ x : UInt8, 2 * B x % 256 + B x / 128 = B (Gf.rot1 x) := by
    apply Gf.all256; decide +kernel
  have HS := Lib.hid hstep; clear hstep
  obtain ⟨a0, a1⟩ := B_bd a
  go_enter Try.func62, Try.ntmps62
  go_wp2_with fail
  go_loop [5, 6] (fun o i => ∃ k : Nat, k ≤ n ∧ i = .int .i64 (k : Int) ∧ o = .int .i64 (B (Gf.rot a k))) (fun _ i => n - (intOf i).toNat)
  case atStart => exact ⟨0, by omega, rfl, rfl⟩
  case round =>
    obtain ⟨k, hk, rfl, rfl⟩ := hrel
    obtain ⟨r0, r1⟩ := B_bd (Gf.rot a k)
    by_cases hlt : k < n
    · go_wp2_with fail
      go_round
      case rel =>
        refine ⟨k + 1, by omega, by go_num, ?_⟩
        rw [HS.out]; rfl
      case measure => simp [intOf]; omega
    · go_wp2_with fail
      go_ret
      obtain rfl : k = n := by omega
      exact ⟨rfl, 0, rfl⟩

set_option maxHeartbeats 1000000 in
theorem refInv_zero (w : World) : Calls Try.prog 61 #[.int .u8 (B 0)] w fun e w' => e = .returned (.int .u8 (B 0)) ∧ w' = w := by
  have h0 : B 0 = 0 := rfl
  rw [h0]; clear h0
  go_enter Try.func61, Try.ntmps61
  go_wp2_with fail
  go_ret
  exact ⟨rfl, rfl⟩

theorem refMul3_pur (b : UInt8) : Pur Try.prog 47 #[.int .u8 3, .int .u8 (B b)] (.int .u8 (B (Gf.mul 3 b))) := by
  have h := refMul_pur 3 b
  rwa [show B 3 = 3 from rfl] at h
theorem three_step (n : Nat) : Gf.mul 3 (Gf.three n) = Gf.three (n + 1) := rfl

set_option maxRecDepth 100000 in
set_option maxHeartbeats 1000000 in
theorem refInv_some (a : UInt8) (ha : a ≠ 0) : Pur Try.prog 61 #[.int .u8 (B a)] (.int .u8 (B (Gf.inv a))) := by
  intro w
  have hz : (B a == 0) = false := by
    rw [beq_eq_false_iff_ne]; intro h; exact ha (B_inj (by rw [h]; rfl))
  obtain ⟨m, hm, hma⟩ := Gf.three_all a ha
  have HM := Lib.hid hma; clear hma
  have HA := Lib.hid ha; clear ha
  go_enter Try.func61, Try.ntmps61
  go_wp2_with fail
  go_loopw [3, 4] (fun n p wr => ∃ k : Nat, k ≤ m ∧ n = .int .i64 (k : Int) ∧ p = .int .u8 (B (Gf.three k)) ∧ Hid (∃ k, wr = w.drewN k)) (fun n _ _ => 255 - (intOf n).toNat)
  case atStart => exact ⟨0, by omega, rfl, rfl, 0, rfl⟩
  case round =>
    obtain ⟨k, hk, rfl, rfl, HW⟩ := hrel
    by_cases hne : Gf.three k = a
    · have hb : (B (Gf.three k) != B a) = false := by simp [hne]
      have HE : Hid _ := Lib.hid hne
      clear hne
      go_wp2_with fail
      go_loopw [5, 6] (fun o i wr => ∃ j : Nat, k ≤ j ∧ j ≤ 255 ∧ i = .int .i64 (j : Int) ∧ o = .int .u8 (B (Gf.three (j - k))) ∧ Hid (∃ k, wr = w.drewN k)) (fun _ i _ => 255 - (intOf i).toNat)
      case atStart => exact ⟨k, by omega, by omega, rfl, by rw [Nat.sub_self]; rfl, HW⟩
      case round =>
        obtain ⟨j, hj1, hj2, rfl, rfl, HW⟩ := hrel
        by_cases hlt : j < 255
        · go_wp2_with fail
          refine (refMul3_pur _).go _ |>.mono ?_; rintro e w' ⟨rfl, k1, rfl⟩
          go_wp2_with fail
          go_roundw
          case rel =>
            refine ⟨j + 1, by omega, by omega, by go_num, ?_, ?_⟩
            · rw [three_step, show j + 1 - k = j - k + 1 by omega]
            · exact drew_on HW _
          case measure => simp [intOf]; omega
        · go_wp2_with fail
          go_ret
          obtain rfl : j = 255 := by omega
          refine ⟨?_, HW.out⟩
          rw [← HE.out, ← Gf.three_inv k (by omega)]; rfl
    · have hb : (B (Gf.three k) != B a) = true := by
        rw [bne_iff_ne]; intro h; exact hne (B_inj h)
      have hkm : k < m := by
        rcases Nat.lt_or_ge k m with h | h
        · exact h
        · exact (hne (by rw [← HM.out]; congr 1; omega)).elim
      clear hne
      go_wp2_with fail
      refine (refMul3_pur _).go _ |>.mono ?_; rintro e w' ⟨rfl, k1, rfl⟩
      go_wp2_with fail
      go_roundw
      case rel =>
        refine ⟨k + 1, by omega, by go_num, rfl, ?_⟩
        exact drew_on HW _
      case measure => simp [intOf]; omega

theorem refInv_pur (a : UInt8) : Pur Try.prog 61 #[.int .u8 (B a)] (.int .u8 (B (Gf.inv a))) := by
  by_cases h : a = 0
  · subst h; rw [Gf.inv_zero]; exact fun w => (refInv_zero w).mono fun _ _ ⟨h, h'⟩ => ⟨h, 0, h'⟩
  · exact refInv_some a h

/-- the box behind k of the five sums -/
def boxTo (b : UInt8) : Nat → UInt8
  | 0 => 99
  | k + 1 => boxTo b k ^^^ Gf.rot b k
theorem boxTo_box (b : UInt8) : boxTo b 5 = Gf.aff b := by
  revert b; apply Gf.all256; decide +kernel

set_option maxHeartbeats 400000 in
theorem refBox_pur (a : UInt8) : Pur Try.prog 46 #[.int .u8 (B a)] (.int .u8 (B (Gf.box a))) := by
  intro w
  have hx := @xor_walk64
  go_enter Try.func46, Try.ntmps46
  go_wp2_with fail
  refine (refInv_pur a).go _ |>.mono ?_; rintro e w' ⟨rfl, k1, rfl⟩
  go_wp2_with fail
  go_loopw [4, 5] (fun n i wr => ∃ k : Nat, k ≤ 5 ∧ i = .int .i64 (k : Int) ∧ n = .int .i64 (B (boxTo (Gf.inv a) k)) ∧ Hid (∃ k, wr = w.drewN k)) (fun _ i _ => 5 - (intOf i).toNat)
  case atStart => exact ⟨0, by omega, rfl, rfl, k1, rfl⟩
  case round =>
    obtain ⟨k, hk, rfl, rfl, HW⟩ := hrel
    obtain ⟨r0, r1⟩ := B_bd (boxTo (Gf.inv a) k)
    by_cases hlt : k < 5
    · go_wp2_with fail
      refine (refTurn_pur _ k (by omega) (by omega)).go _ |>.mono ?_; rintro e w' ⟨rfl, k1, rfl⟩
      rw [Int.toNat_natCast]
      go_wp2_with fail
      go_roundw
      case rel =>
        refine ⟨k + 1, by omega, by go_num, rfl, ?_⟩
        exact drew_on HW _
      case measure => simp [intOf]; omega
    · go_wp2_with fail
      go_ret
      obtain rfl : k = 5 := by omega
      refine ⟨?_, HW.out⟩
      rw [boxTo_box]; rfl

end Go.Proofs.Ytepooocdpifcfaa
