/- Powers, inverses, turned bytes and the box, as the program's package gf and the reference reckon them. Powers of fewer than 2^40 factors; no other condition. -/
import Derived.Test.YtepooocdpifcfaaGfWalk
namespace Go.Proofs.Ytepooocdpifcfaa
open Go.RowKit
attribute [local go_sem] B_xor B_or B_and

theorem refMul_pur (a b : UInt8) : Pur Try.prog 47 #[.int .u8 (B a), .int .u8 (B b)] (.int .u8 (B (Gf.mul a b))) :=
  fun w => (refMul_same a b w).mono fun _ _ ⟨h, h'⟩ => ⟨h, 0, h'⟩

def PowAt (a : UInt8) (n : Nat) (x m o : Value) : Prop :=
  ∃ (a' o' : UInt8) (n' : Nat), n' ≤ n ∧ x = .int .u8 (B a') ∧ m = .int .u64 (n' : Int) ∧ o = .int .u8 (B o') ∧ Hid (Gf.mul o' (Gf.pow a' n') = Gf.pow a n)

set_option maxHeartbeats 1000000 in
theorem pow_pur (a : UInt8) (n : Int) (h0 : 0 ≤ n) (h1 : n ≤ 1099511627776) : Pur Try.prog 67 #[.int .u8 (B a), .int .u64 n] (.int .u8 (B (Gf.pow a n.toNat))) := by
  obtain ⟨n, rfl⟩ := Int.eq_ofNat_of_zero_le h0
  rw [Int.toNat_natCast]
  intro w
  go_enter Try.func67, Try.ntmps67
  go_wp2_with fail
  go_loopw [0, 1, 5] (fun x m o wr => PowAt a n x m o ∧ Hid (∃ k, wr = w.drewN k)) (fun _ m _ _ => (intOf m).toNat)
  case atStart => exact ⟨⟨a, 1, n, Nat.le_refl _, rfl, rfl, rfl, Gf.one_mul _⟩, 0, rfl⟩
  case round =>
    obtain ⟨⟨a', o', n', hn, rfl, rfl, rfl, HE⟩, HW⟩ := hrel
    by_cases hz : 0 < n'
    · by_cases ho : n' % 2 = 1
      · have HO : Hid _ := Lib.hid ho
        go_wp2_with fail
        refine (mul_pur _ _).go _ |>.mono ?_; rintro e w' ⟨rfl, k1, rfl⟩
        go_wp2_with fail
        refine (mul_pur _ _).go _ |>.mono ?_; rintro e w' ⟨rfl, k2, rfl⟩
        go_wp2_with fail
        go_roundw
        case rel =>
          refine ⟨⟨_, _, n' / 2, by omega, rfl, by go_num, rfl, ?_⟩, ?_⟩
          · exact Lib.hid ((Gf.pow_odd _ _ _ HO.out).trans HE.out)
          · exact drew_on HW _
        case measure => simp [intOf]; omega
      · have HO : Hid _ := Lib.hid ho
        go_wp2_with fail
        refine (mul_pur _ _).go _ |>.mono ?_; rintro e w' ⟨rfl, k2, rfl⟩
        go_wp2_with fail
        go_roundw
        case rel =>
          refine ⟨⟨_, _, n' / 2, by omega, rfl, by go_num, rfl, ?_⟩, ?_⟩
          · exact Lib.hid ((Gf.pow_even _ _ _ HO.out).trans HE.out)
          · exact drew_on HW _
        case measure => simp [intOf]; omega
    · go_wp2_with fail
      go_ret
      obtain rfl : n' = 0 := by omega
      refine ⟨?_, HW.out⟩
      rw [← HE.out]
      show _ = Ending.returned (.int .u8 (B (Gf.mul o' 1)))
      rw [Gf.mul_one]; rfl

theorem inv_pur (a : UInt8) : Pur Try.prog 64 #[.int .u8 (B a)] (.int .u8 (B (Gf.inv a))) := by
  intro w
  go_enter Try.func64, Try.ntmps64
  go_wp2_with fail
  refine (pow_pur a 254 (by omega) (by omega)).go _ |>.mono ?_; rintro e w' ⟨rfl, k1, rfl⟩
  go_wp2_with fail
  go_ret
  exact ⟨rfl, k1, rfl⟩

theorem turned_walk (a : UInt8) (n : Nat) (h : n < 8) : bits BinOp.or IntKind.u8 (B a * 2 ^ n % 256) (B a / 2 ^ (8 - n)) = B (Gf.rot a n) := by
  have h' : ∀ x < 256, ∀ n < 8, bits BinOp.or IntKind.u8 (B (UInt8.ofNat x) * 2 ^ n % 256) (B (UInt8.ofNat x) / 2 ^ (8 - n)) = B (Gf.rot (UInt8.ofNat x) n) := by decide +kernel
  have := h' a.toNat a.toNat_lt n h
  simpa using this

set_option maxHeartbeats 400000 in
theorem turned_pur (a : UInt8) (n : Int) (h0 : 0 ≤ n) (h1 : n < 8) : Pur Try.prog 65 #[.int .u8 (B a), .int .i64 n] (.int .u8 (B (Gf.rot a n.toNat))) := by
  obtain ⟨n, rfl⟩ := Int.eq_ofNat_of_zero_le h0
  rw [Int.toNat_natCast]
  intro w
  obtain ⟨a0, a1⟩ := B_bd a
  go_enter Try.func65, Try.ntmps65
  go_wp2_with fail
  go_quiet (fail)
  go_wp2_with fail
  go_ret
  exact ⟨by rw [← turned_walk a n (by omega)]; rfl, _, rfl⟩

set_option maxHeartbeats 400000 in
theorem unbox_pur (a : UInt8) : Pur Try.prog 57 #[.int .u8 (B a)] (.int .u8 (B (Gf.unbox a))) := by
  intro w
  have h5 : ∀ x : UInt8, bits BinOp.xor IntKind.u8 (B x) 5 = B (x ^^^ 5) := fun x => B_xor x 5
  go_enter Try.func57, Try.ntmps57
  go_wp2_with fail
  refine (turned_pur _ 1 (by omega) (by omega)).go _ |>.mono ?_; rintro e w' ⟨rfl, k2, rfl⟩
  go_wp2_with fail
  refine (turned_pur _ 3 (by omega) (by omega)).go _ |>.mono ?_; rintro e w' ⟨rfl, k3, rfl⟩
  go_wp2_with fail
  refine (turned_pur _ 6 (by omega) (by omega)).go _ |>.mono ?_; rintro e w' ⟨rfl, k4, rfl⟩
  go_wp2_with fail
  refine (inv_pur _).go _ |>.mono ?_; rintro e w' ⟨rfl, k5, rfl⟩
  go_wp2_with fail
  go_ret
  exact ⟨rfl, _, rfl⟩

end Go.Proofs.Ytepooocdpifcfaa
