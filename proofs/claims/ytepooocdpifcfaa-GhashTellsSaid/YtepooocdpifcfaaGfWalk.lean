/- The functions of the program's package gf, and of the reference's, return what the plain functions reckon. No condition on bytes. -/
import Derived.Test.YtepooocdpifcfaaRows
import Derived.Test.YtepooocdpifcfaaWords
namespace Go.Proofs.Ytepooocdpifcfaa
open Go.RowKit
attribute [local go_sem] B_xor B_or B_and

theorem dbl_walk (a : UInt8) : bits BinOp.xor IntKind.u8 (B a * 2 % 256) (bits BinOp.and IntKind.u8 27 (-(B a / 128) % 256)) = B (Gf.dbl a) := by
  revert a; apply Gf.all256; decide +kernel

set_option maxHeartbeats 400000 in
theorem double_same (a : UInt8) (w : World) :
    Calls Try.prog 69 #[.int .u8 (B a)] w fun e w' => e = .returned (.int .u8 (B (Gf.dbl a))) ∧ w' = w := by
  obtain ⟨h0, h1⟩ := B_bd a
  go_enter Try.func69, Try.ntmps69
  go_wp2_with fail
  go_ret
  exact ⟨by simp [dbl_walk], rfl⟩
theorem double_pur (a : UInt8) : Pur Try.prog 69 #[.int .u8 (B a)] (.int .u8 (B (Gf.dbl a))) :=
  fun w => (double_same a w).mono fun _ _ ⟨h, h'⟩ => ⟨h, 0, h'⟩

theorem mask_walk (b : UInt8) (i : Nat) (hi : i < 8) : (-bits BinOp.and IntKind.u8 (B b / 2 ^ i) 1 % 256 : Int) = B (Gf.mask b i) := by
  have h : ∀ n < 256, ∀ i < 8, (-bits BinOp.and IntKind.u8 (B (UInt8.ofNat n) / 2 ^ i) 1 % 256 : Int) = B (Gf.mask (UInt8.ofNat n) i) := by decide +kernel
  have := h b.toNat b.toNat_lt i hi
  simpa using this
theorem mulStep_walk (a b o : UInt8) (k : Nat) (hk : k < 8) :
    bits BinOp.xor IntKind.u8 (B (Gf.dbl o)) (bits BinOp.and IntKind.u8 (B a) (-bits BinOp.and IntKind.u8 (B b / 2 ^ (7 - k)) 1 % 256)) = B (Gf.mulStep a b (7 - k) o) := by
  rw [mask_walk b (7 - k) (by omega), B_and, B_xor]; rfl

set_option maxHeartbeats 400000 in
theorem mul_pur (a b : UInt8) : Pur Try.prog 68 #[.int .u8 (B a), .int .u8 (B b)] (.int .u8 (B (Gf.mul a b))) := by
  intro w
  obtain ⟨a0, a1⟩ := B_bd a
  obtain ⟨b0, b1⟩ := B_bd b
  go_enter Try.func68, Try.ntmps68
  go_wp2_with fail
  go_loopw [5, 6] (fun out i wr => ∃ k : Nat, k ≤ 8 ∧ i = .int .i64 (7 - (k : Int)) ∧ out = .int .u8 (B (Gf.mulTo a b k)) ∧ ∃ n, wr = w.drewN n) (fun _ i _ => (intOf i + 1).toNat)
  case atStart => exact ⟨0, by omega, rfl, rfl, 0, rfl⟩
  case round =>
    obtain ⟨k, hk, rfl, rfl, hw⟩ := hrel
    have HW := Lib.hid hw; clear hw
    by_cases hlt : k < 8
    · go_wp2_with fail
      go_quiet ((go_at_call 69; exact (double_pur _).quiet))
      go_wp2_with fail
      go_roundw
      case rel =>
        refine ⟨k + 1, by omega, by go_num, ?_, ?_⟩
        · rw [mulStep_walk a b _ k hlt]; rfl
        · obtain ⟨nd, rfl⟩ := HW.out; exact ⟨_, World.drewN_drewN _ _ _⟩
      case measure => simp [intOf]; omega
    · obtain rfl : k = 8 := by omega
      go_wp2_with fail
      go_ret
      exact ⟨rfl, HW.out⟩
/-- a number behind k halvings, behind a name of its own -/
def halved (n k : Nat) : Nat := n / 2 ^ k
theorem halved_zero (n : Nat) : halved n 0 = n := by simp [halved]
theorem halved_succ (n k : Nat) : halved n (k + 1) = halved n k / 2 := by simp [halved, Nat.div_div_eq_div_mul, Nat.pow_succ]
theorem halved_le (n k : Nat) : halved n k ≤ n := Nat.div_le_self _ _

theorem refTo_one (a b : UInt8) (k : Nat) (h : halved b.toNat k % 2 = 1) : Gf.refTo a b (k + 1) = Gf.refTo a b k ^^^ Gf.xt a k := by
  unfold halved at h; simp only [Gf.refTo]; rw [if_pos h]
theorem refTo_no (a b : UInt8) (k : Nat) (h : ¬ halved b.toNat k % 2 = 1) : Gf.refTo a b (k + 1) = Gf.refTo a b k := by
  unfold halved at h; simp only [Gf.refTo]; rw [if_neg h]; simp
theorem xor_walk64 (x y : UInt8) : bits BinOp.xor IntKind.i64 (B x) (B y) = B (x ^^^ y) := by
  have h : ∀ n < 256, ∀ m < 256, n ^^^ m < 256 := by
    intro n hn m hm; exact Nat.xor_lt_two_pow (n := 8) hn hm
  have hx := x.toNat_lt
  have hy := y.toNat_lt
  have hxy := h _ hx _ hy
  unfold B
  show IntKind.i64.wrap ((BitVec.ofInt 64 (x.toNat : Int) ^^^ BitVec.ofInt 64 (y.toNat : Int)).toNat : Int) = _
  have e : ∀ a : Nat, a < 256 → (BitVec.ofInt 64 (a : Int)).toNat = a := fun a ha => by
    rw [BitVec.ofInt_natCast, BitVec.toNat_ofNat]; exact Nat.mod_eq_of_lt (by omega)
  rw [BitVec.toNat_xor, e _ hx, e _ hy, UInt8.toNat_xor]
  exact IntWalk.i64_in _ (by omega)
theorem dbl_low (x : UInt8) (h : 2 * B x ≤ 255) : 2 * B x = B (Gf.dbl x) := by
  have : ∀ n < 256, 2 * B (UInt8.ofNat n) ≤ 255 → 2 * B (UInt8.ofNat n) = B (Gf.dbl (UInt8.ofNat n)) := by decide +kernel
  have := this x.toNat x.toNat_lt
  simp only [UInt8.ofNat_toNat] at this
  exact this h
theorem dbl_high (x : UInt8) (h : 255 < 2 * B x) : bits BinOp.xor IntKind.i64 (2 * B x) 283 = B (Gf.dbl x) := by
  have : ∀ n < 256, 255 < 2 * B (UInt8.ofNat n) → bits BinOp.xor IntKind.i64 (2 * B (UInt8.ofNat n)) 283 = B (Gf.dbl (UInt8.ofNat n)) := by decide +kernel
  have := this x.toNat x.toNat_lt
  simp only [UInt8.ofNat_toNat] at this
  exact this h

set_option maxHeartbeats 1000000 in
theorem refMul_same (a b : UInt8) (w : World) :
    Calls Try.prog 47 #[.int .u8 (B a), .int .u8 (B b)] w fun e w' => e = .returned (.int .u8 (B (Gf.mul a b))) ∧ w' = w := by
  obtain ⟨a0, a1⟩ := B_bd a
  obtain ⟨b0, b1⟩ := B_bd b
  go_enter Try.func47, Try.ntmps47
  go_wp2_with fail
  go_loop [5, 6, 7, 8] (fun n x l i => ∃ k : Nat, k ≤ 8 ∧ i = .int .i64 (k : Int) ∧ n = .int .i64 (B (Gf.refTo a b k)) ∧ x = .int .i64 (B (Gf.xt a k)) ∧ l = .int .i64 ((halved b.toNat k : Nat) : Int)) (fun _ _ _ i => (8 - intOf i).toNat)
  case atStart => exact ⟨0, by omega, rfl, rfl, rfl, by rw [halved_zero]; rfl⟩
  case round =>
    obtain ⟨k, hk, rfl, rfl, rfl, rfl⟩ := hrel
    by_cases hlt : k < 8
    · obtain ⟨x0, x1⟩ := B_bd (Gf.xt a k)
      have hs := halved_succ b.toNat k
      have HS := Lib.hid hs; clear hs
      have hq : halved b.toNat k ≤ 255 := Nat.le_trans (halved_le _ _) (by have := b.toNat_lt; omega)
      by_cases hb : halved b.toNat k % 2 = 1
      all_goals
        have HB : Hid _ := Lib.hid hb
        by_cases ht : 255 < 2 * B (Gf.xt a k)
        all_goals
          go_wp2_with fail
          go_round
          case rel =>
            refine ⟨k + 1, by omega, by go_num, ?_, ?_, ?_⟩
            · first | (rw [refTo_one _ _ _ HB.out, xor_walk64]) | (rw [refTo_no _ _ _ HB.out])
            · simp only [Gf.xt]
              first | (rw [dbl_high _ (by omega)]) | (rw [dbl_low _ (by omega)])
            · rw [HS.out]; rfl
          case measure => simp [intOf]; omega
    · obtain ⟨r0, r1⟩ := B_bd (Gf.refTo a b k)
      go_wp2_with fail
      go_ret
      obtain rfl : k = 8 := by omega
      rw [← Gf.refTo_mul]
      exact ⟨rfl, rfl⟩

end Go.Proofs.Ytepooocdpifcfaa
