/- GfInverses returns true at every two bytes and every two numbers of 32 bits. No condition. -/
import Derived.Test.YtmkaemnjfaofdaaGfField
namespace Go.Proofs.Ytmkaemnjfaofdaa
open Go.RowKit
attribute [local go_sem] B_xor B_or B_and

theorem toNat_sum (x y : Int) (hx : 0 ≤ x) (hy : 0 ≤ y) : (x + y).toNat = x.toNat + y.toNat := by omega

set_option maxRecDepth 100000 in
set_option maxHeartbeats 1000000 in
theorem gfInverses_walk0 (a b : UInt8) (x y : Int) (hx : 0 ≤ x ∧ x ≤ 4294967295) (hy : 0 ≤ y ∧ y ≤ 4294967295) (w : World) : Calls Try.prog 6 #[.int .u8 (B a), .int .u8 (B b), .agg #[.int .u32 x, .int .u32 y]] w fun e w' => e = .returned (.bool true) ∧ Below w.heap.size w w' := by
  obtain ⟨x0, x1⟩ := hx
  obtain ⟨y0, y1⟩ := hy
  by_cases ha : a = 0
  all_goals
    first
      | (have hz : (B a != 0) = true := by rw [bne_iff_ne]; exact fun h => ha (B_inj (by rw [h]; rfl))
         have tok : True := trivial)
      | (have hz : (B a != 0) = false := by rw [ha]; rfl)
    have HA := Lib.hid ha; clear ha
    go_enter Try.func6, Try.ntmps6
    go_wp2_with fail
    refine ((inv_pur a).go _).mono ?_; rintro e w' ⟨rfl, k1, rfl⟩
    go_wp2_with fail
    refine (((inv_pur (Gf.inv a)).eq (by rw [Gf.inv_inv])).go _).mono ?_; rintro e w' ⟨rfl, k2, rfl⟩
    go_wp2_with fail
    refine ((mul_pur a b).go _).mono ?_; rintro e w' ⟨rfl, k3, rfl⟩
    go_wp2_with fail
    refine (((inv_pur (Gf.mul a b)).eq (by rw [Gf.inv_mul])).go _).mono ?_; rintro e w' ⟨rfl, k4, rfl⟩
    go_wp2_with fail
    refine ((inv_pur a).go _).mono ?_; rintro e w' ⟨rfl, k5, rfl⟩
    go_wp2_with fail
    refine ((inv_pur b).go _).mono ?_; rintro e w' ⟨rfl, k6, rfl⟩
    go_wp2_with fail
    refine ((mul_pur _ _).go _).mono ?_; rintro e w' ⟨rfl, k7, rfl⟩
    go_wp2_with fail
    first
      | (clear tok
         refine ((inv_pur a).go _).mono ?_; rintro e w' ⟨rfl, k8, rfl⟩
         go_wp2_with fail
         refine (((mul_pur a (Gf.inv a)).eq (by rw [Gf.mul_inv a HA.out, ← B_one])).go _).mono ?_; rintro e w' ⟨rfl, k9, rfl⟩
         go_wp2_with fail
         refine (((pow_pur a 255 (by omega) (by omega)).eq (by rw [show (255 : Int).toNat = 255 from rfl, Gf.pow255 a HA.out, ← B_one])).go _).mono ?_; rintro e w' ⟨rfl, k10, rfl⟩
         go_wp2_with fail
         refine ((pow_pur a 254 (by omega) (by omega)).go _).mono ?_; rintro e w' ⟨rfl, k11, rfl⟩
         rw [show Gf.pow a (254 : Int).toNat = Gf.inv a from rfl]
         go_wp2_with fail
         refine ((inv_pur a).go _).mono ?_; rintro e w' ⟨rfl, k12, rfl⟩
         go_wp2_with fail)
      | skip
    go_quiet (fail)
    go_wp2_with fail
    refine (((pow_pur a (x + y) (by omega) (by omega)).eq (by rw [toNat_sum x y x0 y0, Gf.pow_add])).go _).mono ?_; rintro e w' ⟨rfl, j1, rfl⟩
    go_wp2_with fail
    refine ((pow_pur a x (by omega) (by omega)).go _).mono ?_; rintro e w' ⟨rfl, j2, rfl⟩
    go_wp2_with fail
    refine ((pow_pur a y (by omega) (by omega)).go _).mono ?_; rintro e w' ⟨rfl, j3, rfl⟩
    go_wp2_with fail
    refine ((mul_pur _ _).go _).mono ?_; rintro e w' ⟨rfl, j4, rfl⟩
    go_wp2_with fail
    refine ((mul_pur a b).go _).mono ?_; rintro e w' ⟨rfl, j5, rfl⟩
    go_wp2_with fail
    refine (((pow_pur (Gf.mul a b) x (by omega) (by omega)).eq (by rw [Gf.mul_pow])).go _).mono ?_; rintro e w' ⟨rfl, j6, rfl⟩
    go_wp2_with fail
    refine ((pow_pur a x (by omega) (by omega)).go _).mono ?_; rintro e w' ⟨rfl, j7, rfl⟩
    go_wp2_with fail
    refine ((pow_pur b x (by omega) (by omega)).go _).mono ?_; rintro e w' ⟨rfl, j8, rfl⟩
    go_wp2_with fail
    refine ((mul_pur _ _).go _).mono ?_; rintro e w' ⟨rfl, j9, rfl⟩
    go_wp2_with fail
    refine (awake_any _).mono ?_; rintro e w1 ⟨rfl, hw⟩
    have HW := Lib.hid hw; clear hw
    go_wp2_with fail
    go_ret
    refine ⟨rfl, ?_⟩
    have h1 := HW.out
    refine Below.trans ?_ (h1.mono ?_)
    · repeat (first | exact Below.refl _ _ | refine below_drewN ?_ | refine Below.alloc ?_ (by (try simp only [World.size_alloc]); omega) _)
    · simp

theorem gfInverses_walk (a b : UInt8) (n : Int × Int) (hn : (0 ≤ n.1 ∧ n.1 ≤ 4294967295) ∧ 0 ≤ n.2 ∧ n.2 ≤ 4294967295) (w : World) : Calls Try.prog 6 #[.int .u8 (B a), .int .u8 (B b), .agg #[.int .u32 n.1, .int .u32 n.2]] w fun e w' => e = .returned (.bool true) ∧ Below w.heap.size w w' :=
  gfInverses_walk0 a b n.1 n.2 hn.1 hn.2 w

end Go.Proofs.Ytmkaemnjfaofdaa
