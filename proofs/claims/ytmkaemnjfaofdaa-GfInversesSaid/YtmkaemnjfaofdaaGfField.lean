/- GfField returns true at every three bytes. No condition. -/
import Derived.Test.YtmkaemnjfaofdaaGfAwake
namespace Go.Proofs.Ytmkaemnjfaofdaa
open Go.RowKit
attribute [local go_sem] B_xor B_or B_and

theorem Pur.eq {P : Program} {f : FuncId} {args : Array Value} {v v' : Value} (h : Pur P f args v) (e : v = v') : Pur P f args v' := e ▸ h
theorem mul_at (x y : Int) (a b : UInt8) (hx : x = B a) (hy : y = B b) : Pur Try.prog 8 #[.int .u8 x, .int .u8 y] (.int .u8 (B (Gf.mul a b))) := by
  subst hx; subst hy; exact mul_pur a b
theorem B_one : (1 : Int) = B 1 := rfl
theorem B_zero : (0 : Int) = B 0 := rfl

set_option maxRecDepth 100000 in
set_option maxHeartbeats 1000000 in
theorem gfField_walk (a b c : UInt8) (w : World) : Calls Try.prog 5 #[.int .u8 (B a), .int .u8 (B b), .int .u8 (B c)] w fun e w' => e = .returned (.bool true) ∧ Below w.heap.size w w' := by
  go_enter Try.func5, Try.ntmps5
  go_wp2_with fail
  refine ((mul_pur a b).go _).mono ?_; rintro e w' ⟨rfl, k1, rfl⟩
  go_wp2_with fail
  refine (((mul_pur b a).eq (by rw [Gf.mul_comm])).go _).mono ?_; rintro e w' ⟨rfl, k2, rfl⟩
  go_wp2_with fail
  refine ((mul_pur a b).go _).mono ?_; rintro e w' ⟨rfl, k3, rfl⟩
  go_wp2_with fail
  refine ((mul_pur (Gf.mul a b) c).go _).mono ?_; rintro e w' ⟨rfl, k4, rfl⟩
  go_wp2_with fail
  refine ((mul_pur b c).go _).mono ?_; rintro e w' ⟨rfl, k5, rfl⟩
  go_wp2_with fail
  refine (((mul_pur a (Gf.mul b c)).eq (by rw [← Gf.mul_assoc])).go _).mono ?_; rintro e w' ⟨rfl, k6, rfl⟩
  go_wp2_with fail
  refine (((mul_pur a (b ^^^ c)).eq (by rw [Gf.mul_xor_right])).go _).mono ?_; rintro e w' ⟨rfl, k7, rfl⟩
  go_wp2_with fail
  refine ((mul_pur a b).go _).mono ?_; rintro e w' ⟨rfl, k8, rfl⟩
  go_wp2_with fail
  refine ((mul_pur a c).go _).mono ?_; rintro e w' ⟨rfl, k9, rfl⟩
  go_wp2_with fail
  refine (((mul_at _ 1 a 1 rfl B_one).eq (by rw [Gf.mul_one])).go _).mono ?_; rintro e w' ⟨rfl, k10, rfl⟩
  go_wp2_with fail
  refine (((mul_at _ 0 a 0 rfl B_zero).eq (by rw [Gf.mul_zero, ← B_zero])).go _).mono ?_; rintro e w' ⟨rfl, k11, rfl⟩
  go_wp2_with fail
  refine (awake_any _).mono ?_; rintro e w1 ⟨rfl, hw⟩
  have HW := Lib.hid hw; clear hw
  go_wp2_with fail
  go_ret
  refine ⟨rfl, ?_⟩
  have h1 := HW.out
  simp only [World.heap_drewN] at h1
  exact (drewN_below w _).trans h1

end Go.Proofs.Ytmkaemnjfaofdaa
