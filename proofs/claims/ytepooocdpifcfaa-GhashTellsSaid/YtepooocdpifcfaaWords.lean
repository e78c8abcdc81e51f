/- Bytes as the walk's integers: a byte is written 'B x' in a slot; what the machine's operations on bytes make of it. No condition. -/
import Derived.Test.YtepooocdpifcfaaGfPlain
import Derived.WalkKit
import Derived.WalkSpells
import Derived.WalkLawsBesides
import Derived.Deep.QuietTactic
import Derived.BigQuiet
import Derived.Lib.Hide
namespace Go.Proofs.Ytepooocdpifcfaa
open Go.RowKit

/-- a byte as an integer -/
def B (x : UInt8) : Int := (x.toNat : Int)
theorem B_bd (x : UInt8) : 0 ≤ B x ∧ B x ≤ 255 := by
  have := x.toNat_lt; unfold B; omega
theorem B_inj {x y : UInt8} (h : B x = B y) : x = y := by
  apply UInt8.toNat_inj.1; unfold B at h; omega
theorem B_eq (x y : UInt8) : (B x = B y) = (x = y) := propext ⟨B_inj, fun h => by rw [h]⟩
theorem B_xor (x y : UInt8) : bits BinOp.xor IntKind.u8 (B x) (B y) = B (x ^^^ y) := by
  unfold B
  rw [u8_xor_nat _ _ x.toNat_lt y.toNat_lt, UInt8.toNat_xor]
theorem B_or (x y : UInt8) : bits BinOp.or IntKind.u8 (B x) (B y) = B (x ||| y) := by
  unfold B
  rw [u8_or_nat _ _ x.toNat_lt y.toNat_lt, UInt8.toNat_or]
theorem B_and (x y : UInt8) : bits BinOp.and IntKind.u8 (B x) (B y) = B (x &&& y) := by
  unfold B
  rw [u8_and_nat _ _ x.toNat_lt y.toNat_lt, UInt8.toNat_and]
attribute [local go_sem] B_xor B_or B_and
theorem B_lit (x : UInt8) (n : Int) (h : (x.toNat : Int) = n) : n = B x := h.symm

/-- a call that only reckons: it returns v, and the world has only been drawn from -/
def Pur (P : Program) (f : FuncId) (args : Array Value) (v : Value) : Prop :=
  ∀ w, Calls P f args w fun e w' => e = .returned v ∧ ∃ n, w' = w.drewN n
theorem Pur.quiet {P : Program} {f : FuncId} {args : Array Value} {v : Value} (h : Pur P f args v) {w : World} {n : Nat} :
    Calls P f args (w.drewN n) fun e w'' => e = .returned v ∧ ∃ m, w'' = w.drewN m := Calls.quiet_of (h _)
/-- the same, at an ending that is spelt by its own equations -/
theorem Pur.go {P : Program} {f : FuncId} {args : Array Value} {v : Value} (h : Pur P f args v) (w : World) :
    Calls P f args w fun e w' => e = .returned v ∧ ∃ n, w.drewN n = w' := (h w).mono fun _ _ ⟨a, n, b⟩ => ⟨a, n, b.symm⟩

/-- draws behind draws -/
theorem drew_on {w wr : World} (h : Hid (∃ k, wr = w.drewN k)) (n : Nat) : Hid (∃ k, wr.drewN n = w.drewN k) := by
  obtain ⟨k, rfl⟩ := h.out; exact ⟨_, World.drewN_drewN _ _ _⟩
theorem drew_refl (w : World) : Hid (∃ k, w = w.drewN k) := ⟨0, rfl⟩

theorem drewN_below (w : World) (n : Nat) : Below w.heap.size w (w.drewN n) := ⟨rfl, rfl, rfl, Nat.le_refl _, fun _ _ => rfl⟩

end Go.Proofs.Ytepooocdpifcfaa
