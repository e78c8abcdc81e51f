/- An iv, what a text belongs to, and a text, as they come in. No condition. -/
import Derived.Test.YtklcgacbmphjcaaGcLaws
import Derived.Test.YtklcgacbmphjcaaMGround
import Derived.Lib.SmallJoins
namespace Go.Proofs.Ytklcgacbmphjcaa
open Go.ChangeShapes Go.WideShapes Go.ChangeAt Go.RowKit
set_option maxRecDepth 100000 in
theorem open_tx {H : Type} {enc : TypeId × Value → H} {W : World} {r : Reach} {b0 b : Nat} {sp : Nat → Bool} {hd : Bool} {v : Value} {d : DataW H} {ps : List MemPlace} (hval : Value.okWide Try.prog W r b0 52 v)
    (h : DataW.Trod enc Try.prog W b sp hd 52 v d ps) : ∃ x y z : ByteArray, v = .agg (tx x y z) := by
  obtain ⟨v0, v1, v2, y0, y1, y2, n, rfl, _, _, h0, h1, h2⟩ := Joins.open_agg3 Try.underlying52 (by kernel_rfl) (by kernel_rfl) hval h
  obtain ⟨x, hx, _, _⟩ := DataW.trod_string Try.underlying9 h0
  obtain ⟨y, hy, _, _⟩ := DataW.trod_string Try.underlying9 h1
  obtain ⟨z, hz, _, _⟩ := DataW.trod_string Try.underlying9 h2
  simp only [List.cons.injEq, and_true] at hx hy hz
  subst hx; subst hy; subst hz
  exact ⟨x, y, z, rfl⟩
end Go.Proofs.Ytklcgacbmphjcaa
