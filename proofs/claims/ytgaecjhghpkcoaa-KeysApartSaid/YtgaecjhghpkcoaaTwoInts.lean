/- Two numbers in an array, opened. No condition. -/
import Derived.Test.YtgaecjhghpkcoaaMGround
namespace Go.Proofs.Ytgaecjhghpkcoaa
open Go.ChangeShapes Go.WideShapes Go.ChangeAt Go.RowKit

theorem open_i64s {H : Type} {enc : TypeId × Value → H} {P : Program} {W : World} {r : Reach} {b0 b : Nat} {sp : Nat → Bool} {hd : Bool} {t e : TypeId} {v : Value} {d : DataW H} {ps : List MemPlace} (ht : P.underlying t = some (.array 2 e)) (hc : P.cellsOf t = 2) (he : P.underlying e = some (.int .i64)) (hce : P.cellsOf e = 1)
    (hval : Value.okWide P W r b0 t v) (h : DataW.Trod enc P W b sp hd t v d ps) : ∃ x y : Int, v = .agg #[.int .i64 x, .int .i64 y] := by
  unfold Value.okWide at hval
  rw [ht] at hval
  obtain ⟨cs, rfl, hsz, _⟩ := hval
  obtain ⟨fuel, hf⟩ := h
  obtain ⟨xs, m, _, _, hlen, hxs, hel⟩ := DataW.trod_array ht hf
  rw [hc] at hsz
  have e0 := hel 0 (by omega)
  have e1 := hel 1 (by omega)
  rw [hce] at e0 e1
  rw [List.getElem?_eq_getElem (by omega)] at e0 e1
  obtain ⟨x, hx, _, _⟩ := DataW.trod_int he e0
  obtain ⟨y, hy, _, _⟩ := DataW.trod_int he e1
  refine ⟨x, y, ?_⟩
  congr 1
  match cs, hsz with
  | ⟨[c0, c1]⟩, _ =>
    simp [Value.cells] at hx hy
    rw [hx, hy]
end Go.Proofs.Ytgaecjhghpkcoaa
