/- A list of blocks that came in, opened. No condition. -/
import Derived.Test.YtgaecjhghpkcoaaKeTurn
import Derived.Test.YtgaecjhghpkcoaaMGround
namespace Go.Proofs.Ytgaecjhghpkcoaa
open Go.ChangeShapes Go.WideShapes Go.ChangeAt Go.RowKit Go.Deep

theorem cell_lt {w : World} {a : Addr} {v : Value} (h : w.cell? a = some v) : a.block < w.heap.size := by
  rcases Nat.lt_or_ge a.block w.heap.size with h1 | h1
  · exact h1
  · unfold World.cell? at h
    rw [Array.getElem?_eq_none h1] at h
    cases h
theorem open_more {H : Type} {enc : TypeId × Value → H} {P : Program} {W : World} {r : Reach} {b0 b : Nat} {sp : Nat → Bool} {hd : Bool} {t e : TypeId} {v : Value} {d : DataW H} {ps : List MemPlace} (ht : P.underlying t = some (.slice e)) (hce : P.cellsOf e = 16)
    (hall : ∀ (fuel : Nat) (cs : List Value) (x : DataW H × List MemPlace), DataW.trod enc P W b sp hd fuel e cs = some x → Bytes cs) (hval : Value.okWide P W r b0 t v) (h : DataW.Trod enc P W b sp hd t v d ps) : ∃ M f, M ≤ maxLen ∧ More W v M f := by
  obtain ⟨a, len, cap, rfl⟩ := okWide_slice ht hval
  obtain ⟨fuel, hf⟩ := h
  rcases open_slice ht hf with ⟨h1, _⟩ | ⟨a', len', cap', m, k, D, Pl, h1, _, hl, hm, hmm, _, hx⟩
  · simp only [Value.cells, List.cons.injEq, and_true] at h1
    injection h1 with e1 e2 e3
    subst e1 e2 e3
    exact ⟨0, fun _ _ => 0, Nat.zero_le _, none, 0, rfl, fun i hi => by omega⟩
  · have h1' : (Value.slice a len cap) = .slice (some a') len' cap' := by simpa [Value.cells] using h1
    injection h1' with e1 e2 e3
    subst e1 e2 e3
    have hlm : len ≤ m := by rw [hmm]; split <;> omega
    have : ∀ i, ∃ f : Nat → UInt8, i < len → a'.block < W.heap.size ∧ ∀ j, j < 16 → W.cell? ((a'.add (i * 16)).add j) = some (.int .u8 (B (f j))) := fun i => by
      by_cases hi : i < len
      · obtain ⟨cs, hc, hd⟩ := hx i (by omega)
        rw [hce] at hc
        obtain ⟨_, hcl, hcs⟩ := World.cells?_some hc
        obtain ⟨f, hf⟩ := blk_of_bytes cs.toArray (by simpa using hall _ _ _ hd)
        have hat : ∀ j, j < 16 → W.cell? ((a'.add (i * 16)).add j) = some (.int .u8 (B (f j))) := fun j hj => by
          rw [hcs j hj]
          have h2 : cs.toArray[j]? = some (.int .u8 (B (f j))) := by rw [hf, blk_get _ _ _ (by simp; omega)]
          simpa using h2
        refine ⟨f, fun _ => ⟨?_, hat⟩⟩
        have := cell_lt (hat 0 (by omega))
        rwa [add_add, add_add] at this
      · exact ⟨fun _ => 0, fun h => (hi h).elim⟩
    refine ⟨len, fun i => Classical.choose (this i), by omega, some a', cap, rfl, fun i hi => ⟨a', rfl, ?_⟩⟩
    exact Classical.choose_spec (this i) hi
end Go.Proofs.Ytgaecjhghpkcoaa
