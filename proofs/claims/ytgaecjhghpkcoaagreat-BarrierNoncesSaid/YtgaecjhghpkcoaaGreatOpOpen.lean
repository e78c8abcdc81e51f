/- What is done, one or a list of it, as it comes in. No condition. -/
import Derived.Test.YtgaecjhghpkcoaaGreatMBa
import Derived.Test.YtgaecjhghpkcoaaGreatLaw
import Derived.Lib.SmallJoins
import Derived.Deep.Slices
namespace Go.Proofs.YtgaecjhghpkcoaaGreat
open Go.ChangeShapes Go.WideShapes Go.ChangeAt Go.RowKit Go.Deep

section
variable {H : Type} {enc : TypeId × Value → H} {W : World} {b : Nat} {sp : Nat → Bool} {hd : Bool}
theorem opByte_of {k : IntKind} {v : Value} {n : Int} (hk : k = .u8) (hv : [v] = [.int k n]) (hw : (Lit.int k n).wf = true) : ∃ x : UInt8, v = .int .u8 (B x) := by
  subst hk
  have hn : 0 ≤ n ∧ n ≤ 255 := by
    simp [Lit.wf, IntKind.min, IntKind.max, IntKind.signed, IntKind.bits] at hw
    omega
  refine ⟨UInt8.ofNat n.toNat, ?_⟩
  rw [List.cons.inj hv |>.1]
  congr 1
  unfold B
  rw [UInt8.toNat_ofNat_of_lt' (by have : UInt8.size = 256 := rfl; omega)]
  omega
theorem opWord_of {k : IntKind} {v : Value} {n : Int} (hk : k = .u64) (hv : [v] = [.int k n]) (hw : (Lit.int k n).wf = true) : ∃ x : Nat, v = .int .u64 (x : Int) ∧ x < 18446744073709551616 := by
  subst hk
  have hn : 0 ≤ n ∧ n ≤ 18446744073709551615 := by
    simp [Lit.wf, IntKind.min, IntKind.max, IntKind.signed, IntKind.bits] at hw
    omega
  refine ⟨n.toNat, ?_, by omega⟩
  rw [List.cons.inj hv |>.1]
  congr 1
  omega
set_option maxRecDepth 100000 in
theorem op_cells {fuel : Nat} {cs : List Value} {x : DataW H × List MemPlace} (h : DataW.trod enc Tryz.prog W b sp hd fuel 40 cs = some x) : ∃ o : OpR, cs = (opC o).toList ∧ o.e < 18446744073709551616 ∧ o.n < 18446744073709551616 := by
  obtain ⟨xs, n, _, rfl, hl, hlen, hf⟩ := DataW.trod_struct Tryz.underlying40 h
  have hl6 : cs.length = 6 := hl.trans (by kernel_rfl)
  match cs, hl6 with
  | [c0, c1, c2, c3, c4, c5], _ =>
    match xs, hlen with
    | [y0, y1, y2, y3, y4], _ =>
      have g0 : DataW.trod enc Tryz.prog W b sp hd n 5 [c0] = some y0 := hf 0 _ rfl
      have g1 : DataW.trod enc Tryz.prog W b sp hd n 9 [c1] = some y1 := hf 1 _ rfl
      have g2 : DataW.trod enc Tryz.prog W b sp hd n 9 [c2] = some y2 := hf 2 _ rfl
      have g3 : DataW.trod enc Tryz.prog W b sp hd n 5 [c3] = some y3 := hf 3 _ rfl
      have g4 : DataW.trod enc Tryz.prog W b sp hd n 35 [c4, c5] = some y4 := hf 4 _ rfl
      obtain ⟨z0, z1, n', _, _, k0, k1⟩ := trod_struct2 Tryz.underlying35 g4
      have k0' : DataW.trod enc Tryz.prog W b sp hd n' 33 [c4] = some z0 := k0
      have k1' : DataW.trod enc Tryz.prog W b sp hd n' 33 [c5] = some z1 := k1
      obtain ⟨a0, e0, _, w0⟩ := DataW.trod_int Tryz.underlying5 g0
      obtain ⟨a3, e3, _, w3⟩ := DataW.trod_int Tryz.underlying5 g3
      obtain ⟨a4, e4, _, w4⟩ := DataW.trod_int Tryz.underlying33 k0'
      obtain ⟨a5, e5, _, w5⟩ := DataW.trod_int Tryz.underlying33 k1'
      obtain ⟨s1, e1, _, _⟩ := DataW.trod_string Tryz.underlying9 g1
      obtain ⟨s2, e2, _, _⟩ := DataW.trod_string Tryz.underlying9 g2
      obtain ⟨u0, rfl⟩ := opByte_of rfl e0 w0
      obtain ⟨u3, rfl⟩ := opByte_of rfl e3 w3
      obtain ⟨u4, rfl, l4⟩ := opWord_of rfl e4 w4
      obtain ⟨u5, rfl, l5⟩ := opWord_of rfl e5 w5
      obtain rfl := (List.cons.inj e1).1
      obtain rfl := (List.cons.inj e2).1
      exact ⟨⟨u0, s1, s2, u3, u4, u5⟩, rfl, l4, l5⟩
set_option maxRecDepth 100000 in
theorem open_op {r : Reach} {b0 : Nat} {v : Value} {d : DataW H} {ps : List MemPlace} (hval : Value.okWide Tryz.prog W r b0 40 v) (h : DataW.Trod enc Tryz.prog W b sp hd 40 v d ps) : ∃ o : OpR, v = .agg (opC o) ∧ o.e < 18446744073709551616 ∧ o.n < 18446744073709551616 := by
  obtain ⟨cs, rfl, _⟩ := okWide_struct Tryz.underlying40 hval
  obtain ⟨fuel, hf⟩ := h
  obtain ⟨o, h1, h2, h3⟩ := op_cells hf
  refine ⟨o, ?_, h2, h3⟩
  have : cs.toList = (opC o).toList := h1
  rw [Array.toList_inj.1 this]
theorem cell_some {w : World} {a : Addr} {v : Value} (h : w.cell? a = some v) : a.block < w.heap.size ∧ a.spot = none := by
  unfold World.cell? at h
  constructor
  · rcases Nat.lt_or_ge a.block w.heap.size with h1 | h1
    · exact h1
    · rw [Array.getElem?_eq_none h1] at h
      cases h
  · split at h
    · split at h
      · cases h
      · rename_i hs
        simpa using hs
    · cases h
theorem add_at (a : Addr) (j : Nat) (h : a.spot = none) : a.add j = ⟨a.block, a.off + j, none⟩ := by
  obtain ⟨bl, of, sp⟩ := a
  unfold Addr.add
  split
  · rename_i h0; subst h0; simp only at h; subst h; rfl
  · rfl
set_option maxRecDepth 100000 in
theorem open_ops {r : Reach} {b0 : Nat} {v : Value} {d : DataW H} {ps : List MemPlace} (hval : Value.okWide Tryz.prog W r b0 23 v) (h : DataW.Trod enc Tryz.prog W b sp hd 23 v d ps) : ∃ (M : Nat) (o : Nat → OpR), M ≤ maxLen ∧ OpsAt W v M o ∧ ∀ i, (o i).e < 18446744073709551616 ∧ (o i).n < 18446744073709551616 := by
  obtain ⟨a, len, cap, rfl⟩ := okWide_slice Tryz.underlying23 hval
  obtain ⟨fuel, hf⟩ := h
  rcases open_slice Tryz.underlying23 hf with ⟨h1, _⟩ | ⟨a', len', cap', m, k, D, Pl, h1, _, hl, hm, hmm, _, hx⟩
  · simp only [Value.cells, List.cons.injEq, and_true] at h1
    injection h1 with e1 e2 e3
    subst e1 e2 e3
    exact ⟨0, fun _ => ⟨0, ⟨#[]⟩, ⟨#[]⟩, 0, 0, 0⟩, Nat.zero_le _, ⟨none, 0, rfl, fun i hi => by omega⟩, fun _ => ⟨by show 0 < _; omega, by show 0 < _; omega⟩⟩
  · have h1' : (Value.slice a len cap) = .slice (some a') len' cap' := by simpa [Value.cells] using h1
    injection h1' with e1 e2 e3
    subst e1 e2 e3
    have hlm : len ≤ m := by rw [hmm]; split <;> omega
    have hce : Tryz.prog.cellsOf 40 = 6 := by kernel_rfl
    have : ∀ i, ∃ o : OpR, (o.e < 18446744073709551616 ∧ o.n < 18446744073709551616) ∧ (i < len → (a'.add (i * 6)).block < W.heap.size ∧ (a'.add (i * 6)).spot = none ∧ ∀ j, j < 6 → W.cell? ⟨(a'.add (i * 6)).block, (a'.add (i * 6)).off + j, none⟩ = (opC o)[j]?) := fun i => by
      by_cases hi : i < len
      · obtain ⟨cs, hc, hd⟩ := hx i (by omega)
        rw [hce] at hc
        obtain ⟨_, hcl, hcs⟩ := World.cells?_some hc
        obtain ⟨o, h1, h2, h3⟩ := op_cells hd
        refine ⟨o, ⟨h2, h3⟩, fun _ => ?_⟩
        have hat : ∀ j, j < 6 → W.cell? ((a'.add (i * 6)).add j) = (opC o)[j]? := fun j hj => by
          rw [hcs j hj, h1, Array.getElem?_toList]
        have h0 := hat 0 (by omega)
        rw [opC_get0] at h0
        have e0 : (a'.add (i * 6)).add 0 = a'.add (i * 6) := by simp [Addr.add]
        rw [e0] at h0
        obtain ⟨k1, k2⟩ := cell_some h0
        exact ⟨k1, k2, fun j hj => by rw [← add_at _ j k2]; exact hat j hj⟩
      · exact ⟨⟨0, ⟨#[]⟩, ⟨#[]⟩, 0, 0, 0⟩, ⟨by show 0 < _; omega, by show 0 < _; omega⟩, fun h => (hi h).elim⟩
    refine ⟨len, fun i => Classical.choose (this i), by omega, ⟨some a', cap, rfl, fun i hi => ⟨a', rfl, ?_⟩⟩, fun i => (Classical.choose_spec (this i)).1⟩
    exact (Classical.choose_spec (this i)).2 hi
end
end Go.Proofs.YtgaecjhghpkcoaaGreat
