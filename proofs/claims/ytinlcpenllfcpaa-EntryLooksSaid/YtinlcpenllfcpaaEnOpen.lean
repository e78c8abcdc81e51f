/- A node as it comes in. No condition. -/
import Derived.Test.YtinlcpenllfcpaaEnOver
import Derived.Test.YtinlcpenllfcpaaLaw
import Derived.Lib.SmallJoins
import Derived.Deep.Slices
namespace Go.Proofs.Ytinlcpenllfcpaa
open Go.ChangeShapes Go.WideShapes Go.ChangeAt Go.RowKit Go.Deep

section
variable {H : Type} {enc : TypeId × Value → H} {W : World} {b : Nat} {sp : Nat → Bool} {hd : Bool}
theorem ndByte_of {k : IntKind} {v : Value} {n : Int} (hk : k = .u8) (hv : [v] = [.int k n]) (hw : (Lit.int k n).wf = true) : ∃ x : Nat, v = .int .u8 (x : Int) ∧ x < 256 := by
  subst hk
  have hn : 0 ≤ n ∧ n ≤ 255 := by
    simp [Lit.wf, IntKind.min, IntKind.max, IntKind.signed, IntKind.bits] at hw
    omega
  refine ⟨n.toNat, ?_, by omega⟩
  rw [List.cons.inj hv |>.1]
  congr 1
  omega
theorem ndWord_of {k : IntKind} {v : Value} {n : Int} (hk : k = .u64) (hv : [v] = [.int k n]) (hw : (Lit.int k n).wf = true) : ∃ x : Nat, v = .int .u64 (x : Int) ∧ x < 18446744073709551616 := by
  subst hk
  have hn : 0 ≤ n ∧ n ≤ 18446744073709551615 := by
    simp [Lit.wf, IntKind.min, IntKind.max, IntKind.signed, IntKind.bits] at hw
    omega
  refine ⟨n.toNat, ?_, by omega⟩
  rw [List.cons.inj hv |>.1]
  congr 1
  omega
theorem ndCell_some {w : World} {a : Addr} {v : Value} (h : w.cell? a = some v) : a.block < w.heap.size ∧ a.spot = none := by
  unfold World.cell? at h
  constructor
  · rcases Nat.lt_or_ge a.block w.heap.size with h1 | h1
    · exact h1
    · rw [Array.getElem?_eq_none h1] at h
      cases h
  · split at h
    · split at h
      · cases h
      · rename_i hs
        simpa using hs
    · cases h
theorem nd_add_at (a : Addr) (j : Nat) (h : a.spot = none) : a.add j = ⟨a.block, a.off + j, none⟩ := by
  obtain ⟨bl, of, sp⟩ := a
  unfold Addr.add
  split
  · rename_i h0; subst h0; simp only at h; subst h; rfl
  · rfl
theorem lies_of {w : World} {b : Nat} {a : Addr} {n : Nat} {l : List Value} {cs : Array Value} (h : w.cells? b a n = some l) (hl : l = cs.toList) (hn : 0 < n) (hc : cs.size = n) : Lies w a n cs := by
  obtain ⟨_, hcl, hcs⟩ := World.cells?_some h
  have hat : ∀ j, j < n → w.cell? (a.add j) = cs[j]? := fun j hj => by rw [hcs j hj, hl, Array.getElem?_toList]
  have h0 := hat 0 hn
  rw [Array.getElem?_eq_getElem (by omega : 0 < cs.size), show a.add 0 = a by simp [Addr.add]] at h0
  obtain ⟨k1, k2⟩ := ndCell_some h0
  exact ⟨k1, k2, fun j hj => by rw [← nd_add_at _ j k2]; exact hat j hj⟩
/-- the elements of a list that comes in -/
theorem slice_els {P : Program} {t e : TypeId} {fuel : Nat} {cs : List Value} {x : DataW H × List MemPlace} (ht : P.underlying t = some (.slice e)) (h : DataW.trod enc P W b sp hd fuel t cs = some x) :
    ∃ (a : Option Addr) (len cap : Nat), cs = [.slice a len cap] ∧ ∀ i, i < len → ∃ ad, a = some ad ∧ ∃ l y n, n < fuel ∧ W.cells? b (ad.add (i * P.cellsOf e)) (P.cellsOf e) = some l ∧ DataW.trod enc P W b sp hd n e l = some y := by
  rcases DataW.trod_slice ht h with ⟨h1, _⟩ | ⟨a, len, cap, els, rest, n, hn, h1, _, _, _, _, hlen, hel, _, _⟩
  · exact ⟨none, 0, 0, h1, fun i hi => absurd hi (Nat.not_lt_zero _)⟩
  · refine ⟨some a, len, cap, h1, fun i hi => ⟨a, rfl, ?_⟩⟩
    have k := hel i hi
    rw [List.getElem?_eq_getElem (by omega : i < els.length)] at k
    obtain ⟨l, k1, k2⟩ := Option.bind_eq_some_iff.1 k
    exact ⟨l, _, n, by omega, k1, k2⟩
set_option maxRecDepth 100000 in
theorem open_nd : ∀ (fuel : Nat) (cs : List Value) (x : DataW H × List MemPlace), DataW.trod enc Try.prog W b sp hd fuel 26 cs = some x → ∃ c nd, cs = (ndC c).toList ∧ NodeAt W c nd := by
  intro fuel
  induction fuel using Nat.strongRecOn with
  | _ fuel ih =>
    intro cs x h
    obtain ⟨xs, n, hfu, _, hl, hlen, hf⟩ := DataW.trod_struct Try.underlying26 h
    have hl5 : cs.length = 5 := hl.trans (by kernel_rfl)
    match cs, hl5 with
    | [c0, c1, c2, c3, c4], _ =>
      match xs, hlen with
      | [y0, y1, y2, y3, y4], _ =>
        have g0 : DataW.trod enc Try.prog W b sp hd n 5 [c0] = some y0 := hf 0 _ rfl
        have g1 : DataW.trod enc Try.prog W b sp hd n 22 [c1] = some y1 := hf 1 _ rfl
        have g2 : DataW.trod enc Try.prog W b sp hd n 9 [c2] = some y2 := hf 2 _ rfl
        have g3 : DataW.trod enc Try.prog W b sp hd n 23 [c3] = some y3 := hf 3 _ rfl
        have g4 : DataW.trod enc Try.prog W b sp hd n 24 [c4] = some y4 := hf 4 _ rfl
        obtain ⟨a0, e0, _, w0⟩ := DataW.trod_int Try.underlying5 g0
        obtain ⟨a1, e1, _, w1⟩ := DataW.trod_int Try.underlying22 g1
        obtain ⟨s, e2, _, _⟩ := DataW.trod_string Try.underlying9 g2
        obtain ⟨ka, kn, kc, e3, hk⟩ := slice_els Try.underlying23 g3
        obtain ⟨na, nn, nc, e4, hm⟩ := slice_els Try.underlying24 g4
        obtain ⟨u0, rfl, l0⟩ := ndByte_of rfl e0 w0
        obtain ⟨u1, rfl, l1⟩ := ndWord_of rfl e1 w1
        obtain rfl := (List.cons.inj e2).1
        obtain rfl := (List.cons.inj e3).1
        obtain rfl := (List.cons.inj e4).1
        have ck : Try.prog.cellsOf 26 = 5 := by kernel_rfl
        have cm : Try.prog.cellsOf 9 = 1 := by kernel_rfl
        have hk2 : ∀ i, ∃ p : NdC × Nd, i < kn → ∃ ad, ka = some ad ∧ Lies W (ad.add (i * 5)) 5 (ndC p.1) ∧ NodeAt W p.1 p.2 := fun i => by
          by_cases hi : i < kn
          · obtain ⟨ad, k1, l, y, n', k2, k3, k4⟩ := hk i hi
            rw [ck] at k3
            obtain ⟨c, nd, k5, k6⟩ := ih n' (by omega) l y k4
            exact ⟨(c, nd), fun _ => ⟨ad, k1, lies_of k3 k5 (by omega) (ndC_size c), k6⟩⟩
          · exact ⟨(ndZero, Nd.zero), fun h => (hi h).elim⟩
        have hm2 : ∀ i, ∃ t : ByteArray, i < nn → ∃ ad, na = some ad ∧ Lies W (ad.add (i * 1)) 1 #[.string t] := fun i => by
          by_cases hi : i < nn
          · obtain ⟨ad, k1, l, y, n', k2, k3, k4⟩ := hm i hi
            rw [cm] at k3
            obtain ⟨t, k5, _, _⟩ := DataW.trod_string Try.underlying9 k4
            exact ⟨t, fun _ => ⟨ad, k1, lies_of k3 (by rw [k5]) (by omega) rfl⟩⟩
          · exact ⟨noT, fun h => (hi h).elim⟩
        obtain ⟨F, hF⟩ := Classical.skolem.1 hk2
        obtain ⟨G, hG⟩ := Classical.skolem.1 hm2
        have q1 : ((List.range kn).map fun i => (F i).2).length = kn := by simp
        have q2 : ((List.range nn).map G).length = nn := by simp
        refine ⟨⟨u0, u1, s, ka, kn, kc, na, nn, nc⟩, .mk u0 u1 s ((List.range kn).map fun i => (F i).2) ((List.range nn).map G), rfl, NodeAt.mk ⟨u0, u1, s, ka, kn, kc, na, nn, nc⟩ _ _ (fun i => (F i).1) l0 l1 q1.symm q2.symm ?_ ?_ ?_⟩
        · intro i hi
          obtain ⟨ad, k1, k2, _⟩ := hF i (q1 ▸ hi)
          exact ⟨ad, k1, k2⟩
        · intro i hi
          obtain ⟨ad, _, _, k3⟩ := hF i (q1 ▸ hi)
          rw [List.getElem_map, List.getElem_range]
          exact k3
        · intro i hi
          obtain ⟨ad, k1, k2⟩ := hG i (q2 ▸ hi)
          refine ⟨ad, k1, ?_⟩
          show Lies W _ 1 #[Value.string (nameOf ((List.range nn).map G) i)]
          rw [nameOf_get _ i hi, List.getElem_map, List.getElem_range]
          exact k2
set_option maxRecDepth 100000 in
theorem open_node {r : Reach} {b0 : Nat} {v : Value} {d : DataW H} {ps : List MemPlace} (hval : Value.okWide Try.prog W r b0 26 v) (h : DataW.Trod enc Try.prog W b sp hd 26 v d ps) : ∃ c nd, v = .agg (ndC c) ∧ NodeAt W c nd := by
  obtain ⟨cs, rfl, _⟩ := okWide_struct Try.underlying26 hval
  obtain ⟨fuel, hf⟩ := h
  obtain ⟨c, nd, h1, h2⟩ := open_nd fuel _ _ hf
  refine ⟨c, nd, ?_, h2⟩
  have : cs.toList = (ndC c).toList := h1
  rw [Array.toList_inj.1 this]
end
end Go.Proofs.Ytinlcpenllfcpaa
