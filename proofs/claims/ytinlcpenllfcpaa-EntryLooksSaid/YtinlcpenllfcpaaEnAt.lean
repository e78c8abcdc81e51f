/- Where a tree lies: the reference's nodes, and the program's values; in a world, and in blocks that are told. -/
import Derived.Test.YtinlcpenllfcpaaEnPlain
import Derived.Test.YtinlcpenllfcpaaVApp
namespace Go.Proofs.Ytinlcpenllfcpaa
open Go.RowKit

/-- so many cells lie at an address -/
def Lies (w : World) (a : Addr) (sz : Nat) (cs : Array Value) : Prop := a.block < w.heap.size ∧ a.spot = none ∧ ∀ j, j < sz → w.cell? ⟨a.block, a.off + j, none⟩ = cs[j]?
theorem Lies.call {w w' : World} {a : Addr} {sz : Nat} {cs : Array Value} {B : Nat} (h : Lies w a sz cs) (hb : Below B w w') (hB : w.heap.size ≤ B) : Lies w' a sz cs :=
  ⟨Nat.lt_of_lt_of_le h.1 hb.size, h.2.1, fun j hj => (hb.cell (p := ⟨a.block, a.off + j, none⟩) (Nat.lt_of_lt_of_le h.1 hB)).trans (h.2.2 j hj)⟩
theorem Lies.spot {w : World} {a : Addr} {sz : Nat} {cs : Array Value} (h : Lies w a sz cs) : a = ⟨a.block, a.off, none⟩ := by
  have := h.2.1
  obtain ⟨x, y, z⟩ := a
  dsimp only at this
  rw [this]
theorem Lies.first {w : World} {a : Addr} {sz : Nat} {cs : Array Value} (h : Lies w a sz cs) (hs : 0 < sz) : w.cell? a = cs[0]? := by
  have k := h.2.2 0 hs
  rw [Nat.add_zero, ← h.spot] at k
  exact k
/-- n elements of so many cells each, where a slice points to -/
def ElemsAt (w : World) (a : Option Addr) (n sz : Nat) (cells : Nat → Array Value) : Prop := ∀ i, i < n → ∃ ad, a = some ad ∧ Lies w (ad.add (i * sz)) sz (cells i)
theorem ElemsAt.call {w w' : World} {a : Option Addr} {n sz : Nat} {cells : Nat → Array Value} {B : Nat} (h : ElemsAt w a n sz cells) (hb : Below B w w') (hB : w.heap.size ≤ B) : ElemsAt w' a n sz cells := fun i hi => by
  obtain ⟨ad, h1, h2⟩ := h i hi
  exact ⟨ad, h1, h2.call hb hB⟩
theorem ElemsAt.some {w : World} {a : Option Addr} {n sz : Nat} {cells : Nat → Array Value} (h : ElemsAt w a n sz cells) (i : Nat) (hi : i < n) : ∃ ad, a = .some ad := by
  obtain ⟨ad, h1, _⟩ := h i hi
  exact ⟨ad, h1⟩
theorem ElemsAt.at {w : World} {ad : Addr} {n sz : Nat} {cells : Nat → Array Value} (h : ElemsAt w (.some ad) n sz cells) (i : Nat) (hi : i < n) : Lies w (ad.add (i * sz)) sz (cells i) := by
  obtain ⟨ad', h1, h2⟩ := h i hi
  cases h1
  exact h2
/-- the same, in one of the blocks that are told -/
def ElemsIn (L : List (Nat × Array Value)) (a : Option Addr) (n cap sz : Nat) (cells : Nat → Array Value) : Prop :=
  (a = none ∧ n = 0 ∧ cap = 0) ∨ ∃ g F, a = .some ⟨g, 0, none⟩ ∧ n ≤ cap ∧ (g, vlk (cap * sz) F) ∈ L ∧ ∀ i, i < n → ∀ j, j < sz → .some (F (i * sz + j)) = (cells i)[j]?
theorem ElemsIn.mono {L L' : List (Nat × Array Value)} {a : Option Addr} {n cap sz : Nat} {cells : Nat → Array Value} (h : ElemsIn L a n cap sz cells) (hL : ∀ x ∈ L, x ∈ L') : ElemsIn L' a n cap sz cells := by
  rcases h with h | ⟨g, F, h1, h2, h3, h4⟩
  · exact .inl h
  · exact .inr ⟨g, F, h1, h2, hL _ h3, h4⟩
theorem add_zero_mid (g j : Nat) : (⟨g, 0, none⟩ : Addr).add j = ⟨g, j, none⟩ := by rw [add_mid, Nat.zero_add]
theorem mul_lt_of {i n cap sz j : Nat} (hi : i < n) (hn : n ≤ cap) (hj : j < sz) : i * sz + j < cap * sz := by
  have h1 : (i + 1) * sz ≤ cap * sz := Nat.mul_le_mul_right _ (by omega)
  rw [Nat.add_mul, Nat.one_mul] at h1
  omega
theorem ElemsIn.at {w0 w : World} {L : List (Nat × Array Value)} {a : Option Addr} {n cap sz : Nat} {cells : Nat → Array Value} (h : ElemsIn L a n cap sz cells) (hC : St w0 L w) : ElemsAt w a n sz cells := fun i hi => by
  rcases h with ⟨_, h, _⟩ | ⟨g, F, h1, h2, h3, h4⟩
  · omega
  · obtain ⟨⟨_, k2⟩, k3, _, k5⟩ := hC.rows _ h3
    refine ⟨_, h1, ?_⟩
    rw [add_zero_mid]
    refine ⟨k2, rfl, fun j hj => ?_⟩
    rw [cell_row g _ k5, k3, vlk_get _ _ _ (mul_lt_of hi h2 hj)]
    exact h4 i hi j hj

/-- the cells of a node of the reference's -/
structure NdC where
  k : Nat
  n : Nat
  s : ByteArray
  ka : Option Addr
  kn : Nat
  kc : Nat
  na : Option Addr
  nn : Nat
  nc : Nat
def ndC (c : NdC) : Array Value := #[.int .u8 (c.k : Int), .int .u64 (c.n : Int), .string c.s, .slice c.ka c.kn c.kc, .slice c.na c.nn c.nc]
theorem ndC_size (c : NdC) : (ndC c).size = 5 := by simp [ndC]
theorem ndC_get0 (c : NdC) : (ndC c)[0]? = some (.int .u8 (c.k : Int)) := by simp [ndC]
theorem ndC_get1 (c : NdC) : (ndC c)[1]? = some (.int .u64 (c.n : Int)) := by simp [ndC]
theorem ndC_get2 (c : NdC) : (ndC c)[2]? = some (.string c.s) := by simp [ndC]
theorem ndC_get3 (c : NdC) : (ndC c)[3]? = some (.slice c.ka c.kn c.kc) := by simp [ndC]
theorem ndC_get4 (c : NdC) : (ndC c)[4]? = some (.slice c.na c.nn c.nc) := by simp [ndC]
theorem ndC_getE0 (c : NdC) (h : 0 < (ndC c).size) : (ndC c)[0]'h = .int .u8 (c.k : Int) := by simp [ndC]
theorem ndC_getE1 (c : NdC) (h : 1 < (ndC c).size) : (ndC c)[1]'h = .int .u64 (c.n : Int) := by simp [ndC]
theorem ndC_getE2 (c : NdC) (h : 2 < (ndC c).size) : (ndC c)[2]'h = .string c.s := by simp [ndC]
theorem ndC_getE3 (c : NdC) (h : 3 < (ndC c).size) : (ndC c)[3]'h = .slice c.ka c.kn c.kc := by simp [ndC]
theorem ndC_getE4 (c : NdC) (h : 4 < (ndC c).size) : (ndC c)[4]'h = .slice c.na c.nn c.nc := by simp [ndC]
theorem ndC_ne (c : NdC) : (ndC c = #[]) = False := by simp [ndC]
theorem ndC_one (c : NdC) : oneCells (ndC c) = true := by simp [oneCells, ndC, Value.oneCell']
theorem ndC_cut (c : NdC) : cut (ndC c) 0 5 = ndC c := by simp [cut, ndC]
theorem ndC_paste (a b : NdC) : paste (ndC a) 0 (ndC b) = ndC b := paste_whole _ _ (by rw [ndC_size, ndC_size])
theorem ndC_set0 (c : NdC) (k : Nat) : (ndC c).setIfInBounds 0 (.int .u8 (k : Int)) = ndC { c with k := k } := by simp [ndC]
theorem ndC_set1 (c : NdC) (n : Nat) : (ndC c).setIfInBounds 1 (.int .u64 (n : Int)) = ndC { c with n := n } := by simp [ndC]
theorem ndC_set2 (c : NdC) (s : ByteArray) : (ndC c).setIfInBounds 2 (.string s) = ndC { c with s := s } := by simp [ndC]
theorem ndC_set3 (c : NdC) (a : Option Addr) (n k : Nat) : (ndC c).setIfInBounds 3 (.slice a n k) = ndC { c with ka := a, kn := n, kc := k } := by simp [ndC]
theorem ndC_set4 (c : NdC) (a : Option Addr) (n k : Nat) : (ndC c).setIfInBounds 4 (.slice a n k) = ndC { c with na := a, nn := n, nc := k } := by simp [ndC]
def ndZero : NdC := ⟨0, 0, ⟨#[]⟩, none, 0, 0, none, 0, 0⟩
theorem ndC_zero : #[Value.int .u8 0, .int .u64 0, .string ⟨#[]⟩, .slice none 0 0, .slice none 0 0] = ndC ndZero := rfl
theorem size_nd (w : World) : (sizeOf 26).run Try.prog w = .ok 5 w := by simp [go_sem]
theorem agg_nd (w : World) : (isAgg 26).run Try.prog w = .ok true w := by simp [go_sem]
theorem run_loadVar_of {P : Program} {w : World} (ty : TypeId) (a : Addr) (n : Nat) (cs : Array Value) (ha : (isAgg ty).run P w = .ok true w) (hs : (sizeOf ty).run P w = .ok n w) (hl : (loadCells a n).run P w = .ok cs w) : (loadVar ty a).run P w = .ok (.agg cs) w := by
  simp only [loadVar, Sem.run_bind, ha, Result.andThen_ok]
  simp only [if_true, Sem.run_bind, hs, Result.andThen_ok, hl, Sem.run_pure]
theorem run_loadAt_of {P : Program} {w : World} (ty : TypeId) (a : Addr) (n : Nat) (cs : Array Value) (ha : (isAgg ty).run P w = .ok true w) (hs : (sizeOf ty).run P w = .ok n w) (hl : (loadCells a n).run P w = .ok cs w) : (Instr.loadAt ty (.pointer (some a))).run P w = .ok (.agg cs) w := by
  have h := run_loadVar_of ty a n cs ha hs hl
  unfold Instr.loadAt Instr.sureAddr
  simp only [Sem.run_bind, Sem.run_pure, Result.andThen_ok, h]
theorem Lies.loads {P : Program} {w : World} {a : Addr} {cs : Array Value} {n : Nat} (h : Lies w a n cs) (hn : cs.size = n) : (loadCells a n).run P w = .ok cs w := by
  have hl : cs.toList.length = n := by simpa using hn
  have k := run_loadCells_list (P := P) w ⟨a.block, a.off, none⟩ cs.toList (fun j v hv => by
    rw [add_mid, h.2.2 j (by have := (List.getElem?_eq_some_iff.1 hv).1; omega)]
    rw [Array.getElem?_toList] at hv
    exact hv)
  rw [hl, Array.toArray_toList, ← h.spot] at k
  exact k
theorem Lies.node {w : World} {a : Addr} {c : NdC} (h : Lies w a 5 (ndC c)) : (loadS 26 (.pointer (some a))).run Try.prog w = .ok (.agg (ndC c)) w :=
  run_loadAt_of _ _ _ _ (agg_nd w) (size_nd w) (h.loads (ndC_size c))
/-- a node that lies somewhere -/
inductive NodeAt (w : World) : NdC → Nd → Prop
  | mk (c : NdC) (kids : List Nd) (names : List ByteArray) (cs : Nat → NdC) (hk : c.k < 256) (hn : c.n < 18446744073709551616) (h1 : c.kn = kids.length) (h2 : c.nn = names.length)
      (h3 : ElemsAt w c.ka kids.length 5 fun i => ndC (cs i)) (h4 : ∀ i (h : i < kids.length), NodeAt w (cs i) kids[i])
      (h5 : ElemsAt w c.na names.length 1 fun i => #[.string (nameOf names i)]) : NodeAt w c (.mk c.k c.n c.s kids names)
theorem NodeAt.call {w w' : World} {B : Nat} (hb : Below B w w') (hB : w.heap.size ≤ B) {c : NdC} {x : Nd} (h : NodeAt w c x) : NodeAt w' c x := by
  induction h with
  | mk c kids names cs hk hn h1 h2 h3 h4 h5 ih => exact .mk c kids names cs hk hn h1 h2 (h3.call hb hB) ih (h5.call hb hB)
inductive NodeIn (L : List (Nat × Array Value)) : NdC → Nd → Prop
  | mk (c : NdC) (kids : List Nd) (names : List ByteArray) (cs : Nat → NdC) (hk : c.k < 256) (hn : c.n < 18446744073709551616) (h1 : c.kn = kids.length) (h2 : c.nn = names.length)
      (h3 : ElemsIn L c.ka kids.length c.kc 5 fun i => ndC (cs i)) (h4 : ∀ i (h : i < kids.length), NodeIn L (cs i) kids[i])
      (h5 : ElemsIn L c.na names.length c.nc 1 fun i => #[.string (nameOf names i)]) : NodeIn L c (.mk c.k c.n c.s kids names)
theorem NodeIn.mono {L L' : List (Nat × Array Value)} (hL : ∀ x ∈ L, x ∈ L') {c : NdC} {x : Nd} (h : NodeIn L c x) : NodeIn L' c x := by
  induction h with
  | mk c kids names cs hk hn h1 h2 h3 h4 h5 ih => exact .mk c kids names cs hk hn h1 h2 (h3.mono hL) ih (h5.mono hL)
theorem NodeIn.at {w0 w : World} {L : List (Nat × Array Value)} (hC : St w0 L w) {c : NdC} {x : Nd} (h : NodeIn L c x) : NodeAt w c x := by
  induction h with
  | mk c kids names cs hk hn h1 h2 h3 h4 h5 ih => exact .mk c kids names cs hk hn h1 h2 (h3.at hC) ih (h5.at hC)
theorem NodeIn.nil (L : List (Nat × Array Value)) (k n : Nat) (s : ByteArray) (hk : k < 256) (hn : n < 18446744073709551616) : NodeIn L ⟨k, n, s, none, 0, 0, none, 0, 0⟩ (.mk k n s [] []) :=
  .mk ⟨k, n, s, none, 0, 0, none, 0, 0⟩ [] [] (fun _ => ndZero) hk hn rfl rfl (.inl ⟨rfl, rfl, rfl⟩) (fun i h => by cases h) (.inl ⟨rfl, rfl, rfl⟩)

/-! ### the program's values -/
/-- the cells of a pair -/
def pairC (s : ByteArray) (v : Value) : Array Value := #[.string s, v]
def boolIf (b : Bool) : Value := .iface 4 (.bool b)
/-- a value that lies somewhere: what the program makes of a node -/
inductive AnyAt (w : World) : Value → Nd → Prop
  | nil (n : Nat) (s : ByteArray) (kids : List Nd) (names : List ByteArray) : AnyAt w .nilIface (.mk 0 n s kids names)
  | bool (n : Nat) (s : ByteArray) (kids : List Nd) (names : List ByteArray) : AnyAt w (.iface 4 (.bool (decide (n = 1)))) (.mk 1 n s kids names)
  | num (n : Nat) (s : ByteArray) (kids : List Nd) (names : List ByteArray) (hn : n < 18446744073709551616) : AnyAt w (.iface 22 (.int .u64 (n : Int))) (.mk 2 n s kids names)
  | text (n : Nat) (s : ByteArray) (kids : List Nd) (names : List ByteArray) : AnyAt w (.iface 9 (.string s)) (.mk 3 n s kids names)
  | list (n : Nat) (s : ByteArray) (kids : List Nd) (names : List ByteArray) (a : Option Addr) (c : Nat) (vs : Nat → Value) (h3 : ElemsAt w a kids.length 1 fun i => #[vs i]) (h4 : ∀ i (h : i < kids.length), AnyAt w (vs i) kids[i]) : AnyAt w (.iface 57 (.slice a kids.length c)) (.mk 4 n s kids names)
  | pairs (n : Nat) (s : ByteArray) (kids : List Nd) (names : List ByteArray) (a : Option Addr) (c : Nat) (vs : Nat → Value) (h3 : ElemsAt w a kids.length 2 fun i => pairC (nameOf names i) (vs i)) (h4 : ∀ i (h : i < kids.length), AnyAt w (vs i) kids[i]) : AnyAt w (.iface 61 (.slice a kids.length c)) (.mk 5 n s kids names)
  | odd (k n : Nat) (s : ByteArray) (kids : List Nd) (names : List ByteArray) (hk : 5 < k) (h2 : k < 256) {i : Int} : AnyAt w (.iface 3 (.int .i64 i)) (.mk k n s kids names)
theorem AnyAt.call {w w' : World} {B : Nat} (hb : Below B w w') (hB : w.heap.size ≤ B) {v : Value} {x : Nd} (h : AnyAt w v x) : AnyAt w' v x := by
  induction h with
  | nil n s kids names => exact .nil n s kids names
  | bool n s kids names => exact .bool n s kids names
  | num n s kids names hn => exact .num n s kids names hn
  | text n s kids names => exact .text n s kids names
  | list n s kids names a c vs h3 h4 ih => exact .list n s kids names a c vs (h3.call hb hB) ih
  | pairs n s kids names a c vs h3 h4 ih => exact .pairs n s kids names a c vs (h3.call hb hB) ih
  | odd k n s kids names hk h2 => exact .odd k n s kids names hk h2
inductive AnyIn (L : List (Nat × Array Value)) : Value → Nd → Prop
  | nil (n : Nat) (s : ByteArray) (kids : List Nd) (names : List ByteArray) : AnyIn L .nilIface (.mk 0 n s kids names)
  | bool (n : Nat) (s : ByteArray) (kids : List Nd) (names : List ByteArray) : AnyIn L (.iface 4 (.bool (decide (n = 1)))) (.mk 1 n s kids names)
  | num (n : Nat) (s : ByteArray) (kids : List Nd) (names : List ByteArray) (hn : n < 18446744073709551616) : AnyIn L (.iface 22 (.int .u64 (n : Int))) (.mk 2 n s kids names)
  | text (n : Nat) (s : ByteArray) (kids : List Nd) (names : List ByteArray) : AnyIn L (.iface 9 (.string s)) (.mk 3 n s kids names)
  | list (n : Nat) (s : ByteArray) (kids : List Nd) (names : List ByteArray) (a : Option Addr) (c : Nat) (vs : Nat → Value) (h3 : ElemsIn L a kids.length c 1 fun i => #[vs i]) (h4 : ∀ i (h : i < kids.length), AnyIn L (vs i) kids[i]) : AnyIn L (.iface 57 (.slice a kids.length c)) (.mk 4 n s kids names)
  | pairs (n : Nat) (s : ByteArray) (kids : List Nd) (names : List ByteArray) (a : Option Addr) (c : Nat) (vs : Nat → Value) (h3 : ElemsIn L a kids.length c 2 fun i => pairC (nameOf names i) (vs i)) (h4 : ∀ i (h : i < kids.length), AnyIn L (vs i) kids[i]) : AnyIn L (.iface 61 (.slice a kids.length c)) (.mk 5 n s kids names)
  | odd (k n : Nat) (s : ByteArray) (kids : List Nd) (names : List ByteArray) (hk : 5 < k) (h2 : k < 256) {i : Int} : AnyIn L (.iface 3 (.int .i64 i)) (.mk k n s kids names)
theorem AnyIn.mono {L L' : List (Nat × Array Value)} (hL : ∀ x ∈ L, x ∈ L') {v : Value} {x : Nd} (h : AnyIn L v x) : AnyIn L' v x := by
  induction h with
  | nil n s kids names => exact .nil n s kids names
  | bool n s kids names => exact .bool n s kids names
  | num n s kids names hn => exact .num n s kids names hn
  | text n s kids names => exact .text n s kids names
  | list n s kids names a c vs h3 h4 ih => exact .list n s kids names a c vs (h3.mono hL) ih
  | pairs n s kids names a c vs h3 h4 ih => exact .pairs n s kids names a c vs (h3.mono hL) ih
  | odd k n s kids names hk h2 => exact .odd k n s kids names hk h2
theorem AnyIn.at {w0 w : World} {L : List (Nat × Array Value)} (hC : St w0 L w) {v : Value} {x : Nd} (h : AnyIn L v x) : AnyAt w v x := by
  induction h with
  | nil n s kids names => exact .nil n s kids names
  | bool n s kids names => exact .bool n s kids names
  | num n s kids names hn => exact .num n s kids names hn
  | text n s kids names => exact .text n s kids names
  | list n s kids names a c vs h3 h4 ih => exact .list n s kids names a c vs (h3.at hC) ih
  | pairs n s kids names a c vs h3 h4 ih => exact .pairs n s kids names a c vs (h3.at hC) ih
  | odd k n s kids names hk h2 => exact .odd k n s kids names hk h2
/-- any value of these is one cell -/
theorem AnyAt.one {w : World} {v : Value} {x : Nd} (h : AnyAt w v x) : v.oneCell' = true := by
  cases h <;> rfl
theorem AnyIn.one {L : List (Nat × Array Value)} {v : Value} {x : Nd} (h : AnyIn L v x) : v.oneCell' = true := by
  cases h <;> rfl
end Go.Proofs.Ytinlcpenllfcpaa
