/- The blocks of a call's own, with what they hold, as ONE fact of a world; what calls, draws, stores and allocations make of it; regions that draw their order under it. No condition. -/
import Derived.Test.YtepooocdpifcfaaRow
import Derived.Test.YtepooocdpifcfaaTail
import Derived.Test.YtepooocdpifcfaaFloat
import Derived.Deep.RegionHeld3
namespace Go.Proofs.Ytepooocdpifcfaa
open Go.RowKit

theorem st_setCell {w : World} (g i : Nat) (v : Value) (h : isRow w g = true) : w.setCell ⟨g, i, none⟩ v = w.setRow g ((rowAt w g).setIfInBounds i v) := by
  obtain ⟨cs, t, fr, hh, hr⟩ := isRow_cells h
  rw [hr]
  unfold World.setCell World.setRow
  congr 1
  apply Array.ext_getElem?
  intro n
  simp only [Array.getElem?_modify]
  by_cases hn : g = n
  · subst hn; simp [hh]
  · simp [hn]
theorem st_blk_ne (n : Nat) (f : Nat → UInt8) : (blk (n + 1) f = #[]) = False := by
  simp only [eq_iff_iff, iff_false]
  intro h
  have := congrArg Array.size h
  rw [blk_size] at this
  simp at this

theorem run_eql_blk {P : Program} (t : TypeId) (n : Nat) (f g : Nat → UInt8) (w : World) (hu : P.underlying t = some (.array n (P.elem t))) (hz : (sizeOf (P.elem t)).run P w = .ok 1 w) (ha : P.underlying (P.elem t) = some (.int .u8)) :
    (binOp .eql t (.agg (blk n f)) (.agg (blk n g))).run P w = .ok (.bool (same n f g)) w := by
  rw [run_eql_struct, run_equalIn_blk 9998 t n f g w hu hz ha]; rfl
theorem run_neq_blk {P : Program} (t : TypeId) (n : Nat) (f g : Nat → UInt8) (w : World) (hu : P.underlying t = some (.array n (P.elem t))) (hz : (sizeOf (P.elem t)).run P w = .ok 1 w) (ha : P.underlying (P.elem t) = some (.int .u8)) :
    (binOp .neq t (.agg (blk n f)) (.agg (blk n g))).run P w = .ok (.bool (!same n f g)) w := by
  rw [run_neq_struct, run_equalIn_blk 9998 t n f g w hu hz ha]; rfl

/-- of the blocks that are named each holds these cells, may be written, and is none that stood when w0 was; no two are one -/
structure St (w0 : World) (L : List (Nat × Array Value)) (wr : World) : Prop where
  below : Below w0.heap.size w0 wr
  ne : (L.map Prod.fst).Nodup
  rows : ∀ x ∈ L, (w0.heap.size ≤ x.1 ∧ x.1 < wr.heap.size) ∧ rowAt wr x.1 = x.2 ∧ freeRow wr x.1 = true ∧ isRow wr x.1 = true

section
variable {w0 a b : World} {L : List (Nat × Array Value)}
theorem St.nil (w0 : World) : St w0 [] w0 := ⟨Below.refl _ _, by simp, by simp⟩
theorem St.call (h : St w0 L a) (hb : Below a.heap.size a b) : St w0 L b :=
  ⟨h.below.trans (hb.mono h.below.size), h.ne, fun x hx => by
    obtain ⟨⟨h1, h2⟩, h3, h4, h5⟩ := h.rows x hx
    exact ⟨⟨h1, Nat.lt_of_lt_of_le h2 hb.size⟩, (below_rowAt hb h2).trans h3, (below_freeRow hb h2).trans h4, (below_isRow hb h2).trans h5⟩⟩
theorem St.drew (h : St w0 L a) : St w0 L a.drew := h.call (Below.refl _ _).drew
theorem St.drewN (h : St w0 L a) (n : Nat) : St w0 L (a.drewN n) := h.call (below_drewN (Below.refl _ _))
theorem St.skip (h : St w0 L a) (o : Obj) : St w0 L (a.alloc o) := h.call ((Below.refl _ _).alloc (Nat.le_refl _) _)
theorem St.push (h : St w0 L a) (cs : Array Value) (t : TypeId) : St w0 ((a.heap.size, cs) :: L) (a.alloc (.cells cs t)) := by
  have h' := h.skip (.cells cs t)
  refine ⟨h'.below, ?_, ?_⟩
  · simp only [List.map_cons, List.nodup_cons]
    refine ⟨fun hm => ?_, h.ne⟩
    obtain ⟨x, hx, he⟩ := List.mem_map.1 hm
    have := (h.rows x hx).1.2
    omega
  · intro x hx
    rcases List.mem_cons.1 hx with rfl | hx
    · refine ⟨⟨h.below.size, by simp⟩, ?_, ?_, ?_⟩
      · simp [rowAt_alloc]
      · simp [freeRow_alloc]
      · simp [isRow_alloc]
    · exact h'.rows x hx
theorem St.pushA (h : St w0 L a) (cs : Array Value) (t : TypeId) {g : Nat} (hg : a.heap.size = g) : St w0 ((g, cs) :: L) (a.alloc (.cells cs t)) := hg ▸ h.push cs t
/-- one of them is written anew -/
def setL (g : Nat) (cs : Array Value) : List (Nat × Array Value) → List (Nat × Array Value)
  | [] => []
  | (g', c) :: L => if g' = g then (g, cs) :: L else (g', c) :: setL g cs L
theorem setL_fst (g : Nat) (cs : Array Value) : ∀ L : List (Nat × Array Value), (setL g cs L).map Prod.fst = L.map Prod.fst
  | [] => rfl
  | (g', c) :: L => by
    unfold setL
    split
    · rename_i h; simp [h]
    · simp [setL_fst g cs L]
theorem setL_mem (g : Nat) (cs : Array Value) : ∀ (L : List (Nat × Array Value)), (L.map Prod.fst).Nodup → ∀ x ∈ setL g cs L, (x.1 = g ∧ x.2 = cs) ∨ (x.1 ≠ g ∧ x ∈ L)
  | [], _, x, hx => by simp [setL] at hx
  | (g', c) :: L, hn, x, hx => by
    simp only [List.map_cons, List.nodup_cons] at hn
    unfold setL at hx
    split at hx
    · rename_i h
      rcases List.mem_cons.1 hx with rfl | hx
      · exact .inl ⟨rfl, rfl⟩
      · refine .inr ⟨fun he => hn.1 ?_, by simp [hx]⟩
        rw [h, ← he]; exact List.mem_map_of_mem hx
    · rename_i h
      rcases List.mem_cons.1 hx with rfl | hx
      · exact .inr ⟨h, by simp⟩
      · rcases setL_mem g cs L hn.2 x hx with h1 | h1
        · exact .inl h1
        · exact .inr ⟨h1.1, by simp [h1.2]⟩
theorem St.get (h : St w0 L a) {g : Nat} {cs : Array Value} (hm : (g, cs) ∈ L) : (w0.heap.size ≤ g ∧ g < a.heap.size) ∧ rowAt a g = cs ∧ freeRow a g = true ∧ isRow a g = true := h.rows _ hm
theorem St.set (h : St w0 L a) (g : Nat) (cs : Array Value) (hm : g ∈ L.map Prod.fst) (hs : cs.size = (rowAt a g).size) : St w0 (setL g cs L) (a.setRow g cs) := by
  obtain ⟨y, hy, rfl⟩ := List.mem_map.1 hm
  have hr := h.rows y hy
  refine ⟨below_setRow' h.below hr.1.1 _, by rw [setL_fst]; exact h.ne, fun x hx => ?_⟩
  rcases setL_mem _ _ L h.ne x hx with ⟨h1, h2⟩ | ⟨h1, h2⟩
  · rw [h1, h2]
    refine ⟨⟨hr.1.1, by simpa using hr.1.2⟩, ?_, ?_, ?_⟩
    · rw [rowAt_setRow _ _ _ hr.2.2.2, if_pos rfl]
    · rw [freeRow_setRow _ _ _ hs]; exact hr.2.2.1
    · rw [isRow_setRow]; exact hr.2.2.2
  · obtain ⟨⟨x1, x2⟩, x3, x4, x5⟩ := h.rows x h2
    refine ⟨⟨x1, by simpa using x2⟩, ?_, ?_, ?_⟩
    · rw [rowAt_setRow _ _ _ hr.2.2.2, if_neg h1]; exact x3
    · rw [freeRow_setRow _ _ _ hs]; exact x4
    · rw [isRow_setRow]; exact x5
theorem St.weaken {L' : List (Nat × Array Value)} (h : St w0 L a) (hn : (L'.map Prod.fst).Nodup) (hs : ∀ x ∈ L', x ∈ L) : St w0 L' a := ⟨h.below, hn, fun x hx => h.rows x (hs x hx)⟩
theorem St.tail {x : Nat × Array Value} (h : St w0 (x :: L) a) : St w0 L a := ⟨h.below, by have := h.ne; simp only [List.map_cons, List.nodup_cons] at this; exact this.2, fun y hy => h.rows y (by simp [hy])⟩
theorem St.swap {x y : Nat × Array Value} (h : St w0 (x :: y :: L) a) : St w0 (y :: x :: L) a := ⟨h.below, by have := h.ne; simp only [List.map_cons, List.nodup_cons, List.mem_cons] at this ⊢; exact ⟨fun e => this.1 (.inl (e.elim Eq.symm fun e => (this.2.1 e).elim)), fun e => this.1 (.inr e), this.2.2⟩, fun z hz => h.rows z (by simp only [List.mem_cons] at hz ⊢; rcases hz with h | h | h <;> simp [h])⟩
theorem St.set_head {g : Nat} {c : Array Value} (h : St w0 ((g, c) :: L) a) (cs : Array Value) (hs : cs.size = c.size := by first | (simp only [blk_size]; done) | (simp [go_sem]; done) | rfl) : St w0 ((g, cs) :: L) (a.setRow g cs) := by
  have := h.set g cs (by simp) (by rw [(h.rows (g, c) (by simp)).2.1]; exact hs); simpa [setL] using this
/-- some of them, in the order that is told -/
theorem St.pick {L' : List (Nat × Array Value)} (h : St w0 L a) (is : List Nat) (hn : is.Nodup) (hL : is.filterMap (fun i => L[i]?) = L') : St w0 L' a := by
  subst hL
  refine ⟨h.below, ?_, fun x hx => ?_⟩
  · have hne := h.ne
    rw [List.nodup_iff_pairwise_ne, List.pairwise_map, List.pairwise_filterMap]
    refine List.Pairwise.imp (fun {i j} hij => ?_) (List.nodup_iff_pairwise_ne.1 hn)
    intro x hx y hy e
    have hx' : (L.map Prod.fst)[i]? = some x.1 := by rw [List.getElem?_map, hx]; rfl
    have hy' : (L.map Prod.fst)[j]? = some y.1 := by rw [List.getElem?_map, hy]; rfl
    have hi := (List.getElem?_eq_some_iff.1 hx').1
    exact hij ((List.getElem?_inj hi hne).1 (by rw [hx', hy', e]))
  · obtain ⟨i, _, hi⟩ := List.mem_filterMap.1 hx
    exact h.rows x (List.mem_of_getElem? hi)
/-- the facts of it, named -/
theorem St.one {g : Nat} {c : Array Value} (h : St w0 [(g, c)] a) : ((w0.heap.size ≤ g ∧ g < a.heap.size) ∧ rowAt a g = c ∧ freeRow a g = true ∧ isRow a g = true) := h.rows (g, c) (by simp)
theorem St.os (h : St w0 L a) : a.os = w0.os := h.below.os

theorem St.at {g : Nat} {c : Array Value} (h : St w0 L a) (hm : (g, c) ∈ L) : rowAt a g = c ∧ freeRow a g = true ∧ isRow a g = true ∧ w0.heap.size ≤ g ∧ g < a.heap.size := by
  obtain ⟨⟨h1, h2⟩, h3, h4, h5⟩ := h.rows _ hm
  exact ⟨h3, h4, h5, h1, h2⟩
theorem St.facts1 {g1 : Nat} {c1 : Array Value} (h : St w0 [(g1, c1)] a) : (rowAt a g1 = c1 ∧ freeRow a g1 = true ∧ isRow a g1 = true ∧ w0.heap.size ≤ g1 ∧ g1 < a.heap.size) := h.at (by simp)
theorem St.facts2 {g1 g2 : Nat} {c1 c2 : Array Value} (h : St w0 [(g1, c1), (g2, c2)] a) : (rowAt a g1 = c1 ∧ freeRow a g1 = true ∧ isRow a g1 = true ∧ w0.heap.size ≤ g1 ∧ g1 < a.heap.size) ∧ (rowAt a g2 = c2 ∧ freeRow a g2 = true ∧ isRow a g2 = true ∧ w0.heap.size ≤ g2 ∧ g2 < a.heap.size) ∧ ((g1 = g2) = False) ∧ ((g2 = g1) = False) := by
  have hn := h.ne
  simp only [List.map_cons, List.map_nil, List.nodup_cons, List.mem_cons, List.not_mem_nil, or_false, not_false_eq_true, List.nodup_nil, and_true] at hn
  simp only [eq_iff_iff, iff_false]
  exact ⟨h.at (by simp), h.at (by simp), by omega, by omega⟩
theorem St.facts3 {g1 g2 g3 : Nat} {c1 c2 c3 : Array Value} (h : St w0 [(g1, c1), (g2, c2), (g3, c3)] a) : (rowAt a g1 = c1 ∧ freeRow a g1 = true ∧ isRow a g1 = true ∧ w0.heap.size ≤ g1 ∧ g1 < a.heap.size) ∧ (rowAt a g2 = c2 ∧ freeRow a g2 = true ∧ isRow a g2 = true ∧ w0.heap.size ≤ g2 ∧ g2 < a.heap.size) ∧ (rowAt a g3 = c3 ∧ freeRow a g3 = true ∧ isRow a g3 = true ∧ w0.heap.size ≤ g3 ∧ g3 < a.heap.size) ∧ ((g1 = g2) = False) ∧ ((g2 = g1) = False) ∧ ((g1 = g3) = False) ∧ ((g3 = g1) = False) ∧ ((g2 = g3) = False) ∧ ((g3 = g2) = False) := by
  have hn := h.ne
  simp only [List.map_cons, List.map_nil, List.nodup_cons, List.mem_cons, List.not_mem_nil, or_false, not_false_eq_true, List.nodup_nil, and_true] at hn
  simp only [eq_iff_iff, iff_false]
  exact ⟨h.at (by simp), h.at (by simp), h.at (by simp), by omega, by omega, by omega, by omega, by omega, by omega⟩
theorem St.facts4 {g1 g2 g3 g4 : Nat} {c1 c2 c3 c4 : Array Value} (h : St w0 [(g1, c1), (g2, c2), (g3, c3), (g4, c4)] a) : (rowAt a g1 = c1 ∧ freeRow a g1 = true ∧ isRow a g1 = true ∧ w0.heap.size ≤ g1 ∧ g1 < a.heap.size) ∧ (rowAt a g2 = c2 ∧ freeRow a g2 = true ∧ isRow a g2 = true ∧ w0.heap.size ≤ g2 ∧ g2 < a.heap.size) ∧ (rowAt a g3 = c3 ∧ freeRow a g3 = true ∧ isRow a g3 = true ∧ w0.heap.size ≤ g3 ∧ g3 < a.heap.size) ∧ (rowAt a g4 = c4 ∧ freeRow a g4 = true ∧ isRow a g4 = true ∧ w0.heap.size ≤ g4 ∧ g4 < a.heap.size) ∧ ((g1 = g2) = False) ∧ ((g2 = g1) = False) ∧ ((g1 = g3) = False) ∧ ((g3 = g1) = False) ∧ ((g1 = g4) = False) ∧ ((g4 = g1) = False) ∧ ((g2 = g3) = False) ∧ ((g3 = g2) = False) ∧ ((g2 = g4) = False) ∧ ((g4 = g2) = False) ∧ ((g3 = g4) = False) ∧ ((g4 = g3) = False) := by
  have hn := h.ne
  simp only [List.map_cons, List.map_nil, List.nodup_cons, List.mem_cons, List.not_mem_nil, or_false, not_false_eq_true, List.nodup_nil, and_true] at hn
  simp only [eq_iff_iff, iff_false]
  exact ⟨h.at (by simp), h.at (by simp), h.at (by simp), h.at (by simp), by omega, by omega, by omega, by omega, by omega, by omega, by omega, by omega, by omega, by omega, by omega, by omega⟩
theorem St.facts5 {g1 g2 g3 g4 g5 : Nat} {c1 c2 c3 c4 c5 : Array Value} (h : St w0 [(g1, c1), (g2, c2), (g3, c3), (g4, c4), (g5, c5)] a) : (rowAt a g1 = c1 ∧ freeRow a g1 = true ∧ isRow a g1 = true ∧ w0.heap.size ≤ g1 ∧ g1 < a.heap.size) ∧ (rowAt a g2 = c2 ∧ freeRow a g2 = true ∧ isRow a g2 = true ∧ w0.heap.size ≤ g2 ∧ g2 < a.heap.size) ∧ (rowAt a g3 = c3 ∧ freeRow a g3 = true ∧ isRow a g3 = true ∧ w0.heap.size ≤ g3 ∧ g3 < a.heap.size) ∧ (rowAt a g4 = c4 ∧ freeRow a g4 = true ∧ isRow a g4 = true ∧ w0.heap.size ≤ g4 ∧ g4 < a.heap.size) ∧ (rowAt a g5 = c5 ∧ freeRow a g5 = true ∧ isRow a g5 = true ∧ w0.heap.size ≤ g5 ∧ g5 < a.heap.size) ∧ ((g1 = g2) = False) ∧ ((g2 = g1) = False) ∧ ((g1 = g3) = False) ∧ ((g3 = g1) = False) ∧ ((g1 = g4) = False) ∧ ((g4 = g1) = False) ∧ ((g1 = g5) = False) ∧ ((g5 = g1) = False) ∧ ((g2 = g3) = False) ∧ ((g3 = g2) = False) ∧ ((g2 = g4) = False) ∧ ((g4 = g2) = False) ∧ ((g2 = g5) = False) ∧ ((g5 = g2) = False) ∧ ((g3 = g4) = False) ∧ ((g4 = g3) = False) ∧ ((g3 = g5) = False) ∧ ((g5 = g3) = False) ∧ ((g4 = g5) = False) ∧ ((g5 = g4) = False) := by
  have hn := h.ne
  simp only [List.map_cons, List.map_nil, List.nodup_cons, List.mem_cons, List.not_mem_nil, or_false, not_false_eq_true, List.nodup_nil, and_true] at hn
  simp only [eq_iff_iff, iff_false]
  exact ⟨h.at (by simp), h.at (by simp), h.at (by simp), h.at (by simp), h.at (by simp), by omega, by omega, by omega, by omega, by omega, by omega, by omega, by omega, by omega, by omega, by omega, by omega, by omega, by omega, by omega, by omega, by omega, by omega, by omega, by omega⟩
theorem St.facts6 {g1 g2 g3 g4 g5 g6 : Nat} {c1 c2 c3 c4 c5 c6 : Array Value} (h : St w0 [(g1, c1), (g2, c2), (g3, c3), (g4, c4), (g5, c5), (g6, c6)] a) : (rowAt a g1 = c1 ∧ freeRow a g1 = true ∧ isRow a g1 = true ∧ w0.heap.size ≤ g1 ∧ g1 < a.heap.size) ∧ (rowAt a g2 = c2 ∧ freeRow a g2 = true ∧ isRow a g2 = true ∧ w0.heap.size ≤ g2 ∧ g2 < a.heap.size) ∧ (rowAt a g3 = c3 ∧ freeRow a g3 = true ∧ isRow a g3 = true ∧ w0.heap.size ≤ g3 ∧ g3 < a.heap.size) ∧ (rowAt a g4 = c4 ∧ freeRow a g4 = true ∧ isRow a g4 = true ∧ w0.heap.size ≤ g4 ∧ g4 < a.heap.size) ∧ (rowAt a g5 = c5 ∧ freeRow a g5 = true ∧ isRow a g5 = true ∧ w0.heap.size ≤ g5 ∧ g5 < a.heap.size) ∧ (rowAt a g6 = c6 ∧ freeRow a g6 = true ∧ isRow a g6 = true ∧ w0.heap.size ≤ g6 ∧ g6 < a.heap.size) ∧ ((g1 = g2) = False) ∧ ((g2 = g1) = False) ∧ ((g1 = g3) = False) ∧ ((g3 = g1) = False) ∧ ((g1 = g4) = False) ∧ ((g4 = g1) = False) ∧ ((g1 = g5) = False) ∧ ((g5 = g1) = False) ∧ ((g1 = g6) = False) ∧ ((g6 = g1) = False) ∧ ((g2 = g3) = False) ∧ ((g3 = g2) = False) ∧ ((g2 = g4) = False) ∧ ((g4 = g2) = False) ∧ ((g2 = g5) = False) ∧ ((g5 = g2) = False) ∧ ((g2 = g6) = False) ∧ ((g6 = g2) = False) ∧ ((g3 = g4) = False) ∧ ((g4 = g3) = False) ∧ ((g3 = g5) = False) ∧ ((g5 = g3) = False) ∧ ((g3 = g6) = False) ∧ ((g6 = g3) = False) ∧ ((g4 = g5) = False) ∧ ((g5 = g4) = False) ∧ ((g4 = g6) = False) ∧ ((g6 = g4) = False) ∧ ((g5 = g6) = False) ∧ ((g6 = g5) = False) := by
  have hn := h.ne
  simp only [List.map_cons, List.map_nil, List.nodup_cons, List.mem_cons, List.not_mem_nil, or_false, not_false_eq_true, List.nodup_nil, and_true] at hn
  simp only [eq_iff_iff, iff_false]
  exact ⟨h.at (by simp), h.at (by simp), h.at (by simp), h.at (by simp), h.at (by simp), h.at (by simp), by omega, by omega, by omega, by omega, by omega, by omega, by omega, by omega, by omega, by omega, by omega, by omega, by omega, by omega, by omega, by omega, by omega, by omega, by omega, by omega, by omega, by omega, by omega, by omega, by omega, by omega, by omega, by omega, by omega, by omega⟩

/-! ### regions -/
theorem walkB_mono {P : Program} {C : World → Prop} {Q Q' : Act → Prop} (h : ∀ a, Q a → Q' a) : ∀ (l : List Oper) (a : Act), walkB P C Q l a → walkB P C Q' l a
  | [], _, k => h _ k
  | _ :: l, _, ⟨v, h1, h2⟩ => ⟨v, h1, walkB_mono h l _ h2⟩
section
variable {P : Program} {id : Nat} {Q : Exit → Act → World → Prop} {t : Act} {l : List Oper}
/-- a region of reads and of calls that write new memory alone -/
theorem St.region (h : St w0 L a) (hm : P.follows .mixedOrders = true) (hB : Region.lexB .any l.toArray = true)
    (k : wpQuiet P l.toArray (St w0 L) (fun a' => ∀ w', St w0 L w' → Q .normal a' w') l t) : (Code.region id l.toArray true).wp P Q t a := wp_region_quiet hm hB h.drew (by simpa using k)
/-- .. and a tail in one forced order -/
theorem St.region_tail (n : Nat) (h : St w0 L a) (hm : P.follows .mixedOrders = true) (hB : tailB l n = true)
    (k : wpQuiet P (l.take n).toArray (St w0 L) (fun a' => ∀ w', St w0 L w' → wpList P l.toArray Q (l.drop n) a' w') (l.take n) t) : (Code.region id l.toArray true).wp P Q t a := wp_region_tail n hm hB h.drew k
/-- .. and an allocation that comes up anywhere in the head -/
theorem St.region_float (n : Nat) (d : Tmp) (cs : Array Value) (ty : TypeId) (h : St w0 L a) (on : Oper) (hm : P.follows .mixedOrders = true) (hB : floatB l n d = true) (hon : l[n]? = some on)
    (hal : ∀ (w : World) (a : Act), (execOp a.eval on).run P w = .ok (.value (ptrTo w.heap.size)) (w.alloc (.cells cs ty)))
    (k : walkB P (St w0 L) (fun a' => ∀ w' g, St w0 ((g, cs) :: L) w' → wpList P l.toArray Q (l.drop (n + 1)) (a'.put (some d) (ptrTo g)) w') (l.take n) t) : (Code.region id l.toArray true).wp P Q t a := by
  refine wp_region_float (C := St w0 L) n d (.cells cs ty) on hm hB hon hal (fun _ _ h hb => h.call hb) h.drew ?_
  refine walkB_mono (fun a' hq => ?_) _ _ k
  intro w' g hC hG
  obtain ⟨w1, h1, rfl, hb⟩ := hG
  exact hq w' _ ((h1.push cs ty).call hb)
/-- two rows are held against each other -/
theorem eql_quiet {o : Oper} {a : Act} {C : World → Prop} {w : World} {n : Nat} {f g : Nat → UInt8} {b : Bool} (ty : TypeId) {x y : Operand} {rt : TypeId} (ho : o.op = .binOp .eql ty x y rt) (hx : a.eval x = .agg (blk n f)) (hy : a.eval y = .agg (blk n g))
    (hg : P.eqGuardType P.depth ty = false) (hu : P.underlying ty = some (.array n (P.elem ty))) (hz : (sizeOf (P.elem ty)).run P w = .ok 1 w) (ha : P.underlying (P.elem ty) = some (.int .u8)) (hs : same n f g = b) : o.quietAt P a C w (.bool b) := by
  unfold Oper.quietAt execOp
  simp only [ho, hx, hy]
  have h1 : (eqGuard .eql ty x y (.agg (blk n f)) (.agg (blk n g))).run P w = .ok () w := run_eqGuard_agg (hm := hg) ..
  simp only [Sem.run_bind, h1, Result.andThen_ok, run_eql_blk ty n f g w hu hz ha, Sem.run_pure, hs]
  exact ⟨rfl, rfl⟩
theorem neq_quiet {o : Oper} {a : Act} {C : World → Prop} {w : World} {n : Nat} {f g : Nat → UInt8} {b : Bool} (ty : TypeId) {x y : Operand} {rt : TypeId} (ho : o.op = .binOp .neq ty x y rt) (hx : a.eval x = .agg (blk n f)) (hy : a.eval y = .agg (blk n g))
    (hg : P.eqGuardType P.depth ty = false) (hu : P.underlying ty = some (.array n (P.elem ty))) (hz : (sizeOf (P.elem ty)).run P w = .ok 1 w) (ha : P.underlying (P.elem ty) = some (.int .u8)) (hs : same n f g = b) : o.quietAt P a C w (.bool (!b)) := by
  unfold Oper.quietAt execOp
  simp only [ho, hx, hy]
  have h1 : (eqGuard .neq ty x y (.agg (blk n f)) (.agg (blk n g))).run P w = .ok () w := run_eqGuard_agg (hm := hg) ..
  simp only [Sem.run_bind, h1, Result.andThen_ok, run_neq_blk ty n f g w hu hz ha, Sem.run_pure, hs]
  exact ⟨rfl, rfl⟩
theorem head_step_g {ops : Array Oper} {C : World → Prop} {o : Oper} {rest : List Oper} {Q : Act → Prop} {a : Act} {v : Value} (hg : Region.wanted o (yielded ops a.tmps) = true) (h : ∀ w, C w → o.quietAt P a C w v) (hn : wpQuiet P ops C Q rest (a.put o.dst v)) : wpQuiet P ops C Q (o :: rest) a := by
  unfold wpQuiet
  simp only [hg, if_true]
  exact ⟨v, h, hn⟩
theorem head_skip {ops : Array Oper} {C : World → Prop} {o : Oper} {rest : List Oper} {Q : Act → Prop} {a : Act} (hg : Region.wanted o (yielded ops a.tmps) = false) (hn : wpQuiet P ops C Q rest (a.put o.dst undef)) : wpQuiet P ops C Q (o :: rest) a := by
  unfold wpQuiet
  simp only [hg, Bool.false_eq_true, if_false]
  exact hn
end
end
end Go.Proofs.Ytepooocdpifcfaa
