/- A region that draws its order, of which all operations but a tail leave the world within a class: one walk in the order of the text, then the tail. The kit's law for this (Deep/Quiet) has no tail; its law with a tail (StillTail) has no class. -/
import Derived.Deep.Quiet
import Derived.StillTail
import Derived.Tactics
import Derived.Tactics2
import Derived.KernelRfl
namespace Go.Proofs.Ytepooocdpifcfaa
open Go

section
variable {P : Program} {ops : Array Oper} {md : Region.Mode} {C : World → Prop}

theorem any_done {Q' : Exit → Act → World → Prop} {listed : Array Bool} {a : Act} {w : World} (h : Region.ready md ops listed = []) (hq : Q' .normal a w) : ∀ x, wpAny P md ops Q' x listed a w
  | 0 => ⟨h, hq⟩
  | _ + 1 => ⟨fun _ => hq, fun i hi => by rw [h] at hi; cases hi⟩

theorem any_tail {Q' : Exit → Act → World → Prop} (x : Nat) : ∀ (l : List Oper) (k : Nat) (listed : Array Bool) (a : Act) (w : World), (∀ j, l[j]? = ops[k + j]?) →
    Region.seqB md ops l.length k listed = true → wpList P ops Q' l a w → wpAny P md ops Q' (l.length + x) listed a w
  | [], k, listed, a, w, _, hB, h => any_done (by simpa [Region.seqB] using hB) h _
  | o :: l, k, listed, a, w, hl, hB, h => by
    have h0 : ops[k]? = some o := by simpa using (hl 0).symm
    simp only [List.length_cons, Region.seqB, Bool.and_eq_true, decide_eq_true_eq] at hB
    rw [show (o :: l).length + x = (l.length + x) + 1 by simp; omega]
    refine ⟨fun h1 => (by rw [hB.1] at h1; cases h1), fun i hi => ?_⟩
    rw [hB.1] at hi
    have hik : i = k := by simpa using hi
    subst hik
    have hw : wpOp P ops Q' i (wpList P ops Q' l) a w := by unfold wpOp; simp only [h0]; exact h
    exact wpOp_mono (fun a' w' h' => any_tail x l (i + 1) _ a' w' (fun j => by have := hl (j + 1); simpa [Nat.add_assoc, Nat.add_comm 1 j] using this) hB.2 h') hw

/-- of the first n operations none is guarded, and each waits for earlier ones alone -/
def plainB (l : List Oper) (n : Nat) : Bool := (List.range n).all fun i => match l[i]? with | some o => o.guard.isNone && o.after.all (fun e => !Region.binds .any e || decide (e.on < i)) | none => false
def tailB (l : List Oper) (n : Nat) : Bool :=
  decide (n < l.length) && plainB l n && Region.lexB .any (l.take n).toArray && Region.sinkB .any l.toArray n && Region.chainB .any l.toArray n &&
    Region.seqB .any l.toArray (l.length - n) n ((List.replicate n true ++ List.replicate (l.length - n) false).toArray)

theorem plainB_at {l : List Oper} {n i : Nat} (h : plainB l n = true) (hi : i < n) : ∃ o, l[i]? = some o ∧ o.guard = none ∧ ∀ e ∈ o.after, Region.binds .any e = true → e.on < i := by
  have h1 := List.all_eq_true.1 h i (List.mem_range.2 hi)
  cases ho : l[i]? with
  | none => simp [ho] at h1
  | some o =>
    simp only [ho, Bool.and_eq_true, Option.isNone_iff_eq_none, Array.all_eq_true_iff_forall_mem, Bool.or_eq_true, Bool.not_eq_true', decide_eq_true_eq] at h1
    exact ⟨o, rfl, h1.1, fun e he hb => (h1.2 e he).elim (fun h => by rw [hb] at h; cases h) id⟩

theorem all_listed {l : List Oper} {n : Nat} (hp : plainB l n = true) {listed : Array Bool} (hs : listed.size = n) (h : Region.ready .any (l.take n).toArray listed = []) : ∀ i, i < n → listed.getD i false = true := by
  intro i
  induction i using Nat.strongRecOn with
  | _ i ih =>
    intro hi
    obtain ⟨o, ho, _, he⟩ := plainB_at hp hi
    cases hl : listed.getD i false with
    | true => rfl
    | false =>
      have : i ∈ Region.ready .any (l.take n).toArray listed := mem_ready.2 ⟨getD_in (by omega) hl, o, by simp [hi, ho], fun e hm hb => ih e.on (he e hm hb) (by have := he e hm hb; omega)⟩
      rw [h] at this; cases this

theorem qOp_head {l : List Oper} {n i : Nat} (hp : plainB l n = true) (hi : i < n) {K : Act → Prop} {a : Act} (h : qOp P (l.take n).toArray C i K a) : qOp P l.toArray C i K a := by
  obtain ⟨o, ho, hg, _⟩ := plainB_at hp hi
  unfold qOp at *
  have h1 : (l.take n).toArray[i]? = some o := by simp [hi, ho]
  have h2 : l.toArray[i]? = some o := by simp [ho]
  simp only [h1, h2, Region.wanted, hg] at *
  exact h

theorem getD_lt {x y : Array Bool} {n i : Nat} (h : ∀ i, i < n → x[i]? = y[i]?) (hi : i < n) (d : Bool) : x.getD i d = y.getD i d := by
  have h1 := h i hi
  have e : ∀ z : Array Bool, z.getD i d = z[i]?.getD d := fun z => by simp
  rw [e x, e y, h1]

theorem sim {l : List Oper} {n : Nat} (hn : n < l.length) (hp : plainB l n = true) (hs : Region.sinkB .any l.toArray n = true) (hc : Region.chainB .any l.toArray n = true)
    (hq : Region.seqB .any l.toArray (l.length - n) n ((List.replicate n true ++ List.replicate (l.length - n) false).toArray) = true)
    {Q : Act → Prop} {Q' : Exit → Act → World → Prop} (hQ : ∀ a w, C w → Q a → wpList P l.toArray Q' (l.drop n) a w) :
    ∀ (f : Nat) (part listed : Array Bool) (a : Act) (w : World), C w → part.size = n → (∀ i, i < n → listed[i]? = part[i]?) → HeadInv .any l.toArray n listed →
      wpAnyQ P .any (l.take n).toArray C Q f part a → wpAny P .any l.toArray Q' ((l.length - n) + f) listed a w := by
  have fin : ∀ (f : Nat) (part listed : Array Bool) (a : Act) (w : World), C w → part.size = n → (∀ i, i < n → listed[i]? = part[i]?) → HeadInv .any l.toArray n listed →
      Region.ready .any (l.take n).toArray part = [] → Q a → wpAny P .any l.toArray Q' ((l.length - n) + f) listed a w := by
    intro f part listed a w hw hz hl inv h0 h1
    have hall := all_listed hp hz h0
    have he : listed = (List.replicate n true ++ List.replicate (l.length - n) false).toArray := by
      have hsz := inv.size
      simp only [List.size_toArray] at hsz
      refine Array.ext (by simp [hsz]; omega) fun i hi _ => ?_
      by_cases hin : i < n
      · have h2 := hall i hin
        rw [← getD_lt hl hin false] at h2
        simp only [Array.getD_eq_getD_getElem?, Array.getElem?_eq_getElem hi, Option.getD_some] at h2
        simp [h2, hin]
      · have h2 := inv.tail i (by omega) (by simp only [List.size_toArray]; omega)
        simp only [Array.getD_eq_getD_getElem?, Array.getElem?_eq_getElem hi, Option.getD_some] at h2
        rw [h2, List.getElem_toArray, List.getElem_append_right (by simp; omega)]
        simp
    have hdl : (l.drop n).length = l.length - n := by simp
    rw [← hdl]
    refine any_tail f (l.drop n) n listed a w (fun j => by simp [List.getElem?_drop]) ?_ (hQ _ _ hw h1)
    rw [hdl, he]; exact hq
  intro f
  induction f with
  | zero => intro part listed a w hw hz hl inv h; exact fin 0 part listed a w hw hz hl inv h.1 h.2
  | succ f ih =>
    intro part listed a w hw hz hl inv h
    by_cases h0 : Region.ready .any (l.take n).toArray part = []
    · exact fin (f + 1) part listed a w hw hz hl inv h0 (h.1 h0)
    · have hr : ∀ i, i < n → (i ∈ Region.ready .any l.toArray listed ↔ i ∈ Region.ready .any (l.take n).toArray part) := fun i hi => by
        obtain ⟨o, ho, _, he⟩ := plainB_at hp hi
        rw [mem_ready, mem_ready, getD_lt hl hi true]
        have e1 : l.toArray[i]? = some o := by simp [ho]
        have e2 : (l.take n).toArray[i]? = some o := by simp [hi, ho]
        simp only [e1, e2, Option.some.injEq, exists_eq_left']
        constructor
        · rintro ⟨x, y⟩; exact ⟨x, fun e hm hb => by rw [← getD_lt hl (by have := he e hm hb; omega) false]; exact y e hm hb⟩
        · rintro ⟨x, y⟩; exact ⟨x, fun e hm hb => by rw [getD_lt hl (by have := he e hm hb; omega) false]; exact y e hm hb⟩
      obtain ⟨i0, hi0⟩ := List.exists_mem_of_ne_nil _ h0
      have hi0n : i0 < n := by
        obtain ⟨_, o, ho, _⟩ := mem_ready.1 hi0
        have := (Array.getElem?_eq_some_iff.1 ho).1
        simp only [List.size_toArray, List.length_take] at this
        omega
      have hu : listed.getD i0 true = false := (mem_ready.1 ((hr i0 hi0n).2 hi0)).1
      rw [show (l.length - n) + (f + 1) = ((l.length - n) + f) + 1 by omega]
      refine ⟨fun h1 => (by have := (hr i0 hi0n).2 hi0; rw [h1] at this; cases this), fun i hi => ?_⟩
      have hin : i < n := by
        rcases Nat.lt_or_ge i n with h1 | h1
        · exact h1
        · exact absurd hi (tail_waits hs hc (by simpa using hn) inv _ i0 rfl hi0n hu i h1)
      refine wpOp_of_qOp hw (fun a' w' hw' h3 => ih _ _ a' w' hw' ?_ ?_ (inv.set hi hin) h3) (qOp_head hp hin (h.2 i ((hr i hin).1 hi)))
      · simpa using hz
      · intro j hj
        have hsz := inv.size
        simp only [List.size_toArray] at hsz
        by_cases hij : i = j
        · subst hij
          rw [Array.getElem?_setIfInBounds_self_of_lt (by omega), Array.getElem?_setIfInBounds_self_of_lt (by omega)]
        · rw [Array.getElem?_setIfInBounds_ne hij, Array.getElem?_setIfInBounds_ne hij]; exact hl j hj

/-- **A region whose head keeps a class of worlds, and a tail in one forced order behind it.** -/
theorem wp_region_tail (n : Nat) {id : Nat} {Q : Exit → Act → World → Prop} {a : Act} {w : World} {l : List Oper} (hm : P.follows .mixedOrders = true) (hB : tailB l n = true) (hC : C w.drew)
    (h : wpQuiet P (l.take n).toArray C (fun a' => ∀ w', C w' → wpList P l.toArray Q (l.drop n) a' w') (l.take n) a) : (Code.region id l.toArray true).wp P Q a w := by
  simp only [tailB, Bool.and_eq_true, decide_eq_true_eq] at hB
  obtain ⟨⟨⟨⟨⟨hn, hp⟩, hlex⟩, hs⟩, hc⟩, hq⟩ := hB
  simp only [Region.lexB, Bool.and_eq_true] at hlex
  have htl : (l.take n).length = n := by simp; omega
  have H := wpAnyQ_lex (C := C) (md := .any) hlex.1 (l.take n) 0 (Array.replicate (l.take n).toArray.size false) a (by simp) (by simpa using hlex.2) h
  have inv0 : HeadInv .any l.toArray n (Array.replicate l.toArray.size false) :=
    ⟨by simp, fun j oj _ hl => (by rw [getD_replicate_false] at hl; cases hl), fun t _ ht => getD_in (by simpa using ht) (getD_replicate_false _ _)⟩
  refine wp_region_any hm ?_
  have := sim (C := C) hn hp hs hc hq (Q' := Q) (fun a w hw hq => hq w hw) _ _ (Array.replicate l.toArray.size false) a _ hC (by simp; omega) (fun i hi => by rw [Array.getElem?_replicate, Array.getElem?_replicate, if_pos (by simp; omega), if_pos (by simp; omega)]) inv0 H
  rw [htl, show l.length - n + n = l.toArray.size by simp; omega] at this
  exact this

/-- one operation of the head, its value named -/
theorem head_step {o : Oper} {rest : List Oper} {Q : Act → Prop} {a : Act} {v : Value} (hg : o.guard = none) (h : ∀ w, C w → o.quietAt P a C w v) (hn : wpQuiet P ops C Q rest (a.put o.dst v)) : wpQuiet P ops C Q (o :: rest) a := by
  unfold wpQuiet
  simp only [Region.wanted, hg, if_true]
  exact ⟨v, h, hn⟩
end
end Go.Proofs.Ytepooocdpifcfaa
