/- A region that draws its order, of which all operations but a tail leave the world within a class: one walk in the order of the text, then the tail. The kit's law for this (Deep/Quiet) has no tail; its law with a tail (StillTail) has no class. * A region that draws its order: a head of reads and of calls that write new memory alone, an allocation that may come up anywhere beside them, a tail in one forced order ('c := f(g(x)).h(y)' with c on the heap). One walk of the head in the order of the text serves every order. * Plain facts on the field of 256 elements that the program's package gf reckons in: products, powers, inverses, the box, and mixed columns. No program stands in this text; no condition. * Bytes as the walk's integers: a byte is written 'B x' in a slot; what the machine's operations on bytes make of it. No condition. * Arrays of bytes as functions of the place: what is read of them and what is stored into them. No condition. * Rows of one-cell values in a call's own blocks: what a whole row, or a part of one, reads as, and what a store or a copy leaves; as rules for the walk. No condition beside those that each rule names. * The blocks of a call's own, with what they hold, as ONE fact of a world; what calls, draws, stores and allocations make of it; regions that draw their order under it. No condition. * A region that draws its order: a head of reads and of calls that write new memory alone, some allocations that may come up anywhere beside them, a tail in one forced order behind all. One walk of the head in the order of the text serves every order. * A region that draws its order: a head of reads and of calls that write new memory alone, some new variables and what is stored into each ('x, y := f(a), g(b)' with x and y on the heap): allocations and stores may come up anywhere. One walk of the head in the order of the text serves every order. * Three new variables in one statement. * Arrays of rows of bytes held against each other. No condition. -/
import Derived.Deep.Quiet
import Derived.StillTail
import Derived.Tactics
import Derived.Tactics2
import Derived.KernelRfl
import Derived.Below
import Init.Data.UInt.Bitwise
import Init.Data.UInt.Lemmas
import Derived.WalkKit
import Derived.WalkSpells
import Derived.WalkLawsBesides
import Derived.Deep.QuietTactic
import Derived.BigQuiet
import Derived.Lib.Hide
import Derived.Laws.CopyOwn
import Derived.Deep.RegionHeld3
section
namespace Go.Proofs.Ytgaecjhghpkcoaa
open Go

section
variable {P : Program} {ops : Array Oper} {md : Region.Mode} {C : World → Prop}

theorem any_done {Q' : Exit → Act → World → Prop} {listed : Array Bool} {a : Act} {w : World} (h : Region.ready md ops listed = []) (hq : Q' .normal a w) : ∀ x, wpAny P md ops Q' x listed a w
  | 0 => ⟨h, hq⟩
  | _ + 1 => ⟨fun _ => hq, fun i hi => by rw [h] at hi; cases hi⟩

theorem any_tail {Q' : Exit → Act → World → Prop} (x : Nat) : ∀ (l : List Oper) (k : Nat) (listed : Array Bool) (a : Act) (w : World), (∀ j, l[j]? = ops[k + j]?) →
    Region.seqB md ops l.length k listed = true → wpList P ops Q' l a w → wpAny P md ops Q' (l.length + x) listed a w
  | [], k, listed, a, w, _, hB, h => any_done (by simpa [Region.seqB] using hB) h _
  | o :: l, k, listed, a, w, hl, hB, h => by
    have h0 : ops[k]? = some o := by simpa using (hl 0).symm
    simp only [List.length_cons, Region.seqB, Bool.and_eq_true, decide_eq_true_eq] at hB
    rw [show (o :: l).length + x = (l.length + x) + 1 by simp; omega]
    refine ⟨fun h1 => (by rw [hB.1] at h1; cases h1), fun i hi => ?_⟩
    rw [hB.1] at hi
    have hik : i = k := by simpa using hi
    subst hik
    have hw : wpOp P ops Q' i (wpList P ops Q' l) a w := by unfold wpOp; simp only [h0]; exact h
    exact wpOp_mono (fun a' w' h' => any_tail x l (i + 1) _ a' w' (fun j => by have := hl (j + 1); simpa [Nat.add_assoc, Nat.add_comm 1 j] using this) hB.2 h') hw

/-- of the first n operations none is guarded, and each waits for earlier ones alone -/
def plainB (l : List Oper) (n : Nat) : Bool := (List.range n).all fun i => match l[i]? with | some o => o.guard.isNone && o.after.all (fun e => !Region.binds .any e || decide (e.on < i)) | none => false
def tailB (l : List Oper) (n : Nat) : Bool :=
  decide (n < l.length) && plainB l n && Region.lexB .any (l.take n).toArray && Region.sinkB .any l.toArray n && Region.chainB .any l.toArray n &&
    Region.seqB .any l.toArray (l.length - n) n ((List.replicate n true ++ List.replicate (l.length - n) false).toArray)

theorem plainB_at {l : List Oper} {n i : Nat} (h : plainB l n = true) (hi : i < n) : ∃ o, l[i]? = some o ∧ o.guard = none ∧ ∀ e ∈ o.after, Region.binds .any e = true → e.on < i := by
  have h1 := List.all_eq_true.1 h i (List.mem_range.2 hi)
  cases ho : l[i]? with
  | none => simp [ho] at h1
  | some o =>
    simp only [ho, Bool.and_eq_true, Option.isNone_iff_eq_none, Array.all_eq_true_iff_forall_mem, Bool.or_eq_true, Bool.not_eq_true', decide_eq_true_eq] at h1
    exact ⟨o, rfl, h1.1, fun e he hb => (h1.2 e he).elim (fun h => by rw [hb] at h; cases h) id⟩

theorem all_listed {l : List Oper} {n : Nat} (hp : plainB l n = true) {listed : Array Bool} (hs : listed.size = n) (h : Region.ready .any (l.take n).toArray listed = []) : ∀ i, i < n → listed.getD i false = true := by
  intro i
  induction i using Nat.strongRecOn with
  | _ i ih =>
    intro hi
    obtain ⟨o, ho, _, he⟩ := plainB_at hp hi
    cases hl : listed.getD i false with
    | true => rfl
    | false =>
      have : i ∈ Region.ready .any (l.take n).toArray listed := mem_ready.2 ⟨getD_in (by omega) hl, o, by simp [hi, ho], fun e hm hb => ih e.on (he e hm hb) (by have := he e hm hb; omega)⟩
      rw [h] at this; cases this

theorem qOp_head {l : List Oper} {n i : Nat} (hp : plainB l n = true) (hi : i < n) {K : Act → Prop} {a : Act} (h : qOp P (l.take n).toArray C i K a) : qOp P l.toArray C i K a := by
  obtain ⟨o, ho, hg, _⟩ := plainB_at hp hi
  unfold qOp at *
  have h1 : (l.take n).toArray[i]? = some o := by simp [hi, ho]
  have h2 : l.toArray[i]? = some o := by simp [ho]
  simp only [h1, h2, Region.wanted, hg] at *
  exact h

theorem getD_lt {x y : Array Bool} {n i : Nat} (h : ∀ i, i < n → x[i]? = y[i]?) (hi : i < n) (d : Bool) : x.getD i d = y.getD i d := by
  have h1 := h i hi
  have e : ∀ z : Array Bool, z.getD i d = z[i]?.getD d := fun z => by simp
  rw [e x, e y, h1]

theorem sim {l : List Oper} {n : Nat} (hn : n < l.length) (hp : plainB l n = true) (hs : Region.sinkB .any l.toArray n = true) (hc : Region.chainB .any l.toArray n = true)
    (hq : Region.seqB .any l.toArray (l.length - n) n ((List.replicate n true ++ List.replicate (l.length - n) false).toArray) = true)
    {Q : Act → Prop} {Q' : Exit → Act → World → Prop} (hQ : ∀ a w, C w → Q a → wpList P l.toArray Q' (l.drop n) a w) :
    ∀ (f : Nat) (part listed : Array Bool) (a : Act) (w : World), C w → part.size = n → (∀ i, i < n → listed[i]? = part[i]?) → HeadInv .any l.toArray n listed →
      wpAnyQ P .any (l.take n).toArray C Q f part a → wpAny P .any l.toArray Q' ((l.length - n) + f) listed a w := by
  have fin : ∀ (f : Nat) (part listed : Array Bool) (a : Act) (w : World), C w → part.size = n → (∀ i, i < n → listed[i]? = part[i]?) → HeadInv .any l.toArray n listed →
      Region.ready .any (l.take n).toArray part = [] → Q a → wpAny P .any l.toArray Q' ((l.length - n) + f) listed a w := by
    intro f part listed a w hw hz hl inv h0 h1
    have hall := all_listed hp hz h0
    have he : listed = (List.replicate n true ++ List.replicate (l.length - n) false).toArray := by
      have hsz := inv.size
      simp only [List.size_toArray] at hsz
      refine Array.ext (by simp [hsz]; omega) fun i hi _ => ?_
      by_cases hin : i < n
      · have h2 := hall i hin
        rw [← getD_lt hl hin false] at h2
        simp only [Array.getD_eq_getD_getElem?, Array.getElem?_eq_getElem hi, Option.getD_some] at h2
        simp [h2, hin]
      · have h2 := inv.tail i (by omega) (by simp only [List.size_toArray]; omega)
        simp only [Array.getD_eq_getD_getElem?, Array.getElem?_eq_getElem hi, Option.getD_some] at h2
        rw [h2, List.getElem_toArray, List.getElem_append_right (by simp; omega)]
        simp
    have hdl : (l.drop n).length = l.length - n := by simp
    rw [← hdl]
    refine any_tail f (l.drop n) n listed a w (fun j => by simp [List.getElem?_drop]) ?_ (hQ _ _ hw h1)
    rw [hdl, he]; exact hq
  intro f
  induction f with
  | zero => intro part listed a w hw hz hl inv h; exact fin 0 part listed a w hw hz hl inv h.1 h.2
  | succ f ih =>
    intro part listed a w hw hz hl inv h
    by_cases h0 : Region.ready .any (l.take n).toArray part = []
    · exact fin (f + 1) part listed a w hw hz hl inv h0 (h.1 h0)
    · have hr : ∀ i, i < n → (i ∈ Region.ready .any l.toArray listed ↔ i ∈ Region.ready .any (l.take n).toArray part) := fun i hi => by
        obtain ⟨o, ho, _, he⟩ := plainB_at hp hi
        rw [mem_ready, mem_ready, getD_lt hl hi true]
        have e1 : l.toArray[i]? = some o := by simp [ho]
        have e2 : (l.take n).toArray[i]? = some o := by simp [hi, ho]
        simp only [e1, e2, Option.some.injEq, exists_eq_left']
        constructor
        · rintro ⟨x, y⟩; exact ⟨x, fun e hm hb => by rw [← getD_lt hl (by have := he e hm hb; omega) false]; exact y e hm hb⟩
        · rintro ⟨x, y⟩; exact ⟨x, fun e hm hb => by rw [getD_lt hl (by have := he e hm hb; omega) false]; exact y e hm hb⟩
      obtain ⟨i0, hi0⟩ := List.exists_mem_of_ne_nil _ h0
      have hi0n : i0 < n := by
        obtain ⟨_, o, ho, _⟩ := mem_ready.1 hi0
        have := (Array.getElem?_eq_some_iff.1 ho).1
        simp only [List.size_toArray, List.length_take] at this
        omega
      have hu : listed.getD i0 true = false := (mem_ready.1 ((hr i0 hi0n).2 hi0)).1
      rw [show (l.length - n) + (f + 1) = ((l.length - n) + f) + 1 by omega]
      refine ⟨fun h1 => (by have := (hr i0 hi0n).2 hi0; rw [h1] at this; cases this), fun i hi => ?_⟩
      have hin : i < n := by
        rcases Nat.lt_or_ge i n with h1 | h1
        · exact h1
        · exact absurd hi (tail_waits hs hc (by simpa using hn) inv _ i0 rfl hi0n hu i h1)
      refine wpOp_of_qOp hw (fun a' w' hw' h3 => ih _ _ a' w' hw' ?_ ?_ (inv.set hi hin) h3) (qOp_head hp hin (h.2 i ((hr i hin).1 hi)))
      · simpa using hz
      · intro j hj
        have hsz := inv.size
        simp only [List.size_toArray] at hsz
        by_cases hij : i = j
        · subst hij
          rw [Array.getElem?_setIfInBounds_self_of_lt (by omega), Array.getElem?_setIfInBounds_self_of_lt (by omega)]
        · rw [Array.getElem?_setIfInBounds_ne hij, Array.getElem?_setIfInBounds_ne hij]; exact hl j hj

/-- **A region whose head keeps a class of worlds, and a tail in one forced order behind it.** -/
theorem wp_region_tail (n : Nat) {id : Nat} {Q : Exit → Act → World → Prop} {a : Act} {w : World} {l : List Oper} (hm : P.follows .mixedOrders = true) (hB : tailB l n = true) (hC : C w.drew)
    (h : wpQuiet P (l.take n).toArray C (fun a' => ∀ w', C w' → wpList P l.toArray Q (l.drop n) a' w') (l.take n) a) : (Code.region id l.toArray true).wp P Q a w := by
  simp only [tailB, Bool.and_eq_true, decide_eq_true_eq] at hB
  obtain ⟨⟨⟨⟨⟨hn, hp⟩, hlex⟩, hs⟩, hc⟩, hq⟩ := hB
  simp only [Region.lexB, Bool.and_eq_true] at hlex
  have htl : (l.take n).length = n := by simp; omega
  have H := wpAnyQ_lex (C := C) (md := .any) hlex.1 (l.take n) 0 (Array.replicate (l.take n).toArray.size false) a (by simp) (by simpa using hlex.2) h
  have inv0 : HeadInv .any l.toArray n (Array.replicate l.toArray.size false) :=
    ⟨by simp, fun j oj _ hl => (by rw [getD_replicate_false] at hl; cases hl), fun t _ ht => getD_in (by simpa using ht) (getD_replicate_false _ _)⟩
  refine wp_region_any hm ?_
  have := sim (C := C) hn hp hs hc hq (Q' := Q) (fun a w hw hq => hq w hw) _ _ (Array.replicate l.toArray.size false) a _ hC (by simp; omega) (fun i hi => by rw [Array.getElem?_replicate, Array.getElem?_replicate, if_pos (by simp; omega), if_pos (by simp; omega)]) inv0 H
  rw [htl, show l.length - n + n = l.toArray.size by simp; omega] at this
  exact this

/-- one operation of the head, its value named -/
theorem head_step {o : Oper} {rest : List Oper} {Q : Act → Prop} {a : Act} {v : Value} (hg : o.guard = none) (h : ∀ w, C w → o.quietAt P a C w v) (hn : wpQuiet P ops C Q rest (a.put o.dst v)) : wpQuiet P ops C Q (o :: rest) a := by
  unfold wpQuiet
  simp only [Region.wanted, hg, if_true]
  exact ⟨v, h, hn⟩
end
end Go.Proofs.Ytgaecjhghpkcoaa
end

section
namespace Go.Proofs.Ytgaecjhghpkcoaa
open Go Go.RowKit

section
variable {P : Program} {ops : Array Oper} {md : Region.Mode} {C : World → Prop}

/-- what is asked of an operation of the head: the value v in the world that it got, or a call that hands back v and writes new memory alone -/
def stepUpon (P : Program) (w : World) (v : Value) : Result Next → Prop
  | .ok (.value u) w' => w' = w ∧ u = v
  | .ok .skip w' => w' = w ∧ v = undef
  | .ok (.enter f args) w' => w' = w ∧ Calls P f args w (fun e w'' => e = .returned v ∧ Below w.heap.size w w'')
  | _ => False
def stepAt (P : Program) (o : Oper) (a : Act) (w : World) (v : Value) : Prop := stepUpon P w v ((execOp a.eval o).run P w)
def bOp (P : Program) (ops : Array Oper) (C : World → Prop) (i : Nat) (K : Act → Prop) (a : Act) : Prop :=
  match ops[i]? with
  | none => K a
  | some o => ∃ v, (∀ w, C w → stepAt P o a w v) ∧ K (a.put o.dst v)
theorem bOp_mono {i : Nat} {K K' : Act → Prop} {a : Act} (h : ∀ a, K a → K' a) (hh : bOp P ops C i K a) : bOp P ops C i K' a := by
  unfold bOp at *
  split
  · exact h _ (by simpa [*] using hh)
  · rename_i o ho
    simp only [ho] at hh
    obtain ⟨v, h1, h2⟩ := hh
    exact ⟨v, h1, h _ h2⟩
/-- the walk in the order of the text -/
def walkB (P : Program) (C : World → Prop) (Q : Act → Prop) : List Oper → Act → Prop
  | [], a => Q a
  | o :: rest, a => ∃ v, (∀ w, C w → stepAt P o a w v) ∧ walkB P C Q rest (a.put o.dst v)
theorem walkB_step {o : Oper} {rest : List Oper} {Q : Act → Prop} {a : Act} {v : Value} (h : ∀ w, C w → stepAt P o a w v) (hn : walkB P C Q rest (a.put o.dst v)) : walkB P C Q (o :: rest) a := ⟨v, h, hn⟩
theorem walkB_nil {Q : Act → Prop} {a : Act} (h : Q a) : walkB P C Q [] a := h
def wpAnyB (P : Program) (md : Region.Mode) (ops : Array Oper) (C : World → Prop) (Q : Act → Prop) : Nat → Array Bool → Act → Prop
  | 0, listed, a => Region.ready md ops listed = [] ∧ Q a
  | f + 1, listed, a => (Region.ready md ops listed = [] → Q a) ∧ ∀ i ∈ Region.ready md ops listed, bOp P ops C i (wpAnyB P md ops C Q f (listed.setIfInBounds i true)) a

theorem bOp_put {j : Nat} {oi oj : Oper} {v : Value} (hj : ops[j]? = some oj) (hap : oi.apart ops oj = true)
    (hsi : ∀ cs b, oi.op ≠ .select cs b) (hsj : ∀ cs b, oj.op ≠ .select cs b) {K : Act → Prop} {a : Act}
    (hy : ∀ w, C w → stepAt P oi a w v) (h : bOp P ops C j K (a.put oi.dst v)) : bOp P ops C j (fun a' => (∀ w, C w → stepAt P oi a' w v) ∧ K (a'.put oi.dst v)) a := by
  obtain ⟨h1, h2, h3⟩ := Oper.apart_spec hap
  unfold bOp at *
  simp only [hj] at *
  obtain ⟨u, hu, hn⟩ := h
  refine ⟨u, fun w hw => ?_, fun w hw => ?_, by rw [← Act.put_comm a v u h2]; exact hn⟩
  · have := hu w hw
    unfold stepAt at *
    rwa [execOp_put oj hsj a oi.dst v h1] at this
  · have := hy w hw
    unfold stepAt at *
    rwa [execOp_put oi hsi a oj.dst u h3]

/-- an operation that may come up now may come up first -/
theorem wpAnyB_first {Q : Act → Prop} {i : Nat} {oi : Oper} {v : Value} (hi : ops[i]? = some oi) (hsel : ∀ (j : Nat) (o : Oper) cs b, ops[j]? = some o → o.op ≠ .select cs b) :
    ∀ (f : Nat) (listed : Array Bool) (a : Act),
      (∀ j oj, ops[j]? = some oj → j ≠ i → listed.getD j true = false → (∀ e ∈ oj.after, Region.binds md e = true → e.on ≠ i) → oi.apart ops oj = true) →
      i ∈ Region.ready md ops listed → (∀ w, C w → stepAt P oi a w v) → wpAnyB P md ops C Q f (listed.setIfInBounds i true) (a.put oi.dst v) → wpAnyB P md ops C Q (f + 1) listed a := by
  intro f
  induction f with
  | zero =>
    intro listed a _ hr hy H
    refine ⟨fun h => (by rw [h] at hr; cases hr), fun j hj => ?_⟩
    by_cases hji : j = i
    · subst hji; unfold bOp; simp only [hi]; exact ⟨v, hy, H⟩
    · have h1 := ready_mono hj hji
      rw [H.1] at h1; cases h1
  | succ f ih =>
    intro listed a hfree hr hy H
    refine ⟨fun h => (by rw [h] at hr; cases hr), fun j hj => ?_⟩
    by_cases hji : j = i
    · subst hji; unfold bOp; simp only [hi]; exact ⟨v, hy, H⟩
    · have h1 := H.2 j (ready_mono hj hji)
      obtain ⟨hjun, oj, hoj, hall⟩ := mem_ready.1 hj
      have hnot : ∀ e ∈ oj.after, Region.binds md e = true → e.on ≠ i := fun e he hb heq => by
        have h2 := hall e he hb
        rw [heq, getD_both (mem_ready.1 hr).1] at h2; cases h2
      have h2 := bOp_put hoj (hfree j oj hoj hji hjun hnot) (fun cs b => hsel i oi cs b hi) (fun cs b => hsel j oj cs b hoj) hy h1
      refine bOp_mono (fun a' h3 => ih (listed.setIfInBounds j true) a' (fun k ok hk hki hun hno => hfree k ok hk hki ?_ hno) (ready_mono hr (Ne.symm hji)) h3.1 ?_) h2
      · by_cases hjk : j = k
        · subst hjk; exact hjun
        · rwa [getD_set_ne true hjk] at hun
      · rw [Array.setIfInBounds_comm _ _ hji]; exact h3.2
theorem wpAnyB_lex {Q : Act → Prop} (hs : Region.noSelect ops = true) : ∀ (l : List Oper) (k : Nat) (listed : Array Bool) (a : Act), (∀ j, l[j]? = ops[k + j]?) →
    Region.lexFrom md ops l.length k listed = true → walkB P C Q l a → wpAnyB P md ops C Q l.length listed a
  | [], _, _, _, _, hB, h => ⟨by simpa [Region.lexFrom] using hB, h⟩
  | o :: l, k, listed, a, hl, hB, h => by
    have h0 : ops[k]? = some o := by simpa using (hl 0).symm
    simp only [List.length_cons, Region.lexFrom, Bool.and_eq_true] at hB
    obtain ⟨⟨hr, hf⟩, hB'⟩ := hB
    obtain ⟨v, hy, hK⟩ := h
    exact wpAnyB_first h0 (Region.noSelect_spec hs) l.length listed a (Region.free_spec h0 hf) (by simpa using hr) hy
      (wpAnyB_lex hs l (k + 1) _ _ (fun j => by have := hl (j + 1); simpa [Nat.add_assoc, Nat.add_comm 1 j] using this) hB' hK)

theorem wp_of_step {o : Oper} {a : Act} {w : World} {v : Value} {K' : Act → World → Prop} {Q' : Exit → Act → World → Prop} (h : stepAt P o a w v) (hk : ∀ w', Below w.heap.size w w' → K' (a.put o.dst v) w') : o.wp P a w K' Q' := by
  unfold stepAt at h
  unfold Oper.wp
  generalize (execOp a.eval o).run P w = r at *
  cases r with
  | ok n w' =>
    cases n <;> simp only [stepUpon] at h <;> simp only [Oper.upon]
    case value u => obtain ⟨rfl, rfl⟩ := h; exact hk _ (Below.refl _ _)
    case skip => obtain ⟨rfl, rfl⟩ := h; exact hk _ (Below.refl _ _)
    case enter f args =>
      obtain ⟨rfl, hc⟩ := h
      exact hc.mono fun e w'' ⟨he, hw''⟩ => by subst he; exact hk _ hw''
  | halt x w' => simp only [stepUpon] at h

/-- the head is plain, keeps off slot d; operation n waits for nothing; the tail is forced -/
def floatB (l : List Oper) (n : Nat) (d : Tmp) : Bool :=
  decide (n + 1 < l.length) && plainB l n && (List.range n).all (fun i => match l[i]? with | some o => o.dst != some d && !(o.looksAt l.toArray).contains d | none => false) &&
    (match l[n]? with | some o => o.guard.isNone && o.after.isEmpty && o.dst == some d | none => false) && Region.noSelect l.toArray && Region.lexB .any (l.take n).toArray && Region.sinkB .any l.toArray (n + 1) && Region.chainB .any l.toArray (n + 1) &&
    Region.seqB .any l.toArray (l.length - (n + 1)) (n + 1) ((List.replicate (n + 1) true ++ List.replicate (l.length - (n + 1)) false).toArray)

/-- where the allocation has left its block -/
def Gone (C : World → Prop) (Z : Obj) (g : Nat) (w : World) : Prop := ∃ w1, C w1 ∧ g = w1.heap.size ∧ Below (w1.alloc Z).heap.size (w1.alloc Z) w
def ptrTo (g : Nat) : Value := .pointer (some ⟨g, 0, none⟩)

theorem simF {l : List Oper} {n : Nat} {d : Tmp} {Z : Obj} {on : Oper} (hB : floatB l n d = true) (hon : l[n]? = some on)
    (hal : ∀ (w : World) (a : Act), (execOp a.eval on).run P w = .ok (.value (ptrTo w.heap.size)) (w.alloc Z)) (hst : ∀ a c, C a → Below a.heap.size a c → C c)
    {Q : Act → Prop} {Q' : Exit → Act → World → Prop} (hQ : ∀ a w g, C w → Gone C Z g w → Q a → wpList P l.toArray Q' (l.drop (n + 1)) (a.put (some d) (ptrTo g)) w) :
    ∀ (f : Nat) (part listed : Array Bool) (a : Act) (w : World), C w → part.size = n → (∀ i, i < n → listed[i]? = part[i]?) → HeadInv .any l.toArray (n + 1) listed →
      wpAnyB P .any (l.take n).toArray C Q f part a →
      (listed.getD n true = false → wpAny P .any l.toArray Q' ((l.length - (n + 1)) + (f + 1)) listed a w) ∧
      (∀ g, listed.getD n false = true → Gone C Z g w → wpAny P .any l.toArray Q' ((l.length - (n + 1)) + f) listed (a.put (some d) (ptrTo g)) w) := by
  simp only [floatB, Bool.and_eq_true, decide_eq_true_eq] at hB
  obtain ⟨⟨⟨⟨⟨⟨⟨⟨hn, hp⟩, hd⟩, ho⟩, hsel⟩, _⟩, hs⟩, hc⟩, hq⟩ := hB
  simp only [hon, Bool.and_eq_true, Option.isNone_iff_eq_none, Array.isEmpty_iff, beq_iff_eq] at ho
  obtain ⟨⟨hog, hoa⟩, hod⟩ := ho
  have hons : l.toArray[n]? = some on := by simp [hon]
  have hsz : n + 1 < l.toArray.size := by simpa using hn
  have hhead : ∀ i, i < n → ∃ o, l[i]? = some o ∧ o.guard = none ∧ (∀ e ∈ o.after, Region.binds .any e = true → e.on < i) ∧ o.dst ≠ some d ∧ d ∉ o.looksAt l.toArray := fun i hi => by
    obtain ⟨o, h1, h2, h3⟩ := plainB_at hp hi
    have h4 := List.all_eq_true.1 hd i (List.mem_range.2 hi)
    simp only [h1, Bool.and_eq_true, bne_iff_ne, Bool.not_eq_true', ← Bool.not_eq_true, List.contains_iff_mem] at h4
    exact ⟨o, h1, h2, h3, h4.1, h4.2⟩
  have hgone : ∀ {g : Nat} {w w' : World}, Gone C Z g w → Below w.heap.size w w' → Gone C Z g w' := fun ⟨w1, h1, h2, h3⟩ hb => ⟨w1, h1, h2, h3.trans (hb.mono h3.size)⟩
  have hloc : ∀ w : World, Below w.heap.size w (w.alloc Z) := fun w => (Below.refl _ _).alloc (Nat.le_refl _) _
  -- operation n
  have opn : ∀ (f : Nat) (listed : Array Bool) (a : Act) (w : World), C w → wpAny P .any l.toArray Q' f (listed.setIfInBounds n true) (a.put (some d) (ptrTo w.heap.size)) (w.alloc Z) → wpOp P l.toArray Q' n (wpAny P .any l.toArray Q' f (listed.setIfInBounds n true)) a w := fun f listed a w hw h => by
    unfold wpOp
    simp only [hons, Region.wanted, hog, if_true]
    refine .inl ?_
    unfold Oper.wp
    rw [hal w a]
    simp only [Oper.upon, hod]
    exact h
  have fin1 : ∀ (f : Nat) (part listed : Array Bool) (a : Act) (w : World) (g : Nat), C w → Gone C Z g w → part.size = n → (∀ i, i < n → listed[i]? = part[i]?) → HeadInv .any l.toArray (n + 1) listed →
      Region.ready .any (l.take n).toArray part = [] → Q a → listed.getD n false = true → wpAny P .any l.toArray Q' ((l.length - (n + 1)) + f) listed (a.put (some d) (ptrTo g)) w := by
    intro f part listed a w g hw hg hz hl inv h0 h1 hln
    have hall := all_listed hp hz h0
    have he : listed = (List.replicate (n + 1) true ++ List.replicate (l.length - (n + 1)) false).toArray := by
      have hsz := inv.size
      simp only [List.size_toArray] at hsz
      refine Array.ext (by simp [hsz]; omega) fun i hi _ => ?_
      by_cases hin : i < n + 1
      · have h2 : listed.getD i false = true := by
          by_cases hi2 : i < n
          · have h2 := hall i hi2
            rwa [← getD_lt hl hi2 false] at h2
          · obtain rfl : i = n := by omega
            exact hln
        simp only [Array.getD_eq_getD_getElem?, Array.getElem?_eq_getElem hi, Option.getD_some] at h2
        simp only [h2, List.getElem_toArray]
        rw [List.getElem_append_left (by simp; omega)]
        simp
      · have h2 := inv.tail i (by omega) (by simp only [List.size_toArray]; omega)
        simp only [Array.getD_eq_getD_getElem?, Array.getElem?_eq_getElem hi, Option.getD_some] at h2
        rw [h2, List.getElem_toArray, List.getElem_append_right (by simp; omega)]
        simp
    have hdl : (l.drop (n + 1)).length = l.length - (n + 1) := by simp
    rw [← hdl]
    refine any_tail f (l.drop (n + 1)) (n + 1) listed _ w (fun j => by simp [List.getElem?_drop]) ?_ (hQ _ _ _ hw hg h1)
    rw [hdl, he]; exact hq
  -- what the head's own region says of what may come up
  have hr : ∀ (part listed : Array Bool), (∀ i, i < n → listed[i]? = part[i]?) → ∀ i, i < n → (i ∈ Region.ready .any l.toArray listed ↔ i ∈ Region.ready .any (l.take n).toArray part) := fun part listed hl i hi => by
    obtain ⟨o, ho, _, he, _⟩ := hhead i hi
    rw [mem_ready, mem_ready, getD_lt hl hi true]
    have e1 : l.toArray[i]? = some o := by simp [ho]
    have e2 : (l.take n).toArray[i]? = some o := by simp [hi, ho]
    simp only [e1, e2, Option.some.injEq, exists_eq_left']
    constructor
    · rintro ⟨x, y⟩; exact ⟨x, fun e hm hb => by rw [← getD_lt hl (by have := he e hm hb; omega) false]; exact y e hm hb⟩
    · rintro ⟨x, y⟩; exact ⟨x, fun e hm hb => by rw [getD_lt hl (by have := he e hm hb; omega) false]; exact y e hm hb⟩
  have hset : ∀ (part listed : Array Bool), part.size = n → HeadInv .any l.toArray (n + 1) listed → (∀ i, i < n → listed[i]? = part[i]?) → ∀ i, i < n → ∀ j, j < n → (listed.setIfInBounds i true)[j]? = (part.setIfInBounds i true)[j]? := fun part listed hz inv hl i hi j hj => by
    have hsz := inv.size
    simp only [List.size_toArray] at hsz
    by_cases hij : i = j
    · subst hij
      rw [Array.getElem?_setIfInBounds_self_of_lt (by omega), Array.getElem?_setIfInBounds_self_of_lt (by omega)]
    · rw [Array.getElem?_setIfInBounds_ne hij, Array.getElem?_setIfInBounds_ne hij]; exact hl j hj
  have hsetn : ∀ (part listed : Array Bool), (∀ i, i < n → listed[i]? = part[i]?) → ∀ j, j < n → (listed.setIfInBounds n true)[j]? = part[j]? := fun part listed hl j hj => by
    rw [Array.getElem?_setIfInBounds_ne (by omega)]; exact hl j hj
  have hnr : ∀ listed : Array Bool, listed.getD n true = false → n ∈ Region.ready .any l.toArray listed := fun listed h => mem_ready.2 ⟨h, on, hons, fun e he => by rw [hoa] at he; simp at he⟩
  have hnset : ∀ listed : Array Bool, HeadInv .any l.toArray (n + 1) listed → (listed.setIfInBounds n true).getD n false = true := fun listed inv => by
    have hsz := inv.size
    simp only [List.size_toArray] at hsz
    simp; omega
  -- one operation of the head
  have step : ∀ (i : Nat), i < n → ∀ (part : Array Bool) (f : Nat) (a : Act), i ∈ Region.ready .any (l.take n).toArray part → wpAnyB P .any (l.take n).toArray C Q (f + 1) part a →
      ∃ o v, l[i]? = some o ∧ o.guard = none ∧ o.dst ≠ some d ∧ d ∉ o.looksAt l.toArray ∧ (∀ w, C w → stepAt P o a w v) ∧ wpAnyB P .any (l.take n).toArray C Q f (part.setIfInBounds i true) (a.put o.dst v) := fun i hi part f a hir h => by
    obtain ⟨o, ho, hg, _, h1, h2⟩ := hhead i hi
    have h3 := h.2 i hir
    unfold bOp at h3
    have e2 : (l.take n).toArray[i]? = some o := by simp [hi, ho]
    simp only [e2] at h3
    obtain ⟨v, h4, h5⟩ := h3
    exact ⟨o, v, ho, hg, h1, h2, h4, h5⟩
  have main : ∀ (f : Nat), (∀ (part listed : Array Bool) (a : Act) (w : World) (g : Nat), C w → Gone C Z g w → part.size = n → (∀ i, i < n → listed[i]? = part[i]?) → HeadInv .any l.toArray (n + 1) listed →
      wpAnyB P .any (l.take n).toArray C Q f part a → listed.getD n false = true → wpAny P .any l.toArray Q' ((l.length - (n + 1)) + f) listed (a.put (some d) (ptrTo g)) w) := by
    intro f
    induction f with
    | zero => intro part listed a w g hw hg hz hl inv h hln; exact fin1 0 part listed a w g hw hg hz hl inv h.1 h.2 hln
    | succ f ih =>
      intro part listed a w g hw hg hz hl inv h hln
      by_cases h0 : Region.ready .any (l.take n).toArray part = []
      · exact fin1 (f + 1) part listed a w g hw hg hz hl inv h0 (h.1 h0) hln
      · obtain ⟨i0, hi0⟩ := List.exists_mem_of_ne_nil _ h0
        have hi0n : i0 < n := by
          obtain ⟨_, o, ho, _⟩ := mem_ready.1 hi0
          have := (Array.getElem?_eq_some_iff.1 ho).1
          simp only [List.size_toArray, List.length_take] at this
          omega
        have hi0' := (hr part listed hl i0 hi0n).2 hi0
        rw [show (l.length - (n + 1)) + (f + 1) = ((l.length - (n + 1)) + f) + 1 by omega]
        refine ⟨fun h1 => (by rw [h1] at hi0'; cases hi0'), fun i hi => ?_⟩
        have hin : i < n := by
          rcases Nat.lt_or_ge i n with h1 | h1
          · exact h1
          · rcases Nat.lt_or_ge i (n + 1) with h2 | h2
            · obtain rfl : i = n := by omega
              have h3 := getD_both (mem_ready.1 hi).1
              rw [hln] at h3; cases h3
            · exact absurd hi (tail_waits hs hc hsz inv _ i0 rfl (by omega) (mem_ready.1 hi0').1 i h2)
        obtain ⟨o, v, ho, hg1, h1, h2, h4, h5⟩ := step i hin part f a ((hr part listed hl i hin).1 hi) h
        have e1 : l.toArray[i]? = some o := by simp [ho]
        have hat : stepAt P o (a.put (some d) (ptrTo g)) w v := by
          have h6 := h4 w hw
          unfold stepAt at *
          rwa [execOp_put (ops := l.toArray) o (Region.noSelect_spec hsel i o · · e1) a (some d) (ptrTo g) (fun d' hd' => by obtain rfl := Option.some.inj hd'; exact h2)]
        unfold wpOp
        simp only [e1, Region.wanted, hg1, if_true]
        refine .inl (wp_of_step hat fun w' hb => ?_)
        rw [Act.put_comm a (x := some d) (y := o.dst) (ptrTo g) v (fun d' hd' => by obtain rfl := Option.some.inj hd'; exact h1)]
        refine ih _ _ _ w' g (hst _ _ hw hb) (hgone hg hb) (by simpa using hz) (hset part listed hz inv hl i hin) (inv.set hi (by omega)) h5 ?_
        rw [getD_set_ne false (by omega)]; exact hln
  intro f
  induction f with
  | zero =>
    intro part listed a w hw hz hl inv h
    refine ⟨fun hln => ?_, fun g hln hg => main 0 part listed a w g hw hg hz hl inv h hln⟩
    refine ⟨fun h1 => (by have := hnr listed hln; rw [h1] at this; cases this), fun i hi => ?_⟩
    have hall := all_listed hp hz h.1
    have hin : i = n := by
      rcases Nat.lt_or_ge i n with h1 | h1
      · have h2 := (hr part listed hl i h1).1 hi
        rw [h.1] at h2; cases h2
      · rcases Nat.lt_or_ge i (n + 1) with h2 | h2
        · omega
        · exact absurd hi (tail_waits hs hc hsz inv _ n rfl (by omega) hln i h2)
    subst hin
    exact opn _ listed a w hw (main 0 part _ a _ _ (hst _ _ hw (hloc w)) ⟨w, hw, rfl, Below.refl _ _⟩ hz (hsetn part listed hl) (inv.set hi (by omega)) h (hnset listed inv))
  | succ f ih =>
    intro part listed a w hw hz hl inv h
    refine ⟨fun hln => ?_, fun g hln hg => main (f + 1) part listed a w g hw hg hz hl inv h hln⟩
    rw [show (l.length - (n + 1)) + (f + 1 + 1) = ((l.length - (n + 1)) + (f + 1)) + 1 by omega]
    refine ⟨fun h1 => (by have := hnr listed hln; rw [h1] at this; cases this), fun i hi => ?_⟩
    rcases Nat.lt_or_ge i n with hin | h1
    · obtain ⟨o, v, ho, hg1, h1, h2, h4, h5⟩ := step i hin part f a ((hr part listed hl i hin).1 hi) h
      have e1 : l.toArray[i]? = some o := by simp [ho]
      unfold wpOp
      simp only [e1, Region.wanted, hg1, if_true]
      refine .inl (wp_of_step (h4 w hw) fun w' hb => ?_)
      refine (ih _ _ _ w' (hst _ _ hw hb) (by simpa using hz) (hset part listed hz inv hl i hin) (inv.set hi (by omega)) h5).1 ?_
      rw [getD_set_ne true (by omega)]; exact hln
    · rcases Nat.lt_or_ge i (n + 1) with h2 | h2
      · obtain rfl : i = n := by omega
        exact opn _ listed a w hw (main (f + 1) part _ a _ _ (hst _ _ hw (hloc w)) ⟨w, hw, rfl, Below.refl _ _⟩ hz (hsetn part listed hl) (inv.set hi (by omega)) h (hnset listed inv))
      · exact absurd hi (tail_waits hs hc hsz inv _ n rfl (by omega) hln i h2)

/-- **A region whose head writes new memory alone, an allocation that comes up anywhere, a tail in one forced order behind both.** -/
theorem wp_region_float (n : Nat) (d : Tmp) (Z : Obj) {id : Nat} {Q : Exit → Act → World → Prop} {a : Act} {w : World} {l : List Oper} (on : Oper) (hm : P.follows .mixedOrders = true) (hB : floatB l n d = true) (hon : l[n]? = some on)
    (hal : ∀ (w : World) (a : Act), (execOp a.eval on).run P w = .ok (.value (ptrTo w.heap.size)) (w.alloc Z)) (hst : ∀ a c, C a → Below a.heap.size a c → C c) (hC : C w.drew)
    (h : walkB P C (fun a' => ∀ w' g, C w' → Gone C Z g w' → wpList P l.toArray Q (l.drop (n + 1)) (a'.put (some d) (ptrTo g)) w') (l.take n) a) : (Code.region id l.toArray true).wp P Q a w := by
  have hB' := hB
  simp only [floatB, Bool.and_eq_true, decide_eq_true_eq] at hB'
  obtain ⟨⟨⟨⟨⟨⟨⟨⟨hn, _⟩, _⟩, _⟩, _⟩, hlex⟩, _⟩, _⟩, _⟩ := hB'
  simp only [Region.lexB, Bool.and_eq_true] at hlex
  have htl : (l.take n).length = n := by simp; omega
  have H := wpAnyB_lex (C := C) (md := .any) hlex.1 (l.take n) 0 (Array.replicate (l.take n).toArray.size false) a (by simp) (by simpa using hlex.2) h
  have inv0 : HeadInv .any l.toArray (n + 1) (Array.replicate l.toArray.size false) :=
    ⟨by simp, fun j oj _ hl => (by rw [getD_replicate_false] at hl; cases hl), fun t _ ht => getD_in (by simpa using ht) (getD_replicate_false _ _)⟩
  refine wp_region_any hm ?_
  have := (simF (C := C) hB hon hal hst (Q' := Q) (fun a w g hw hg hq => hq w g hw hg) _ _ (Array.replicate l.toArray.size false) a _ hC (by simp; omega) (fun i hi => by rw [Array.getElem?_replicate, Array.getElem?_replicate, if_pos (by simp; omega), if_pos (by simp; omega)]) inv0 H).1 (getD_in (by simp; omega) (getD_replicate_false _ _))
  rw [htl, show l.length - (n + 1) + (n + 1) = l.toArray.size by simp; omega] at this
  exact this
end
end Go.Proofs.Ytgaecjhghpkcoaa
end

section
namespace Go.Proofs.Ytgaecjhghpkcoaa.Gf

theorem all256 (p : UInt8 → Prop) (h : ∀ n < 256, p (UInt8.ofNat n)) (x : UInt8) : p x := by
  have := h x.toNat x.toNat_lt
  simpa using this

/-- times x -/
def dbl (a : UInt8) : UInt8 := (a <<< 1) ^^^ ((27 : UInt8) &&& -(a >>> 7))
/-- one step of the product: bit i of b -/
def mulStep (a b : UInt8) (i : Nat) (out : UInt8) : UInt8 := dbl out ^^^ (a &&& -((b >>> UInt8.ofNat i) &&& 1))
/-- the product behind k steps, the highest bit first -/
def mulTo (a b : UInt8) : Nat → UInt8
  | 0 => 0
  | k + 1 => mulStep a b (7 - k) (mulTo a b k)
/-- the product -/
def mul (a b : UInt8) : UInt8 := mulTo a b 8
/-- bit i as a mask -/
def mask (b : UInt8) (i : Nat) : UInt8 := -((b >>> UInt8.ofNat i) &&& 1)

/-- the same, over natural numbers -/
def dblN (a : Nat) : Nat := ((2 * a) % 256) ^^^ (if a < 128 then 0 else 27)

theorem dbl_nat (a : UInt8) : (dbl a).toNat = dblN a.toNat := by
  revert a; apply all256; decide +kernel

theorem xor4 (a b c d : UInt8) : (a ^^^ b) ^^^ (c ^^^ d) = (a ^^^ c) ^^^ (b ^^^ d) := by
  rw [UInt8.xor_assoc, UInt8.xor_assoc, ← UInt8.xor_assoc b, UInt8.xor_comm b c, UInt8.xor_assoc c]

theorem dbl_top (a : UInt8) : (27 : UInt8) &&& -(a >>> 7) = if a.toNat.testBit 7 then 27 else 0 := by
  revert a; apply all256; decide +kernel

theorem dbl_xor (a b : UInt8) : dbl (a ^^^ b) = dbl a ^^^ dbl b := by
  unfold dbl
  rw [dbl_top, dbl_top, dbl_top, UInt8.shiftLeft_xor, xor4 (a <<< 1)]
  congr 1
  rw [UInt8.toNat_xor, Nat.testBit_xor]
  cases a.toNat.testBit 7 <;> cases b.toNat.testBit 7 <;> decide

theorem mask_or (b : UInt8) (i : Nat) (hi : i < 8) : mask b i = if b.toNat.testBit i then 255 else 0 := by
  have h : ∀ n < 256, ∀ i < 8, mask (UInt8.ofNat n) i = if (UInt8.ofNat n).toNat.testBit i then 255 else 0 := by decide +kernel
  have := h b.toNat b.toNat_lt i hi
  simpa using this

theorem and_255 (a : UInt8) : a &&& 255 = a := by revert a; apply all256; decide +kernel

theorem mulStep_eq (a b : UInt8) (i : Nat) (hi : i < 8) (out : UInt8) : mulStep a b i out = dbl out ^^^ (if b.toNat.testBit i then a else 0) := by
  show dbl out ^^^ (a &&& mask b i) = _
  rw [mask_or b i hi]
  split <;> simp [and_255]

theorem xor_left_comm (a b c : UInt8) : a ^^^ (b ^^^ c) = b ^^^ (a ^^^ c) := by
  rw [← UInt8.xor_assoc, UInt8.xor_comm a b, UInt8.xor_assoc]

theorem mulTo_xor_right (a b c : UInt8) : ∀ k ≤ 8, mulTo a (b ^^^ c) k = mulTo a b k ^^^ mulTo a c k
  | 0, _ => by simp [mulTo]
  | k + 1, hk => by
    simp only [mulTo]
    rw [mulStep_eq _ _ _ (by omega), mulStep_eq _ _ _ (by omega), mulStep_eq _ _ _ (by omega), mulTo_xor_right a b c k (by omega), dbl_xor, xor4]
    congr 1
    rw [UInt8.toNat_xor, Nat.testBit_xor]
    cases b.toNat.testBit (7 - k) <;> cases c.toNat.testBit (7 - k) <;> simp

theorem mulTo_xor_left (a b c : UInt8) : ∀ k ≤ 8, mulTo (a ^^^ b) c k = mulTo a c k ^^^ mulTo b c k
  | 0, _ => by simp [mulTo]
  | k + 1, hk => by
    simp only [mulTo]
    rw [mulStep_eq _ _ _ (by omega), mulStep_eq _ _ _ (by omega), mulStep_eq _ _ _ (by omega), mulTo_xor_left a b c k (by omega), dbl_xor, xor4]
    congr 1
    split <;> simp

theorem mul_xor_right (a b c : UInt8) : mul a (b ^^^ c) = mul a b ^^^ mul a c := mulTo_xor_right a b c 8 (by omega)
theorem mul_xor_left (a b c : UInt8) : mul (a ^^^ b) c = mul a c ^^^ mul b c := mulTo_xor_left a b c 8 (by omega)

/-- what adds up is told by the eight bits -/
structure Adds (f : UInt8 → UInt8) : Prop where
  add : ∀ x y, f (x ^^^ y) = f x ^^^ f y

theorem Adds.zero {f : UInt8 → UInt8} (h : Adds f) : f 0 = 0 := by
  have := h.add 0 0
  simp only [UInt8.xor_self] at this
  rw [this]

/-- the bits of a byte, put together -/
def bitsOf (x : UInt8) : List UInt8 := [1, 2, 4, 8, 16, 32, 64, 128].filter (fun p => x &&& p != 0)

theorem bitsOf_sum (x : UInt8) : (bitsOf x).foldr (· ^^^ ·) 0 = x := by
  revert x; apply all256; decide +kernel

theorem Adds.sum {f : UInt8 → UInt8} (h : Adds f) : ∀ l : List UInt8, f (l.foldr (· ^^^ ·) 0) = (l.map f).foldr (· ^^^ ·) 0
  | [] => h.zero
  | x :: l => by simp only [List.foldr_cons, List.map_cons, h.add, Adds.sum h l]

theorem mem_bitsOf (x p : UInt8) (h : p ∈ bitsOf x) : p ∈ ([1, 2, 4, 8, 16, 32, 64, 128] : List UInt8) := (List.mem_filter.1 h).1

theorem Adds.ext {f g : UInt8 → UInt8} (hf : Adds f) (hg : Adds g) (h : ∀ p ∈ ([1, 2, 4, 8, 16, 32, 64, 128] : List UInt8), f p = g p) (x : UInt8) : f x = g x := by
  rw [← bitsOf_sum x, hf.sum, hg.sum]
  congr 1
  exact List.map_congr_left fun p hp => h p (mem_bitsOf x p hp)

theorem adds_right (a : UInt8) : Adds (mul a) := ⟨mul_xor_right a⟩
theorem adds_left (b : UInt8) : Adds (fun a => mul a b) := ⟨fun x y => mul_xor_left x y b⟩
theorem Adds.comp {f g : UInt8 → UInt8} (hf : Adds f) (hg : Adds g) : Adds (fun x => f (g x)) := ⟨fun x y => by show f (g (x ^^^ y)) = f (g x) ^^^ f (g y); rw [hg.add, hf.add]⟩

theorem mul_comm (a b : UInt8) : mul a b = mul b a := by
  refine Adds.ext (f := fun a => mul a b) (g := mul b) (adds_left b) (adds_right b) (fun p hp => ?_) a
  refine Adds.ext (f := mul p) (g := fun b => mul b p) (adds_right p) (adds_left p) (fun q hq => ?_) b
  have : ∀ p ∈ ([1, 2, 4, 8, 16, 32, 64, 128] : List UInt8), ∀ q ∈ ([1, 2, 4, 8, 16, 32, 64, 128] : List UInt8), mul p q = mul q p := by decide +kernel
  exact this p hp q hq

theorem mul_assoc (a b c : UInt8) : mul (mul a b) c = mul a (mul b c) := by
  refine Adds.ext (f := fun a => mul (mul a b) c) (g := fun a => mul a (mul b c)) ((adds_left c).comp (adds_left b)) (adds_left _) (fun p hp => ?_) a
  refine Adds.ext (f := fun b => mul (mul p b) c) (g := fun b => mul p (mul b c)) ((adds_left c).comp (adds_right p)) ((adds_right p).comp (adds_left c)) (fun q hq => ?_) b
  refine Adds.ext (f := fun c => mul (mul p q) c) (g := fun c => mul p (mul q c)) (adds_right _) ((adds_right p).comp (adds_right q)) (fun r hr => ?_) c
  have : ∀ p ∈ ([1, 2, 4, 8, 16, 32, 64, 128] : List UInt8), ∀ q ∈ ([1, 2, 4, 8, 16, 32, 64, 128] : List UInt8), ∀ r ∈ ([1, 2, 4, 8, 16, 32, 64, 128] : List UInt8), mul (mul p q) r = mul p (mul q r) := by decide +kernel
  exact this p hp q hq r hr

theorem mul_one (a : UInt8) : mul a 1 = a := by revert a; apply all256; decide +kernel
theorem one_mul (a : UInt8) : mul 1 a = a := by rw [mul_comm, mul_one]
theorem mul_zero (a : UInt8) : mul a 0 = 0 := (adds_right a).zero
theorem zero_mul (a : UInt8) : mul 0 a = 0 := (adds_left a).zero
theorem mul_left_comm (a b c : UInt8) : mul a (mul b c) = mul b (mul a c) := by rw [← mul_assoc, mul_comm a b, mul_assoc]
theorem mul4 (a b c d : UInt8) : mul (mul a b) (mul c d) = mul (mul a c) (mul b d) := by rw [mul_assoc, mul_left_comm b c d, ← mul_assoc]

/-- times x, some times -/
def xt (a : UInt8) : Nat → UInt8
  | 0 => a
  | k + 1 => dbl (xt a k)
/-- the reference's product behind k steps, the lowest bit first -/
def refTo (a b : UInt8) : Nat → UInt8
  | 0 => 0
  | k + 1 => refTo a b k ^^^ (if b.toNat / 2 ^ k % 2 = 1 then xt a k else 0)
theorem testBit_div (n k : Nat) : (n / 2 ^ k % 2 = 1) = (n.testBit k = true) := by
  rw [Nat.testBit_eq_decide_div_mod_eq]; simp
theorem xt_xor (a b : UInt8) : ∀ k, xt (a ^^^ b) k = xt a k ^^^ xt b k
  | 0 => rfl
  | k + 1 => by simp only [xt]; rw [xt_xor a b k, dbl_xor]
theorem refTo_xor_right (a b c : UInt8) : ∀ k, refTo a (b ^^^ c) k = refTo a b k ^^^ refTo a c k
  | 0 => by simp [refTo]
  | k + 1 => by
    simp only [refTo, testBit_div]
    rw [refTo_xor_right a b c k, xor4]
    congr 1
    rw [UInt8.toNat_xor, Nat.testBit_xor]
    cases b.toNat.testBit k <;> cases c.toNat.testBit k <;> simp
theorem refTo_xor_left (a b c : UInt8) : ∀ k, refTo (a ^^^ b) c k = refTo a c k ^^^ refTo b c k
  | 0 => by simp [refTo]
  | k + 1 => by
    simp only [refTo, testBit_div]
    rw [refTo_xor_left a b c k, xor4]
    congr 1
    split
    · exact xt_xor a b k
    · rfl
theorem refTo_mul (a b : UInt8) : refTo a b 8 = mul a b := by
  refine Adds.ext (f := fun a => refTo a b 8) (g := fun a => mul a b) ⟨fun x y => refTo_xor_left x y b 8⟩ (adds_left b) (fun p hp => ?_) a
  refine Adds.ext (f := fun b => refTo p b 8) (g := mul p) ⟨fun x y => refTo_xor_right p x y 8⟩ (adds_right p) (fun q hq => ?_) b
  have : ∀ p ∈ ([1, 2, 4, 8, 16, 32, 64, 128] : List UInt8), ∀ q ∈ ([1, 2, 4, 8, 16, 32, 64, 128] : List UInt8), refTo p q 8 = mul p q := by decide +kernel
  exact this p hp q hq

/-- powers -/
def pow (a : UInt8) : Nat → UInt8
  | 0 => 1
  | n + 1 => mul (pow a n) a

theorem pow_add (a : UInt8) (m : Nat) : ∀ n, pow a (m + n) = mul (pow a m) (pow a n)
  | 0 => by simp [pow, mul_one]
  | n + 1 => by rw [← Nat.add_assoc]; simp only [pow]; rw [pow_add a m n, mul_assoc]

theorem mul_pow (a b : UInt8) : ∀ n, pow (mul a b) n = mul (pow a n) (pow b n)
  | 0 => by simp [pow, mul_one]
  | n + 1 => by simp only [pow]; rw [mul_pow a b n, mul4]

theorem pow_mul (a : UInt8) (m : Nat) : ∀ n, pow a (m * n) = pow (pow a m) n
  | 0 => rfl
  | n + 1 => by rw [Nat.mul_succ, pow_add, pow_mul a m n]; rfl

theorem one_pow : ∀ n, pow 1 n = 1
  | 0 => rfl
  | n + 1 => by simp only [pow]; rw [one_pow n, mul_one]

theorem pow_two (a : UInt8) : pow a 2 = mul a a := by
  show mul (mul 1 a) a = _
  rw [one_mul]
theorem sq_pow (a : UInt8) (n : Nat) : pow (mul a a) n = pow a (2 * n) := by
  rw [pow_mul, pow_two]

theorem mul3 (p : UInt8) : mul 3 p = dbl p ^^^ p := by
  rw [mul_comm]; revert p; apply all256; decide +kernel

/-- 3's powers -/
def three : Nat → UInt8
  | 0 => 1
  | n + 1 => mul 3 (three n)
theorem three_pow : ∀ n, three n = pow 3 n
  | 0 => rfl
  | n + 1 => by simp only [three, pow]; rw [three_pow n, mul_comm]

def threeN : Nat → Nat
  | 0 => 1
  | n + 1 => let p := threeN n; dblN p ^^^ p
theorem three_nat : ∀ n, (three n).toNat = threeN n
  | 0 => rfl
  | n + 1 => by simp only [three, threeN, mul3, UInt8.toNat_xor, dbl_nat, three_nat n]

/-- the powers one by one, as natural numbers -/
def runs : Nat → Nat → List Nat
  | 0, _ => []
  | k + 1, p => p :: runs k (dblN p ^^^ p)
theorem runs_get : ∀ k m, ∀ x ∈ runs k (threeN m), ∃ n, n < m + k ∧ m ≤ n ∧ threeN n = x
  | 0, _, x, h => by cases h
  | k + 1, m, x, h => by
    rcases List.mem_cons.1 h with rfl | h
    · exact ⟨m, by omega, by omega, rfl⟩
    · obtain ⟨n, h1, h2, h3⟩ := runs_get k (m + 1) x h
      exact ⟨n, by omega, by omega, h3⟩
theorem three_all (a : UInt8) (h : a ≠ 0) : ∃ n, n < 255 ∧ three n = a := by
  have hr : ∀ x < 256, x ≠ 0 → (runs 255 1).contains x = true := by decide +kernel
  have := hr a.toNat a.toNat_lt (fun e => h (by apply UInt8.toNat_inj.1; simpa using e))
  obtain ⟨n, h1, _, h3⟩ := runs_get 255 0 a.toNat (by simpa [threeN] using this)
  exact ⟨n, by omega, by apply UInt8.toNat_inj.1; rw [three_nat, h3]⟩

theorem three255 : pow 3 255 = 1 := by
  rw [← three_pow]
  apply UInt8.toNat_inj.1
  rw [three_nat]
  decide +kernel

theorem pow255 (a : UInt8) (h : a ≠ 0) : pow a 255 = 1 := by
  obtain ⟨n, _, rfl⟩ := three_all a h
  rw [three_pow, ← pow_mul, Nat.mul_comm, pow_mul, three255, one_pow]

theorem pow_even (o a : UInt8) (n : Nat) (h : n % 2 ≠ 1) : mul o (pow (mul a a) (n / 2)) = mul o (pow a n) := by
  rw [sq_pow, show 2 * (n / 2) = n by omega]
theorem pow_odd (o a : UInt8) (n : Nat) (h : n % 2 = 1) : mul (mul o a) (pow (mul a a) (n / 2)) = mul o (pow a n) := by
  have e : pow a n = mul (pow a (2 * (n / 2))) a := by
    have : pow a (2 * (n / 2) + 1) = mul (pow a (2 * (n / 2))) a := rfl
    rw [← this]; congr 1; omega
  rw [sq_pow, mul_assoc, e, mul_comm a]

/-- the inverse: 254 factors -/
def inv (a : UInt8) : UInt8 := pow a 254

theorem inv_step (a : UInt8) : mul (inv a) a = pow a 255 := (pow.eq_2 a 254).symm
theorem mul_inv (a : UInt8) (h : a ≠ 0) : mul a (inv a) = 1 := by
  rw [mul_comm, inv_step]; exact pow255 a h
theorem inv_mul_self (a : UInt8) (h : a ≠ 0) : mul (inv a) a = 1 := by rw [mul_comm, mul_inv a h]
theorem inv_zero : inv 0 = 0 := by show mul (pow 0 253) 0 = 0; rw [mul_zero]

theorem mul_eq_zero (a b : UInt8) (h : mul a b = 0) : a = 0 ∨ b = 0 := by
  by_cases ha : a = 0
  · exact .inl ha
  · right
    have : mul (inv a) (mul a b) = 0 := by rw [h, mul_zero]
    rwa [← mul_assoc, inv_mul_self a ha, one_mul] at this

/-- what times a is 1 is the inverse -/
theorem inv_unique (a b : UInt8) (h : mul b a = 1) : b = inv a := by
  have ha : a ≠ 0 := fun e => by rw [e, mul_zero] at h; exact absurd h (by decide)
  have : mul (mul b a) (inv a) = inv a := by rw [h, one_mul]
  rwa [mul_assoc, mul_inv a ha, mul_one] at this

theorem inv_mul (a b : UInt8) : inv (mul a b) = mul (inv a) (inv b) := mul_pow a b 254

theorem inv_inv (a : UInt8) : inv (inv a) = a := by
  by_cases h : a = 0
  · subst h; rw [inv_zero, inv_zero]
  · exact (inv_unique (inv a) a (mul_inv a h)).symm

theorem three_inv (n : Nat) (h : n ≤ 255) : three (255 - n) = inv (three n) := by
  apply inv_unique
  rw [three_pow, three_pow, ← pow_add, show 255 - n + n = 255 by omega]
  exact pow255 3 (by decide)

/-- a byte turned to the left by one -/
def rot1 (a : UInt8) : UInt8 := (a <<< 1) ||| (a >>> 7)
def rot (a : UInt8) : Nat → UInt8
  | 0 => a
  | n + 1 => rot1 (rot a n)

/-- the box -/
def box (a : UInt8) : UInt8 :=
  let b := inv a
  b ^^^ rot b 1 ^^^ rot b 2 ^^^ rot b 3 ^^^ rot b 4 ^^^ 99
/-- and back -/
def unbox (a : UInt8) : UInt8 := inv (rot a 1 ^^^ rot a 3 ^^^ rot a 6 ^^^ 5)

/-- the box's bits, ahead and back -/
def aff (b : UInt8) : UInt8 := b ^^^ rot b 1 ^^^ rot b 2 ^^^ rot b 3 ^^^ rot b 4 ^^^ 99
def unaff (a : UInt8) : UInt8 := rot a 1 ^^^ rot a 3 ^^^ rot a 6 ^^^ 5
theorem unaff_aff (b : UInt8) : unaff (aff b) = b := by revert b; apply all256; decide +kernel
theorem aff_unaff (b : UInt8) : aff (unaff b) = b := by revert b; apply all256; decide +kernel
theorem unbox_box (a : UInt8) : unbox (box a) = a := by
  show inv (unaff (aff (inv a))) = a
  rw [unaff_aff, inv_inv]
theorem box_unbox (a : UInt8) : box (unbox a) = a := by
  show aff (inv (inv (unaff a))) = a
  rw [inv_inv, aff_unaff]
theorem box_inj (a b : UInt8) : box a = box b ↔ a = b :=
  ⟨fun h => by rw [← unbox_box a, h, unbox_box], fun h => by rw [h]⟩

/-- the box of each byte, laid out -/
def boxTab : List UInt8 := [99, 124, 119, 123, 242, 107, 111, 197, 48, 1, 103, 43, 254, 215, 171, 118, 202, 130, 201, 125, 250, 89, 71, 240, 173, 212, 162, 175, 156, 164, 114, 192, 183, 253, 147, 38, 54, 63, 247, 204, 52, 165, 229, 241, 113, 216, 49, 21, 4, 199, 35, 195, 24, 150, 5, 154, 7, 18, 128, 226, 235, 39, 178, 117, 9, 131, 44, 26, 27, 110, 90, 160, 82, 59, 214, 179, 41, 227, 47, 132, 83, 209, 0, 237, 32, 252, 177, 91, 106, 203, 190, 57, 74, 76, 88, 207, 208, 239, 170, 251, 67, 77, 51, 133, 69, 249, 2, 127, 80, 60, 159, 168, 81, 163, 64, 143, 146, 157, 56, 245, 188, 182, 218, 33, 16, 255, 243, 210, 205, 12, 19, 236, 95, 151, 68, 23, 196, 167, 126, 61, 100, 93, 25, 115, 96, 129, 79, 220, 34, 42, 144, 136, 70, 238, 184, 20, 222, 94, 11, 219, 224, 50, 58, 10, 73, 6, 36, 92, 194, 211, 172, 98, 145, 149, 228, 121, 231, 200, 55, 109, 141, 213, 78, 169, 108, 86, 244, 234, 101, 122, 174, 8, 186, 120, 37, 46, 28, 166, 180, 198, 232, 221, 116, 31, 75, 189, 139, 138, 112, 62, 181, 102, 72, 3, 246, 14, 97, 53, 87, 185, 134, 193, 29, 158, 225, 248, 152, 17, 105, 217, 142, 148, 155, 30, 135, 233, 206, 85, 40, 223, 140, 161, 137, 13, 191, 230, 66, 104, 65, 153, 45, 15, 176, 84, 187, 22]
theorem inv_tab (a : UInt8) : inv a = unaff (boxTab.getD a.toNat 0) := by
  have h : ∀ n < 256, n ≠ 0 → mul (unaff (boxTab.getD (UInt8.ofNat n).toNat 0)) (UInt8.ofNat n) = 1 := by decide +kernel
  by_cases ha : a = 0
  · subst ha; rw [inv_zero]; decide +kernel
  · have := h a.toNat a.toNat_lt (fun e => ha (by apply UInt8.toNat_inj.1; simpa using e))
    simp only [UInt8.ofNat_toNat] at this
    exact (inv_unique a _ this).symm
theorem box_tab (a : UInt8) : box a = boxTab.getD a.toNat 0 := by
  show aff (inv a) = _
  rw [inv_tab, aff_unaff]
theorem box_ne (a : UInt8) : box a ≠ a := by
  rw [box_tab]
  revert a; apply all256; decide +kernel

/-- mixed columns: byte i -/
def mix (c : Nat → UInt8) (i : Nat) : UInt8 := mul 2 (c i) ^^^ mul 3 (c ((i + 1) % 4)) ^^^ c ((i + 2) % 4) ^^^ c ((i + 3) % 4)
def unmix (c : Nat → UInt8) (i : Nat) : UInt8 := mul 14 (c i) ^^^ mul 11 (c ((i + 1) % 4)) ^^^ mul 13 (c ((i + 2) % 4)) ^^^ mul 9 (c ((i + 3) % 4))

end Go.Proofs.Ytgaecjhghpkcoaa.Gf
end

section
namespace Go.Proofs.Ytgaecjhghpkcoaa
open Go.RowKit

/-- a byte as an integer -/
def B (x : UInt8) : Int := (x.toNat : Int)
theorem B_bd (x : UInt8) : 0 ≤ B x ∧ B x ≤ 255 := by
  have := x.toNat_lt; unfold B; omega
theorem B_inj {x y : UInt8} (h : B x = B y) : x = y := by
  apply UInt8.toNat_inj.1; unfold B at h; omega
theorem B_eq (x y : UInt8) : (B x = B y) = (x = y) := propext ⟨B_inj, fun h => by rw [h]⟩
theorem B_xor (x y : UInt8) : bits BinOp.xor IntKind.u8 (B x) (B y) = B (x ^^^ y) := by
  unfold B
  rw [u8_xor_nat _ _ x.toNat_lt y.toNat_lt, UInt8.toNat_xor]
theorem B_or (x y : UInt8) : bits BinOp.or IntKind.u8 (B x) (B y) = B (x ||| y) := by
  unfold B
  rw [u8_or_nat _ _ x.toNat_lt y.toNat_lt, UInt8.toNat_or]
theorem B_and (x y : UInt8) : bits BinOp.and IntKind.u8 (B x) (B y) = B (x &&& y) := by
  unfold B
  rw [u8_and_nat _ _ x.toNat_lt y.toNat_lt, UInt8.toNat_and]
attribute [local go_sem] B_xor B_or B_and
theorem B_lit (x : UInt8) (n : Int) (h : (x.toNat : Int) = n) : n = B x := h.symm

/-- a call that only reckons: it returns v, and the world has only been drawn from -/
def Pur (P : Program) (f : FuncId) (args : Array Value) (v : Value) : Prop :=
  ∀ w, Calls P f args w fun e w' => e = .returned v ∧ ∃ n, w' = w.drewN n
theorem Pur.quiet {P : Program} {f : FuncId} {args : Array Value} {v : Value} (h : Pur P f args v) {w : World} {n : Nat} :
    Calls P f args (w.drewN n) fun e w'' => e = .returned v ∧ ∃ m, w'' = w.drewN m := Calls.quiet_of (h _)
/-- the same, at an ending that is spelt by its own equations -/
theorem Pur.go {P : Program} {f : FuncId} {args : Array Value} {v : Value} (h : Pur P f args v) (w : World) :
    Calls P f args w fun e w' => e = .returned v ∧ ∃ n, w.drewN n = w' := (h w).mono fun _ _ ⟨a, n, b⟩ => ⟨a, n, b.symm⟩

/-- draws behind draws -/
theorem drew_on {w wr : World} (h : Hid (∃ k, wr = w.drewN k)) (n : Nat) : Hid (∃ k, wr.drewN n = w.drewN k) := by
  obtain ⟨k, rfl⟩ := h.out; exact ⟨_, World.drewN_drewN _ _ _⟩
theorem drew_refl (w : World) : Hid (∃ k, w = w.drewN k) := ⟨0, rfl⟩

theorem drewN_below (w : World) (n : Nat) : Below w.heap.size w (w.drewN n) := ⟨rfl, rfl, rfl, Nat.le_refl _, fun _ _ => rfl⟩

end Go.Proofs.Ytgaecjhghpkcoaa
end

section
namespace Go.Proofs.Ytgaecjhghpkcoaa
open Go.RowKit

/-- n bytes in a row -/
def blk (n : Nat) (f : Nat → UInt8) : Array Value := ((List.range n).map fun i => Value.int .u8 (B (f i))).toArray
/-- one of them turned -/
def upd (f : Nat → UInt8) (i : Nat) (v : UInt8) : Nat → UInt8 := fun j => if j = i then v else f j
theorem upd_same (f : Nat → UInt8) (i : Nat) (v : UInt8) : upd f i v i = v := by simp [upd]
theorem upd_other (f : Nat → UInt8) (i j : Nat) (v : UInt8) (h : j ≠ i) : upd f i v j = f j := by simp [upd, h]

theorem blk_size (n : Nat) (f : Nat → UInt8) : (blk n f).size = n := by simp [blk]
theorem blk_get (n : Nat) (f : Nat → UInt8) (i : Nat) (h : i < n) : (blk n f)[i]? = some (.int .u8 (B (f i))) := by simp [blk, h]
theorem blk_getE (n : Nat) (f : Nat → UInt8) (i : Nat) (h : i < (blk n f).size) : (blk n f)[i]'h = .int .u8 (B (f i)) := by
  have h' : i < n := by rw [blk_size] at h; exact h
  have := blk_get n f i h'
  rw [Array.getElem?_eq_getElem h] at this
  exact Option.some.inj this
theorem blk_set (n : Nat) (f : Nat → UInt8) (i : Nat) (v : UInt8) : (blk n f).setIfInBounds i (.int .u8 (B v)) = blk n (upd f i v) := by
  apply Array.ext_getElem?
  intro j
  by_cases hj : j < n
  · rw [blk_get n _ j hj]
    by_cases hij : i = j
    · subst hij; simp [blk_size, hj, upd]
    · rw [Array.getElem?_setIfInBounds_ne hij, blk_get n f j hj, upd_other _ _ _ _ (by omega)]
  · simp [blk_size, Nat.le_of_not_lt hj]
theorem blk_congr {n : Nat} {f g : Nat → UInt8} (h : ∀ i, i < n → f i = g i) : blk n f = blk n g := by
  unfold blk; congr 1
  apply List.map_congr_left
  intro i hi
  rw [h i (List.mem_range.1 hi)]
theorem blk_inj {n : Nat} {f g : Nat → UInt8} (h : blk n f = blk n g) : ∀ i, i < n → f i = g i := by
  intro i hi
  have h1 := blk_get n f i hi
  rw [h, blk_get n g i hi] at h1
  simp only [Option.some.injEq, Value.int.injEq, true_and] at h1
  exact (B_inj h1).symm
theorem blk_toList (n : Nat) (f : Nat → UInt8) : (blk n f).toList = (List.range n).map fun i => Value.int .u8 (B (f i)) := rfl

/-! ### a whole row of the call's own, written anew -/
theorem setRow_alloc_at {w : World} (c cs : Array Value) (t : TypeId) (n : Nat) (hn : n = w.heap.size) : (w.alloc (.cells c t)).setRow n cs = w.alloc (.cells cs t) := by
  subst hn
  unfold World.setRow World.alloc
  congr 1
  apply Array.ext_getElem?
  intro k
  simp only [Array.getElem?_modify, Array.getElem?_push]
  by_cases hk : k = w.heap.size
  · subst hk; simp
  · simp [hk, Ne.symm hk]
theorem setRow_alloc_past {w : World} (o : Obj) (n : Nat) (cs : Array Value) (hn : n < w.heap.size) : (w.alloc o).setRow n cs = (w.setRow n cs).alloc o := by
  unfold World.setRow World.alloc
  congr 1
  apply Array.ext_getElem?
  intro k
  simp only [Array.getElem?_modify, Array.getElem?_push, Array.size_modify]
  by_cases hk : k = w.heap.size
  · subst hk; simp [Nat.ne_of_lt hn]
  · simp [hk]
theorem setRow_drew {w : World} (n : Nat) (cs : Array Value) : w.drew.setRow n cs = (w.setRow n cs).drew := rfl
theorem setRow_drewN {w : World} (n k : Nat) (cs : Array Value) : (w.drewN k).setRow n cs = (w.setRow n cs).drewN k := rfl
theorem setCell_drewN {w : World} (k : Nat) (a : Addr) (v : Value) : (w.drewN k).setCell a v = (w.setCell a v).drewN k := rfl
theorem alloc_drewN {w : World} (k : Nat) (o : Obj) : (w.drewN k).alloc o = (w.alloc o).drewN k := rfl
theorem heap_alloc_at {w : World} (o : Obj) (n : Nat) (hn : n = w.heap.size) : (w.alloc o).heap[n]? = some o := by subst hn; exact heap_alloc_new w o
theorem heap_alloc_past {w : World} (o : Obj) (n : Nat) (hn : n < w.heap.size) : (w.alloc o).heap[n]? = w.heap[n]? := by
  show (w.heap.push o)[n]? = w.heap[n]?
  rw [Array.getElem?_push, if_neg (Nat.ne_of_lt hn)]
theorem heap_drew' {w : World} : w.drew.heap = w.heap := rfl

/-! ### the machine's operations on such rows -/
section
variable {P : Program}
theorem run_index_blk (t : TypeId) (n : Nat) (f : Nat → UInt8) (k : Nat) (w : World) (hu : P.underlying t = some (.array n (P.elem t))) (hs : (sizeOf (P.elem t)).run P w = .ok 1 w) (ha : (isAgg (P.elem t)).run P w = .ok false w) (hk : k < n) :
    (Instr.index t (.agg (blk n f)) (.int .i64 (k : Int))).run P w = .ok (.int .u8 (B (f k))) w := by
  simp [Instr.index, asIntOf, Sem.run_bind, run_underlying hu, part, hs, ha, blk_get n f k hk]
  intro h; omega

/-- are two rows the same? -/
def same (n : Nat) (f g : Nat → UInt8) : Bool := decide (∀ i, i < n → f i = g i)
theorem same_iff (n : Nat) (f g : Nat → UInt8) : same n f g = true ↔ ∀ i, i < n → f i = g i := by simp [same]
theorem same_refl (n : Nat) (f : Nat → UInt8) : same n f f = true := by simp [same]
theorem blk_eq_iff (n : Nat) (f g : Nat → UInt8) : (blk n f = blk n g) ↔ same n f g = true :=
  ⟨fun h => (same_iff _ _ _).2 (blk_inj h), fun h => blk_congr ((same_iff _ _ _).1 h)⟩

theorem run_part_blk (e : TypeId) (n : Nat) (f : Nat → UInt8) (k : Nat) (ha : P.underlying e = some (.int .u8)) (hk : k < n) (w : World) :
    (part e (blk n f) k).run P w = .ok (.int .u8 (B (f k))) w := by
  simp [part, isAgg, Sem.run_bind, run_underlying ha, blk_get n f k hk]

theorem run_all_list {w : World} (p : Nat → Bool) (body : Nat → Option Bool × Unit → Sem (ForInStep (Option Bool × Unit))) : ∀ (l : List Nat),
    (∀ i, i ∈ l → (body i (none, ())).run P w = .ok (if p i then .yield (none, ()) else .done (some false, ())) w) →
    (forIn l (none, ()) body).run P w = .ok (if ∀ i, i ∈ l → p i = true then (none, ()) else (some false, ())) w
  | [], _ => by simp
  | i :: l, h => by
    simp only [List.forIn_cons, Sem.run_bind, h i (by simp), Result.andThen_ok]
    by_cases hp : p i = true
    · simp only [hp, if_true]
      rw [run_all_list p body l (fun j hj => h j (by simp [hj]))]
      simp [hp]
    · have hp' : p i = false := by simpa using hp
      simp [hp']
theorem run_all_range {w : World} (n : Nat) (p : Nat → Bool) (body : Nat → Option Bool × Unit → Sem (ForInStep (Option Bool × Unit)))
    (h : ∀ i, i < n → (body i (none, ())).run P w = .ok (if p i then .yield (none, ()) else .done (some false, ())) w) :
    (forIn [0:n] (none, ()) body).run P w = .ok (if ∀ i, i < n → p i = true then (none, ()) else (some false, ())) w := by
  rw [Std.Legacy.Range.forIn_eq_forIn_range']
  rw [run_all_list p body _ (fun i hi => h i (by simp [Std.Legacy.Range.size] at hi; omega))]
  congr 1
  simp [Std.Legacy.Range.size]

theorem run_equalIn_blk (d : Nat) (t : TypeId) (n : Nat) (f g : Nat → UInt8) (w : World) (hu : P.underlying t = some (.array n (P.elem t))) (hz : (sizeOf (P.elem t)).run P w = .ok 1 w) (ha : P.underlying (P.elem t) = some (.int .u8)) :
    (Op.equalIn (d + 2) t (.agg (blk n f)) (.agg (blk n g))).run P w = .ok (same n f g) w := by
  rw [Op.equalIn]
  simp only [Sem.run_bind, run_underlying hu, Result.andThen_ok, hz]
  rw [run_all_range n (fun j => f j == g j) _ (fun j hj => by
    simp only [Nat.mul_one, Sem.run_bind, run_part_blk (P.elem t) n _ j ha hj, Result.andThen_ok, run_equalIn_int w d (P.elem t) .u8 .u8 _ _ ha]
    by_cases h : f j = g j
    · simp [h]
    · have h2 : (B (f j) == B (g j)) = false := by rw [beq_eq_false_iff_ne]; exact fun e => h (B_inj e)
      simp [h, h2])]
  by_cases h : ∀ j, j < n → (f j == g j) = true
  · rw [if_pos h]
    have hh : same n f g = true := (same_iff _ _ _).2 fun j hj => by simpa using h j hj
    rw [hh]; rfl
  · rw [if_neg h]
    have hh : same n f g = false := by
      cases hs : same n f g with
      | false => rfl
      | true => exact (h fun j hj => by simpa using (same_iff _ _ _).1 hs j hj).elim
    rw [hh]; rfl
end

end Go.Proofs.Ytgaecjhghpkcoaa
end

section
namespace Go.Proofs.Ytgaecjhghpkcoaa
open Go.RowKit

/-- the cells of a block -/
def rowAt (w : World) (g : Nat) : Array Value := match w.heap[g]? with | some (.cells cs _ _) => cs | _ => #[]
/-- is it a block of cells? -/
def isRow (w : World) (g : Nat) : Bool := match w.heap[g]? with | some (.cells _ _ _) => true | _ => false
/-- does the mark lie on none of n cells? -/
def unmarked (n : Nat) (fr : Nat × Nat) : Bool := decide (n ≤ fr.1 ∨ fr.2 ≤ fr.1)
theorem unmarked_zero (n : Nat) : unmarked n (0, 0) = true := by simp [unmarked]
theorem unmarked_end (n m : Nat) : unmarked n (n, m) = true := by simp [unmarked]
/-- .. that may be written? -/
def freeRow (w : World) (g : Nat) : Bool := match w.heap[g]? with | some (.cells cs _ fr) => unmarked cs.size fr | _ => false
def oneCells (cs : Array Value) : Bool := cs.all (·.oneCell')
/-- cells laid over a row -/
def paste (xs : Array Value) (o : Nat) (cs : Array Value) : Array Value := (xs.toList.take o ++ cs.toList ++ xs.toList.drop (o + cs.size)).toArray
/-- a part of a row -/
def cut (xs : Array Value) (a b : Nat) : Array Value := xs.extract a b
/-- a type's size, as the machine reckons it -/
def szOf (P : Program) (t : TypeId) (w : World) : Nat := match (sizeOf t).run P w with | .ok n _ => n | _ => 0

theorem freeRow_isRow {w : World} {g : Nat} (h : freeRow w g = true) : ∃ cs t fr, w.heap[g]? = some (.cells cs t fr) ∧ rowAt w g = cs ∧ unmarked cs.size fr = true := by
  unfold freeRow at h
  split at h
  · rename_i cs t fr hh
    exact ⟨cs, t, fr, hh, by simp [rowAt, hh], h⟩
  · cases h
theorem isRow_cells {w : World} {g : Nat} (h : isRow w g = true) : ∃ cs t fr, w.heap[g]? = some (.cells cs t fr) ∧ rowAt w g = cs := by
  unfold isRow at h
  split at h
  · rename_i cs t fr hh
    exact ⟨cs, t, fr, hh, by simp [rowAt, hh]⟩
  · cases h
theorem isRow_of_free {w : World} {g : Nat} (h : freeRow w g = true) : isRow w g = true := by
  obtain ⟨cs, t, fr, hh, _, _⟩ := freeRow_isRow h
  simp [isRow, hh]

/-! ### in which world -/
section
variable {w : World}
theorem heap_alloc_if (o : Obj) (n : Nat) : (w.alloc o).heap[n]? = if n = w.heap.size then some o else w.heap[n]? := by
  show (w.heap.push o)[n]? = _
  rw [Array.getElem?_push]
theorem rowAt_alloc (c : Array Value) (t : TypeId) (fr : Nat × Nat) (n : Nat) : rowAt (w.alloc (.cells c t fr)) n = if n = w.heap.size then c else rowAt w n := by
  unfold rowAt; rw [heap_alloc_if]
  by_cases h : n = w.heap.size
  · simp [h]
  · simp [h]
theorem isRow_alloc (c : Array Value) (t : TypeId) (fr : Nat × Nat) (n : Nat) : isRow (w.alloc (.cells c t fr)) n = if n = w.heap.size then true else isRow w n := by
  unfold isRow; rw [heap_alloc_if]
  by_cases h : n = w.heap.size
  · simp [h]
  · simp [h]
theorem freeRow_mark (c : Array Value) (t : TypeId) (fr : Nat × Nat) (n : Nat) : freeRow (w.alloc (.cells c t fr)) n = if n = w.heap.size then unmarked c.size fr else freeRow w n := by
  unfold freeRow; rw [heap_alloc_if]
  by_cases h : n = w.heap.size
  · simp [h]
  · simp [h]
theorem freeRow_alloc (c : Array Value) (t : TypeId) (n : Nat) : freeRow (w.alloc (.cells c t)) n = if n = w.heap.size then true else freeRow w n := by
  rw [freeRow_mark, unmarked_zero]
theorem freeRow_end (c : Array Value) (t : TypeId) (m n : Nat) : freeRow (w.alloc (.cells c t (c.size, m))) n = if n = w.heap.size then true else freeRow w n := by
  rw [freeRow_mark, unmarked_end]
theorem rowAt_drew (n : Nat) : rowAt w.drew n = rowAt w n := rfl
theorem rowAt_drewN (n k : Nat) : rowAt (w.drewN k) n = rowAt w n := rfl
theorem isRow_drew (n : Nat) : isRow w.drew n = isRow w n := rfl
theorem isRow_drewN (n k : Nat) : isRow (w.drewN k) n = isRow w n := rfl
theorem freeRow_drew (n : Nat) : freeRow w.drew n = freeRow w n := rfl
theorem freeRow_drewN (n k : Nat) : freeRow (w.drewN k) n = freeRow w n := rfl
theorem setRow_alloc (c cs : Array Value) (t : TypeId) (fr : Nat × Nat) (n : Nat) : (w.alloc (.cells c t fr)).setRow n cs = if n = w.heap.size then w.alloc (.cells cs t fr) else (w.setRow n cs).alloc (.cells c t fr) := by
  split
  · rename_i h; subst h
    unfold World.setRow World.alloc
    congr 1
    apply Array.ext_getElem?
    intro k
    simp only [Array.getElem?_modify, Array.getElem?_push]
    by_cases hk : k = w.heap.size
    · subst hk; simp
    · simp [hk, Ne.symm hk]
  · rename_i h
    unfold World.setRow World.alloc
    congr 1
    apply Array.ext_getElem?
    intro k
    simp only [Array.getElem?_modify, Array.getElem?_push, Array.size_modify]
    by_cases hk : k = w.heap.size
    · subst hk; simp [h]
    · simp [hk]
theorem cell_row (g i : Nat) (h : isRow w g = true) : w.cell? ⟨g, i, none⟩ = (rowAt w g)[i]? := by
  obtain ⟨cs, t, fr, hh, hr⟩ := isRow_cells h
  rw [hr]; simp [World.cell?, hh]
theorem frozen_row (g i : Nat) (h : freeRow w g = true) (hi : i < (rowAt w g).size) : w.frozen? ⟨g, i, none⟩ = false := by
  obtain ⟨cs, t, fr, hh, hr, hu⟩ := freeRow_isRow h
  rw [hr] at hi
  obtain ⟨lo, up⟩ := fr
  simp only [unmarked, decide_eq_true_eq] at hu
  simp only [World.frozen?, hh, Bool.and_eq_false_iff, decide_eq_false_iff_not]
  omega
end

/-! ### rows of bytes -/
theorem oneCells_blk (n : Nat) (f : Nat → UInt8) : oneCells (blk n f) = true := by
  simp [oneCells, blk, Value.oneCell']
/-- g's bytes from o on, n of them -/
def cpy (f : Nat → UInt8) (o : Nat) (g : Nat → UInt8) (o' n : Nat) : Nat → UInt8 := fun j => if o ≤ j ∧ j < o + n then g (o' + (j - o)) else f j
theorem paste_size (xs : Array Value) (o : Nat) (cs : Array Value) (h : o + cs.size ≤ xs.size) : (paste xs o cs).size = xs.size := by
  simp [paste]; omega
theorem paste_get (xs : Array Value) (o : Nat) (cs : Array Value) (h : o + cs.size ≤ xs.size) (j : Nat) : (paste xs o cs)[j]? = if o ≤ j ∧ j < o + cs.size then cs[j - o]? else xs[j]? := by
  unfold paste
  rw [List.getElem?_toArray, List.append_assoc]
  by_cases h1 : j < o
  · rw [List.getElem?_append_left (by simp; omega), List.getElem?_take, if_pos h1, if_neg (by omega)]
    simp
  · rw [List.getElem?_append_right (by simp; omega)]
    simp only [List.length_take, Array.length_toList]
    rw [Nat.min_eq_left (by omega)]
    by_cases h2 : j < o + cs.size
    · rw [if_pos ⟨by omega, h2⟩, List.getElem?_append_left (by simp only [Array.length_toList]; omega)]
      simp
    · rw [if_neg (by omega), List.getElem?_append_right (by simp only [Array.length_toList]; omega)]
      simp only [Array.length_toList, List.getElem?_drop]
      rw [show o + cs.size + (j - o - cs.size) = j by omega]
      simp
theorem paste_blk (N n : Nat) (f g : Nat → UInt8) (o : Nat) (h : o + n ≤ N) : paste (blk N f) o (blk n g) = blk N (cpy f o g 0 n) := by
  apply Array.ext_getElem?
  intro j
  rw [paste_get _ _ _ (by rw [blk_size, blk_size]; exact h), blk_size]
  by_cases hj : j < N
  · rw [blk_get N (cpy f o g 0 n) j hj]
    split
    · rename_i h1
      have e : cpy f o g 0 n j = g (j - o) := by unfold cpy; rw [if_pos h1, Nat.zero_add]
      rw [e, blk_get n g _ (by omega)]
    · rename_i h1
      have e : cpy f o g 0 n j = f j := by unfold cpy; rw [if_neg h1]
      rw [e, blk_get N f j hj]
  · rw [if_neg (by omega)]
    simp [blk_size, Nat.le_of_not_lt hj]
theorem paste_all (n : Nat) (f g : Nat → UInt8) : paste (blk n f) 0 (blk n g) = blk n g := by
  rw [paste_blk n n f g 0 (by omega)]
  exact blk_congr fun i hi => by simp [cpy, hi]
theorem cut_blk (N : Nat) (f : Nat → UInt8) (a b : Nat) (h : b ≤ N) : cut (blk N f) a b = blk (b - a) (fun j => f (a + j)) := by
  unfold cut
  apply Array.ext_getElem?
  intro j
  rw [Array.getElem?_extract, blk_size, Nat.min_eq_left h]
  by_cases hj : j < b - a
  · rw [if_pos (by omega), blk_get N f _ (by omega), blk_get _ _ j hj]
  · rw [if_neg (by omega)]
    simp [blk_size, Nat.le_of_not_lt hj]

theorem cut_head (N : Nat) (f : Nat → UInt8) (b : Nat) (h : b ≤ N) : cut (blk N f) 0 b = blk b f := by
  rw [cut_blk N f 0 b h, Nat.sub_zero]
  exact blk_congr fun i _ => by rw [Nat.zero_add]

/-! ### the machine's operations -/
section
variable {P : Program} {w : World}
theorem add_mid (g o j : Nat) : (⟨g, o, none⟩ : Addr).add j = ⟨g, o + j, none⟩ := by unfold Addr.add; split <;> simp_all

theorem run_loadCells_row (g o n : Nat) (hr : isRow w g = true) (hn : o + n ≤ (rowAt w g).size) :
    (loadCells ⟨g, o, none⟩ n).run P w = .ok ((rowAt w g).extract o (o + n)) w := by
  have hl : ((rowAt w g).extract o (o + n)).toList.length = n := by simp; omega
  have := run_loadCells_list (P := P) w ⟨g, o, none⟩ ((rowAt w g).extract o (o + n)).toList (fun j v hv => by
    rw [add_mid, cell_row g _ hr]
    have hj : j < n := by
      have := (List.getElem?_eq_some_iff.1 hv).1; omega
    rw [Array.getElem?_toList, Array.getElem?_extract, if_pos (by omega)] at hv
    exact hv)
  rw [hl, Array.toArray_toList] at this
  exact this

theorem run_loadVar_rows (ty : TypeId) (g o : Nat) (ha : (isAgg ty).run P w = .ok true w) (hs : (sizeOf ty).run P w = .ok (szOf P ty w) w) (hr : isRow w g = true) (hn : o + szOf P ty w ≤ (rowAt w g).size) :
    (loadVar ty ⟨g, o, none⟩).run P w = .ok (.agg ((rowAt w g).extract o (o + szOf P ty w))) w := by
  have hl := run_loadCells_row (P := P) g o (szOf P ty w) hr hn
  simp [Sem.run_bind, loadVar, ha, hs, hl]
/-- a whole array, out of a row -/
theorem run_loadAt_row (ty : TypeId) (g o : Nat) (ha : (isAgg ty).run P w = .ok true w) (hs : (sizeOf ty).run P w = .ok (szOf P ty w) w) (hr : isRow w g = true) (hn : o + szOf P ty w ≤ (rowAt w g).size) :
    (Instr.loadAt ty (.pointer (some ⟨g, o, none⟩))).run P w = .ok (.agg ((rowAt w g).extract o (o + szOf P ty w))) w := by
  have hl := run_loadCells_row (P := P) g o (szOf P ty w) hr hn
  simp [Instr.loadAt, Instr.sureAddr, Sem.run_bind, loadVar, ha, hs, hl]

theorem list_put {α : Type} (c : List α) (k : Nat) (v : α) (vs : List α) (h : k < c.length) : (c.set k v).take (k + 1) ++ vs ++ (c.set k v).drop (k + 1 + vs.length) = c.take k ++ v :: vs ++ c.drop (k + (vs.length + 1)) := by
  have hl : (c.take k).length = k := by simp; omega
  have e1 : (c.set k v).take (k + 1) = c.take k ++ [v] := by
    rw [List.set_eq_take_append_cons_drop, if_pos h, List.take_append, hl, List.take_of_length_le (by omega), Nat.add_sub_cancel_left]; rfl
  have e2 : (c.set k v).drop (k + 1 + vs.length) = c.drop (k + (vs.length + 1)) := by
    rw [List.drop_set_of_lt (by omega)]; congr 1; omega
  rw [e1, e2]; simp
/-- cells are stored one by one into a row of which none is marked -/
theorem run_storeCells_free (g o : Nat) (t : TypeId) (fr : Nat × Nat) : ∀ (vs : List Value) (i : Nat) (cur : Array Value) (w : World), w.heap[g]? = some (.cells cur t fr) → unmarked cur.size fr = true → o + i + vs.length ≤ cur.size → (∀ v ∈ vs, v.oneCell' = true) →
    (storeCells ⟨g, o, none⟩ vs i).run P w = .ok () (w.setRow g (cur.toList.take (o + i) ++ vs ++ cur.toList.drop (o + i + vs.length)).toArray)
  | [], i, cur, w, hg, _, _, _ => by
    simp only [storeCells, List.append_nil, List.length_nil, Nat.add_zero, List.take_append_drop, Array.toArray_toList]
    rw [setRow_self w g cur t fr hg]
    rfl
  | v :: vs, i, cur, w, hg, hu, hl, h1 => by
    simp only [List.length_cons] at hl
    have hi : o + i < cur.size := by omega
    have hc : w.cell? ⟨g, o + i, none⟩ = some cur[o + i] := by simp [World.cell?, hg, hi]
    have hf : w.frozen? ⟨g, o + i, none⟩ = false := by
      refine frozen_row g (o + i) ?_ ?_
      · simpa [freeRow, hg] using hu
      · simpa [rowAt, hg] using hi
    have hst : (store ((⟨g, o, none⟩ : Addr).add i) v).run P w = .ok () (w.setRow g (cur.setIfInBounds (o + i) v)) := by
      rw [add_mid, run_store P w _ v _ (h1 v (by simp)), hc]
      simp [hf, setCell_eq_setRow w g (o + i) cur t fr v hg]
    have ih := run_storeCells_free g o t fr vs (i + 1) (cur.setIfInBounds (o + i) v) (w.setRow g (cur.setIfInBounds (o + i) v)) (setRow_heap w g cur _ t _ hg) (by simpa using hu) (by simp; omega) (fun x hx => h1 x (by simp [hx]))
    simp only [storeCells, Sem.run_bind, hst, Result.andThen_ok, ih, setRow_setRow]
    have e := list_put cur.toList (o + i) v vs (by simpa using hi)
    rw [Array.toList_setIfInBounds, ← Nat.add_assoc, e]
    rfl
theorem run_storeCells_row (g o : Nat) (cs : Array Value) (hr : freeRow w g = true) (hn : o + cs.size ≤ (rowAt w g).size) (h1 : oneCells cs = true) :
    (storeCells ⟨g, o, none⟩ cs.toList).run P w = .ok () (w.setRow g (paste (rowAt w g) o cs)) := by
  obtain ⟨cur, t, fr, hg, hrow, hu⟩ := freeRow_isRow hr
  rw [hrow] at hn ⊢
  have := run_storeCells_free (P := P) g o t fr cs.toList 0 cur w hg hu (by simpa using hn) (fun v hv => by
    unfold oneCells at h1; rw [Array.all_eq_true_iff_forall_mem] at h1; exact h1 v (by simpa using hv))
  simpa [paste] using this

theorem run_storeVar_rows (ty : TypeId) (g o : Nat) (cs : Array Value) (hs : (sizeOf ty).run P w = .ok cs.size w) (hr : freeRow w g = true) (hn : o + cs.size ≤ (rowAt w g).size) (h1 : oneCells cs = true) :
    (storeVar ty ⟨g, o, none⟩ (.agg cs)).run P w = .ok () (w.setRow g (paste (rowAt w g) o cs)) := by
  have hl := run_storeCells_row (P := P) g o cs hr hn h1
  simp [Sem.run_bind, storeVar, Value.cells, hs, hl]
/-- a whole array, into a row -/
theorem run_storeAt_row (ty : TypeId) (g o : Nat) (cs : Array Value) (hs : (sizeOf ty).run P w = .ok cs.size w) (hr : freeRow w g = true) (hn : o + cs.size ≤ (rowAt w g).size) (h1 : oneCells cs = true) :
    (Instr.storeAt ty (.pointer (some ⟨g, o, none⟩)) (.agg cs)).run P w = .ok () (w.setRow g (paste (rowAt w g) o cs)) := by
  have hl := run_storeCells_row (P := P) g o cs hr hn h1
  simp [Instr.storeAt, Instr.sureAddr, Sem.run_bind, storeVar, Value.cells, hs, hl]

/-- copy, from a row into a row -/
theorem run_copy_rows (dT sT ty : TypeId) (g o dLen dCap g' o' sLen sCap : Nat) (hu : P.underlying dT = some (.slice (P.elem dT))) (hs : (sizeOf (P.elem dT)).run P w = .ok 1 w)
    (hr : freeRow w g = true) (hr' : isRow w g' = true) (hn : o + min sLen dLen ≤ (rowAt w g).size) (hn' : o' + min sLen dLen ≤ (rowAt w g').size) (h1 : oneCells ((rowAt w g').extract o' (o' + min sLen dLen)) = true) :
    (Builtin.copy_ #[dT, sT] ty #[.slice (some ⟨g, o, none⟩) dLen dCap, .slice (some ⟨g', o', none⟩) sLen sCap]).run P w =
      .ok (goInt (min sLen dLen : Nat)) (w.setRow g (paste (rowAt w g) o ((rowAt w g').extract o' (o' + min sLen dLen)))) := by
  have hl := run_loadCells_row (P := P) g' o' (min sLen dLen) hr' hn'
  have hsz : ((rowAt w g').extract o' (o' + min sLen dLen)).size = min sLen dLen := by simp; omega
  have hst := run_storeCells_row (P := P) g o ((rowAt w g').extract o' (o' + min sLen dLen)) hr (by rw [hsz]; exact hn) h1
  have hm : Nat.min sLen dLen = min sLen dLen := rfl
  simp only [Builtin.copy_, List.getElem?_toArray, List.getElem?_cons_zero, List.getElem?_cons_succ, Sem.run_bind, run_underlying hu, Result.andThen_ok, Builtin.lenOf, Sem.run_pure, hs, Builtin.firstCells, Nat.mul_one, hm, hl, hst]

/-! ### the same as rules for the walk: an operation is first put behind a name, so that its operands are reckoned before it is laid open -/
def loadS (ty : TypeId) (x : Value) : Sem Value := Instr.loadAt ty x
def storeS (ty : TypeId) (x v : Value) : Sem Unit := Instr.storeAt ty x v
def indexS (ty : TypeId) (x i : Value) : Sem Value := Instr.index ty x i
def copyS (ts : Array TypeId) (ty : TypeId) (xs : Array Value) : Sem Value := Builtin.copy_ ts ty xs
theorem loadS_in (ty : TypeId) (x : Value) : Instr.loadAt ty x = loadS ty x := rfl
theorem storeS_in (ty : TypeId) (x v : Value) : Instr.storeAt ty x v = storeS ty x v := rfl
theorem indexS_in (ty : TypeId) (x i : Value) : Instr.index ty x i = indexS ty x i := rfl
theorem copyS_in (ts : Array TypeId) (ty : TypeId) (xs : Array Value) : Builtin.copy_ ts ty xs = copyS ts ty xs := rfl
theorem loadS_row (ty : TypeId) (g o : Nat) (ha : (isAgg ty).run P w = .ok true w) (hs : (sizeOf ty).run P w = .ok (szOf P ty w) w) (hr : isRow w g = true) (hn : o + szOf P ty w ≤ (rowAt w g).size) :
    (loadS ty (.pointer (some ⟨g, o, none⟩))).run P w = .ok (.agg (cut (rowAt w g) o (o + szOf P ty w))) w := run_loadAt_row ty g o ha hs hr hn
theorem loadS_one (ty : TypeId) (a : Addr) (ha : (isAgg ty).run P w = .ok false w) : (loadS ty (.pointer (some a))).run P w = (load a).run P w := by
  simp [loadS, Instr.loadAt, Instr.sureAddr, Sem.run_bind, loadVar, ha]
theorem storeS_row (ty : TypeId) (g o : Nat) (cs : Array Value) (hs : (sizeOf ty).run P w = .ok cs.size w) (hr : freeRow w g = true) (hn : o + cs.size ≤ (rowAt w g).size) (h1 : oneCells cs = true) :
    (storeS ty (.pointer (some ⟨g, o, none⟩)) (.agg cs)).run P w = .ok () (w.setRow g (paste (rowAt w g) o cs)) := run_storeAt_row ty g o cs hs hr hn h1
theorem storeS_one (ty : TypeId) (a : Addr) (v : Value) (_ha : (isAgg ty).run P w = .ok false w) : (storeS ty (.pointer (some a)) v).run P w = (storeVar ty a v).run P w := by
  simp [storeS, Instr.storeAt, Instr.sureAddr]
theorem indexS_blk (t : TypeId) (n : Nat) (f : Nat → UInt8) (k : Nat) (hu : P.underlying t = some (.array n (P.elem t))) (hs : (sizeOf (P.elem t)).run P w = .ok 1 w) (ha : (isAgg (P.elem t)).run P w = .ok false w) (hk : k < n) :
    (indexS t (.agg (blk n f)) (.int .i64 (k : Int))).run P w = .ok (.int .u8 (B (f k))) w := run_index_blk t n f k w hu hs ha hk
theorem copyS_rows (dT sT ty : TypeId) (g o dLen dCap g' o' sLen sCap : Nat) (hu : P.underlying dT = some (.slice (P.elem dT))) (hs : (sizeOf (P.elem dT)).run P w = .ok 1 w)
    (hr : freeRow w g = true) (hr' : isRow w g' = true) (hn : o + min sLen dLen ≤ (rowAt w g).size) (hn' : o' + min sLen dLen ≤ (rowAt w g').size) (h1 : oneCells (cut (rowAt w g') o' (o' + min sLen dLen)) = true) :
    (copyS #[dT, sT] ty #[.slice (some ⟨g, o, none⟩) dLen dCap, .slice (some ⟨g', o', none⟩) sLen sCap]).run P w =
      .ok (goInt (min sLen dLen : Nat)) (w.setRow g (paste (rowAt w g) o (cut (rowAt w g') o' (o' + min sLen dLen)))) := run_copy_rows dT sT ty g o dLen dCap g' o' sLen sCap hu hs hr hr' hn hn' h1

theorem arrayAt_row (arr : TypeId) (a : Option Addr) (len cap : Nat) (h : P.underlying arr = some (.array (P.arrayLen arr) (P.elem arr))) (hn : P.arrayLen arr ≤ len) : (Instr.arrayAt arr (.slice a len cap)).run P w = .ok (.pointer a) w :=
  run_arrayAt w arr (P.elem arr) (P.arrayLen arr) a len cap h hn

/-- the result of a function that lies in a row -/
theorem results_row {fn : Func} {p : Tmp} {ty : TypeId} (h : fn.results = #[.cell p ty]) (tmps : Array Value) (g : Nat) (hp : tmps.getD p undef = .pointer (some ⟨g, 0, none⟩)) (cs : Array Value) (hc : rowAt w g = cs)
    (ha : (isAgg ty).run P w = .ok true w) (hs : (sizeOf ty).run P w = .ok cs.size w) (hr : isRow w g = true) :
    (results fn tmps).run P w = .ok (.agg cs) w := by
  have hp' : tmps[p]?.getD undef = .pointer (some ⟨g, 0, none⟩) := by simpa using hp
  have hl := run_loadCells_row (P := P) g 0 cs.size hr (by rw [hc]; omega)
  rw [hc] at hl
  simp only [Nat.zero_add, Array.extract_size] at hl
  simp [results, h, hp', asAddr, loadVar, Sem.run_bind, ha, hs, hl]
theorem rowAt_setRow (g n : Nat) (cs : Array Value) (h : isRow w g = true) : rowAt (w.setRow g cs) n = if n = g then cs else rowAt w n := by
  obtain ⟨c0, t, fr, hh, _⟩ := isRow_cells h
  by_cases hn : n = g
  · subst hn; unfold rowAt; rw [setRow_heap w n c0 cs t fr hh]; simp
  · unfold rowAt; rw [setRow_other w g n cs hn]; simp [hn]
theorem isRow_setRow (g n : Nat) (cs : Array Value) : isRow (w.setRow g cs) n = isRow w n := by
  by_cases hn : n = g
  · subst hn
    unfold isRow World.setRow
    simp only [Array.getElem?_modify, if_true]
    cases w.heap[n]? with
    | none => rfl
    | some o => cases o <;> rfl
  · unfold isRow; rw [setRow_other w g n cs hn]
theorem freeRow_setRow (g n : Nat) (cs : Array Value) (hs : cs.size = (rowAt w g).size) : freeRow (w.setRow g cs) n = freeRow w n := by
  by_cases hn : n = g
  · subst hn
    unfold rowAt at hs
    unfold freeRow World.setRow
    simp only [Array.getElem?_modify, if_true]
    cases hh : w.heap[n]? with
    | none => rfl
    | some o =>
      rw [hh] at hs
      cases o <;> first | rfl | (simp only at hs; simp [hs])
  · unfold freeRow; rw [setRow_other w g n cs hn]
/-- the same two as rules that ask nothing -/
theorem rowAt_put (g n : Nat) (cs : Array Value) : rowAt (w.setRow g cs) n = if n = g then (if isRow w g = true then cs else rowAt w g) else rowAt w n := by
  by_cases h : isRow w g = true
  · rw [rowAt_setRow g n cs h, if_pos h]
  · rw [if_neg h]
    have h2 : isRow (w.setRow g cs) g = false := by rw [isRow_setRow]; simpa using h
    by_cases hn : n = g
    · subst hn
      have e : ∀ v : World, isRow v n = false → rowAt v n = #[] := fun v hv => by
        unfold isRow at hv; unfold rowAt
        cases hh : v.heap[n]? with
        | none => rfl
        | some o => rw [hh] at hv; cases o <;> first | rfl | (simp at hv)
      rw [if_pos rfl, e _ h2, e _ (by simpa using h)]
    · rw [if_neg hn]; unfold rowAt; rw [setRow_other w g n cs hn]
def freeElse (w : World) (g n : Nat) (cs : Array Value) : Bool := freeRow (w.setRow g cs) n
theorem freeRow_put (g n : Nat) (cs : Array Value) : freeRow (w.setRow g cs) n = if cs.size = (rowAt w g).size then freeRow w n else freeElse w g n cs := by
  split
  · rename_i h; exact freeRow_setRow g n cs h
  · rfl
theorem below_rowAt {B g : Nat} {a w : World} (h : Below B a w) (hg : g < B) : rowAt w g = rowAt a g := by unfold rowAt; rw [h.block g hg]
theorem below_isRow {B g : Nat} {a w : World} (h : Below B a w) (hg : g < B) : isRow w g = isRow a g := by unfold isRow; rw [h.block g hg]
theorem below_freeRow {B g : Nat} {a w : World} (h : Below B a w) (hg : g < B) : freeRow w g = freeRow a g := by unfold freeRow; rw [h.block g hg]
theorem below_setRow' {B g : Nat} {a w : World} (h : Below B a w) (hg : B ≤ g) (cs : Array Value) : Below B a (w.setRow g cs) := below_setRow h hg cs
/-- one row of the call's own, held through a region -/
theorem held_call {w0 wa wb : World} {g : Nat} {c : Array Value} (hb : Below wa.heap.size wa wb) (h : rowAt wa g = c ∧ isRow wa g = true ∧ g < wa.heap.size ∧ Below w0.heap.size w0 wa) :
    rowAt wb g = c ∧ isRow wb g = true ∧ g < wb.heap.size ∧ Below w0.heap.size w0 wb :=
  ⟨(below_rowAt hb h.2.2.1).trans h.1, (below_isRow hb h.2.2.1).trans h.2.1, Nat.lt_of_lt_of_le h.2.2.1 hb.size, h.2.2.2.trans (hb.mono h.2.2.2.size)⟩
theorem held_drewN {w0 wa : World} {g : Nat} {c : Array Value} (h : rowAt wa g = c ∧ isRow wa g = true ∧ g < wa.heap.size ∧ Below w0.heap.size w0 wa) (n : Nat) :
    rowAt (wa.drewN n) g = c ∧ isRow (wa.drewN n) g = true ∧ g < (wa.drewN n).heap.size ∧ Below w0.heap.size w0 (wa.drewN n) :=
  ⟨h.1, h.2.1, h.2.2.1, ⟨h.2.2.2.os, h.2.2.2.tape, h.2.2.2.output, h.2.2.2.size, h.2.2.2.block⟩⟩
theorem below_drewN {B n : Nat} {a w : World} (h : Below B a w) : Below B a (w.drewN n) := ⟨h.os, h.tape, h.output, h.size, h.block⟩
end

end Go.Proofs.Ytgaecjhghpkcoaa
end

section
namespace Go.Proofs.Ytgaecjhghpkcoaa
open Go.RowKit

theorem st_setCell {w : World} (g i : Nat) (v : Value) (h : isRow w g = true) : w.setCell ⟨g, i, none⟩ v = w.setRow g ((rowAt w g).setIfInBounds i v) := by
  obtain ⟨cs, t, fr, hh, hr⟩ := isRow_cells h
  rw [hr]
  unfold World.setCell World.setRow
  congr 1
  apply Array.ext_getElem?
  intro n
  simp only [Array.getElem?_modify]
  by_cases hn : g = n
  · subst hn; simp [hh]
  · simp [hn]
theorem st_blk_ne (n : Nat) (f : Nat → UInt8) : (blk (n + 1) f = #[]) = False := by
  simp only [eq_iff_iff, iff_false]
  intro h
  have := congrArg Array.size h
  rw [blk_size] at this
  simp at this

theorem run_eql_blk {P : Program} (t : TypeId) (n : Nat) (f g : Nat → UInt8) (w : World) (hu : P.underlying t = some (.array n (P.elem t))) (hz : (sizeOf (P.elem t)).run P w = .ok 1 w) (ha : P.underlying (P.elem t) = some (.int .u8)) :
    (binOp .eql t (.agg (blk n f)) (.agg (blk n g))).run P w = .ok (.bool (same n f g)) w := by
  rw [run_eql_struct, run_equalIn_blk 9998 t n f g w hu hz ha]; rfl
theorem run_neq_blk {P : Program} (t : TypeId) (n : Nat) (f g : Nat → UInt8) (w : World) (hu : P.underlying t = some (.array n (P.elem t))) (hz : (sizeOf (P.elem t)).run P w = .ok 1 w) (ha : P.underlying (P.elem t) = some (.int .u8)) :
    (binOp .neq t (.agg (blk n f)) (.agg (blk n g))).run P w = .ok (.bool (!same n f g)) w := by
  rw [run_neq_struct, run_equalIn_blk 9998 t n f g w hu hz ha]; rfl

/-- of the blocks that are named each holds these cells, may be written, and is none that stood when w0 was; no two are one -/
structure St (w0 : World) (L : List (Nat × Array Value)) (wr : World) : Prop where
  below : Below w0.heap.size w0 wr
  ne : (L.map Prod.fst).Nodup
  rows : ∀ x ∈ L, (w0.heap.size ≤ x.1 ∧ x.1 < wr.heap.size) ∧ rowAt wr x.1 = x.2 ∧ freeRow wr x.1 = true ∧ isRow wr x.1 = true

section
variable {w0 a b : World} {L : List (Nat × Array Value)}
theorem St.nil (w0 : World) : St w0 [] w0 := ⟨Below.refl _ _, by simp, by simp⟩
theorem St.call (h : St w0 L a) (hb : Below a.heap.size a b) : St w0 L b :=
  ⟨h.below.trans (hb.mono h.below.size), h.ne, fun x hx => by
    obtain ⟨⟨h1, h2⟩, h3, h4, h5⟩ := h.rows x hx
    exact ⟨⟨h1, Nat.lt_of_lt_of_le h2 hb.size⟩, (below_rowAt hb h2).trans h3, (below_freeRow hb h2).trans h4, (below_isRow hb h2).trans h5⟩⟩
theorem St.drew (h : St w0 L a) : St w0 L a.drew := h.call (Below.refl _ _).drew
theorem St.drewN (h : St w0 L a) (n : Nat) : St w0 L (a.drewN n) := h.call (below_drewN (Below.refl _ _))
theorem St.skip (h : St w0 L a) (o : Obj) : St w0 L (a.alloc o) := h.call ((Below.refl _ _).alloc (Nat.le_refl _) _)
theorem St.push (h : St w0 L a) (cs : Array Value) (t : TypeId) : St w0 ((a.heap.size, cs) :: L) (a.alloc (.cells cs t)) := by
  have h' := h.skip (.cells cs t)
  refine ⟨h'.below, ?_, ?_⟩
  · simp only [List.map_cons, List.nodup_cons]
    refine ⟨fun hm => ?_, h.ne⟩
    obtain ⟨x, hx, he⟩ := List.mem_map.1 hm
    have := (h.rows x hx).1.2
    omega
  · intro x hx
    rcases List.mem_cons.1 hx with rfl | hx
    · refine ⟨⟨h.below.size, by simp⟩, ?_, ?_, ?_⟩
      · simp [rowAt_alloc]
      · simp [freeRow_alloc]
      · simp [isRow_alloc]
    · exact h'.rows x hx
theorem St.pushA (h : St w0 L a) (cs : Array Value) (t : TypeId) {g : Nat} (hg : a.heap.size = g) : St w0 ((g, cs) :: L) (a.alloc (.cells cs t)) := hg ▸ h.push cs t
/-- one of them is written anew -/
def setL (g : Nat) (cs : Array Value) : List (Nat × Array Value) → List (Nat × Array Value)
  | [] => []
  | (g', c) :: L => if g' = g then (g, cs) :: L else (g', c) :: setL g cs L
theorem setL_fst (g : Nat) (cs : Array Value) : ∀ L : List (Nat × Array Value), (setL g cs L).map Prod.fst = L.map Prod.fst
  | [] => rfl
  | (g', c) :: L => by
    unfold setL
    split
    · rename_i h; simp [h]
    · simp [setL_fst g cs L]
theorem setL_mem (g : Nat) (cs : Array Value) : ∀ (L : List (Nat × Array Value)), (L.map Prod.fst).Nodup → ∀ x ∈ setL g cs L, (x.1 = g ∧ x.2 = cs) ∨ (x.1 ≠ g ∧ x ∈ L)
  | [], _, x, hx => by simp [setL] at hx
  | (g', c) :: L, hn, x, hx => by
    simp only [List.map_cons, List.nodup_cons] at hn
    unfold setL at hx
    split at hx
    · rename_i h
      rcases List.mem_cons.1 hx with rfl | hx
      · exact .inl ⟨rfl, rfl⟩
      · refine .inr ⟨fun he => hn.1 ?_, by simp [hx]⟩
        rw [h, ← he]; exact List.mem_map_of_mem hx
    · rename_i h
      rcases List.mem_cons.1 hx with rfl | hx
      · exact .inr ⟨h, by simp⟩
      · rcases setL_mem g cs L hn.2 x hx with h1 | h1
        · exact .inl h1
        · exact .inr ⟨h1.1, by simp [h1.2]⟩
theorem St.get (h : St w0 L a) {g : Nat} {cs : Array Value} (hm : (g, cs) ∈ L) : (w0.heap.size ≤ g ∧ g < a.heap.size) ∧ rowAt a g = cs ∧ freeRow a g = true ∧ isRow a g = true := h.rows _ hm
theorem St.set (h : St w0 L a) (g : Nat) (cs : Array Value) (hm : g ∈ L.map Prod.fst) (hs : cs.size = (rowAt a g).size) : St w0 (setL g cs L) (a.setRow g cs) := by
  obtain ⟨y, hy, rfl⟩ := List.mem_map.1 hm
  have hr := h.rows y hy
  refine ⟨below_setRow' h.below hr.1.1 _, by rw [setL_fst]; exact h.ne, fun x hx => ?_⟩
  rcases setL_mem _ _ L h.ne x hx with ⟨h1, h2⟩ | ⟨h1, h2⟩
  · rw [h1, h2]
    refine ⟨⟨hr.1.1, by simpa using hr.1.2⟩, ?_, ?_, ?_⟩
    · rw [rowAt_setRow _ _ _ hr.2.2.2, if_pos rfl]
    · rw [freeRow_setRow _ _ _ hs]; exact hr.2.2.1
    · rw [isRow_setRow]; exact hr.2.2.2
  · obtain ⟨⟨x1, x2⟩, x3, x4, x5⟩ := h.rows x h2
    refine ⟨⟨x1, by simpa using x2⟩, ?_, ?_, ?_⟩
    · rw [rowAt_setRow _ _ _ hr.2.2.2, if_neg h1]; exact x3
    · rw [freeRow_setRow _ _ _ hs]; exact x4
    · rw [isRow_setRow]; exact x5
theorem St.weaken {L' : List (Nat × Array Value)} (h : St w0 L a) (hn : (L'.map Prod.fst).Nodup) (hs : ∀ x ∈ L', x ∈ L) : St w0 L' a := ⟨h.below, hn, fun x hx => h.rows x (hs x hx)⟩
theorem St.tail {x : Nat × Array Value} (h : St w0 (x :: L) a) : St w0 L a := ⟨h.below, by have := h.ne; simp only [List.map_cons, List.nodup_cons] at this; exact this.2, fun y hy => h.rows y (by simp [hy])⟩
theorem St.swap {x y : Nat × Array Value} (h : St w0 (x :: y :: L) a) : St w0 (y :: x :: L) a := ⟨h.below, by have := h.ne; simp only [List.map_cons, List.nodup_cons, List.mem_cons] at this ⊢; exact ⟨fun e => this.1 (.inl (e.elim Eq.symm fun e => (this.2.1 e).elim)), fun e => this.1 (.inr e), this.2.2⟩, fun z hz => h.rows z (by simp only [List.mem_cons] at hz ⊢; rcases hz with h | h | h <;> simp [h])⟩
theorem St.set_head {g : Nat} {c : Array Value} (h : St w0 ((g, c) :: L) a) (cs : Array Value) (hs : cs.size = c.size := by first | (simp only [blk_size]; done) | (simp [go_sem]; done) | rfl) : St w0 ((g, cs) :: L) (a.setRow g cs) := by
  have := h.set g cs (by simp) (by rw [(h.rows (g, c) (by simp)).2.1]; exact hs); simpa [setL] using this
/-- some of them, in the order that is told -/
theorem St.pick {L' : List (Nat × Array Value)} (h : St w0 L a) (is : List Nat) (hn : is.Nodup) (hL : is.filterMap (fun i => L[i]?) = L') : St w0 L' a := by
  subst hL
  refine ⟨h.below, ?_, fun x hx => ?_⟩
  · have hne := h.ne
    rw [List.nodup_iff_pairwise_ne, List.pairwise_map, List.pairwise_filterMap]
    refine List.Pairwise.imp (fun {i j} hij => ?_) (List.nodup_iff_pairwise_ne.1 hn)
    intro x hx y hy e
    have hx' : (L.map Prod.fst)[i]? = some x.1 := by rw [List.getElem?_map, hx]; rfl
    have hy' : (L.map Prod.fst)[j]? = some y.1 := by rw [List.getElem?_map, hy]; rfl
    have hi := (List.getElem?_eq_some_iff.1 hx').1
    exact hij ((List.getElem?_inj hi hne).1 (by rw [hx', hy', e]))
  · obtain ⟨i, _, hi⟩ := List.mem_filterMap.1 hx
    exact h.rows x (List.mem_of_getElem? hi)
/-- the facts of it, named -/
theorem St.one {g : Nat} {c : Array Value} (h : St w0 [(g, c)] a) : ((w0.heap.size ≤ g ∧ g < a.heap.size) ∧ rowAt a g = c ∧ freeRow a g = true ∧ isRow a g = true) := h.rows (g, c) (by simp)
theorem St.os (h : St w0 L a) : a.os = w0.os := h.below.os

theorem St.at {g : Nat} {c : Array Value} (h : St w0 L a) (hm : (g, c) ∈ L) : rowAt a g = c ∧ freeRow a g = true ∧ isRow a g = true ∧ w0.heap.size ≤ g ∧ g < a.heap.size := by
  obtain ⟨⟨h1, h2⟩, h3, h4, h5⟩ := h.rows _ hm
  exact ⟨h3, h4, h5, h1, h2⟩
theorem St.facts1 {g1 : Nat} {c1 : Array Value} (h : St w0 [(g1, c1)] a) : (rowAt a g1 = c1 ∧ freeRow a g1 = true ∧ isRow a g1 = true ∧ w0.heap.size ≤ g1 ∧ g1 < a.heap.size) := h.at (by simp)
theorem St.facts2 {g1 g2 : Nat} {c1 c2 : Array Value} (h : St w0 [(g1, c1), (g2, c2)] a) : (rowAt a g1 = c1 ∧ freeRow a g1 = true ∧ isRow a g1 = true ∧ w0.heap.size ≤ g1 ∧ g1 < a.heap.size) ∧ (rowAt a g2 = c2 ∧ freeRow a g2 = true ∧ isRow a g2 = true ∧ w0.heap.size ≤ g2 ∧ g2 < a.heap.size) ∧ ((g1 = g2) = False) ∧ ((g2 = g1) = False) := by
  have hn := h.ne
  simp only [List.map_cons, List.map_nil, List.nodup_cons, List.mem_cons, List.not_mem_nil, or_false, not_false_eq_true, List.nodup_nil, and_true] at hn
  simp only [eq_iff_iff, iff_false]
  exact ⟨h.at (by simp), h.at (by simp), by omega, by omega⟩
theorem St.facts3 {g1 g2 g3 : Nat} {c1 c2 c3 : Array Value} (h : St w0 [(g1, c1), (g2, c2), (g3, c3)] a) : (rowAt a g1 = c1 ∧ freeRow a g1 = true ∧ isRow a g1 = true ∧ w0.heap.size ≤ g1 ∧ g1 < a.heap.size) ∧ (rowAt a g2 = c2 ∧ freeRow a g2 = true ∧ isRow a g2 = true ∧ w0.heap.size ≤ g2 ∧ g2 < a.heap.size) ∧ (rowAt a g3 = c3 ∧ freeRow a g3 = true ∧ isRow a g3 = true ∧ w0.heap.size ≤ g3 ∧ g3 < a.heap.size) ∧ ((g1 = g2) = False) ∧ ((g2 = g1) = False) ∧ ((g1 = g3) = False) ∧ ((g3 = g1) = False) ∧ ((g2 = g3) = False) ∧ ((g3 = g2) = False) := by
  have hn := h.ne
  simp only [List.map_cons, List.map_nil, List.nodup_cons, List.mem_cons, List.not_mem_nil, or_false, not_false_eq_true, List.nodup_nil, and_true] at hn
  simp only [eq_iff_iff, iff_false]
  exact ⟨h.at (by simp), h.at (by simp), h.at (by simp), by omega, by omega, by omega, by omega, by omega, by omega⟩
theorem St.facts4 {g1 g2 g3 g4 : Nat} {c1 c2 c3 c4 : Array Value} (h : St w0 [(g1, c1), (g2, c2), (g3, c3), (g4, c4)] a) : (rowAt a g1 = c1 ∧ freeRow a g1 = true ∧ isRow a g1 = true ∧ w0.heap.size ≤ g1 ∧ g1 < a.heap.size) ∧ (rowAt a g2 = c2 ∧ freeRow a g2 = true ∧ isRow a g2 = true ∧ w0.heap.size ≤ g2 ∧ g2 < a.heap.size) ∧ (rowAt a g3 = c3 ∧ freeRow a g3 = true ∧ isRow a g3 = true ∧ w0.heap.size ≤ g3 ∧ g3 < a.heap.size) ∧ (rowAt a g4 = c4 ∧ freeRow a g4 = true ∧ isRow a g4 = true ∧ w0.heap.size ≤ g4 ∧ g4 < a.heap.size) ∧ ((g1 = g2) = False) ∧ ((g2 = g1) = False) ∧ ((g1 = g3) = False) ∧ ((g3 = g1) = False) ∧ ((g1 = g4) = False) ∧ ((g4 = g1) = False) ∧ ((g2 = g3) = False) ∧ ((g3 = g2) = False) ∧ ((g2 = g4) = False) ∧ ((g4 = g2) = False) ∧ ((g3 = g4) = False) ∧ ((g4 = g3) = False) := by
  have hn := h.ne
  simp only [List.map_cons, List.map_nil, List.nodup_cons, List.mem_cons, List.not_mem_nil, or_false, not_false_eq_true, List.nodup_nil, and_true] at hn
  simp only [eq_iff_iff, iff_false]
  exact ⟨h.at (by simp), h.at (by simp), h.at (by simp), h.at (by simp), by omega, by omega, by omega, by omega, by omega, by omega, by omega, by omega, by omega, by omega, by omega, by omega⟩
theorem St.facts5 {g1 g2 g3 g4 g5 : Nat} {c1 c2 c3 c4 c5 : Array Value} (h : St w0 [(g1, c1), (g2, c2), (g3, c3), (g4, c4), (g5, c5)] a) : (rowAt a g1 = c1 ∧ freeRow a g1 = true ∧ isRow a g1 = true ∧ w0.heap.size ≤ g1 ∧ g1 < a.heap.size) ∧ (rowAt a g2 = c2 ∧ freeRow a g2 = true ∧ isRow a g2 = true ∧ w0.heap.size ≤ g2 ∧ g2 < a.heap.size) ∧ (rowAt a g3 = c3 ∧ freeRow a g3 = true ∧ isRow a g3 = true ∧ w0.heap.size ≤ g3 ∧ g3 < a.heap.size) ∧ (rowAt a g4 = c4 ∧ freeRow a g4 = true ∧ isRow a g4 = true ∧ w0.heap.size ≤ g4 ∧ g4 < a.heap.size) ∧ (rowAt a g5 = c5 ∧ freeRow a g5 = true ∧ isRow a g5 = true ∧ w0.heap.size ≤ g5 ∧ g5 < a.heap.size) ∧ ((g1 = g2) = False) ∧ ((g2 = g1) = False) ∧ ((g1 = g3) = False) ∧ ((g3 = g1) = False) ∧ ((g1 = g4) = False) ∧ ((g4 = g1) = False) ∧ ((g1 = g5) = False) ∧ ((g5 = g1) = False) ∧ ((g2 = g3) = False) ∧ ((g3 = g2) = False) ∧ ((g2 = g4) = False) ∧ ((g4 = g2) = False) ∧ ((g2 = g5) = False) ∧ ((g5 = g2) = False) ∧ ((g3 = g4) = False) ∧ ((g4 = g3) = False) ∧ ((g3 = g5) = False) ∧ ((g5 = g3) = False) ∧ ((g4 = g5) = False) ∧ ((g5 = g4) = False) := by
  have hn := h.ne
  simp only [List.map_cons, List.map_nil, List.nodup_cons, List.mem_cons, List.not_mem_nil, or_false, not_false_eq_true, List.nodup_nil, and_true] at hn
  simp only [eq_iff_iff, iff_false]
  exact ⟨h.at (by simp), h.at (by simp), h.at (by simp), h.at (by simp), h.at (by simp), by omega, by omega, by omega, by omega, by omega, by omega, by omega, by omega, by omega, by omega, by omega, by omega, by omega, by omega, by omega, by omega, by omega, by omega, by omega, by omega⟩
theorem St.facts6 {g1 g2 g3 g4 g5 g6 : Nat} {c1 c2 c3 c4 c5 c6 : Array Value} (h : St w0 [(g1, c1), (g2, c2), (g3, c3), (g4, c4), (g5, c5), (g6, c6)] a) : (rowAt a g1 = c1 ∧ freeRow a g1 = true ∧ isRow a g1 = true ∧ w0.heap.size ≤ g1 ∧ g1 < a.heap.size) ∧ (rowAt a g2 = c2 ∧ freeRow a g2 = true ∧ isRow a g2 = true ∧ w0.heap.size ≤ g2 ∧ g2 < a.heap.size) ∧ (rowAt a g3 = c3 ∧ freeRow a g3 = true ∧ isRow a g3 = true ∧ w0.heap.size ≤ g3 ∧ g3 < a.heap.size) ∧ (rowAt a g4 = c4 ∧ freeRow a g4 = true ∧ isRow a g4 = true ∧ w0.heap.size ≤ g4 ∧ g4 < a.heap.size) ∧ (rowAt a g5 = c5 ∧ freeRow a g5 = true ∧ isRow a g5 = true ∧ w0.heap.size ≤ g5 ∧ g5 < a.heap.size) ∧ (rowAt a g6 = c6 ∧ freeRow a g6 = true ∧ isRow a g6 = true ∧ w0.heap.size ≤ g6 ∧ g6 < a.heap.size) ∧ ((g1 = g2) = False) ∧ ((g2 = g1) = False) ∧ ((g1 = g3) = False) ∧ ((g3 = g1) = False) ∧ ((g1 = g4) = False) ∧ ((g4 = g1) = False) ∧ ((g1 = g5) = False) ∧ ((g5 = g1) = False) ∧ ((g1 = g6) = False) ∧ ((g6 = g1) = False) ∧ ((g2 = g3) = False) ∧ ((g3 = g2) = False) ∧ ((g2 = g4) = False) ∧ ((g4 = g2) = False) ∧ ((g2 = g5) = False) ∧ ((g5 = g2) = False) ∧ ((g2 = g6) = False) ∧ ((g6 = g2) = False) ∧ ((g3 = g4) = False) ∧ ((g4 = g3) = False) ∧ ((g3 = g5) = False) ∧ ((g5 = g3) = False) ∧ ((g3 = g6) = False) ∧ ((g6 = g3) = False) ∧ ((g4 = g5) = False) ∧ ((g5 = g4) = False) ∧ ((g4 = g6) = False) ∧ ((g6 = g4) = False) ∧ ((g5 = g6) = False) ∧ ((g6 = g5) = False) := by
  have hn := h.ne
  simp only [List.map_cons, List.map_nil, List.nodup_cons, List.mem_cons, List.not_mem_nil, or_false, not_false_eq_true, List.nodup_nil, and_true] at hn
  simp only [eq_iff_iff, iff_false]
  exact ⟨h.at (by simp), h.at (by simp), h.at (by simp), h.at (by simp), h.at (by simp), h.at (by simp), by omega, by omega, by omega, by omega, by omega, by omega, by omega, by omega, by omega, by omega, by omega, by omega, by omega, by omega, by omega, by omega, by omega, by omega, by omega, by omega, by omega, by omega, by omega, by omega, by omega, by omega, by omega, by omega, by omega, by omega⟩

/-! ### regions -/
theorem walkB_mono {P : Program} {C : World → Prop} {Q Q' : Act → Prop} (h : ∀ a, Q a → Q' a) : ∀ (l : List Oper) (a : Act), walkB P C Q l a → walkB P C Q' l a
  | [], _, k => h _ k
  | _ :: l, _, ⟨v, h1, h2⟩ => ⟨v, h1, walkB_mono h l _ h2⟩
section
variable {P : Program} {id : Nat} {Q : Exit → Act → World → Prop} {t : Act} {l : List Oper}
/-- a region of reads and of calls that write new memory alone -/
theorem St.region (h : St w0 L a) (hm : P.follows .mixedOrders = true) (hB : Region.lexB .any l.toArray = true)
    (k : wpQuiet P l.toArray (St w0 L) (fun a' => ∀ w', St w0 L w' → Q .normal a' w') l t) : (Code.region id l.toArray true).wp P Q t a := wp_region_quiet hm hB h.drew (by simpa using k)
/-- .. and a tail in one forced order -/
theorem St.region_tail (n : Nat) (h : St w0 L a) (hm : P.follows .mixedOrders = true) (hB : tailB l n = true)
    (k : wpQuiet P (l.take n).toArray (St w0 L) (fun a' => ∀ w', St w0 L w' → wpList P l.toArray Q (l.drop n) a' w') (l.take n) t) : (Code.region id l.toArray true).wp P Q t a := wp_region_tail n hm hB h.drew k
/-- .. and an allocation that comes up anywhere in the head -/
theorem St.region_float (n : Nat) (d : Tmp) (cs : Array Value) (ty : TypeId) (h : St w0 L a) (on : Oper) (hm : P.follows .mixedOrders = true) (hB : floatB l n d = true) (hon : l[n]? = some on)
    (hal : ∀ (w : World) (a : Act), (execOp a.eval on).run P w = .ok (.value (ptrTo w.heap.size)) (w.alloc (.cells cs ty)))
    (k : walkB P (St w0 L) (fun a' => ∀ w' g, St w0 ((g, cs) :: L) w' → wpList P l.toArray Q (l.drop (n + 1)) (a'.put (some d) (ptrTo g)) w') (l.take n) t) : (Code.region id l.toArray true).wp P Q t a := by
  refine wp_region_float (C := St w0 L) n d (.cells cs ty) on hm hB hon hal (fun _ _ h hb => h.call hb) h.drew ?_
  refine walkB_mono (fun a' hq => ?_) _ _ k
  intro w' g hC hG
  obtain ⟨w1, h1, rfl, hb⟩ := hG
  exact hq w' _ ((h1.push cs ty).call hb)
/-- two rows are held against each other -/
theorem eql_quiet {o : Oper} {a : Act} {C : World → Prop} {w : World} {n : Nat} {f g : Nat → UInt8} {b : Bool} (ty : TypeId) {x y : Operand} {rt : TypeId} (ho : o.op = .binOp .eql ty x y rt) (hx : a.eval x = .agg (blk n f)) (hy : a.eval y = .agg (blk n g))
    (hg : P.eqGuardType P.depth ty = false) (hu : P.underlying ty = some (.array n (P.elem ty))) (hz : (sizeOf (P.elem ty)).run P w = .ok 1 w) (ha : P.underlying (P.elem ty) = some (.int .u8)) (hs : same n f g = b) : o.quietAt P a C w (.bool b) := by
  unfold Oper.quietAt execOp
  simp only [ho, hx, hy]
  have h1 : (eqGuard .eql ty x y (.agg (blk n f)) (.agg (blk n g))).run P w = .ok () w := run_eqGuard_agg (hm := hg) ..
  simp only [Sem.run_bind, h1, Result.andThen_ok, run_eql_blk ty n f g w hu hz ha, Sem.run_pure, hs]
  exact ⟨rfl, rfl⟩
theorem neq_quiet {o : Oper} {a : Act} {C : World → Prop} {w : World} {n : Nat} {f g : Nat → UInt8} {b : Bool} (ty : TypeId) {x y : Operand} {rt : TypeId} (ho : o.op = .binOp .neq ty x y rt) (hx : a.eval x = .agg (blk n f)) (hy : a.eval y = .agg (blk n g))
    (hg : P.eqGuardType P.depth ty = false) (hu : P.underlying ty = some (.array n (P.elem ty))) (hz : (sizeOf (P.elem ty)).run P w = .ok 1 w) (ha : P.underlying (P.elem ty) = some (.int .u8)) (hs : same n f g = b) : o.quietAt P a C w (.bool (!b)) := by
  unfold Oper.quietAt execOp
  simp only [ho, hx, hy]
  have h1 : (eqGuard .neq ty x y (.agg (blk n f)) (.agg (blk n g))).run P w = .ok () w := run_eqGuard_agg (hm := hg) ..
  simp only [Sem.run_bind, h1, Result.andThen_ok, run_neq_blk ty n f g w hu hz ha, Sem.run_pure, hs]
  exact ⟨rfl, rfl⟩
theorem head_step_g {ops : Array Oper} {C : World → Prop} {o : Oper} {rest : List Oper} {Q : Act → Prop} {a : Act} {v : Value} (hg : Region.wanted o (yielded ops a.tmps) = true) (h : ∀ w, C w → o.quietAt P a C w v) (hn : wpQuiet P ops C Q rest (a.put o.dst v)) : wpQuiet P ops C Q (o :: rest) a := by
  unfold wpQuiet
  simp only [hg, if_true]
  exact ⟨v, h, hn⟩
theorem head_skip {ops : Array Oper} {C : World → Prop} {o : Oper} {rest : List Oper} {Q : Act → Prop} {a : Act} (hg : Region.wanted o (yielded ops a.tmps) = false) (hn : wpQuiet P ops C Q rest (a.put o.dst undef)) : wpQuiet P ops C Q (o :: rest) a := by
  unfold wpQuiet
  simp only [hg, Bool.false_eq_true, if_false]
  exact hn
end
end
end Go.Proofs.Ytgaecjhghpkcoaa
end

section
namespace Go.Proofs.Ytgaecjhghpkcoaa
open Go Go.RowKit

/-- the slots of the allocations, put -/
def putF (Ds : List Tmp) (G : Nat → Option Nat) : Nat → Act → Act
  | 0, a => a
  | j + 1, a => match G j with
    | some g => (putF Ds G j a).put Ds[j]? (ptrTo g)
    | none => putF Ds G j a
/-- the blocks that they have made -/
def entF (cs : Nat → Array Value) (G : Nat → Option Nat) : Nat → List (Nat × Array Value)
  | 0 => []
  | j + 1 => match G j with
    | some g => (g, cs j) :: entF cs G j
    | none => entF cs G j
def undF (G : Nat → Option Nat) : Nat → Nat
  | 0 => 0
  | j + 1 => undF G j + (if (G j).isNone then 1 else 0)
def setF (G : Nat → Option Nat) (i g : Nat) : Nat → Option Nat := fun j => if j = i then some g else G j

theorem undF_zero {G : Nat → Option Nat} : ∀ {k : Nat}, undF G k = 0 → ∀ j, j < k → ∃ g, G j = some g
  | 0, _, j, hj => by omega
  | k + 1, h, j, hj => by
    simp only [undF] at h
    rcases Nat.lt_or_ge j k with h1 | h1
    · exact undF_zero (by omega) j h1
    · obtain rfl : j = k := by omega
      cases hg : G j with
      | none => simp [hg] at h
      | some g => exact ⟨g, rfl⟩
theorem undF_pos {G : Nat → Option Nat} : ∀ {k : Nat}, undF G k ≠ 0 → ∃ j, j < k ∧ G j = none
  | 0, h => (h rfl).elim
  | k + 1, h => by
    cases hg : G k with
    | none => exact ⟨k, by omega, hg⟩
    | some g =>
      obtain ⟨j, h1, h2⟩ := undF_pos (G := G) (k := k) (by simpa [undF, hg] using h)
      exact ⟨j, by omega, h2⟩
theorem undF_past (G : Nat → Option Nat) (i g : Nat) : ∀ {k : Nat}, k ≤ i → undF (setF G i g) k = undF G k
  | 0, _ => rfl
  | k + 1, h => by
    have : setF G i g k = G k := by unfold setF; rw [if_neg (by omega)]
    simp only [undF, this, undF_past G i g (show k ≤ i by omega)]
theorem undF_set {G : Nat → Option Nat} {i : Nat} (g : Nat) (hi : G i = none) : ∀ {k : Nat}, i < k → undF (setF G i g) k + 1 = undF G k
  | 0, h => by omega
  | k + 1, h => by
    by_cases h1 : i = k
    · subst h1
      have : setF G i g i = some g := by unfold setF; rw [if_pos rfl]
      simp only [undF, this, hi, undF_past G i g (Nat.le_refl i)]
      simp
    · have : setF G i g k = G k := by unfold setF; rw [if_neg (Ne.symm h1)]
      have h2 := undF_set g hi (k := k) (by omega)
      simp only [undF, this]; omega
theorem entF_past (cs : Nat → Array Value) (G : Nat → Option Nat) (i g : Nat) : ∀ {k : Nat}, k ≤ i → entF cs (setF G i g) k = entF cs G k
  | 0, _ => rfl
  | k + 1, h => by
    have : setF G i g k = G k := by unfold setF; rw [if_neg (by omega)]
    simp only [entF, this, entF_past cs G i g (show k ≤ i by omega)]
theorem entF_set (cs : Nat → Array Value) {G : Nat → Option Nat} {i : Nat} (g : Nat) (hi : G i = none) : ∀ {k : Nat}, i < k → (entF cs (setF G i g) k).Perm ((g, cs i) :: entF cs G k)
  | 0, h => by omega
  | k + 1, h => by
    by_cases h1 : i = k
    · subst h1
      have : setF G i g i = some g := by unfold setF; rw [if_pos rfl]
      simp only [entF, this, hi, entF_past cs G i g (Nat.le_refl i)]
      exact .refl _
    · have : setF G i g k = G k := by unfold setF; rw [if_neg (Ne.symm h1)]
      have h2 := entF_set cs g hi (k := k) (by omega)
      simp only [entF, this]
      cases G k with
      | none => exact h2
      | some x => exact (h2.cons (x, cs k)).trans (.swap _ _ _)
theorem St.perm {w0 w : World} {L L' : List (Nat × Array Value)} (h : St w0 L w) (hp : L'.Perm L) : St w0 L' w :=
  ⟨h.below, (hp.map Prod.fst).nodup_iff.2 h.ne, fun x hx => h.rows x (hp.mem_iff.1 hx)⟩

theorem putF_past (Ds : List Tmp) (G : Nat → Option Nat) (i g : Nat) (a : Act) : ∀ {k : Nat}, k ≤ i → putF Ds (setF G i g) k a = putF Ds G k a
  | 0, _ => rfl
  | k + 1, h => by
    have : setF G i g k = G k := by unfold setF; rw [if_neg (by omega)]
    simp only [putF, this, putF_past Ds G i g a (show k ≤ i by omega)]
theorem putF_put (Ds : List Tmp) (G : Nat → Option Nat) (a : Act) {x : Option Tmp} (v : Value) (hx : ∀ d, x = some d → d ∉ Ds) : ∀ {k : Nat}, putF Ds G k (a.put x v) = (putF Ds G k a).put x v
  | 0 => rfl
  | k + 1 => by
    simp only [putF]
    cases G k with
    | none => exact putF_put Ds G a v hx
    | some g =>
      show (putF Ds G k (a.put x v)).put Ds[k]? (ptrTo g) = ((putF Ds G k a).put Ds[k]? (ptrTo g)).put x v
      rw [putF_put Ds G a v hx]
      exact Act.put_comm _ (x := x) (y := Ds[k]?) v (ptrTo g) (fun d hd he => hx d hd (List.mem_of_getElem? he))
theorem putF_set (Ds : List Tmp) (hn : Ds.Nodup) {G : Nat → Option Nat} {i : Nat} (g : Nat) (a : Act) (hi : G i = none) : ∀ {k : Nat}, i < k → k ≤ Ds.length → putF Ds (setF G i g) k a = (putF Ds G k a).put Ds[i]? (ptrTo g)
  | 0, h, _ => by omega
  | k + 1, h, hk => by
    by_cases h1 : i = k
    · subst h1
      have : setF G i g i = some g := by unfold setF; rw [if_pos rfl]
      simp only [putF, this, hi, putF_past Ds G i g a (Nat.le_refl i)]
    · have : setF G i g k = G k := by unfold setF; rw [if_neg (Ne.symm h1)]
      have h2 := putF_set Ds hn g a hi (k := k) (by omega) (by omega)
      simp only [putF, this]
      cases G k with
      | none => exact h2
      | some x =>
        show (putF Ds (setF G i g) k a).put Ds[k]? (ptrTo x) = ((putF Ds G k a).put Ds[k]? (ptrTo x)).put Ds[i]? (ptrTo g)
        rw [h2]
        refine Act.put_comm _ (x := Ds[i]?) (y := Ds[k]?) (ptrTo g) (ptrTo x) (fun d hd he => ?_)
        exact h1 ((List.getElem?_inj (i := i) (j := k) (by omega) hn).1 (hd.trans he.symm))

/-- the head is plain and keeps off the allocations' slots; the allocations wait for nothing; the tail is forced -/
def floatsB (l : List Oper) (n : Nat) (Ds : List Tmp) : Bool :=
  decide (n + Ds.length < l.length) && plainB l n && (List.range n).all (fun i => match l[i]? with | some o => Ds.all (fun d => o.dst != some d && !(o.looksAt l.toArray).contains d) | none => false) &&
    decide Ds.Nodup && (List.range Ds.length).all (fun j => match l[n + j]? with | some o => o.guard.isNone && o.after.isEmpty && o.dst == Ds[j]? | none => false) && Region.noSelect l.toArray && Region.lexB .any (l.take n).toArray && Region.sinkB .any l.toArray (n + Ds.length) && Region.chainB .any l.toArray (n + Ds.length) &&
    Region.seqB .any l.toArray (l.length - (n + Ds.length)) (n + Ds.length) ((List.replicate (n + Ds.length) true ++ List.replicate (l.length - (n + Ds.length)) false).toArray)

section
variable {P : Program} {w0 : World} {L : List (Nat × Array Value)}

theorem stepAt_putF {l : List Oper} {o : Oper} {Ds : List Tmp} {G : Nat → Option Nat} {a : Act} {w : World} {v : Value} (hs : Region.noSelect l.toArray = true) {i : Nat} (ho : l.toArray[i]? = some o) (hd : ∀ d ∈ Ds, d ∉ o.looksAt l.toArray) (h : stepAt P o a w v) : ∀ {k : Nat}, stepAt P o (putF Ds G k a) w v
  | 0 => h
  | k + 1 => by
    have ih := stepAt_putF (G := G) hs ho hd h (k := k)
    simp only [putF]
    cases G k with
    | none => exact ih
    | some g =>
      show stepAt P o ((putF Ds G k a).put Ds[k]? (ptrTo g)) w v
      unfold stepAt at *
      rwa [execOp_put (ops := l.toArray) o (Region.noSelect_spec hs i o · · ho) _ Ds[k]? (ptrTo g) (fun d he => hd d (List.mem_of_getElem? he))]

theorem simFs {l : List Oper} {n : Nat} {Ds : List Tmp} {cs : Nat → Array Value} {ty : Nat → TypeId} (hB : floatsB l n Ds = true)
    (hal : ∀ j o, j < Ds.length → l[n + j]? = some o → ∀ (w : World) (a : Act), (execOp a.eval o).run P w = .ok (.value (ptrTo w.heap.size)) (w.alloc (.cells (cs j) (ty j))))
    {Q : Act → Prop} {Q' : Exit → Act → World → Prop}
    (hQ : ∀ a w (gs : Nat → Nat), St w0 (entF cs (fun j => some (gs j)) Ds.length ++ L) w → Q a → wpList P l.toArray Q' (l.drop (n + Ds.length)) (putF Ds (fun j => some (gs j)) Ds.length a) w) :
    ∀ (N f : Nat) (G : Nat → Option Nat) (part listed : Array Bool) (a : Act) (w : World), f + undF G Ds.length = N → St w0 (entF cs G Ds.length ++ L) w → part.size = n → (∀ i, i < n → listed[i]? = part[i]?) →
      (∀ j, j < Ds.length → listed.getD (n + j) false = (G j).isSome) → HeadInv .any l.toArray (n + Ds.length) listed → wpAnyB P .any (l.take n).toArray (St w0 L) Q f part a →
      wpAny P .any l.toArray Q' ((l.length - (n + Ds.length)) + N) listed (putF Ds G Ds.length a) w := by
  simp only [floatsB, Bool.and_eq_true, decide_eq_true_eq] at hB
  obtain ⟨⟨⟨⟨⟨⟨⟨⟨⟨hn, hp⟩, hd⟩, hnd⟩, ho⟩, hsel⟩, _⟩, hs⟩, hc⟩, hq⟩ := hB
  have hsz : n + Ds.length < l.toArray.size := by simpa using hn
  have hhead : ∀ i, i < n → ∃ o, l[i]? = some o ∧ o.guard = none ∧ (∀ e ∈ o.after, Region.binds .any e = true → e.on < i) ∧ (∀ d, o.dst = some d → d ∉ Ds) ∧ (∀ d ∈ Ds, d ∉ o.looksAt l.toArray) := fun i hi => by
    obtain ⟨o, h1, h2, h3⟩ := plainB_at hp hi
    have h4 := List.all_eq_true.1 hd i (List.mem_range.2 hi)
    simp only [h1, List.all_eq_true, Bool.and_eq_true, bne_iff_ne, Bool.not_eq_true', ← Bool.not_eq_true, List.contains_iff_mem] at h4
    exact ⟨o, h1, h2, h3, fun d h5 h6 => (h4 d h6).1 h5, fun d h6 => (h4 d h6).2⟩
  have hfl : ∀ j, j < Ds.length → ∃ o, l[n + j]? = some o ∧ o.guard = none ∧ o.after = #[] ∧ o.dst = Ds[j]? := fun j hj => by
    have h4 := List.all_eq_true.1 ho j (List.mem_range.2 hj)
    split at h4
    · rename_i o h5
      simp only [Bool.and_eq_true, Option.isNone_iff_eq_none, Array.isEmpty_iff, beq_iff_eq] at h4
      exact ⟨o, h5, h4.1.1, h4.1.2, h4.2⟩
    · cases h4
  have hr : ∀ (part listed : Array Bool), (∀ i, i < n → listed[i]? = part[i]?) → ∀ i, i < n → (i ∈ Region.ready .any l.toArray listed ↔ i ∈ Region.ready .any (l.take n).toArray part) := fun part listed hl i hi => by
    obtain ⟨o, ho, _, he, _⟩ := hhead i hi
    rw [mem_ready, mem_ready, getD_lt hl hi true]
    have e1 : l.toArray[i]? = some o := by simp [ho]
    have e2 : (l.take n).toArray[i]? = some o := by simp [hi, ho]
    simp only [e1, e2, Option.some.injEq, exists_eq_left']
    constructor
    · rintro ⟨x, y⟩; exact ⟨x, fun e hm hb => by rw [← getD_lt hl (by have := he e hm hb; omega) false]; exact y e hm hb⟩
    · rintro ⟨x, y⟩; exact ⟨x, fun e hm hb => by rw [getD_lt hl (by have := he e hm hb; omega) false]; exact y e hm hb⟩
  -- all is done: the tail
  have fin : ∀ (x : Nat) (G : Nat → Option Nat) (part listed : Array Bool) (a : Act) (w : World), undF G Ds.length = 0 → St w0 (entF cs G Ds.length ++ L) w → part.size = n → (∀ i, i < n → listed[i]? = part[i]?) →
      (∀ j, j < Ds.length → listed.getD (n + j) false = (G j).isSome) → HeadInv .any l.toArray (n + Ds.length) listed → Region.ready .any (l.take n).toArray part = [] → Q a →
      wpAny P .any l.toArray Q' ((l.length - (n + Ds.length)) + x) listed (putF Ds G Ds.length a) w := by
    intro x G part listed a w hu hw hz hl hlf inv h0 h1
    have hall := all_listed hp hz h0
    have hG := undF_zero hu
    obtain ⟨gs, hgs⟩ : ∃ gs : Nat → Nat, ∀ j, j < Ds.length → G j = some (gs j) := ⟨fun j => (G j).getD 0, fun j hj => by obtain ⟨g, hg⟩ := hG j hj; simp [hg]⟩
    have eP : ∀ k, k ≤ Ds.length → putF Ds G k a = putF Ds (fun j => some (gs j)) k a := fun k => by
      induction k with
      | zero => intro _; rfl
      | succ k ih => intro hk; simp only [putF, hgs k (by omega), ih (by omega)]
    have eE : ∀ k, k ≤ Ds.length → entF cs G k = entF cs (fun j => some (gs j)) k := fun k => by
      induction k with
      | zero => intro _; rfl
      | succ k ih => intro hk; simp only [entF, hgs k (by omega), ih (by omega)]
    have he : listed = (List.replicate (n + Ds.length) true ++ List.replicate (l.length - (n + Ds.length)) false).toArray := by
      have hsz := inv.size
      simp only [List.size_toArray] at hsz
      refine Array.ext (by simp [hsz]; omega) fun i hi _ => ?_
      by_cases hin : i < n + Ds.length
      · have h2 : listed.getD i false = true := by
          by_cases hi2 : i < n
          · have h2 := hall i hi2
            rwa [← getD_lt hl hi2 false] at h2
          · have h3 := hlf (i - n) (by omega)
            rw [show n + (i - n) = i by omega, hgs _ (by omega)] at h3
            exact h3
        simp only [Array.getD_eq_getD_getElem?, Array.getElem?_eq_getElem hi, Option.getD_some] at h2
        simp only [h2, List.getElem_toArray]
        rw [List.getElem_append_left (by simp; omega)]
        simp
      · have h2 := inv.tail i (by omega) (by simp only [List.size_toArray]; omega)
        simp only [Array.getD_eq_getD_getElem?, Array.getElem?_eq_getElem hi, Option.getD_some] at h2
        rw [h2, List.getElem_toArray, List.getElem_append_right (by simp; omega)]
        simp
    have hdl : (l.drop (n + Ds.length)).length = l.length - (n + Ds.length) := by simp
    rw [← hdl]
    refine any_tail x (l.drop (n + Ds.length)) (n + Ds.length) listed _ w (fun j => by simp [List.getElem?_drop]) ?_ (by rw [eP _ (Nat.le_refl _)]; exact hQ _ _ gs (by rw [← eE _ (Nat.le_refl _)]; exact hw) h1)
    rw [hdl, he]; exact hq
  intro N
  induction N with
  | zero =>
    intro f G part listed a w hN hw hz hl hlf inv h
    obtain rfl : f = 0 := by omega
    exact fin 0 G part listed a w (by omega) hw hz hl hlf inv h.1 h.2
  | succ N ih =>
    intro f G part listed a w hN hw hz hl hlf inv h
    have hlsz := inv.size
    simp only [List.size_toArray] at hlsz
    -- is anything left ahead of the tail?
    by_cases hdone : undF G Ds.length = 0 ∧ Region.ready .any (l.take n).toArray part = []
    · have hq1 : Q a := by cases f with | zero => exact h.2 | succ f => exact h.1 hdone.2
      exact fin (N + 1) G part listed a w hdone.1 hw hz hl hlf inv hdone.2 hq1
    have hready : ∃ i0, i0 < n + Ds.length ∧ i0 ∈ Region.ready .any l.toArray listed := by
      by_cases hu : undF G Ds.length = 0
      · have h0 : Region.ready .any (l.take n).toArray part ≠ [] := fun e => hdone ⟨hu, e⟩
        obtain ⟨i0, hi0⟩ := List.exists_mem_of_ne_nil _ h0
        have hi0n : i0 < n := by
          obtain ⟨_, o, ho, _⟩ := mem_ready.1 hi0
          have := (Array.getElem?_eq_some_iff.1 ho).1
          simp only [List.size_toArray, List.length_take] at this
          omega
        exact ⟨i0, by omega, (hr part listed hl i0 hi0n).2 hi0⟩
      · obtain ⟨j, hj, hg⟩ := undF_pos hu
        obtain ⟨o, h1, _, h3, _⟩ := hfl j hj
        have h4 := hlf j hj
        rw [hg] at h4
        exact ⟨n + j, by omega, mem_ready.2 ⟨getD_in (by omega) (by simpa using h4), o, by simp [h1], fun e he => by rw [h3] at he; simp at he⟩⟩
    obtain ⟨i0, hi0m, hi0⟩ := hready
    rw [show (l.length - (n + Ds.length)) + (N + 1) = ((l.length - (n + Ds.length)) + N) + 1 by omega]
    refine ⟨fun h1 => (by rw [h1] at hi0; cases hi0), fun i hi => ?_⟩
    have him : i < n + Ds.length := by
      rcases Nat.lt_or_ge i (n + Ds.length) with h1 | h1
      · exact h1
      · exact absurd hi (tail_waits hs hc hsz inv _ i0 rfl hi0m (mem_ready.1 hi0).1 i h1)
    by_cases hin : i < n
    · -- an operation of the head
      have hir := (hr part listed hl i hin).1 hi
      obtain ⟨f, rfl⟩ : ∃ f', f = f' + 1 := by
        cases f with
        | zero => rw [h.1] at hir; cases hir
        | succ f => exact ⟨f, rfl⟩
      obtain ⟨o, ho1, hg1, _, h1, h2⟩ := hhead i hin
      have h3 := h.2 i hir
      unfold bOp at h3
      have e2 : (l.take n).toArray[i]? = some o := by simp [hin, ho1]
      simp only [e2] at h3
      obtain ⟨v, h4, h5⟩ := h3
      have e1 : l.toArray[i]? = some o := by simp [ho1]
      have hw1 : St w0 L w := by
        refine hw.weaken ?_ (fun x hx => by simp [hx])
        have := hw.ne
        simp only [List.map_append, List.nodup_append] at this
        exact this.2.1
      have hat : stepAt P o (putF Ds G Ds.length a) w v := stepAt_putF hsel e1 h2 (h4 w hw1)
      unfold wpOp
      simp only [e1, Region.wanted, hg1, if_true]
      refine .inl (wp_of_step hat fun w' hb => ?_)
      rw [← putF_put Ds G a v h1]
      refine ih f G _ _ _ w' (by omega) (hw.call hb) (by simpa using hz) (fun j hj => ?_) (fun j hj => ?_) (inv.set hi (by omega)) h5
      · by_cases hij : i = j
        · subst hij
          rw [Array.getElem?_setIfInBounds_self_of_lt (by omega), Array.getElem?_setIfInBounds_self_of_lt (by omega)]
        · rw [Array.getElem?_setIfInBounds_ne hij, Array.getElem?_setIfInBounds_ne hij]; exact hl j hj
      · rw [getD_set_ne false (by omega)]; exact hlf j hj
    · -- an allocation
      obtain ⟨j, hj, rfl⟩ : ∃ j, j < Ds.length ∧ i = n + j := ⟨i - n, by omega, by omega⟩
      obtain ⟨o, h1, h2, h3, h4⟩ := hfl j hj
      have e1 : l.toArray[n + j]? = some o := by simp [h1]
      have hun : G j = none := by
        have h5 := hlf j hj
        have h6 := getD_both (mem_ready.1 hi).1
        rw [h6] at h5
        cases hg : G j with
        | none => rfl
        | some g => rw [hg] at h5; cases h5
      unfold wpOp
      simp only [e1, Region.wanted, h2, if_true]
      refine .inl ?_
      unfold Oper.wp
      rw [hal j o hj h1 w _]
      simp only [Oper.upon, h4]
      rw [← putF_set Ds hnd w.heap.size a hun hj (Nat.le_refl _)]
      refine ih f (setF G j w.heap.size) part _ a _ (by have := undF_set w.heap.size hun hj; omega) ?_ hz (fun i hi => ?_) (fun i hi => ?_) (inv.set hi (by omega)) h
      · refine (hw.push (cs j) (ty j)).perm ?_
        exact ((entF_set cs w.heap.size hun hj).append_right L)
      · rw [Array.getElem?_setIfInBounds_ne (by omega)]; exact hl i hi
      · by_cases hij : i = j
        · subst hij
          simp only [setF, if_true, Option.isSome_some]
          simp; omega
        · rw [getD_set_ne false (by omega), hlf i hi]
          simp only [setF, if_neg hij]

/-- **A region whose head writes new memory alone, allocations that come up anywhere, a tail in one forced order behind all.** -/
theorem St.region_floats (n : Nat) (Ds : List Tmp) (cs : Nat → Array Value) (ty : Nat → TypeId) {id : Nat} {Q : Exit → Act → World → Prop} {a : Act} {w : World} {l : List Oper} (h0 : St w0 L w) (hm : P.follows .mixedOrders = true) (hB : floatsB l n Ds = true)
    (hal : ∀ j o, j < Ds.length → l[n + j]? = some o → ∀ (w : World) (a : Act), (execOp a.eval o).run P w = .ok (.value (ptrTo w.heap.size)) (w.alloc (.cells (cs j) (ty j))))
    (h : walkB P (St w0 L) (fun a' => ∀ w' (gs : Nat → Nat), St w0 (entF cs (fun j => some (gs j)) Ds.length ++ L) w' → wpList P l.toArray Q (l.drop (n + Ds.length)) (putF Ds (fun j => some (gs j)) Ds.length a') w') (l.take n) a) : (Code.region id l.toArray true).wp P Q a w := by
  have hB' := hB
  simp only [floatsB, Bool.and_eq_true, decide_eq_true_eq] at hB'
  obtain ⟨⟨⟨⟨⟨⟨⟨⟨⟨hn, _⟩, _⟩, _⟩, _⟩, _⟩, hlex⟩, _⟩, _⟩, _⟩ := hB'
  simp only [Region.lexB, Bool.and_eq_true] at hlex
  have htl : (l.take n).length = n := by simp; omega
  have H := wpAnyB_lex (C := St w0 L) (md := .any) hlex.1 (l.take n) 0 (Array.replicate (l.take n).toArray.size false) a (by simp) (by simpa using hlex.2) h
  have inv0 : HeadInv .any l.toArray (n + Ds.length) (Array.replicate l.toArray.size false) :=
    ⟨by simp, fun j oj _ hl => (by rw [getD_replicate_false] at hl; cases hl), fun t _ ht => getD_in (by simpa using ht) (getD_replicate_false _ _)⟩
  have hu : ∀ k, undF (fun _ => none) k = k := fun k => by
    induction k with
    | zero => rfl
    | succ k ih => simp [undF, ih]
  have he : ∀ k, entF cs (fun _ => none) k = [] := fun k => by
    induction k with
    | zero => rfl
    | succ k ih => simp [entF, ih]
  have hp : ∀ k, putF Ds (fun _ => none) k a = a := fun k => by
    induction k with
    | zero => rfl
    | succ k ih => simp [putF, ih]
  refine wp_region_any hm ?_
  have := simFs (P := P) hB hal (Q := fun a' => ∀ w' (gs : Nat → Nat), St w0 (entF cs (fun j => some (gs j)) Ds.length ++ L) w' → wpList P l.toArray Q (l.drop (n + Ds.length)) (putF Ds (fun j => some (gs j)) Ds.length a') w') (Q' := Q) (fun a w gs hw hq => hq w gs hw) (n + Ds.length) n (fun _ => none)
    (Array.replicate (l.take n).toArray.size false) (Array.replicate l.toArray.size false) a w.drew (by rw [hu]) (by rw [he]; exact h0.drew) (by simp; omega) (fun i hi => by rw [Array.getElem?_replicate, Array.getElem?_replicate, if_pos (by simp; omega), if_pos (by simp; omega)])
    (fun j _ => by rw [getD_replicate_false]; rfl) inv0 (by rw [htl] at H; exact H)
  rw [hp, show l.length - (n + Ds.length) + (n + Ds.length) = l.toArray.size by simp; omega] at this
  exact this
/-- two of them -/
theorem St.region_float2 (n : Nat) (d1 d2 : Tmp) (cs1 cs2 : Array Value) (t1 t2 : TypeId) {id : Nat} {Q : Exit → Act → World → Prop} {a : Act} {w : World} {l : List Oper} (h0 : St w0 L w) (hm : P.follows .mixedOrders = true) (hB : floatsB l n [d1, d2] = true) (o1 o2 : Oper) (e1 : l[n]? = some o1) (e2 : l[n + 1]? = some o2)
    (h1 : ∀ (w : World) (a : Act), (execOp a.eval o1).run P w = .ok (.value (ptrTo w.heap.size)) (w.alloc (.cells cs1 t1))) (h2 : ∀ (w : World) (a : Act), (execOp a.eval o2).run P w = .ok (.value (ptrTo w.heap.size)) (w.alloc (.cells cs2 t2)))
    (h : walkB P (St w0 L) (fun a' => ∀ w' g1 g2, St w0 ((g2, cs2) :: (g1, cs1) :: L) w' → wpList P l.toArray Q (l.drop (n + 2)) ((a'.put (some d1) (ptrTo g1)).put (some d2) (ptrTo g2)) w') (l.take n) a) : (Code.region id l.toArray true).wp P Q a w := by
  refine St.region_floats (w0 := w0) (L := L) n [d1, d2] (fun j => if j = 0 then cs1 else cs2) (fun j => if j = 0 then t1 else t2) h0 hm hB ?_ (walkB_mono (fun a' hq w' gs hw => ?_) _ _ h)
  · intro j o hj ho w a
    match j, hj with
    | 0, _ => rw [Nat.add_zero, e1] at ho; cases ho; exact h1 w a
    | 1, _ => rw [e2] at ho; cases ho; exact h2 w a
  · exact hq w' (gs 0) (gs 1) (by simpa [entF] using hw)
/-- three of them -/
theorem St.region_float3 (n : Nat) (d1 d2 d3 : Tmp) (cs1 cs2 cs3 : Array Value) (t1 t2 t3 : TypeId) {id : Nat} {Q : Exit → Act → World → Prop} {a : Act} {w : World} {l : List Oper} (h0 : St w0 L w) (hm : P.follows .mixedOrders = true) (hB : floatsB l n [d1, d2, d3] = true) (o1 o2 o3 : Oper) (e1 : l[n]? = some o1) (e2 : l[n + 1]? = some o2) (e3 : l[n + 2]? = some o3)
    (h1 : ∀ (w : World) (a : Act), (execOp a.eval o1).run P w = .ok (.value (ptrTo w.heap.size)) (w.alloc (.cells cs1 t1))) (h2 : ∀ (w : World) (a : Act), (execOp a.eval o2).run P w = .ok (.value (ptrTo w.heap.size)) (w.alloc (.cells cs2 t2)))
    (h3 : ∀ (w : World) (a : Act), (execOp a.eval o3).run P w = .ok (.value (ptrTo w.heap.size)) (w.alloc (.cells cs3 t3)))
    (h : walkB P (St w0 L) (fun a' => ∀ w' g1 g2 g3, St w0 ((g3, cs3) :: (g2, cs2) :: (g1, cs1) :: L) w' → wpList P l.toArray Q (l.drop (n + 3)) (((a'.put (some d1) (ptrTo g1)).put (some d2) (ptrTo g2)).put (some d3) (ptrTo g3)) w') (l.take n) a) : (Code.region id l.toArray true).wp P Q a w := by
  refine St.region_floats (w0 := w0) (L := L) n [d1, d2, d3] (fun j => if j = 0 then cs1 else if j = 1 then cs2 else cs3) (fun j => if j = 0 then t1 else if j = 1 then t2 else t3) h0 hm hB ?_ (walkB_mono (fun a' hq w' gs hw => ?_) _ _ h)
  · intro j o hj ho w a
    match j, hj with
    | 0, _ => rw [Nat.add_zero, e1] at ho; cases ho; exact h1 w a
    | 1, _ => rw [e2] at ho; cases ho; exact h2 w a
    | 2, _ => rw [e3] at ho; cases ho; exact h3 w a
  · exact hq w' (gs 0) (gs 1) (gs 2) (by simpa [entF] using hw)
end
end Go.Proofs.Ytgaecjhghpkcoaa
end

section
namespace Go.Proofs.Ytgaecjhghpkcoaa
open Go Go.RowKit

/-- what the blocks hold: what is stored, where it is stored already -/
def conF (Z F : Nat → Array Value) (T : Nat → Option Nat) : Nat → Array Value := fun j => if (T j).isSome then F j else Z j

theorem entF_congr {c d : Nat → Array Value} (G : Nat → Option Nat) : ∀ {k : Nat}, (∀ j, j < k → c j = d j) → entF c G k = entF d G k
  | 0, _ => rfl
  | k + 1, h => by simp only [entF, entF_congr G (k := k) (fun j hj => h j (by omega)), h k (by omega)]
theorem entF_mem {c : Nat → Array Value} {G : Nat → Option Nat} {j g : Nat} (hg : G j = some g) : ∀ {k : Nat}, j < k → (g, c j) ∈ entF c G k
  | 0, h => by omega
  | k + 1, h => by
    by_cases h1 : j = k
    · subst h1; simp [entF, hg]
    · have := entF_mem (c := c) hg (k := k) (by omega)
      simp only [entF]
      split <;> simp [this]
theorem setL_entF {Z F : Nat → Array Value} {G T : Nat → Option Nat} {j g : Nat} (hg : G j = some g) (x : Nat) (L : List (Nat × Array Value)) : ∀ {k : Nat}, j < k → (((entF (conF Z F T) G k ++ L).map Prod.fst).Nodup) →
    setL g (F j) (entF (conF Z F T) G k ++ L) = entF (conF Z F (setF T j x)) G k ++ L
  | 0, h, _ => by omega
  | k + 1, h, hn => by
    have hoth : ∀ i, i ≠ j → conF Z F T i = conF Z F (setF T j x) i := fun i hi => by unfold conF setF; rw [if_neg hi]
    by_cases h1 : j = k
    · subst h1
      have e1 : entF (conF Z F T) G j = entF (conF Z F (setF T j x)) G j := entF_congr G fun i hi => hoth i (by omega)
      have e2 : conF Z F (setF T j x) j = F j := by unfold conF setF; simp
      simp only [entF, hg, List.cons_append, setL, if_true, e1, e2]
    · cases hk : G k with
      | none =>
        simp only [entF, hk] at hn ⊢
        exact setL_entF hg x L (by omega) hn
      | some y =>
        simp only [entF, hk, List.cons_append, List.map_cons, List.nodup_cons] at hn ⊢
        have hne : y ≠ g := fun e => hn.1 (by
          rw [e]
          exact List.mem_map.2 ⟨(g, conF Z F T j), List.mem_append_left _ (entF_mem hg (by omega)), rfl⟩)
        simp only [setL, hne, if_false]
        rw [setL_entF hg x L (by omega) hn.2, hoth k (by omega)]

/-- the head is plain and keeps off the new variables' slots, of which each is allocated and stored once, behind the operation that reckons what is stored -/
def storesB (l : List Oper) (n : Nat) (Ds Ss : List Tmp) : Bool :=
  decide (n + Ds.length + Ds.length = l.length) && decide (Ss.length = Ds.length) && plainB l l.length && (List.range n).all (fun i => match l[i]? with | some o => Ds.all (fun d => o.dst != some d && !(o.looksAt l.toArray).contains d) | none => false) &&
    decide Ds.Nodup && (List.range Ds.length).all (fun j => match l[n + j]? with | some o => o.guard.isNone && o.after.isEmpty && o.dst == Ds[j]? | none => false) &&
    (List.range Ds.length).all (fun j => match l[n + Ds.length + j]?, Ss[j]? with
      | some o, some s => o.guard.isNone && o.dst.isNone && o.after.any (fun e => Region.binds .any e && e.on == n + j) && !Ds.contains s &&
          o.after.any (fun e => Region.binds .any e && decide (e.on < n) && (List.range n).all fun i => i == e.on || (match l[i]? with | some o' => o'.dst != some s | none => false))
      | _, _ => false) &&
    Region.noSelect l.toArray && Region.lexB .any (l.take n).toArray

section
variable {P : Program} {w0 : World} {L : List (Nat × Array Value)}

theorem eval_put_ne (a : Act) {x : Option Tmp} {s : Tmp} (v : Value) (h : x ≠ some s) : (a.put x v).eval (.tmp s) = a.eval (.tmp s) := by
  cases x with
  | none => rfl
  | some d =>
    have hd : d ≠ s := fun e => h (by rw [e])
    simp [Act.eval, Act.put, Array.getD_eq_getD_getElem?, Array.getElem?_setIfInBounds_ne hd]
theorem eval_putF (Ds : List Tmp) (G : Nat → Option Nat) (a : Act) {s : Tmp} (h : s ∉ Ds) : ∀ {k : Nat}, (putF Ds G k a).eval (.tmp s) = a.eval (.tmp s)
  | 0 => rfl
  | k + 1 => by
    simp only [putF]
    cases G k with
    | none => exact eval_putF Ds G a h
    | some g =>
      show ((putF Ds G k a).put Ds[k]? (ptrTo g)).eval (.tmp s) = _
      rw [eval_put_ne _ _ (fun e => h (List.mem_of_getElem? e))]
      exact eval_putF Ds G a h
theorem eval_putF_at (Ds : List Tmp) (hn : Ds.Nodup) {G : Nat → Option Nat} (a : Act) (hin : ∀ d ∈ Ds, d < a.tmps.size) {j g : Nat} {d : Tmp} (hd : Ds[j]? = some d) (hg : G j = some g) : ∀ {k : Nat}, j < k → k ≤ Ds.length → (putF Ds G k a).eval (.tmp d) = ptrTo g
  | 0, h, _ => by omega
  | k + 1, h, hk => by
    have hsz : ∀ m, (putF Ds G m a).tmps.size = a.tmps.size := fun m => by
      induction m with
      | zero => rfl
      | succ m ih =>
        simp only [putF]
        cases G m with
        | none => exact ih
        | some x => cases Ds[m]? <;> simp [Act.put, ih]
    by_cases h1 : j = k
    · subst h1
      simp only [putF, hg]
      show ((putF Ds G j a).put Ds[j]? (ptrTo g)).eval (.tmp d) = _
      rw [hd]
      have h2 := hin d (List.mem_of_getElem? hd)
      rw [← hsz j] at h2
      simp [Act.eval, Act.put, Array.getD_eq_getD_getElem?, h2]
    · have ih := eval_putF_at Ds hn a hin hd hg (k := k) (by omega) (by omega)
      simp only [putF]
      cases G k with
      | none => exact ih
      | some x =>
        show ((putF Ds G k a).put Ds[k]? (ptrTo x)).eval (.tmp d) = _
        rw [eval_put_ne _ _ (fun e => h1 ((List.getElem?_inj (i := j) (j := k) (by omega) hn).1 (hd.trans e.symm)))]
        exact ih

/-- what a slot holds that nothing writes any more -/
theorem wpAnyB_slot {ops : Array Oper} {C : World → Prop} {Q : Act → Prop} {s : Tmp} {v : Value} (hQ : ∀ a, Q a → a.eval (.tmp s) = v) : ∀ (f : Nat) (part : Array Bool) (a : Act),
    (∀ i o, ops[i]? = some o → part.getD i true = false → o.dst ≠ some s) → wpAnyB P .any ops C Q f part a → a.eval (.tmp s) = v
  | 0, _, a, _, h => hQ a h.2
  | f + 1, part, a, hd, h => by
    by_cases h0 : Region.ready .any ops part = []
    · exact hQ a (h.1 h0)
    · obtain ⟨i, hi⟩ := List.exists_mem_of_ne_nil _ h0
      have h1 := h.2 i hi
      obtain ⟨hu, o, ho, _⟩ := mem_ready.1 hi
      unfold bOp at h1
      simp only [ho] at h1
      obtain ⟨u, _, h3⟩ := h1
      rw [← eval_put_ne a (x := o.dst) u (hd i o ho hu)]
      refine wpAnyB_slot hQ f _ _ (fun i' o' ho' hu' => hd i' o' ho' ?_) h3
      by_cases hii : i = i'
      · subst hii; exact hu
      · rwa [getD_set_ne true hii] at hu'

theorem simSt {l : List Oper} {n : Nat} {Ds Ss : List Tmp} {Z F : Nat → Array Value} {V : Nat → Value} {ty : Nat → TypeId} (hB : storesB l n Ds Ss = true)
    (hal : ∀ j o, j < Ds.length → l[n + j]? = some o → ∀ (w : World) (a : Act), (execOp a.eval o).run P w = .ok (.value (ptrTo w.heap.size)) (w.alloc (.cells (Z j) (ty j))))
    (hszF : ∀ j, j < Ds.length → (F j).size = (Z j).size)
    (hst : ∀ j o d s, j < Ds.length → l[n + Ds.length + j]? = some o → Ds[j]? = some d → Ss[j]? = some s → ∀ (w : World) (a : Act) (g : Nat), a.eval (.tmp d) = ptrTo g → a.eval (.tmp s) = V j → rowAt w g = Z j → freeRow w g = true → isRow w g = true → (execOp a.eval o).run P w = .ok .skip (w.setRow g (F j)))
    {Q : Act → Prop} {Q' : Exit → Act → World → Prop} (sz : Nat) (hin : ∀ d ∈ Ds, d < sz)
    (hV : ∀ a, Q a → ∀ j s, j < Ds.length → Ss[j]? = some s → a.eval (.tmp s) = V j)
    (hQ : ∀ a w (gs : Nat → Nat), St w0 (entF F (fun j => some (gs j)) Ds.length ++ L) w → Q a → Q' .normal (putF Ds (fun j => some (gs j)) Ds.length a) w) :
    ∀ (N f : Nat) (G T : Nat → Option Nat) (part listed : Array Bool) (a : Act) (w : World), f + undF G Ds.length + undF T Ds.length = N → a.tmps.size = sz → St w0 (entF (conF Z F T) G Ds.length ++ L) w → part.size = n → listed.size = l.length → (∀ i, i < n → listed[i]? = part[i]?) →
      (∀ j, j < Ds.length → listed.getD (n + j) false = (G j).isSome) → (∀ j, j < Ds.length → listed.getD (n + Ds.length + j) false = (T j).isSome) → (∀ j, (T j).isSome = true → (G j).isSome = true) → wpAnyB P .any (l.take n).toArray (St w0 L) Q f part a →
      wpAny P .any l.toArray Q' N listed (putF Ds G Ds.length a) w := by
  simp only [storesB, Bool.and_eq_true, decide_eq_true_eq] at hB
  obtain ⟨⟨⟨⟨⟨⟨⟨⟨hn, hss⟩, hp⟩, hd⟩, hnd⟩, ho⟩, hs0⟩, hsel⟩, _⟩ := hB
  have hpl : ∀ i, i < l.length → ∃ o, l[i]? = some o ∧ o.guard = none ∧ ∀ e ∈ o.after, Region.binds .any e = true → e.on < i := fun i hi => plainB_at hp hi
  have hhead : ∀ i, i < n → ∃ o, l[i]? = some o ∧ o.guard = none ∧ (∀ e ∈ o.after, Region.binds .any e = true → e.on < i) ∧ (∀ d, o.dst = some d → d ∉ Ds) ∧ (∀ d ∈ Ds, d ∉ o.looksAt l.toArray) := fun i hi => by
    obtain ⟨o, h1, h2, h3⟩ := hpl i (by omega)
    have h4 := List.all_eq_true.1 hd i (List.mem_range.2 hi)
    simp only [h1, List.all_eq_true, Bool.and_eq_true, bne_iff_ne, Bool.not_eq_true', ← Bool.not_eq_true, List.contains_iff_mem] at h4
    exact ⟨o, h1, h2, h3, fun d h5 h6 => (h4 d h6).1 h5, fun d h6 => (h4 d h6).2⟩
  have hfl : ∀ j, j < Ds.length → ∃ o, l[n + j]? = some o ∧ o.guard = none ∧ o.after = #[] ∧ o.dst = Ds[j]? := fun j hj => by
    have h4 := List.all_eq_true.1 ho j (List.mem_range.2 hj)
    split at h4
    · rename_i o h5
      simp only [Bool.and_eq_true, Option.isNone_iff_eq_none, Array.isEmpty_iff, beq_iff_eq] at h4
      exact ⟨o, h5, h4.1.1, h4.1.2, h4.2⟩
    · cases h4
  have hsto : ∀ j, j < Ds.length → ∃ o s, l[n + Ds.length + j]? = some o ∧ Ss[j]? = some s ∧ o.guard = none ∧ o.dst = none ∧ s ∉ Ds ∧ (∃ e ∈ o.after, Region.binds .any e = true ∧ e.on = n + j) ∧
      (∃ e ∈ o.after, Region.binds .any e = true ∧ e.on < n ∧ ∀ i, i < n → i ≠ e.on → ∀ o', l[i]? = some o' → o'.dst ≠ some s) := fun j hj => by
    have h4 := List.all_eq_true.1 hs0 j (List.mem_range.2 hj)
    split at h4
    · rename_i o s h5 h6
      simp only [Bool.and_eq_true, Option.isNone_iff_eq_none, Array.any_eq_true', beq_iff_eq, decide_eq_true_eq, List.all_eq_true, List.mem_range, Bool.or_eq_true, Bool.not_eq_true', ← Bool.not_eq_true, List.contains_iff_mem] at h4
      obtain ⟨⟨⟨⟨x1, x2⟩, e1, x3, x4, x5⟩, x6⟩, e2, x7, ⟨x8, x9⟩, x10⟩ := h4
      refine ⟨o, s, h5, h6, x1, x2, x6, ⟨e1, x3, x4, x5⟩, e2, x7, x8, x9, fun i hi hne o' ho' => ?_⟩
      have x11 := (x10 i hi).resolve_left hne
      simp only [ho', bne_iff_ne] at x11
      exact x11
    · cases h4
  have hr : ∀ (part listed : Array Bool), (∀ i, i < n → listed[i]? = part[i]?) → ∀ i, i < n → (i ∈ Region.ready .any l.toArray listed ↔ i ∈ Region.ready .any (l.take n).toArray part) := fun part listed hl i hi => by
    obtain ⟨o, ho, _, he, _⟩ := hhead i hi
    rw [mem_ready, mem_ready, getD_lt hl hi true]
    have e1 : l.toArray[i]? = some o := by simp [ho]
    have e2 : (l.take n).toArray[i]? = some o := by simp [hi, ho]
    simp only [e1, e2, Option.some.injEq, exists_eq_left']
    constructor
    · rintro ⟨x, y⟩; exact ⟨x, fun e hm hb => by rw [← getD_lt hl (by have := he e hm hb; omega) false]; exact y e hm hb⟩
    · rintro ⟨x, y⟩; exact ⟨x, fun e hm hb => by rw [getD_lt hl (by have := he e hm hb; omega) false]; exact y e hm hb⟩
  -- all is done
  have fin : ∀ (f : Nat) (G T : Nat → Option Nat) (part listed : Array Bool) (a : Act) (w : World), St w0 (entF (conF Z F T) G Ds.length ++ L) w → part.size = n → listed.size = l.length → (∀ i, i < n → listed[i]? = part[i]?) →
      (∀ j, j < Ds.length → listed.getD (n + j) false = (G j).isSome) → (∀ j, j < Ds.length → listed.getD (n + Ds.length + j) false = (T j).isSome) → wpAnyB P .any (l.take n).toArray (St w0 L) Q f part a →
      Region.ready .any l.toArray listed = [] → Q' .normal (putF Ds G Ds.length a) w := by
    intro f G T part listed a w hw hz hsz hl hlf hlt h h0
    have hall := all_listed (l := l) (n := l.length) hp hsz (by rw [List.take_length]; exact h0)
    have hpr : Region.ready .any (l.take n).toArray part = [] := by
      apply List.eq_nil_iff_forall_not_mem.2
      intro i hi
      have hin : i < n := by
        obtain ⟨_, o, ho, _⟩ := mem_ready.1 hi
        have := (Array.getElem?_eq_some_iff.1 ho).1
        simp only [List.size_toArray, List.length_take] at this
        omega
      have := (hr part listed hl i hin).2 hi
      rw [h0] at this; cases this
    have hq : Q a := by cases f with | zero => exact h.2 | succ f => exact h.1 hpr
    have hG : ∀ j, j < Ds.length → (G j).isSome = true := fun j hj => by rw [← hlf j hj]; exact hall _ (by omega)
    have hT : ∀ j, j < Ds.length → (T j).isSome = true := fun j hj => by rw [← hlt j hj]; exact hall _ (by omega)
    obtain ⟨gs, hgs⟩ : ∃ gs : Nat → Nat, ∀ j, j < Ds.length → G j = some (gs j) := ⟨fun j => (G j).getD 0, fun j hj => by obtain ⟨g, hg⟩ := Option.isSome_iff_exists.1 (hG j hj); simp [hg]⟩
    have eP : ∀ k, k ≤ Ds.length → putF Ds G k a = putF Ds (fun j => some (gs j)) k a := fun k => by
      induction k with
      | zero => intro _; rfl
      | succ k ih => intro hk; simp only [putF, hgs k (by omega), ih (by omega)]
    have eE : ∀ k, k ≤ Ds.length → entF (conF Z F T) G k = entF F (fun j => some (gs j)) k := fun k => by
      induction k with
      | zero => intro _; rfl
      | succ k ih =>
        intro hk
        have : conF Z F T k = F k := by unfold conF; rw [if_pos (hT k (by omega))]
        simp only [entF, hgs k (by omega), ih (by omega), this]
    rw [eP _ (Nat.le_refl _)]
    exact hQ _ _ gs (by rw [← eE _ (Nat.le_refl _)]; exact hw) hq
  intro N
  induction N with
  | zero =>
    intro f G T part listed a w hN hasz hw hz hsz hl hlf hlt hTG h
    have h0 : Region.ready .any l.toArray listed = [] := by
      obtain rfl : f = 0 := by omega
      have hall := all_listed (l := l) (n := n) (by
        unfold plainB at hp ⊢
        rw [List.all_eq_true] at hp ⊢
        exact fun i hi => hp i (by rw [List.mem_range] at hi ⊢; omega)) hz h.1
      apply List.eq_nil_iff_forall_not_mem.2
      intro i hi
      obtain ⟨hu, o, ho, _⟩ := mem_ready.1 hi
      have hil : i < l.length := by simpa using (Array.getElem?_eq_some_iff.1 ho).1
      have hlist : listed.getD i false = true := by
        by_cases h1 : i < n
        · rw [getD_lt hl h1 false]; exact hall i h1
        · by_cases h2 : i < n + Ds.length
          · obtain ⟨g, hg⟩ := undF_zero (G := G) (k := Ds.length) (by omega) (i - n) (by omega)
            have := hlf (i - n) (by omega)
            rw [show n + (i - n) = i by omega, hg] at this
            exact this
          · obtain ⟨g, hg⟩ := undF_zero (G := T) (k := Ds.length) (by omega) (i - n - Ds.length) (by omega)
            have := hlt (i - n - Ds.length) (by omega)
            rw [show n + Ds.length + (i - n - Ds.length) = i by omega, hg] at this
            exact this
      rw [getD_both hu] at hlist; cases hlist
    exact ⟨h0, fin f G T part listed a w hw hz hsz hl hlf hlt h h0⟩
  | succ N ih =>
    intro f G T part listed a w hN hasz hw hz hsz hl hlf hlt hTG h
    refine ⟨fun h0 => fin f G T part listed a w hw hz hsz hl hlf hlt h h0, fun i hi => ?_⟩
    obtain ⟨hun, oi, hoi, hoe⟩ := mem_ready.1 hi
    have hil : i < l.length := by simpa using (Array.getElem?_eq_some_iff.1 hoi).1
    by_cases hin1 : i < n
    · -- an operation of the head
      have hir := (hr part listed hl i hin1).1 hi
      obtain ⟨f, rfl⟩ : ∃ f', f = f' + 1 := by
        cases f with
        | zero => rw [h.1] at hir; cases hir
        | succ f => exact ⟨f, rfl⟩
      obtain ⟨o, ho1, hg1, _, h1, h2⟩ := hhead i hin1
      have h3 := h.2 i hir
      unfold bOp at h3
      have e2 : (l.take n).toArray[i]? = some o := by simp [hin1, ho1]
      simp only [e2] at h3
      obtain ⟨v, h4, h5⟩ := h3
      have e1 : l.toArray[i]? = some o := by simp [ho1]
      have hw1 : St w0 L w := by
        refine hw.weaken ?_ (fun x hx => by simp [hx])
        have := hw.ne
        simp only [List.map_append, List.nodup_append] at this
        exact this.2.1
      have hat : stepAt P o (putF Ds G Ds.length a) w v := stepAt_putF hsel e1 h2 (h4 w hw1)
      unfold wpOp
      simp only [e1, Region.wanted, hg1, if_true]
      refine .inl (wp_of_step hat fun w' hb => ?_)
      rw [← putF_put Ds G a v h1]
      refine ih f G T _ _ _ w' (by omega) ?_ (hw.call hb) (by simpa using hz) (by simpa using hsz) (fun j hj => ?_) (fun j hj => ?_) (fun j hj => ?_) hTG h5
      · rw [← hasz]; cases o.dst <;> simp [Act.put]
      · by_cases hij : i = j
        · subst hij
          rw [Array.getElem?_setIfInBounds_self_of_lt (by omega), Array.getElem?_setIfInBounds_self_of_lt (by omega)]
        · rw [Array.getElem?_setIfInBounds_ne hij, Array.getElem?_setIfInBounds_ne hij]; exact hl j hj
      · rw [getD_set_ne false (by omega)]; exact hlf j hj
      · rw [getD_set_ne false (by omega)]; exact hlt j hj
    · by_cases hin2 : i < n + Ds.length
      · -- an allocation
        obtain ⟨j, hj, rfl⟩ : ∃ j, j < Ds.length ∧ i = n + j := ⟨i - n, by omega, by omega⟩
        obtain ⟨o, h1, h2, h3, h4⟩ := hfl j hj
        have e1 : l.toArray[n + j]? = some o := by simp [h1]
        have hung : G j = none := by
          have h5 := hlf j hj
          rw [getD_both hun] at h5
          cases hg : G j with
          | none => rfl
          | some g => rw [hg] at h5; cases h5
        have hunt : T j = none := by
          cases ht : T j with
          | none => rfl
          | some x =>
            have h5 := hTG j (by rw [ht]; rfl)
            rw [hung] at h5; cases h5
        unfold wpOp
        simp only [e1, Region.wanted, h2, if_true]
        refine .inl ?_
        unfold Oper.wp
        rw [hal j o hj h1 w _]
        simp only [Oper.upon, h4]
        rw [← putF_set Ds hnd w.heap.size a hung hj (Nat.le_refl _)]
        refine ih f (setF G j w.heap.size) T part _ a _ (by have := undF_set w.heap.size hung hj; omega) hasz ?_ hz (by simpa using hsz) (fun i hi => ?_) (fun i hi => ?_) (fun i hi => ?_) (fun i hi => ?_) h
        · refine (hw.push (Z j) (ty j)).perm ?_
          have e3 := entF_set (conF Z F T) w.heap.size hung hj
          rw [show conF Z F T j = Z j by unfold conF; rw [hunt]; rfl] at e3
          exact e3.append_right L
        · rw [Array.getElem?_setIfInBounds_ne (by omega)]; exact hl i hi
        · by_cases hij : i = j
          · subst hij
            simp only [setF, if_true, Option.isSome_some]
            simp; omega
          · rw [getD_set_ne false (by omega), hlf i hi]
            simp only [setF, if_neg hij]
        · rw [getD_set_ne false (by omega)]; exact hlt i hi
        · unfold setF; split
          · rfl
          · exact hTG i hi
      · -- a store
        obtain ⟨j, hj, rfl⟩ : ∃ j, j < Ds.length ∧ i = n + Ds.length + j := ⟨i - n - Ds.length, by omega, by omega⟩
        obtain ⟨o, s, h1, h2, h3, h4, h5, ⟨e, he1, he2, he3⟩, e', he4, he5, he6, he7⟩ := hsto j hj
        have e1 : l.toArray[n + Ds.length + j]? = some o := by simp [h1]
        obtain rfl : oi = o := Option.some.inj (hoi.symm.trans e1)
        have hgl := hoe e he1 he2
        rw [he3, hlf j hj] at hgl
        obtain ⟨g, hg⟩ := Option.isSome_iff_exists.1 hgl
        have hunt : T j = none := by
          have h6 := hlt j hj
          rw [getD_both hun] at h6
          cases ht : T j with
          | none => rfl
          | some x => rw [ht] at h6; cases h6
        obtain ⟨d, hd1⟩ : ∃ d, Ds[j]? = some d := ⟨Ds[j], by simp [hj]⟩
        have hpt := eval_putF_at Ds hnd a (fun d hd => by rw [hasz]; exact hin d hd) hd1 hg hj (Nat.le_refl _)
        have hval : a.eval (.tmp s) = V j := by
          refine wpAnyB_slot (fun a hq => hV a hq j s hj h2) f part a (fun i o' ho' hu' => ?_) h
          have hin3 : i < n := by
            have := (Array.getElem?_eq_some_iff.1 ho').1
            simp only [List.size_toArray, List.length_take] at this
            omega
          refine he7 i hin3 (fun hie => ?_) o' (by simpa [hin3] using ho')
          have h8 := hoe e' he4 he5
          rw [← hie, getD_lt hl hin3 false, getD_both hu'] at h8
          cases h8
        have hat := hw.at (List.mem_append_left L (entF_mem (c := conF Z F T) hg hj))
        rw [show conF Z F T j = Z j by unfold conF; rw [hunt]; rfl] at hat
        unfold wpOp
        simp only [e1, Region.wanted, h3, if_true]
        refine .inl ?_
        unfold Oper.wp
        rw [hst j oi d s hj h1 hd1 h2 w _ g hpt (by rw [eval_putF Ds G a h5]; exact hval) hat.1 hat.2.1 hat.2.2.1]
        simp only [Oper.upon, h4, Act.put]
        refine ih f G (setF T j 0) part _ a _ (by have := undF_set 0 hunt hj; omega) hasz ?_ hz (by simpa using hsz) (fun i hi => ?_) (fun i hi => ?_) (fun i hi => ?_) (fun i hi => ?_) h
        · rw [← setL_entF hg 0 L hj hw.ne]
          exact hw.set g (F j) (List.mem_map.2 ⟨_, List.mem_append_left L (entF_mem (c := conF Z F T) hg hj), rfl⟩) (by rw [hat.1]; exact hszF j hj)
        · rw [Array.getElem?_setIfInBounds_ne (by omega)]; exact hl i hi
        · rw [getD_set_ne false (by omega)]; exact hlf i hi
        · by_cases hij : i = j
          · subst hij
            simp only [setF, if_true, Option.isSome_some]
            simp; omega
          · rw [getD_set_ne false (by omega), hlt i hi]
            simp only [setF, if_neg hij]
        · unfold setF at hi; split at hi
          · rename_i hij; rw [hij, hg]; rfl
          · exact hTG i hi

/-- **A region whose head writes new memory alone, and new variables into each of which something of the head is stored.** -/
theorem St.region_stores (n : Nat) (Ds Ss : List Tmp) (Z F : Nat → Array Value) (V : Nat → Value) (ty : Nat → TypeId) {id : Nat} {Q : Exit → Act → World → Prop} {a : Act} {w : World} {l : List Oper} (h0 : St w0 L w) (hm : P.follows .mixedOrders = true) (hB : storesB l n Ds Ss = true)
    (hal : ∀ j o, j < Ds.length → l[n + j]? = some o → ∀ (w : World) (a : Act), (execOp a.eval o).run P w = .ok (.value (ptrTo w.heap.size)) (w.alloc (.cells (Z j) (ty j))))
    (hszF : ∀ j, j < Ds.length → (F j).size = (Z j).size)
    (hst : ∀ j o d s, j < Ds.length → l[n + Ds.length + j]? = some o → Ds[j]? = some d → Ss[j]? = some s → ∀ (w : World) (a : Act) (g : Nat), a.eval (.tmp d) = ptrTo g → a.eval (.tmp s) = V j → rowAt w g = Z j → freeRow w g = true → isRow w g = true → (execOp a.eval o).run P w = .ok .skip (w.setRow g (F j)))
    (hin : ∀ d ∈ Ds, d < a.tmps.size)
    (h : walkB P (St w0 L) (fun a' => (∀ j s, j < Ds.length → Ss[j]? = some s → a'.eval (.tmp s) = V j) ∧ ∀ w' (gs : Nat → Nat), St w0 (entF F (fun j => some (gs j)) Ds.length ++ L) w' → Q .normal (putF Ds (fun j => some (gs j)) Ds.length a') w') (l.take n) a) : (Code.region id l.toArray true).wp P Q a w := by
  have hB' := hB
  simp only [storesB, Bool.and_eq_true, decide_eq_true_eq] at hB'
  obtain ⟨⟨⟨⟨⟨⟨⟨⟨hn, _⟩, _⟩, _⟩, _⟩, _⟩, _⟩, _⟩, hlex⟩ := hB'
  simp only [Region.lexB, Bool.and_eq_true] at hlex
  have htl : (l.take n).length = n := by simp; omega
  have H := wpAnyB_lex (C := St w0 L) (md := .any) hlex.1 (l.take n) 0 (Array.replicate (l.take n).toArray.size false) a (by simp) (by simpa using hlex.2) h
  have hu : ∀ k, undF (fun _ => none) k = k := fun k => by
    induction k with
    | zero => rfl
    | succ k ih => simp [undF, ih]
  have he : ∀ (cs : Nat → Array Value) k, entF cs (fun _ => none) k = [] := fun cs k => by
    induction k with
    | zero => rfl
    | succ k ih => simp [entF, ih]
  have hp : ∀ k, putF Ds (fun _ => none) k a = a := fun k => by
    induction k with
    | zero => rfl
    | succ k ih => simp [putF, ih]
  refine wp_region_any hm ?_
  have := simSt (P := P) (w0 := w0) (L := L) hB hal hszF hst (Q := fun a' => (∀ j s, j < Ds.length → Ss[j]? = some s → a'.eval (.tmp s) = V j) ∧ ∀ w' (gs : Nat → Nat), St w0 (entF F (fun j => some (gs j)) Ds.length ++ L) w' → Q .normal (putF Ds (fun j => some (gs j)) Ds.length a') w') (Q' := Q) a.tmps.size hin (fun a hq => hq.1) (fun a w gs hw hq => hq.2 w gs hw) (n + Ds.length + Ds.length) n (fun _ => none) (fun _ => none)
    (Array.replicate (l.take n).toArray.size false) (Array.replicate l.toArray.size false) a w.drew (by rw [hu]) rfl (by rw [he]; exact h0.drew) (by simp; omega) (by simp) (fun i hi => by rw [Array.getElem?_replicate, Array.getElem?_replicate, if_pos (by simp; omega), if_pos (by simp; omega)])
    (fun j _ => by rw [getD_replicate_false]; rfl) (fun j _ => by rw [getD_replicate_false]; rfl) (fun j hj => by cases hj) (by rw [htl] at H; exact H)
  rw [hp, hn, ← List.size_toArray] at this
  exact this
theorem paste_whole (Z F : Array Value) (h : Z.size = F.size) : paste Z 0 F = F := by
  apply Array.ext_getElem?
  intro j
  rw [paste_get _ _ _ (by omega)]
  by_cases hj : j < F.size
  · rw [if_pos ⟨by omega, by omega⟩, Nat.sub_zero]
  · rw [if_neg (by omega)]
    simp [Nat.le_of_not_lt hj, h ▸ Nat.le_of_not_lt hj]
/-- a store of a whole array or struct into a variable of its type -/
theorem stores_whole {d s : Tmp} (ty : TypeId) (Z F : Array Value) (hsz : Z.size = F.size) (hs : ∀ w, (sizeOf ty).run P w = .ok F.size w) (h1 : oneCells F = true) {o : Oper} (ho : o.op = .store ty (.tmp d) (.tmp s)) :
    ∀ (w : World) (a : Act) (g : Nat), a.eval (.tmp d) = ptrTo g → a.eval (.tmp s) = .agg F → rowAt w g = Z → freeRow w g = true → isRow w g = true → (execOp a.eval o).run P w = .ok .skip (w.setRow g F) := fun w a g e1 e2 e3 e4 _ => by
  unfold execOp
  simp only [ho, e1, e2, ptrTo]
  have := run_storeAt_row (P := P) (w := w) ty g 0 F (hs w) e4 (by rw [e3]; omega) h1
  rw [e3, paste_whole Z F hsz] at this
  simp only [Sem.run_bind, this, Result.andThen_ok, Sem.run_pure]
/-- two of them -/
theorem St.region_store2 (n : Nat) (d1 d2 s1 s2 : Tmp) (Z1 Z2 F1 F2 : Array Value) (V1 V2 : Value) (t1 t2 : TypeId) {id : Nat} {Q : Exit → Act → World → Prop} {a : Act} {w : World} {l : List Oper} (h0 : St w0 L w) (hm : P.follows .mixedOrders = true) (hB : storesB l n [d1, d2] [s1, s2] = true) (o1 o2 o3 o4 : Oper) (e1 : l[n]? = some o1) (e2 : l[n + 1]? = some o2) (e3 : l[n + 2]? = some o3) (e4 : l[n + 3]? = some o4)
    (h1 : ∀ (w : World) (a : Act), (execOp a.eval o1).run P w = .ok (.value (ptrTo w.heap.size)) (w.alloc (.cells Z1 t1))) (h2 : ∀ (w : World) (a : Act), (execOp a.eval o2).run P w = .ok (.value (ptrTo w.heap.size)) (w.alloc (.cells Z2 t2)))
    (h3 : ∀ (w : World) (a : Act) (g : Nat), a.eval (.tmp d1) = ptrTo g → a.eval (.tmp s1) = V1 → rowAt w g = Z1 → freeRow w g = true → isRow w g = true → (execOp a.eval o3).run P w = .ok .skip (w.setRow g F1))
    (h4 : ∀ (w : World) (a : Act) (g : Nat), a.eval (.tmp d2) = ptrTo g → a.eval (.tmp s2) = V2 → rowAt w g = Z2 → freeRow w g = true → isRow w g = true → (execOp a.eval o4).run P w = .ok .skip (w.setRow g F2))
    (hin : d1 < a.tmps.size ∧ d2 < a.tmps.size)
    (h : walkB P (St w0 L) (fun a' => (a'.eval (.tmp s1) = V1 ∧ a'.eval (.tmp s2) = V2) ∧ ∀ w' g1 g2, St w0 ((g2, F2) :: (g1, F1) :: L) w' → Q .normal ((a'.put (some d1) (ptrTo g1)).put (some d2) (ptrTo g2)) w') (l.take n) a) (hsz : F1.size = Z1.size ∧ F2.size = Z2.size := by first | (simp only [blk_size, and_self]; done) | (simp [go_sem]; done) | exact ⟨rfl, rfl⟩) : (Code.region id l.toArray true).wp P Q a w := by
  refine St.region_stores (w0 := w0) (L := L) n [d1, d2] [s1, s2] (fun j => if j = 0 then Z1 else Z2) (fun j => if j = 0 then F1 else F2) (fun j => if j = 0 then V1 else V2) (fun j => if j = 0 then t1 else t2) h0 hm hB ?_ ?_ ?_ (by simpa using hin) (walkB_mono (fun a' hq => ⟨?_, fun w' gs hw => ?_⟩) _ _ h)
  · intro j o hj ho w a
    match j, hj with
    | 0, _ => rw [Nat.add_zero, e1] at ho; cases ho; exact h1 w a
    | 1, _ => rw [e2] at ho; cases ho; exact h2 w a
  · intro j hj
    match j, hj with
    | 0, _ => exact hsz.1
    | 1, _ => exact hsz.2
  · intro j o d s hj ho hd hs w a g
    match j, hj with
    | 0, _ => rw [show n + [d1, d2].length + 0 = n + 2 from rfl, e3] at ho; cases ho; cases hd; cases hs; exact h3 w a g
    | 1, _ => rw [show n + [d1, d2].length + 1 = n + 3 from rfl, e4] at ho; cases ho; cases hd; cases hs; exact h4 w a g
  · intro j s hj hs
    match j, hj with
    | 0, _ => cases hs; exact hq.1.1
    | 1, _ => cases hs; exact hq.1.2
  · exact hq.2 w' (gs 0) (gs 1) (by simpa [entF] using hw)
end
end Go.Proofs.Ytgaecjhghpkcoaa
end

section
namespace Go.Proofs.Ytgaecjhghpkcoaa
open Go Go.RowKit
section
variable {P : Program} {w0 : World} {L : List (Nat × Array Value)}
/-- three of them -/
theorem St.region_store3 (n : Nat) (d1 d2 d3 s1 s2 s3 : Tmp) (Z1 Z2 Z3 F1 F2 F3 : Array Value) (V1 V2 V3 : Value) (t1 t2 t3 : TypeId) {id : Nat} {Q : Exit → Act → World → Prop} {a : Act} {w : World} {l : List Oper} (h0 : St w0 L w) (hm : P.follows .mixedOrders = true) (hB : storesB l n [d1, d2, d3] [s1, s2, s3] = true) (o1 o2 o3 o4 o5 o6 : Oper) (e1 : l[n]? = some o1) (e2 : l[n + 1]? = some o2) (e3 : l[n + 2]? = some o3) (e4 : l[n + 3]? = some o4) (e5 : l[n + 4]? = some o5) (e6 : l[n + 5]? = some o6)
    (h1 : ∀ (w : World) (a : Act), (execOp a.eval o1).run P w = .ok (.value (ptrTo w.heap.size)) (w.alloc (.cells Z1 t1))) (h2 : ∀ (w : World) (a : Act), (execOp a.eval o2).run P w = .ok (.value (ptrTo w.heap.size)) (w.alloc (.cells Z2 t2))) (h3 : ∀ (w : World) (a : Act), (execOp a.eval o3).run P w = .ok (.value (ptrTo w.heap.size)) (w.alloc (.cells Z3 t3)))
    (h4 : ∀ (w : World) (a : Act) (g : Nat), a.eval (.tmp d1) = ptrTo g → a.eval (.tmp s1) = V1 → rowAt w g = Z1 → freeRow w g = true → isRow w g = true → (execOp a.eval o4).run P w = .ok .skip (w.setRow g F1))
    (h5 : ∀ (w : World) (a : Act) (g : Nat), a.eval (.tmp d2) = ptrTo g → a.eval (.tmp s2) = V2 → rowAt w g = Z2 → freeRow w g = true → isRow w g = true → (execOp a.eval o5).run P w = .ok .skip (w.setRow g F2))
    (h6 : ∀ (w : World) (a : Act) (g : Nat), a.eval (.tmp d3) = ptrTo g → a.eval (.tmp s3) = V3 → rowAt w g = Z3 → freeRow w g = true → isRow w g = true → (execOp a.eval o6).run P w = .ok .skip (w.setRow g F3))
    (hin : d1 < a.tmps.size ∧ d2 < a.tmps.size ∧ d3 < a.tmps.size)
    (h : walkB P (St w0 L) (fun a' => (a'.eval (.tmp s1) = V1 ∧ a'.eval (.tmp s2) = V2 ∧ a'.eval (.tmp s3) = V3) ∧ ∀ w' g1 g2 g3, St w0 ((g3, F3) :: (g2, F2) :: (g1, F1) :: L) w' → Q .normal (((a'.put (some d1) (ptrTo g1)).put (some d2) (ptrTo g2)).put (some d3) (ptrTo g3)) w') (l.take n) a) (hsz : F1.size = Z1.size ∧ F2.size = Z2.size ∧ F3.size = Z3.size := by first | (simp only [blk_size, and_self]; done) | (simp [go_sem]; done) | exact ⟨rfl, rfl, rfl⟩) : (Code.region id l.toArray true).wp P Q a w := by
  refine St.region_stores (w0 := w0) (L := L) n [d1, d2, d3] [s1, s2, s3] (fun j => if j = 0 then Z1 else if j = 1 then Z2 else Z3) (fun j => if j = 0 then F1 else if j = 1 then F2 else F3) (fun j => if j = 0 then V1 else if j = 1 then V2 else V3) (fun j => if j = 0 then t1 else if j = 1 then t2 else t3) h0 hm hB ?_ ?_ ?_ (by simpa using hin) (walkB_mono (fun a' hq => ⟨?_, fun w' gs hw => ?_⟩) _ _ h)
  · intro j o hj ho w a
    match j, hj with
    | 0, _ => rw [Nat.add_zero, e1] at ho; cases ho; exact h1 w a
    | 1, _ => rw [e2] at ho; cases ho; exact h2 w a
    | 2, _ => rw [e3] at ho; cases ho; exact h3 w a
  · intro j hj
    match j, hj with
    | 0, _ => exact hsz.1
    | 1, _ => exact hsz.2.1
    | 2, _ => exact hsz.2.2
  · intro j o d s hj ho hd hs w a g
    match j, hj with
    | 0, _ => rw [show n + [d1, d2, d3].length + 0 = n + 3 from rfl, e4] at ho; cases ho; cases hd; cases hs; exact h4 w a g
    | 1, _ => rw [show n + [d1, d2, d3].length + 1 = n + 4 from rfl, e5] at ho; cases ho; cases hd; cases hs; exact h5 w a g
    | 2, _ => rw [show n + [d1, d2, d3].length + 2 = n + 5 from rfl, e6] at ho; cases ho; cases hd; cases hs; exact h6 w a g
  · intro j s hj hs
    match j, hj with
    | 0, _ => cases hs; exact hq.1.1
    | 1, _ => cases hs; exact hq.1.2.1
    | 2, _ => cases hs; exact hq.1.2.2
  · exact hq.2 w' (gs 0) (gs 1) (gs 2) (by simpa [entF] using hw)
end
end Go.Proofs.Ytgaecjhghpkcoaa
end

section
namespace Go.Proofs.Ytgaecjhghpkcoaa
open Go.RowKit

section
variable {P : Program} {w : World}
theorem run_part_rows (e : TypeId) (N m : Nat) (f : Nat → UInt8) (o : Nat) (ha : (isAgg e).run P w = .ok true w) (hs : (sizeOf e).run P w = .ok m w) (h : o + m ≤ N) : (part e (blk N f) o).run P w = .ok (.agg (blk m fun j => f (o + j))) w := by
  have hc := cut_blk N f o (o + m) h
  unfold cut at hc
  rw [show o + m - o = m by omega] at hc
  simp [part, Sem.run_bind, ha, hs, hc]
theorem same_rows (n m : Nat) (f g : Nat → UInt8) : same (n * m) f g = true ↔ ∀ i, i < n → same m (fun j => f (i * m + j)) (fun j => g (i * m + j)) = true := by
  rw [same_iff]
  constructor
  · intro h i hi
    rw [same_iff]
    intro j hj
    refine h _ ?_
    have : (i + 1) * m ≤ n * m := Nat.mul_le_mul_right m hi
    rw [Nat.add_mul, Nat.one_mul] at this
    omega
  · intro h k hk
    have hm : 0 < m := by
      rcases Nat.eq_zero_or_pos m with rfl | h
      · simp at hk
      · exact h
    have hi : k / m < n := (Nat.div_lt_iff_lt_mul hm).2 hk
    have h1 := (same_iff _ _ _).1 (h _ hi) (k % m) (Nat.mod_lt _ hm)
    rwa [Nat.mul_comm, Nat.div_add_mod] at h1
theorem run_equalIn_rows (d : Nat) (t e2 : TypeId) (n m : Nat) (f g : Nat → UInt8) (hu : P.underlying t = some (.array n (P.elem t))) (hz : (sizeOf (P.elem t)).run P w = .ok m w) (hag : (isAgg (P.elem t)).run P w = .ok true w)
    (hu2 : P.underlying (P.elem t) = some (.array m e2)) (he2 : P.elem (P.elem t) = e2) (hz2 : (sizeOf e2).run P w = .ok 1 w) (ha : P.underlying e2 = some (.int .u8)) :
    (Op.equalIn (d + 3) t (.agg (blk (n * m) f)) (.agg (blk (n * m) g))).run P w = .ok (same (n * m) f g) w := by
  subst he2
  rw [Op.equalIn]
  simp only [Sem.run_bind, run_underlying hu, Result.andThen_ok, hz]
  rw [run_all_range n (fun i => same m (fun j => f (i * m + j)) (fun j => g (i * m + j))) _ (fun i hi => by
    have hle : i * m + m ≤ n * m := by
      have : (i + 1) * m ≤ n * m := Nat.mul_le_mul_right m hi
      rwa [Nat.add_mul, Nat.one_mul] at this
    simp only [Sem.run_bind, run_part_rows (P.elem t) (n * m) m _ (i * m) hag hz hle, Result.andThen_ok, run_equalIn_blk d (P.elem t) m _ _ w hu2 hz2 ha]
    cases same m (fun j => f (i * m + j)) (fun j => g (i * m + j)) <;> simp)]
  by_cases h : ∀ i, i < n → same m (fun j => f (i * m + j)) (fun j => g (i * m + j)) = true
  · rw [if_pos h, (same_rows n m f g).2 h]; rfl
  · rw [if_neg h]
    have hh : same (n * m) f g = false := by
      cases hs : same (n * m) f g with
      | false => rfl
      | true => exact (h ((same_rows n m f g).1 hs)).elim
    rw [hh]; rfl
theorem eql_quiet2 {o : Oper} {a : Act} {C : World → Prop} {n m : Nat} {f g : Nat → UInt8} {b : Bool} (ty e2 : TypeId) {x y : Operand} {rt : TypeId} (N : Nat) (ho : o.op = .binOp .eql ty x y rt) (hx : a.eval x = .agg (blk N f)) (hy : a.eval y = .agg (blk N g)) (hN : N = n * m)
    (hg : P.eqGuardType P.depth ty = false) (hu : P.underlying ty = some (.array n (P.elem ty))) (hz : (sizeOf (P.elem ty)).run P w = .ok m w) (hag : (isAgg (P.elem ty)).run P w = .ok true w)
    (hu2 : P.underlying (P.elem ty) = some (.array m e2)) (he2 : P.elem (P.elem ty) = e2) (hz2 : (sizeOf e2).run P w = .ok 1 w) (ha : P.underlying e2 = some (.int .u8)) (hs : same N f g = b) : o.quietAt P a C w (.bool b) := by
  subst hN
  unfold Oper.quietAt execOp
  simp only [ho, hx, hy]
  have h1 : (eqGuard .eql ty x y (.agg (blk (n * m) f)) (.agg (blk (n * m) g))).run P w = .ok () w := run_eqGuard_agg (hm := hg) ..
  have h2 : (binOp .eql ty (.agg (blk (n * m) f)) (.agg (blk (n * m) g))).run P w = .ok (.bool (same (n * m) f g)) w := by
    rw [run_eql_struct, run_equalIn_rows 9997 ty e2 n m f g hu hz hag hu2 he2 hz2 ha]; rfl
  simp only [Sem.run_bind, h1, Result.andThen_ok, h2, Sem.run_pure, hs]
  exact ⟨rfl, rfl⟩
end
end Go.Proofs.Ytgaecjhghpkcoaa
end
