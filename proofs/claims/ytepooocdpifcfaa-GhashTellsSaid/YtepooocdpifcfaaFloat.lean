/- A region that draws its order: a head of reads and of calls that write new memory alone, an allocation that may come up anywhere beside them, a tail in one forced order ('c := f(g(x)).h(y)' with c on the heap). One walk of the head in the order of the text serves every order. -/
import Derived.Test.YtepooocdpifcfaaTail
import Derived.Below
namespace Go.Proofs.Ytepooocdpifcfaa
open Go Go.RowKit

section
variable {P : Program} {ops : Array Oper} {md : Region.Mode} {C : World → Prop}

/-- what is asked of an operation of the head: the value v in the world that it got, or a call that hands back v and writes new memory alone -/
def stepUpon (P : Program) (w : World) (v : Value) : Result Next → Prop
  | .ok (.value u) w' => w' = w ∧ u = v
  | .ok .skip w' => w' = w ∧ v = undef
  | .ok (.enter f args) w' => w' = w ∧ Calls P f args w (fun e w'' => e = .returned v ∧ Below w.heap.size w w'')
  | _ => False
def stepAt (P : Program) (o : Oper) (a : Act) (w : World) (v : Value) : Prop := stepUpon P w v ((execOp a.eval o).run P w)
def bOp (P : Program) (ops : Array Oper) (C : World → Prop) (i : Nat) (K : Act → Prop) (a : Act) : Prop :=
  match ops[i]? with
  | none => K a
  | some o => ∃ v, (∀ w, C w → stepAt P o a w v) ∧ K (a.put o.dst v)
theorem bOp_mono {i : Nat} {K K' : Act → Prop} {a : Act} (h : ∀ a, K a → K' a) (hh : bOp P ops C i K a) : bOp P ops C i K' a := by
  unfold bOp at *
  split
  · exact h _ (by simpa [*] using hh)
  · rename_i o ho
    simp only [ho] at hh
    obtain ⟨v, h1, h2⟩ := hh
    exact ⟨v, h1, h _ h2⟩
/-- the walk in the order of the text -/
def walkB (P : Program) (C : World → Prop) (Q : Act → Prop) : List Oper → Act → Prop
  | [], a => Q a
  | o :: rest, a => ∃ v, (∀ w, C w → stepAt P o a w v) ∧ walkB P C Q rest (a.put o.dst v)
theorem walkB_step {o : Oper} {rest : List Oper} {Q : Act → Prop} {a : Act} {v : Value} (h : ∀ w, C w → stepAt P o a w v) (hn : walkB P C Q rest (a.put o.dst v)) : walkB P C Q (o :: rest) a := ⟨v, h, hn⟩
theorem walkB_nil {Q : Act → Prop} {a : Act} (h : Q a) : walkB P C Q [] a := h
def wpAnyB (P : Program) (md : Region.Mode) (ops : Array Oper) (C : World → Prop) (Q : Act → Prop) : Nat → Array Bool → Act → Prop
  | 0, listed, a => Region.ready md ops listed = [] ∧ Q a
  | f + 1, listed, a => (Region.ready md ops listed = [] → Q a) ∧ ∀ i ∈ Region.ready md ops listed, bOp P ops C i (wpAnyB P md ops C Q f (listed.setIfInBounds i true)) a

theorem bOp_put {j : Nat} {oi oj : Oper} {v : Value} (hj : ops[j]? = some oj) (hap : oi.apart ops oj = true)
    (hsi : ∀ cs b, oi.op ≠ .select cs b) (hsj : ∀ cs b, oj.op ≠ .select cs b) {K : Act → Prop} {a : Act}
    (hy : ∀ w, C w → stepAt P oi a w v) (h : bOp P ops C j K (a.put oi.dst v)) : bOp P ops C j (fun a' => (∀ w, C w → stepAt P oi a' w v) ∧ K (a'.put oi.dst v)) a := by
  obtain ⟨h1, h2, h3⟩ := Oper.apart_spec hap
  unfold bOp at *
  simp only [hj] at *
  obtain ⟨u, hu, hn⟩ := h
  refine ⟨u, fun w hw => ?_, fun w hw => ?_, by rw [← Act.put_comm a v u h2]; exact hn⟩
  · have := hu w hw
    unfold stepAt at *
    rwa [execOp_put oj hsj a oi.dst v h1] at this
  · have := hy w hw
    unfold stepAt at *
    rwa [execOp_put oi hsi a oj.dst u h3]

/-- an operation that may come up now may come up first -/
theorem wpAnyB_first {Q : Act → Prop} {i : Nat} {oi : Oper} {v : Value} (hi : ops[i]? = some oi) (hsel : ∀ (j : Nat) (o : Oper) cs b, ops[j]? = some o → o.op ≠ .select cs b) :
    ∀ (f : Nat) (listed : Array Bool) (a : Act),
      (∀ j oj, ops[j]? = some oj → j ≠ i → listed.getD j true = false → (∀ e ∈ oj.after, Region.binds md e = true → e.on ≠ i) → oi.apart ops oj = true) →
      i ∈ Region.ready md ops listed → (∀ w, C w → stepAt P oi a w v) → wpAnyB P md ops C Q f (listed.setIfInBounds i true) (a.put oi.dst v) → wpAnyB P md ops C Q (f + 1) listed a := by
  intro f
  induction f with
  | zero =>
    intro listed a _ hr hy H
    refine ⟨fun h => (by rw [h] at hr; cases hr), fun j hj => ?_⟩
    by_cases hji : j = i
    · subst hji; unfold bOp; simp only [hi]; exact ⟨v, hy, H⟩
    · have h1 := ready_mono hj hji
      rw [H.1] at h1; cases h1
  | succ f ih =>
    intro listed a hfree hr hy H
    refine ⟨fun h => (by rw [h] at hr; cases hr), fun j hj => ?_⟩
    by_cases hji : j = i
    · subst hji; unfold bOp; simp only [hi]; exact ⟨v, hy, H⟩
    · have h1 := H.2 j (ready_mono hj hji)
      obtain ⟨hjun, oj, hoj, hall⟩ := mem_ready.1 hj
      have hnot : ∀ e ∈ oj.after, Region.binds md e = true → e.on ≠ i := fun e he hb heq => by
        have h2 := hall e he hb
        rw [heq, getD_both (mem_ready.1 hr).1] at h2; cases h2
      have h2 := bOp_put hoj (hfree j oj hoj hji hjun hnot) (fun cs b => hsel i oi cs b hi) (fun cs b => hsel j oj cs b hoj) hy h1
      refine bOp_mono (fun a' h3 => ih (listed.setIfInBounds j true) a' (fun k ok hk hki hun hno => hfree k ok hk hki ?_ hno) (ready_mono hr (Ne.symm hji)) h3.1 ?_) h2
      · by_cases hjk : j = k
        · subst hjk; exact hjun
        · rwa [getD_set_ne true hjk] at hun
      · rw [Array.setIfInBounds_comm _ _ hji]; exact h3.2
theorem wpAnyB_lex {Q : Act → Prop} (hs : Region.noSelect ops = true) : ∀ (l : List Oper) (k : Nat) (listed : Array Bool) (a : Act), (∀ j, l[j]? = ops[k + j]?) →
    Region.lexFrom md ops l.length k listed = true → walkB P C Q l a → wpAnyB P md ops C Q l.length listed a
  | [], _, _, _, _, hB, h => ⟨by simpa [Region.lexFrom] using hB, h⟩
  | o :: l, k, listed, a, hl, hB, h => by
    have h0 : ops[k]? = some o := by simpa using (hl 0).symm
    simp only [List.length_cons, Region.lexFrom, Bool.and_eq_true] at hB
    obtain ⟨⟨hr, hf⟩, hB'⟩ := hB
    obtain ⟨v, hy, hK⟩ := h
    exact wpAnyB_first h0 (Region.noSelect_spec hs) l.length listed a (Region.free_spec h0 hf) (by simpa using hr) hy
      (wpAnyB_lex hs l (k + 1) _ _ (fun j => by have := hl (j + 1); simpa [Nat.add_assoc, Nat.add_comm 1 j] using this) hB' hK)

theorem wp_of_step {o : Oper} {a : Act} {w : World} {v : Value} {K' : Act → World → Prop} {Q' : Exit → Act → World → Prop} (h : stepAt P o a w v) (hk : ∀ w', Below w.heap.size w w' → K' (a.put o.dst v) w') : o.wp P a w K' Q' := by
  unfold stepAt at h
  unfold Oper.wp
  generalize (execOp a.eval o).run P w = r at *
  cases r with
  | ok n w' =>
    cases n <;> simp only [stepUpon] at h <;> simp only [Oper.upon]
    case value u => obtain ⟨rfl, rfl⟩ := h; exact hk _ (Below.refl _ _)
    case skip => obtain ⟨rfl, rfl⟩ := h; exact hk _ (Below.refl _ _)
    case enter f args =>
      obtain ⟨rfl, hc⟩ := h
      exact hc.mono fun e w'' ⟨he, hw''⟩ => by subst he; exact hk _ hw''
  | halt x w' => simp only [stepUpon] at h

/-- the head is plain, keeps off slot d; operation n waits for nothing; the tail is forced -/
def floatB (l : List Oper) (n : Nat) (d : Tmp) : Bool :=
  decide (n + 1 < l.length) && plainB l n && (List.range n).all (fun i => match l[i]? with | some o => o.dst != some d && !(o.looksAt l.toArray).contains d | none => false) &&
    (match l[n]? with | some o => o.guard.isNone && o.after.isEmpty && o.dst == some d | none => false) && Region.noSelect l.toArray && Region.lexB .any (l.take n).toArray && Region.sinkB .any l.toArray (n + 1) && Region.chainB .any l.toArray (n + 1) &&
    Region.seqB .any l.toArray (l.length - (n + 1)) (n + 1) ((List.replicate (n + 1) true ++ List.replicate (l.length - (n + 1)) false).toArray)

/-- where the allocation has left its block -/
def Gone (C : World → Prop) (Z : Obj) (g : Nat) (w : World) : Prop := ∃ w1, C w1 ∧ g = w1.heap.size ∧ Below (w1.alloc Z).heap.size (w1.alloc Z) w
def ptrTo (g : Nat) : Value := .pointer (some ⟨g, 0, none⟩)

theorem simF {l : List Oper} {n : Nat} {d : Tmp} {Z : Obj} {on : Oper} (hB : floatB l n d = true) (hon : l[n]? = some on)
    (hal : ∀ (w : World) (a : Act), (execOp a.eval on).run P w = .ok (.value (ptrTo w.heap.size)) (w.alloc Z)) (hst : ∀ a c, C a → Below a.heap.size a c → C c)
    {Q : Act → Prop} {Q' : Exit → Act → World → Prop} (hQ : ∀ a w g, C w → Gone C Z g w → Q a → wpList P l.toArray Q' (l.drop (n + 1)) (a.put (some d) (ptrTo g)) w) :
    ∀ (f : Nat) (part listed : Array Bool) (a : Act) (w : World), C w → part.size = n → (∀ i, i < n → listed[i]? = part[i]?) → HeadInv .any l.toArray (n + 1) listed →
      wpAnyB P .any (l.take n).toArray C Q f part a →
      (listed.getD n true = false → wpAny P .any l.toArray Q' ((l.length - (n + 1)) + (f + 1)) listed a w) ∧
      (∀ g, listed.getD n false = true → Gone C Z g w → wpAny P .any l.toArray Q' ((l.length - (n + 1)) + f) listed (a.put (some d) (ptrTo g)) w) := by
  simp only [floatB, Bool.and_eq_true, decide_eq_true_eq] at hB
  obtain ⟨⟨⟨⟨⟨⟨⟨⟨hn, hp⟩, hd⟩, ho⟩, hsel⟩, _⟩, hs⟩, hc⟩, hq⟩ := hB
  simp only [hon, Bool.and_eq_true, Option.isNone_iff_eq_none, Array.isEmpty_iff, beq_iff_eq] at ho
  obtain ⟨⟨hog, hoa⟩, hod⟩ := ho
  have hons : l.toArray[n]? = some on := by simp [hon]
  have hsz : n + 1 < l.toArray.size := by simpa using hn
  have hhead : ∀ i, i < n → ∃ o, l[i]? = some o ∧ o.guard = none ∧ (∀ e ∈ o.after, Region.binds .any e = true → e.on < i) ∧ o.dst ≠ some d ∧ d ∉ o.looksAt l.toArray := fun i hi => by
    obtain ⟨o, h1, h2, h3⟩ := plainB_at hp hi
    have h4 := List.all_eq_true.1 hd i (List.mem_range.2 hi)
    simp only [h1, Bool.and_eq_true, bne_iff_ne, Bool.not_eq_true', ← Bool.not_eq_true, List.contains_iff_mem] at h4
    exact ⟨o, h1, h2, h3, h4.1, h4.2⟩
  have hgone : ∀ {g : Nat} {w w' : World}, Gone C Z g w → Below w.heap.size w w' → Gone C Z g w' := fun ⟨w1, h1, h2, h3⟩ hb => ⟨w1, h1, h2, h3.trans (hb.mono h3.size)⟩
  have hloc : ∀ w : World, Below w.heap.size w (w.alloc Z) := fun w => (Below.refl _ _).alloc (Nat.le_refl _) _
  -- operation n
  have opn : ∀ (f : Nat) (listed : Array Bool) (a : Act) (w : World), C w → wpAny P .any l.toArray Q' f (listed.setIfInBounds n true) (a.put (some d) (ptrTo w.heap.size)) (w.alloc Z) → wpOp P l.toArray Q' n (wpAny P .any l.toArray Q' f (listed.setIfInBounds n true)) a w := fun f listed a w hw h => by
    unfold wpOp
    simp only [hons, Region.wanted, hog, if_true]
    refine .inl ?_
    unfold Oper.wp
    rw [hal w a]
    simp only [Oper.upon, hod]
    exact h
  have fin1 : ∀ (f : Nat) (part listed : Array Bool) (a : Act) (w : World) (g : Nat), C w → Gone C Z g w → part.size = n → (∀ i, i < n → listed[i]? = part[i]?) → HeadInv .any l.toArray (n + 1) listed →
      Region.ready .any (l.take n).toArray part = [] → Q a → listed.getD n false = true → wpAny P .any l.toArray Q' ((l.length - (n + 1)) + f) listed (a.put (some d) (ptrTo g)) w := by
    intro f part listed a w g hw hg hz hl inv h0 h1 hln
    have hall := all_listed hp hz h0
    have he : listed = (List.replicate (n + 1) true ++ List.replicate (l.length - (n + 1)) false).toArray := by
      have hsz := inv.size
      simp only [List.size_toArray] at hsz
      refine Array.ext (by simp [hsz]; omega) fun i hi _ => ?_
      by_cases hin : i < n + 1
      · have h2 : listed.getD i false = true := by
          by_cases hi2 : i < n
          · have h2 := hall i hi2
            rwa [← getD_lt hl hi2 false] at h2
          · obtain rfl : i = n := by omega
            exact hln
        simp only [Array.getD_eq_getD_getElem?, Array.getElem?_eq_getElem hi, Option.getD_some] at h2
        simp only [h2, List.getElem_toArray]
        rw [List.getElem_append_left (by simp; omega)]
        simp
      · have h2 := inv.tail i (by omega) (by simp only [List.size_toArray]; omega)
        simp only [Array.getD_eq_getD_getElem?, Array.getElem?_eq_getElem hi, Option.getD_some] at h2
        rw [h2, List.getElem_toArray, List.getElem_append_right (by simp; omega)]
        simp
    have hdl : (l.drop (n + 1)).length = l.length - (n + 1) := by simp
    rw [← hdl]
    refine any_tail f (l.drop (n + 1)) (n + 1) listed _ w (fun j => by simp [List.getElem?_drop]) ?_ (hQ _ _ _ hw hg h1)
    rw [hdl, he]; exact hq
  -- what the head's own region says of what may come up
  have hr : ∀ (part listed : Array Bool), (∀ i, i < n → listed[i]? = part[i]?) → ∀ i, i < n → (i ∈ Region.ready .any l.toArray listed ↔ i ∈ Region.ready .any (l.take n).toArray part) := fun part listed hl i hi => by
    obtain ⟨o, ho, _, he, _⟩ := hhead i hi
    rw [mem_ready, mem_ready, getD_lt hl hi true]
    have e1 : l.toArray[i]? = some o := by simp [ho]
    have e2 : (l.take n).toArray[i]? = some o := by simp [hi, ho]
    simp only [e1, e2, Option.some.injEq, exists_eq_left']
    constructor
    · rintro ⟨x, y⟩; exact ⟨x, fun e hm hb => by rw [← getD_lt hl (by have := he e hm hb; omega) false]; exact y e hm hb⟩
    · rintro ⟨x, y⟩; exact ⟨x, fun e hm hb => by rw [getD_lt hl (by have := he e hm hb; omega) false]; exact y e hm hb⟩
  have hset : ∀ (part listed : Array Bool), part.size = n → HeadInv .any l.toArray (n + 1) listed → (∀ i, i < n → listed[i]? = part[i]?) → ∀ i, i < n → ∀ j, j < n → (listed.setIfInBounds i true)[j]? = (part.setIfInBounds i true)[j]? := fun part listed hz inv hl i hi j hj => by
    have hsz := inv.size
    simp only [List.size_toArray] at hsz
    by_cases hij : i = j
    · subst hij
      rw [Array.getElem?_setIfInBounds_self_of_lt (by omega), Array.getElem?_setIfInBounds_self_of_lt (by omega)]
    · rw [Array.getElem?_setIfInBounds_ne hij, Array.getElem?_setIfInBounds_ne hij]; exact hl j hj
  have hsetn : ∀ (part listed : Array Bool), (∀ i, i < n → listed[i]? = part[i]?) → ∀ j, j < n → (listed.setIfInBounds n true)[j]? = part[j]? := fun part listed hl j hj => by
    rw [Array.getElem?_setIfInBounds_ne (by omega)]; exact hl j hj
  have hnr : ∀ listed : Array Bool, listed.getD n true = false → n ∈ Region.ready .any l.toArray listed := fun listed h => mem_ready.2 ⟨h, on, hons, fun e he => by rw [hoa] at he; simp at he⟩
  have hnset : ∀ listed : Array Bool, HeadInv .any l.toArray (n + 1) listed → (listed.setIfInBounds n true).getD n false = true := fun listed inv => by
    have hsz := inv.size
    simp only [List.size_toArray] at hsz
    simp; omega
  -- one operation of the head
  have step : ∀ (i : Nat), i < n → ∀ (part : Array Bool) (f : Nat) (a : Act), i ∈ Region.ready .any (l.take n).toArray part → wpAnyB P .any (l.take n).toArray C Q (f + 1) part a →
      ∃ o v, l[i]? = some o ∧ o.guard = none ∧ o.dst ≠ some d ∧ d ∉ o.looksAt l.toArray ∧ (∀ w, C w → stepAt P o a w v) ∧ wpAnyB P .any (l.take n).toArray C Q f (part.setIfInBounds i true) (a.put o.dst v) := fun i hi part f a hir h => by
    obtain ⟨o, ho, hg, _, h1, h2⟩ := hhead i hi
    have h3 := h.2 i hir
    unfold bOp at h3
    have e2 : (l.take n).toArray[i]? = some o := by simp [hi, ho]
    simp only [e2] at h3
    obtain ⟨v, h4, h5⟩ := h3
    exact ⟨o, v, ho, hg, h1, h2, h4, h5⟩
  have main : ∀ (f : Nat), (∀ (part listed : Array Bool) (a : Act) (w : World) (g : Nat), C w → Gone C Z g w → part.size = n → (∀ i, i < n → listed[i]? = part[i]?) → HeadInv .any l.toArray (n + 1) listed →
      wpAnyB P .any (l.take n).toArray C Q f part a → listed.getD n false = true → wpAny P .any l.toArray Q' ((l.length - (n + 1)) + f) listed (a.put (some d) (ptrTo g)) w) := by
    intro f
    induction f with
    | zero => intro part listed a w g hw hg hz hl inv h hln; exact fin1 0 part listed a w g hw hg hz hl inv h.1 h.2 hln
    | succ f ih =>
      intro part listed a w g hw hg hz hl inv h hln
      by_cases h0 : Region.ready .any (l.take n).toArray part = []
      · exact fin1 (f + 1) part listed a w g hw hg hz hl inv h0 (h.1 h0) hln
      · obtain ⟨i0, hi0⟩ := List.exists_mem_of_ne_nil _ h0
        have hi0n : i0 < n := by
          obtain ⟨_, o, ho, _⟩ := mem_ready.1 hi0
          have := (Array.getElem?_eq_some_iff.1 ho).1
          simp only [List.size_toArray, List.length_take] at this
          omega
        have hi0' := (hr part listed hl i0 hi0n).2 hi0
        rw [show (l.length - (n + 1)) + (f + 1) = ((l.length - (n + 1)) + f) + 1 by omega]
        refine ⟨fun h1 => (by rw [h1] at hi0'; cases hi0'), fun i hi => ?_⟩
        have hin : i < n := by
          rcases Nat.lt_or_ge i n with h1 | h1
          · exact h1
          · rcases Nat.lt_or_ge i (n + 1) with h2 | h2
            · obtain rfl : i = n := by omega
              have h3 := getD_both (mem_ready.1 hi).1
              rw [hln] at h3; cases h3
            · exact absurd hi (tail_waits hs hc hsz inv _ i0 rfl (by omega) (mem_ready.1 hi0').1 i h2)
        obtain ⟨o, v, ho, hg1, h1, h2, h4, h5⟩ := step i hin part f a ((hr part listed hl i hin).1 hi) h
        have e1 : l.toArray[i]? = some o := by simp [ho]
        have hat : stepAt P o (a.put (some d) (ptrTo g)) w v := by
          have h6 := h4 w hw
          unfold stepAt at *
          rwa [execOp_put (ops := l.toArray) o (Region.noSelect_spec hsel i o · · e1) a (some d) (ptrTo g) (fun d' hd' => by obtain rfl := Option.some.inj hd'; exact h2)]
        unfold wpOp
        simp only [e1, Region.wanted, hg1, if_true]
        refine .inl (wp_of_step hat fun w' hb => ?_)
        rw [Act.put_comm a (x := some d) (y := o.dst) (ptrTo g) v (fun d' hd' => by obtain rfl := Option.some.inj hd'; exact h1)]
        refine ih _ _ _ w' g (hst _ _ hw hb) (hgone hg hb) (by simpa using hz) (hset part listed hz inv hl i hin) (inv.set hi (by omega)) h5 ?_
        rw [getD_set_ne false (by omega)]; exact hln
  intro f
  induction f with
  | zero =>
    intro part listed a w hw hz hl inv h
    refine ⟨fun hln => ?_, fun g hln hg => main 0 part listed a w g hw hg hz hl inv h hln⟩
    refine ⟨fun h1 => (by have := hnr listed hln; rw [h1] at this; cases this), fun i hi => ?_⟩
    have hall := all_listed hp hz h.1
    have hin : i = n := by
      rcases Nat.lt_or_ge i n with h1 | h1
      · have h2 := (hr part listed hl i h1).1 hi
        rw [h.1] at h2; cases h2
      · rcases Nat.lt_or_ge i (n + 1) with h2 | h2
        · omega
        · exact absurd hi (tail_waits hs hc hsz inv _ n rfl (by omega) hln i h2)
    subst hin
    exact opn _ listed a w hw (main 0 part _ a _ _ (hst _ _ hw (hloc w)) ⟨w, hw, rfl, Below.refl _ _⟩ hz (hsetn part listed hl) (inv.set hi (by omega)) h (hnset listed inv))
  | succ f ih =>
    intro part listed a w hw hz hl inv h
    refine ⟨fun hln => ?_, fun g hln hg => main (f + 1) part listed a w g hw hg hz hl inv h hln⟩
    rw [show (l.length - (n + 1)) + (f + 1 + 1) = ((l.length - (n + 1)) + (f + 1)) + 1 by omega]
    refine ⟨fun h1 => (by have := hnr listed hln; rw [h1] at this; cases this), fun i hi => ?_⟩
    rcases Nat.lt_or_ge i n with hin | h1
    · obtain ⟨o, v, ho, hg1, h1, h2, h4, h5⟩ := step i hin part f a ((hr part listed hl i hin).1 hi) h
      have e1 : l.toArray[i]? = some o := by simp [ho]
      unfold wpOp
      simp only [e1, Region.wanted, hg1, if_true]
      refine .inl (wp_of_step (h4 w hw) fun w' hb => ?_)
      refine (ih _ _ _ w' (hst _ _ hw hb) (by simpa using hz) (hset part listed hz inv hl i hin) (inv.set hi (by omega)) h5).1 ?_
      rw [getD_set_ne true (by omega)]; exact hln
    · rcases Nat.lt_or_ge i (n + 1) with h2 | h2
      · obtain rfl : i = n := by omega
        exact opn _ listed a w hw (main (f + 1) part _ a _ _ (hst _ _ hw (hloc w)) ⟨w, hw, rfl, Below.refl _ _⟩ hz (hsetn part listed hl) (inv.set hi (by omega)) h (hnset listed inv))
      · exact absurd hi (tail_waits hs hc hsz inv _ n rfl (by omega) hln i h2)

/-- **A region whose head writes new memory alone, an allocation that comes up anywhere, a tail in one forced order behind both.** -/
theorem wp_region_float (n : Nat) (d : Tmp) (Z : Obj) {id : Nat} {Q : Exit → Act → World → Prop} {a : Act} {w : World} {l : List Oper} (on : Oper) (hm : P.follows .mixedOrders = true) (hB : floatB l n d = true) (hon : l[n]? = some on)
    (hal : ∀ (w : World) (a : Act), (execOp a.eval on).run P w = .ok (.value (ptrTo w.heap.size)) (w.alloc Z)) (hst : ∀ a c, C a → Below a.heap.size a c → C c) (hC : C w.drew)
    (h : walkB P C (fun a' => ∀ w' g, C w' → Gone C Z g w' → wpList P l.toArray Q (l.drop (n + 1)) (a'.put (some d) (ptrTo g)) w') (l.take n) a) : (Code.region id l.toArray true).wp P Q a w := by
  have hB' := hB
  simp only [floatB, Bool.and_eq_true, decide_eq_true_eq] at hB'
  obtain ⟨⟨⟨⟨⟨⟨⟨⟨hn, _⟩, _⟩, _⟩, _⟩, hlex⟩, _⟩, _⟩, _⟩ := hB'
  simp only [Region.lexB, Bool.and_eq_true] at hlex
  have htl : (l.take n).length = n := by simp; omega
  have H := wpAnyB_lex (C := C) (md := .any) hlex.1 (l.take n) 0 (Array.replicate (l.take n).toArray.size false) a (by simp) (by simpa using hlex.2) h
  have inv0 : HeadInv .any l.toArray (n + 1) (Array.replicate l.toArray.size false) :=
    ⟨by simp, fun j oj _ hl => (by rw [getD_replicate_false] at hl; cases hl), fun t _ ht => getD_in (by simpa using ht) (getD_replicate_false _ _)⟩
  refine wp_region_any hm ?_
  have := (simF (C := C) hB hon hal hst (Q' := Q) (fun a w g hw hg hq => hq w g hw hg) _ _ (Array.replicate l.toArray.size false) a _ hC (by simp; omega) (fun i hi => by rw [Array.getElem?_replicate, Array.getElem?_replicate, if_pos (by simp; omega), if_pos (by simp; omega)]) inv0 H).1 (getD_in (by simp; omega) (getD_replicate_false _ _))
  rw [htl, show l.length - (n + 1) + (n + 1) = l.toArray.size by simp; omega] at this
  exact this
end
end Go.Proofs.Ytepooocdpifcfaa
