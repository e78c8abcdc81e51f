/- A region that draws its order: a head of reads and of calls that write new memory alone, some new variables and what is stored into each ('x, y := f(a), g(b)' with x and y on the heap): allocations and stores may come up anywhere. One walk of the head in the order of the text serves every order. -/
import Derived.Test.YtepooocdpifcfaaFloats
namespace Go.Proofs.Ytepooocdpifcfaa
open Go Go.RowKit

/-- what the blocks hold: what is stored, where it is stored already -/
def conF (Z F : Nat → Array Value) (T : Nat → Option Nat) : Nat → Array Value := fun j => if (T j).isSome then F j else Z j

theorem entF_congr {c d : Nat → Array Value} (G : Nat → Option Nat) : ∀ {k : Nat}, (∀ j, j < k → c j = d j) → entF c G k = entF d G k
  | 0, _ => rfl
  | k + 1, h => by simp only [entF, entF_congr G (k := k) (fun j hj => h j (by omega)), h k (by omega)]
theorem entF_mem {c : Nat → Array Value} {G : Nat → Option Nat} {j g : Nat} (hg : G j = some g) : ∀ {k : Nat}, j < k → (g, c j) ∈ entF c G k
  | 0, h => by omega
  | k + 1, h => by
    by_cases h1 : j = k
    · subst h1; simp [entF, hg]
    · have := entF_mem (c := c) hg (k := k) (by omega)
      simp only [entF]
      split <;> simp [this]
theorem setL_entF {Z F : Nat → Array Value} {G T : Nat → Option Nat} {j g : Nat} (hg : G j = some g) (x : Nat) (L : List (Nat × Array Value)) : ∀ {k : Nat}, j < k → (((entF (conF Z F T) G k ++ L).map Prod.fst).Nodup) →
    setL g (F j) (entF (conF Z F T) G k ++ L) = entF (conF Z F (setF T j x)) G k ++ L
  | 0, h, _ => by omega
  | k + 1, h, hn => by
    have hoth : ∀ i, i ≠ j → conF Z F T i = conF Z F (setF T j x) i := fun i hi => by unfold conF setF; rw [if_neg hi]
    by_cases h1 : j = k
    · subst h1
      have e1 : entF (conF Z F T) G j = entF (conF Z F (setF T j x)) G j := entF_congr G fun i hi => hoth i (by omega)
      have e2 : conF Z F (setF T j x) j = F j := by unfold conF setF; simp
      simp only [entF, hg, List.cons_append, setL, if_true, e1, e2]
    · cases hk : G k with
      | none =>
        simp only [entF, hk] at hn ⊢
        exact setL_entF hg x L (by omega) hn
      | some y =>
        simp only [entF, hk, List.cons_append, List.map_cons, List.nodup_cons] at hn ⊢
        have hne : y ≠ g := fun e => hn.1 (by
          rw [e]
          exact List.mem_map.2 ⟨(g, conF Z F T j), List.mem_append_left _ (entF_mem hg (by omega)), rfl⟩)
        simp only [setL, hne, if_false]
        rw [setL_entF hg x L (by omega) hn.2, hoth k (by omega)]

/-- the head is plain and keeps off the new variables' slots, of which each is allocated and stored once, behind the operation that reckons what is stored -/
def storesB (l : List Oper) (n : Nat) (Ds Ss : List Tmp) : Bool :=
  decide (n + Ds.length + Ds.length = l.length) && decide (Ss.length = Ds.length) && plainB l l.length && (List.range n).all (fun i => match l[i]? with | some o => Ds.all (fun d => o.dst != some d && !(o.looksAt l.toArray).contains d) | none => false) &&
    decide Ds.Nodup && (List.range Ds.length).all (fun j => match l[n + j]? with | some o => o.guard.isNone && o.after.isEmpty && o.dst == Ds[j]? | none => false) &&
    (List.range Ds.length).all (fun j => match l[n + Ds.length + j]?, Ss[j]? with
      | some o, some s => o.guard.isNone && o.dst.isNone && o.after.any (fun e => Region.binds .any e && e.on == n + j) && !Ds.contains s &&
          o.after.any (fun e => Region.binds .any e && decide (e.on < n) && (List.range n).all fun i => i == e.on || (match l[i]? with | some o' => o'.dst != some s | none => false))
      | _, _ => false) &&
    Region.noSelect l.toArray && Region.lexB .any (l.take n).toArray

section
variable {P : Program} {w0 : World} {L : List (Nat × Array Value)}

theorem eval_put_ne (a : Act) {x : Option Tmp} {s : Tmp} (v : Value) (h : x ≠ some s) : (a.put x v).eval (.tmp s) = a.eval (.tmp s) := by
  cases x with
  | none => rfl
  | some d =>
    have hd : d ≠ s := fun e => h (by rw [e])
    simp [Act.eval, Act.put, Array.getD_eq_getD_getElem?, Array.getElem?_setIfInBounds_ne hd]
theorem eval_putF (Ds : List Tmp) (G : Nat → Option Nat) (a : Act) {s : Tmp} (h : s ∉ Ds) : ∀ {k : Nat}, (putF Ds G k a).eval (.tmp s) = a.eval (.tmp s)
  | 0 => rfl
  | k + 1 => by
    simp only [putF]
    cases G k with
    | none => exact eval_putF Ds G a h
    | some g =>
      show ((putF Ds G k a).put Ds[k]? (ptrTo g)).eval (.tmp s) = _
      rw [eval_put_ne _ _ (fun e => h (List.mem_of_getElem? e))]
      exact eval_putF Ds G a h
theorem eval_putF_at (Ds : List Tmp) (hn : Ds.Nodup) {G : Nat → Option Nat} (a : Act) (hin : ∀ d ∈ Ds, d < a.tmps.size) {j g : Nat} {d : Tmp} (hd : Ds[j]? = some d) (hg : G j = some g) : ∀ {k : Nat}, j < k → k ≤ Ds.length → (putF Ds G k a).eval (.tmp d) = ptrTo g
  | 0, h, _ => by omega
  | k + 1, h, hk => by
    have hsz : ∀ m, (putF Ds G m a).tmps.size = a.tmps.size := fun m => by
      induction m with
      | zero => rfl
      | succ m ih =>
        simp only [putF]
        cases G m with
        | none => exact ih
        | some x => cases Ds[m]? <;> simp [Act.put, ih]
    by_cases h1 : j = k
    · subst h1
      simp only [putF, hg]
      show ((putF Ds G j a).put Ds[j]? (ptrTo g)).eval (.tmp d) = _
      rw [hd]
      have h2 := hin d (List.mem_of_getElem? hd)
      rw [← hsz j] at h2
      simp [Act.eval, Act.put, Array.getD_eq_getD_getElem?, h2]
    · have ih := eval_putF_at Ds hn a hin hd hg (k := k) (by omega) (by omega)
      simp only [putF]
      cases G k with
      | none => exact ih
      | some x =>
        show ((putF Ds G k a).put Ds[k]? (ptrTo x)).eval (.tmp d) = _
        rw [eval_put_ne _ _ (fun e => h1 ((List.getElem?_inj (i := j) (j := k) (by omega) hn).1 (hd.trans e.symm)))]
        exact ih

/-- what a slot holds that nothing writes any more -/
theorem wpAnyB_slot {ops : Array Oper} {C : World → Prop} {Q : Act → Prop} {s : Tmp} {v : Value} (hQ : ∀ a, Q a → a.eval (.tmp s) = v) : ∀ (f : Nat) (part : Array Bool) (a : Act),
    (∀ i o, ops[i]? = some o → part.getD i true = false → o.dst ≠ some s) → wpAnyB P .any ops C Q f part a → a.eval (.tmp s) = v
  | 0, _, a, _, h => hQ a h.2
  | f + 1, part, a, hd, h => by
    by_cases h0 : Region.ready .any ops part = []
    · exact hQ a (h.1 h0)
    · obtain ⟨i, hi⟩ := List.exists_mem_of_ne_nil _ h0
      have h1 := h.2 i hi
      obtain ⟨hu, o, ho, _⟩ := mem_ready.1 hi
      unfold bOp at h1
      simp only [ho] at h1
      obtain ⟨u, _, h3⟩ := h1
      rw [← eval_put_ne a (x := o.dst) u (hd i o ho hu)]
      refine wpAnyB_slot hQ f _ _ (fun i' o' ho' hu' => hd i' o' ho' ?_) h3
      by_cases hii : i = i'
      · subst hii; exact hu
      · rwa [getD_set_ne true hii] at hu'

theorem simSt {l : List Oper} {n : Nat} {Ds Ss : List Tmp} {Z F : Nat → Array Value} {V : Nat → Value} {ty : Nat → TypeId} (hB : storesB l n Ds Ss = true)
    (hal : ∀ j o, j < Ds.length → l[n + j]? = some o → ∀ (w : World) (a : Act), (execOp a.eval o).run P w = .ok (.value (ptrTo w.heap.size)) (w.alloc (.cells (Z j) (ty j))))
    (hszF : ∀ j, j < Ds.length → (F j).size = (Z j).size)
    (hst : ∀ j o d s, j < Ds.length → l[n + Ds.length + j]? = some o → Ds[j]? = some d → Ss[j]? = some s → ∀ (w : World) (a : Act) (g : Nat), a.eval (.tmp d) = ptrTo g → a.eval (.tmp s) = V j → rowAt w g = Z j → freeRow w g = true → isRow w g = true → (execOp a.eval o).run P w = .ok .skip (w.setRow g (F j)))
    {Q : Act → Prop} {Q' : Exit → Act → World → Prop} (sz : Nat) (hin : ∀ d ∈ Ds, d < sz)
    (hV : ∀ a, Q a → ∀ j s, j < Ds.length → Ss[j]? = some s → a.eval (.tmp s) = V j)
    (hQ : ∀ a w (gs : Nat → Nat), St w0 (entF F (fun j => some (gs j)) Ds.length ++ L) w → Q a → Q' .normal (putF Ds (fun j => some (gs j)) Ds.length a) w) :
    ∀ (N f : Nat) (G T : Nat → Option Nat) (part listed : Array Bool) (a : Act) (w : World), f + undF G Ds.length + undF T Ds.length = N → a.tmps.size = sz → St w0 (entF (conF Z F T) G Ds.length ++ L) w → part.size = n → listed.size = l.length → (∀ i, i < n → listed[i]? = part[i]?) →
      (∀ j, j < Ds.length → listed.getD (n + j) false = (G j).isSome) → (∀ j, j < Ds.length → listed.getD (n + Ds.length + j) false = (T j).isSome) → (∀ j, (T j).isSome = true → (G j).isSome = true) → wpAnyB P .any (l.take n).toArray (St w0 L) Q f part a →
      wpAny P .any l.toArray Q' N listed (putF Ds G Ds.length a) w := by
  simp only [storesB, Bool.and_eq_true, decide_eq_true_eq] at hB
  obtain ⟨⟨⟨⟨⟨⟨⟨⟨hn, hss⟩, hp⟩, hd⟩, hnd⟩, ho⟩, hs0⟩, hsel⟩, _⟩ := hB
  have hpl : ∀ i, i < l.length → ∃ o, l[i]? = some o ∧ o.guard = none ∧ ∀ e ∈ o.after, Region.binds .any e = true → e.on < i := fun i hi => plainB_at hp hi
  have hhead : ∀ i, i < n → ∃ o, l[i]? = some o ∧ o.guard = none ∧ (∀ e ∈ o.after, Region.binds .any e = true → e.on < i) ∧ (∀ d, o.dst = some d → d ∉ Ds) ∧ (∀ d ∈ Ds, d ∉ o.looksAt l.toArray) := fun i hi => by
    obtain ⟨o, h1, h2, h3⟩ := hpl i (by omega)
    have h4 := List.all_eq_true.1 hd i (List.mem_range.2 hi)
    simp only [h1, List.all_eq_true, Bool.and_eq_true, bne_iff_ne, Bool.not_eq_true', ← Bool.not_eq_true, List.contains_iff_mem] at h4
    exact ⟨o, h1, h2, h3, fun d h5 h6 => (h4 d h6).1 h5, fun d h6 => (h4 d h6).2⟩
  have hfl : ∀ j, j < Ds.length → ∃ o, l[n + j]? = some o ∧ o.guard = none ∧ o.after = #[] ∧ o.dst = Ds[j]? := fun j hj => by
    have h4 := List.all_eq_true.1 ho j (List.mem_range.2 hj)
    split at h4
    · rename_i o h5
      simp only [Bool.and_eq_true, Option.isNone_iff_eq_none, Array.isEmpty_iff, beq_iff_eq] at h4
      exact ⟨o, h5, h4.1.1, h4.1.2, h4.2⟩
    · cases h4
  have hsto : ∀ j, j < Ds.length → ∃ o s, l[n + Ds.length + j]? = some o ∧ Ss[j]? = some s ∧ o.guard = none ∧ o.dst = none ∧ s ∉ Ds ∧ (∃ e ∈ o.after, Region.binds .any e = true ∧ e.on = n + j) ∧
      (∃ e ∈ o.after, Region.binds .any e = true ∧ e.on < n ∧ ∀ i, i < n → i ≠ e.on → ∀ o', l[i]? = some o' → o'.dst ≠ some s) := fun j hj => by
    have h4 := List.all_eq_true.1 hs0 j (List.mem_range.2 hj)
    split at h4
    · rename_i o s h5 h6
      simp only [Bool.and_eq_true, Option.isNone_iff_eq_none, Array.any_eq_true', beq_iff_eq, decide_eq_true_eq, List.all_eq_true, List.mem_range, Bool.or_eq_true, Bool.not_eq_true', ← Bool.not_eq_true, List.contains_iff_mem] at h4
      obtain ⟨⟨⟨⟨x1, x2⟩, e1, x3, x4, x5⟩, x6⟩, e2, x7, ⟨x8, x9⟩, x10⟩ := h4
      refine ⟨o, s, h5, h6, x1, x2, x6, ⟨e1, x3, x4, x5⟩, e2, x7, x8, x9, fun i hi hne o' ho' => ?_⟩
      have x11 := (x10 i hi).resolve_left hne
      simp only [ho', bne_iff_ne] at x11
      exact x11
    · cases h4
  have hr : ∀ (part listed : Array Bool), (∀ i, i < n → listed[i]? = part[i]?) → ∀ i, i < n → (i ∈ Region.ready .any l.toArray listed ↔ i ∈ Region.ready .any (l.take n).toArray part) := fun part listed hl i hi => by
    obtain ⟨o, ho, _, he, _⟩ := hhead i hi
    rw [mem_ready, mem_ready, getD_lt hl hi true]
    have e1 : l.toArray[i]? = some o := by simp [ho]
    have e2 : (l.take n).toArray[i]? = some o := by simp [hi, ho]
    simp only [e1, e2, Option.some.injEq, exists_eq_left']
    constructor
    · rintro ⟨x, y⟩; exact ⟨x, fun e hm hb => by rw [← getD_lt hl (by have := he e hm hb; omega) false]; exact y e hm hb⟩
    · rintro ⟨x, y⟩; exact ⟨x, fun e hm hb => by rw [getD_lt hl (by have := he e hm hb; omega) false]; exact y e hm hb⟩
  -- all is done
  have fin : ∀ (f : Nat) (G T : Nat → Option Nat) (part listed : Array Bool) (a : Act) (w : World), St w0 (entF (conF Z F T) G Ds.length ++ L) w → part.size = n → listed.size = l.length → (∀ i, i < n → listed[i]? = part[i]?) →
      (∀ j, j < Ds.length → listed.getD (n + j) false = (G j).isSome) → (∀ j, j < Ds.length → listed.getD (n + Ds.length + j) false = (T j).isSome) → wpAnyB P .any (l.take n).toArray (St w0 L) Q f part a →
      Region.ready .any l.toArray listed = [] → Q' .normal (putF Ds G Ds.length a) w := by
    intro f G T part listed a w hw hz hsz hl hlf hlt h h0
    have hall := all_listed (l := l) (n := l.length) hp hsz (by rw [List.take_length]; exact h0)
    have hpr : Region.ready .any (l.take n).toArray part = [] := by
      apply List.eq_nil_iff_forall_not_mem.2
      intro i hi
      have hin : i < n := by
        obtain ⟨_, o, ho, _⟩ := mem_ready.1 hi
        have := (Array.getElem?_eq_some_iff.1 ho).1
        simp only [List.size_toArray, List.length_take] at this
        omega
      have := (hr part listed hl i hin).2 hi
      rw [h0] at this; cases this
    have hq : Q a := by cases f with | zero => exact h.2 | succ f => exact h.1 hpr
    have hG : ∀ j, j < Ds.length → (G j).isSome = true := fun j hj => by rw [← hlf j hj]; exact hall _ (by omega)
    have hT : ∀ j, j < Ds.length → (T j).isSome = true := fun j hj => by rw [← hlt j hj]; exact hall _ (by omega)
    obtain ⟨gs, hgs⟩ : ∃ gs : Nat → Nat, ∀ j, j < Ds.length → G j = some (gs j) := ⟨fun j => (G j).getD 0, fun j hj => by obtain ⟨g, hg⟩ := Option.isSome_iff_exists.1 (hG j hj); simp [hg]⟩
    have eP : ∀ k, k ≤ Ds.length → putF Ds G k a = putF Ds (fun j => some (gs j)) k a := fun k => by
      induction k with
      | zero => intro _; rfl
      | succ k ih => intro hk; simp only [putF, hgs k (by omega), ih (by omega)]
    have eE : ∀ k, k ≤ Ds.length → entF (conF Z F T) G k = entF F (fun j => some (gs j)) k := fun k => by
      induction k with
      | zero => intro _; rfl
      | succ k ih =>
        intro hk
        have : conF Z F T k = F k := by unfold conF; rw [if_pos (hT k (by omega))]
        simp only [entF, hgs k (by omega), ih (by omega), this]
    rw [eP _ (Nat.le_refl _)]
    exact hQ _ _ gs (by rw [← eE _ (Nat.le_refl _)]; exact hw) hq
  intro N
  induction N with
  | zero =>
    intro f G T part listed a w hN hasz hw hz hsz hl hlf hlt hTG h
    have h0 : Region.ready .any l.toArray listed = [] := by
      obtain rfl : f = 0 := by omega
      have hall := all_listed (l := l) (n := n) (by
        unfold plainB at hp ⊢
        rw [List.all_eq_true] at hp ⊢
        exact fun i hi => hp i (by rw [List.mem_range] at hi ⊢; omega)) hz h.1
      apply List.eq_nil_iff_forall_not_mem.2
      intro i hi
      obtain ⟨hu, o, ho, _⟩ := mem_ready.1 hi
      have hil : i < l.length := by simpa using (Array.getElem?_eq_some_iff.1 ho).1
      have hlist : listed.getD i false = true := by
        by_cases h1 : i < n
        · rw [getD_lt hl h1 false]; exact hall i h1
        · by_cases h2 : i < n + Ds.length
          · obtain ⟨g, hg⟩ := undF_zero (G := G) (k := Ds.length) (by omega) (i - n) (by omega)
            have := hlf (i - n) (by omega)
            rw [show n + (i - n) = i by omega, hg] at this
            exact this
          · obtain ⟨g, hg⟩ := undF_zero (G := T) (k := Ds.length) (by omega) (i - n - Ds.length) (by omega)
            have := hlt (i - n - Ds.length) (by omega)
            rw [show n + Ds.length + (i - n - Ds.length) = i by omega, hg] at this
            exact this
      rw [getD_both hu] at hlist; cases hlist
    exact ⟨h0, fin f G T part listed a w hw hz hsz hl hlf hlt h h0⟩
  | succ N ih =>
    intro f G T part listed a w hN hasz hw hz hsz hl hlf hlt hTG h
    refine ⟨fun h0 => fin f G T part listed a w hw hz hsz hl hlf hlt h h0, fun i hi => ?_⟩
    obtain ⟨hun, oi, hoi, hoe⟩ := mem_ready.1 hi
    have hil : i < l.length := by simpa using (Array.getElem?_eq_some_iff.1 hoi).1
    by_cases hin1 : i < n
    · -- an operation of the head
      have hir := (hr part listed hl i hin1).1 hi
      obtain ⟨f, rfl⟩ : ∃ f', f = f' + 1 := by
        cases f with
        | zero => rw [h.1] at hir; cases hir
        | succ f => exact ⟨f, rfl⟩
      obtain ⟨o, ho1, hg1, _, h1, h2⟩ := hhead i hin1
      have h3 := h.2 i hir
      unfold bOp at h3
      have e2 : (l.take n).toArray[i]? = some o := by simp [hin1, ho1]
      simp only [e2] at h3
      obtain ⟨v, h4, h5⟩ := h3
      have e1 : l.toArray[i]? = some o := by simp [ho1]
      have hw1 : St w0 L w := by
        refine hw.weaken ?_ (fun x hx => by simp [hx])
        have := hw.ne
        simp only [List.map_append, List.nodup_append] at this
        exact this.2.1
      have hat : stepAt P o (putF Ds G Ds.length a) w v := stepAt_putF hsel e1 h2 (h4 w hw1)
      unfold wpOp
      simp only [e1, Region.wanted, hg1, if_true]
      refine .inl (wp_of_step hat fun w' hb => ?_)
      rw [← putF_put Ds G a v h1]
      refine ih f G T _ _ _ w' (by omega) ?_ (hw.call hb) (by simpa using hz) (by simpa using hsz) (fun j hj => ?_) (fun j hj => ?_) (fun j hj => ?_) hTG h5
      · rw [← hasz]; cases o.dst <;> simp [Act.put]
      · by_cases hij : i = j
        · subst hij
          rw [Array.getElem?_setIfInBounds_self_of_lt (by omega), Array.getElem?_setIfInBounds_self_of_lt (by omega)]
        · rw [Array.getElem?_setIfInBounds_ne hij, Array.getElem?_setIfInBounds_ne hij]; exact hl j hj
      · rw [getD_set_ne false (by omega)]; exact hlf j hj
      · rw [getD_set_ne false (by omega)]; exact hlt j hj
    · by_cases hin2 : i < n + Ds.length
      · -- an allocation
        obtain ⟨j, hj, rfl⟩ : ∃ j, j < Ds.length ∧ i = n + j := ⟨i - n, by omega, by omega⟩
        obtain ⟨o, h1, h2, h3, h4⟩ := hfl j hj
        have e1 : l.toArray[n + j]? = some o := by simp [h1]
        have hung : G j = none := by
          have h5 := hlf j hj
          rw [getD_both hun] at h5
          cases hg : G j with
          | none => rfl
          | some g => rw [hg] at h5; cases h5
        have hunt : T j = none := by
          cases ht : T j with
          | none => rfl
          | some x =>
            have h5 := hTG j (by rw [ht]; rfl)
            rw [hung] at h5; cases h5
        unfold wpOp
        simp only [e1, Region.wanted, h2, if_true]
        refine .inl ?_
        unfold Oper.wp
        rw [hal j o hj h1 w _]
        simp only [Oper.upon, h4]
        rw [← putF_set Ds hnd w.heap.size a hung hj (Nat.le_refl _)]
        refine ih f (setF G j w.heap.size) T part _ a _ (by have := undF_set w.heap.size hung hj; omega) hasz ?_ hz (by simpa using hsz) (fun i hi => ?_) (fun i hi => ?_) (fun i hi => ?_) (fun i hi => ?_) h
        · refine (hw.push (Z j) (ty j)).perm ?_
          have e3 := entF_set (conF Z F T) w.heap.size hung hj
          rw [show conF Z F T j = Z j by unfold conF; rw [hunt]; rfl] at e3
          exact e3.append_right L
        · rw [Array.getElem?_setIfInBounds_ne (by omega)]; exact hl i hi
        · by_cases hij : i = j
          · subst hij
            simp only [setF, if_true, Option.isSome_some]
            simp; omega
          · rw [getD_set_ne false (by omega), hlf i hi]
            simp only [setF, if_neg hij]
        · rw [getD_set_ne false (by omega)]; exact hlt i hi
        · unfold setF; split
          · rfl
          · exact hTG i hi
      · -- a store
        obtain ⟨j, hj, rfl⟩ : ∃ j, j < Ds.length ∧ i = n + Ds.length + j := ⟨i - n - Ds.length, by omega, by omega⟩
        obtain ⟨o, s, h1, h2, h3, h4, h5, ⟨e, he1, he2, he3⟩, e', he4, he5, he6, he7⟩ := hsto j hj
        have e1 : l.toArray[n + Ds.length + j]? = some o := by simp [h1]
        obtain rfl : oi = o := Option.some.inj (hoi.symm.trans e1)
        have hgl := hoe e he1 he2
        rw [he3, hlf j hj] at hgl
        obtain ⟨g, hg⟩ := Option.isSome_iff_exists.1 hgl
        have hunt : T j = none := by
          have h6 := hlt j hj
          rw [getD_both hun] at h6
          cases ht : T j with
          | none => rfl
          | some x => rw [ht] at h6; cases h6
        obtain ⟨d, hd1⟩ : ∃ d, Ds[j]? = some d := ⟨Ds[j], by simp [hj]⟩
        have hpt := eval_putF_at Ds hnd a (fun d hd => by rw [hasz]; exact hin d hd) hd1 hg hj (Nat.le_refl _)
        have hval : a.eval (.tmp s) = V j := by
          refine wpAnyB_slot (fun a hq => hV a hq j s hj h2) f part a (fun i o' ho' hu' => ?_) h
          have hin3 : i < n := by
            have := (Array.getElem?_eq_some_iff.1 ho').1
            simp only [List.size_toArray, List.length_take] at this
            omega
          refine he7 i hin3 (fun hie => ?_) o' (by simpa [hin3] using ho')
          have h8 := hoe e' he4 he5
          rw [← hie, getD_lt hl hin3 false, getD_both hu'] at h8
          cases h8
        have hat := hw.at (List.mem_append_left L (entF_mem (c := conF Z F T) hg hj))
        rw [show conF Z F T j = Z j by unfold conF; rw [hunt]; rfl] at hat
        unfold wpOp
        simp only [e1, Region.wanted, h3, if_true]
        refine .inl ?_
        unfold Oper.wp
        rw [hst j oi d s hj h1 hd1 h2 w _ g hpt (by rw [eval_putF Ds G a h5]; exact hval) hat.1 hat.2.1 hat.2.2.1]
        simp only [Oper.upon, h4, Act.put]
        refine ih f G (setF T j 0) part _ a _ (by have := undF_set 0 hunt hj; omega) hasz ?_ hz (by simpa using hsz) (fun i hi => ?_) (fun i hi => ?_) (fun i hi => ?_) (fun i hi => ?_) h
        · rw [← setL_entF hg 0 L hj hw.ne]
          exact hw.set g (F j) (List.mem_map.2 ⟨_, List.mem_append_left L (entF_mem (c := conF Z F T) hg hj), rfl⟩) (by rw [hat.1]; exact hszF j hj)
        · rw [Array.getElem?_setIfInBounds_ne (by omega)]; exact hl i hi
        · rw [getD_set_ne false (by omega)]; exact hlf i hi
        · by_cases hij : i = j
          · subst hij
            simp only [setF, if_true, Option.isSome_some]
            simp; omega
          · rw [getD_set_ne false (by omega), hlt i hi]
            simp only [setF, if_neg hij]
        · unfold setF at hi; split at hi
          · rename_i hij; rw [hij, hg]; rfl
          · exact hTG i hi

/-- **A region whose head writes new memory alone, and new variables into each of which something of the head is stored.** -/
theorem St.region_stores (n : Nat) (Ds Ss : List Tmp) (Z F : Nat → Array Value) (V : Nat → Value) (ty : Nat → TypeId) {id : Nat} {Q : Exit → Act → World → Prop} {a : Act} {w : World} {l : List Oper} (h0 : St w0 L w) (hm : P.follows .mixedOrders = true) (hB : storesB l n Ds Ss = true)
    (hal : ∀ j o, j < Ds.length → l[n + j]? = some o → ∀ (w : World) (a : Act), (execOp a.eval o).run P w = .ok (.value (ptrTo w.heap.size)) (w.alloc (.cells (Z j) (ty j))))
    (hszF : ∀ j, j < Ds.length → (F j).size = (Z j).size)
    (hst : ∀ j o d s, j < Ds.length → l[n + Ds.length + j]? = some o → Ds[j]? = some d → Ss[j]? = some s → ∀ (w : World) (a : Act) (g : Nat), a.eval (.tmp d) = ptrTo g → a.eval (.tmp s) = V j → rowAt w g = Z j → freeRow w g = true → isRow w g = true → (execOp a.eval o).run P w = .ok .skip (w.setRow g (F j)))
    (hin : ∀ d ∈ Ds, d < a.tmps.size)
    (h : walkB P (St w0 L) (fun a' => (∀ j s, j < Ds.length → Ss[j]? = some s → a'.eval (.tmp s) = V j) ∧ ∀ w' (gs : Nat → Nat), St w0 (entF F (fun j => some (gs j)) Ds.length ++ L) w' → Q .normal (putF Ds (fun j => some (gs j)) Ds.length a') w') (l.take n) a) : (Code.region id l.toArray true).wp P Q a w := by
  have hB' := hB
  simp only [storesB, Bool.and_eq_true, decide_eq_true_eq] at hB'
  obtain ⟨⟨⟨⟨⟨⟨⟨⟨hn, _⟩, _⟩, _⟩, _⟩, _⟩, _⟩, _⟩, hlex⟩ := hB'
  simp only [Region.lexB, Bool.and_eq_true] at hlex
  have htl : (l.take n).length = n := by simp; omega
  have H := wpAnyB_lex (C := St w0 L) (md := .any) hlex.1 (l.take n) 0 (Array.replicate (l.take n).toArray.size false) a (by simp) (by simpa using hlex.2) h
  have hu : ∀ k, undF (fun _ => none) k = k := fun k => by
    induction k with
    | zero => rfl
    | succ k ih => simp [undF, ih]
  have he : ∀ (cs : Nat → Array Value) k, entF cs (fun _ => none) k = [] := fun cs k => by
    induction k with
    | zero => rfl
    | succ k ih => simp [entF, ih]
  have hp : ∀ k, putF Ds (fun _ => none) k a = a := fun k => by
    induction k with
    | zero => rfl
    | succ k ih => simp [putF, ih]
  refine wp_region_any hm ?_
  have := simSt (P := P) (w0 := w0) (L := L) hB hal hszF hst (Q := fun a' => (∀ j s, j < Ds.length → Ss[j]? = some s → a'.eval (.tmp s) = V j) ∧ ∀ w' (gs : Nat → Nat), St w0 (entF F (fun j => some (gs j)) Ds.length ++ L) w' → Q .normal (putF Ds (fun j => some (gs j)) Ds.length a') w') (Q' := Q) a.tmps.size hin (fun a hq => hq.1) (fun a w gs hw hq => hq.2 w gs hw) (n + Ds.length + Ds.length) n (fun _ => none) (fun _ => none)
    (Array.replicate (l.take n).toArray.size false) (Array.replicate l.toArray.size false) a w.drew (by rw [hu]) rfl (by rw [he]; exact h0.drew) (by simp; omega) (by simp) (fun i hi => by rw [Array.getElem?_replicate, Array.getElem?_replicate, if_pos (by simp; omega), if_pos (by simp; omega)])
    (fun j _ => by rw [getD_replicate_false]; rfl) (fun j _ => by rw [getD_replicate_false]; rfl) (fun j hj => by cases hj) (by rw [htl] at H; exact H)
  rw [hp, hn, ← List.size_toArray] at this
  exact this
theorem paste_whole (Z F : Array Value) (h : Z.size = F.size) : paste Z 0 F = F := by
  apply Array.ext_getElem?
  intro j
  rw [paste_get _ _ _ (by omega)]
  by_cases hj : j < F.size
  · rw [if_pos ⟨by omega, by omega⟩, Nat.sub_zero]
  · rw [if_neg (by omega)]
    simp [Nat.le_of_not_lt hj, h ▸ Nat.le_of_not_lt hj]
/-- a store of a whole array or struct into a variable of its type -/
theorem stores_whole {d s : Tmp} (ty : TypeId) (Z F : Array Value) (hsz : Z.size = F.size) (hs : ∀ w, (sizeOf ty).run P w = .ok F.size w) (h1 : oneCells F = true) {o : Oper} (ho : o.op = .store ty (.tmp d) (.tmp s)) :
    ∀ (w : World) (a : Act) (g : Nat), a.eval (.tmp d) = ptrTo g → a.eval (.tmp s) = .agg F → rowAt w g = Z → freeRow w g = true → isRow w g = true → (execOp a.eval o).run P w = .ok .skip (w.setRow g F) := fun w a g e1 e2 e3 e4 _ => by
  unfold execOp
  simp only [ho, e1, e2, ptrTo]
  have := run_storeAt_row (P := P) (w := w) ty g 0 F (hs w) e4 (by rw [e3]; omega) h1
  rw [e3, paste_whole Z F hsz] at this
  simp only [Sem.run_bind, this, Result.andThen_ok, Sem.run_pure]
/-- two of them -/
theorem St.region_store2 (n : Nat) (d1 d2 s1 s2 : Tmp) (Z1 Z2 F1 F2 : Array Value) (V1 V2 : Value) (t1 t2 : TypeId) {id : Nat} {Q : Exit → Act → World → Prop} {a : Act} {w : World} {l : List Oper} (h0 : St w0 L w) (hm : P.follows .mixedOrders = true) (hB : storesB l n [d1, d2] [s1, s2] = true) (o1 o2 o3 o4 : Oper) (e1 : l[n]? = some o1) (e2 : l[n + 1]? = some o2) (e3 : l[n + 2]? = some o3) (e4 : l[n + 3]? = some o4)
    (h1 : ∀ (w : World) (a : Act), (execOp a.eval o1).run P w = .ok (.value (ptrTo w.heap.size)) (w.alloc (.cells Z1 t1))) (h2 : ∀ (w : World) (a : Act), (execOp a.eval o2).run P w = .ok (.value (ptrTo w.heap.size)) (w.alloc (.cells Z2 t2)))
    (h3 : ∀ (w : World) (a : Act) (g : Nat), a.eval (.tmp d1) = ptrTo g → a.eval (.tmp s1) = V1 → rowAt w g = Z1 → freeRow w g = true → isRow w g = true → (execOp a.eval o3).run P w = .ok .skip (w.setRow g F1))
    (h4 : ∀ (w : World) (a : Act) (g : Nat), a.eval (.tmp d2) = ptrTo g → a.eval (.tmp s2) = V2 → rowAt w g = Z2 → freeRow w g = true → isRow w g = true → (execOp a.eval o4).run P w = .ok .skip (w.setRow g F2))
    (hin : d1 < a.tmps.size ∧ d2 < a.tmps.size)
    (h : walkB P (St w0 L) (fun a' => (a'.eval (.tmp s1) = V1 ∧ a'.eval (.tmp s2) = V2) ∧ ∀ w' g1 g2, St w0 ((g2, F2) :: (g1, F1) :: L) w' → Q .normal ((a'.put (some d1) (ptrTo g1)).put (some d2) (ptrTo g2)) w') (l.take n) a) (hsz : F1.size = Z1.size ∧ F2.size = Z2.size := by first | (simp only [blk_size, and_self]; done) | (simp [go_sem]; done) | exact ⟨rfl, rfl⟩) : (Code.region id l.toArray true).wp P Q a w := by
  refine St.region_stores (w0 := w0) (L := L) n [d1, d2] [s1, s2] (fun j => if j = 0 then Z1 else Z2) (fun j => if j = 0 then F1 else F2) (fun j => if j = 0 then V1 else V2) (fun j => if j = 0 then t1 else t2) h0 hm hB ?_ ?_ ?_ (by simpa using hin) (walkB_mono (fun a' hq => ⟨?_, fun w' gs hw => ?_⟩) _ _ h)
  · intro j o hj ho w a
    match j, hj with
    | 0, _ => rw [Nat.add_zero, e1] at ho; cases ho; exact h1 w a
    | 1, _ => rw [e2] at ho; cases ho; exact h2 w a
  · intro j hj
    match j, hj with
    | 0, _ => exact hsz.1
    | 1, _ => exact hsz.2
  · intro j o d s hj ho hd hs w a g
    match j, hj with
    | 0, _ => rw [show n + [d1, d2].length + 0 = n + 2 from rfl, e3] at ho; cases ho; cases hd; cases hs; exact h3 w a g
    | 1, _ => rw [show n + [d1, d2].length + 1 = n + 3 from rfl, e4] at ho; cases ho; cases hd; cases hs; exact h4 w a g
  · intro j s hj hs
    match j, hj with
    | 0, _ => cases hs; exact hq.1.1
    | 1, _ => cases hs; exact hq.1.2
  · exact hq.2 w' (gs 0) (gs 1) (by simpa [entF] using hw)
end
end Go.Proofs.Ytepooocdpifcfaa
