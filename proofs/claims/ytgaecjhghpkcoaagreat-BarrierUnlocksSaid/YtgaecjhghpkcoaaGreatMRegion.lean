/- A region that draws its order, its operations told in another order: operations that wait for nothing behind them may be told ahead. New variables with what is stored into them, for such regions. No condition. * A region that draws its order: a head of quiet operations, one operation that waits for them and for which all others wait, and others behind it, quiet again, in a class of their own. No condition. * A quiet walk through a region, behind a name that nothing lays open: so a row of operations that are skipped costs no more than each of them. No condition. -/
import Derived.Test.YtgaecjhghpkcoaaGreatMGround
section
namespace Go.Proofs.YtgaecjhghpkcoaaGreat
open Go Go.RowKit

def remapE (p : List Nat) (e : Edge) : Edge := { e with on := p.getD e.on 0 }
def remap (p : List Nat) (o : Oper) : Oper := { o with after := o.after.map (remapE p) }
def noOper : Oper := { dst := none, op := .move (.const undef), type := 0, pos := "", after := #[], guard := none }
/-- l in another order: place k holds operation q[k]; operation i lies at place p[i] -/
def permL (q p : List Nat) (l : List Oper) : List Oper := q.map fun i => remap p (l.getD i noOper)
def permB (q p : List Nat) (l : List Oper) : Bool :=
  decide (q.length = l.length) && decide (p.length = l.length) && ((List.range l.length).all fun i => decide (q[p.getD i 0]? = some i) && decide (p.getD (q.getD i 0) 0 = i) && decide (q.getD i 0 < l.length) && decide (p.getD i 0 < l.length)) && l.all fun o => o.guard.isNone && o.after.all fun e => decide (e.on < l.length)
section
variable {P : Program} {Q : Exit → Act → World → Prop}
theorem wpOp_remap {l l' : Array Oper} {p : List Nat} {i j : Nat} {o : Oper} {K K' : Act → World → Prop} {a : Act} {w : World} (ho : l[i]? = some o) (ho' : l'[j]? = some (remap p o)) (hg : o.guard = none) (hK : ∀ a w, K a w → K' a w) (h : wpOp P l' Q j K a w) : wpOp P l Q i K' a w := by
  unfold wpOp at *
  simp only [ho, ho'] at *
  have w1 : Region.wanted o (yielded l a.tmps) = true := by simp [Region.wanted, hg]
  have w2 : Region.wanted (remap p o) (yielded l' a.tmps) = true := by simp [Region.wanted, remap, hg]
  rw [if_pos w2] at h
  rw [if_pos w1]
  rcases h with h | h
  · exact .inl (Oper.wp_mono (o := o) hK h)
  · exact .inr h
theorem any_perm {l : List Oper} {q p : List Nat} (hB : permB q p l = true) : ∀ (f : Nat) (listed listed' : Array Bool) (a : Act) (w : World), listed.size = l.length → listed'.size = l.length → (∀ i, i < l.length → listed.getD i false = listed'.getD (p.getD i 0) false) →
    wpAny P .any (permL q p l).toArray Q f listed' a w → wpAny P .any l.toArray Q f listed a w := by
  simp only [permB, Bool.and_eq_true, decide_eq_true_eq] at hB
  obtain ⟨⟨⟨hq, hp⟩, hr⟩, hl⟩ := hB
  have hr' : ∀ i, i < l.length → q[p.getD i 0]? = some i ∧ p.getD (q.getD i 0) 0 = i ∧ q.getD i 0 < l.length ∧ p.getD i 0 < l.length := fun i hi => by
    have := List.all_eq_true.1 hr i (List.mem_range.2 hi)
    simp only [Bool.and_eq_true, decide_eq_true_eq] at this
    exact ⟨this.1.1.1, this.1.1.2, this.1.2, this.2⟩
  have hl' : ∀ (i : Nat) (o : Oper), l[i]? = some o → o.guard = none ∧ ∀ e ∈ o.after, e.on < l.length := fun i o ho => by
    have := List.all_eq_true.1 hl o (List.mem_of_getElem? ho)
    simp only [Bool.and_eq_true, Option.isNone_iff_eq_none, Array.all_eq_true_iff_forall_mem, decide_eq_true_eq] at this
    exact this
  have hop : ∀ (i : Nat) (o : Oper), l[i]? = some o → (permL q p l).toArray[p.getD i 0]? = some (remap p o) := fun i o ho => by
    have hi := (List.getElem?_eq_some_iff.1 ho).1
    rw [List.getElem?_toArray]
    unfold permL
    rw [List.getElem?_map, (hr' i hi).1, Option.map_some, List.getD_eq_getElem?_getD, ho, Option.getD_some]
  have hle : ∀ (x y : Nat) (listed : Array Bool), listed.size = l.length → x < l.length → (listed.getD x true = false ↔ listed.getD x false = false) := fun x y listed hs hx => by
    simp [Array.getD_eq_getD_getElem?, Array.getElem?_eq_getElem (show x < listed.size by omega)]
  have hready : ∀ (listed listed' : Array Bool), listed.size = l.length → listed'.size = l.length → (∀ i, i < l.length → listed.getD i false = listed'.getD (p.getD i 0) false) → ∀ i, i < l.length →
      (i ∈ Region.ready .any l.toArray listed ↔ p.getD i 0 ∈ Region.ready .any (permL q p l).toArray listed') := fun listed listed' s1 s2 he i hi => by
    have ho : l[i]? = some l[i] := List.getElem?_eq_getElem hi
    rw [mem_ready, mem_ready, hop i _ ho, hle i 0 listed s1 hi, hle _ 0 listed' s2 (hr' i hi).2.2.2, he i hi]
    have e1 : l.toArray[i]? = some l[i] := by simp
    simp only [e1, Option.some.injEq, exists_eq_left']
    refine and_congr_right fun _ => ?_
    constructor
    · intro h e hm hb
      simp only [remap, Array.mem_map] at hm
      obtain ⟨e0, hm0, rfl⟩ := hm
      have := h e0 hm0 hb
      rw [he _ ((hl' i _ ho).2 e0 hm0)] at this
      exact this
    · intro h e hm hb
      have := h (remapE p e) (by simp only [remap, Array.mem_map]; exact ⟨e, hm, rfl⟩) hb
      rw [he _ ((hl' i _ ho).2 e hm)]
      exact this
  intro f
  induction f with
  | zero =>
    intro listed listed' a w s1 s2 he h
    refine ⟨?_, h.2⟩
    apply List.eq_nil_iff_forall_not_mem.2
    intro i hi
    have hin : i < l.length := by
      obtain ⟨_, o, ho, _⟩ := mem_ready.1 hi
      have := (Array.getElem?_eq_some_iff.1 ho).1
      simpa using this
    have := (hready listed listed' s1 s2 he i hin).1 hi
    rw [h.1] at this
    cases this
  | succ f ih =>
    intro listed listed' a w s1 s2 he h
    refine ⟨fun h0 => h.1 ?_, fun i hi => ?_⟩
    · apply List.eq_nil_iff_forall_not_mem.2
      intro k hk
      have hkn : k < l.length := by
        obtain ⟨_, o, ho, _⟩ := mem_ready.1 hk
        have := (Array.getElem?_eq_some_iff.1 ho).1
        simpa [permL, hq] using this
      have h1 := hr' k hkn
      have := (hready listed listed' s1 s2 he (q.getD k 0) h1.2.2.1).2 (by rw [h1.2.1]; exact hk)
      rw [h0] at this
      cases this
    · have hin : i < l.length := by
        obtain ⟨_, o, ho, _⟩ := mem_ready.1 hi
        have := (Array.getElem?_eq_some_iff.1 ho).1
        simpa using this
      have ho : l[i]? = some l[i] := List.getElem?_eq_getElem hin
      have hj := (hready listed listed' s1 s2 he i hin).1 hi
      refine wpOp_remap (p := p) (by simp) (hop i _ ho) (hl' i _ ho).1 (fun a' w' hk => ?_) (h.2 _ hj)
      refine ih _ _ a' w' (by simpa using s1) (by simpa using s2) (fun k hk' => ?_) hk
      by_cases hki : k = i
      · subst hki
        have h4 := (hr' k hin).2.2.2
        rw [Array.getD_eq_getD_getElem?, Array.getD_eq_getD_getElem?, Array.getElem?_setIfInBounds_self_of_lt (by omega), Array.getElem?_setIfInBounds_self_of_lt (by omega)]
      · have hpk : p.getD i 0 ≠ p.getD k 0 := fun e => by
          have a1 := (hr' i hin).1
          rw [e, (hr' k hk').1] at a1
          exact hki (Option.some.inj a1)
        rw [getD_set_ne false (Ne.symm hki), getD_set_ne false hpk]
        exact he k hk'
/-! ### a last operation that waits for all others -/
theorem wp_then {o : Oper} {a : Act} {w : World} {K K' : Act → World → Prop} (h : o.wp P a w K (Exit.then K' Q)) : o.wp P a w K Q := by
  unfold Oper.wp at *
  generalize (execOp a.eval o).run P w = r at *
  exact h
theorem wpOp_then {l l' : Array Oper} {i : Nat} {o : Oper} {K K' : Act → World → Prop} {K2 : Act → World → Prop} {a : Act} {w : World} (ho : l[i]? = some o) (ho' : l'[i]? = some o) (hg : o.guard = none) (hK : ∀ a w, K a w → K2 a w) (h : wpOp P l (Exit.then K' Q) i K a w) : wpOp P l' Q i K2 a w := by
  unfold wpOp at *
  simp only [ho, ho'] at *
  have w1 : Region.wanted o (yielded l a.tmps) = true := by simp [Region.wanted, hg]
  have w2 : Region.wanted o (yielded l' a.tmps) = true := by simp [Region.wanted, hg]
  rw [if_pos w1] at h
  rw [if_pos w2]
  rcases h with h | ⟨h1, a', w', h2⟩
  · exact .inl (Oper.wp_mono (o := o) hK (wp_then h))
  · exact .inr ⟨h1, a', w', h2⟩
/-- the last of l waits for all others, and nothing is guarded -/
def lastB (l : List Oper) : Bool := l.all (fun o => o.guard.isNone && o.after.all fun e => decide (e.on + 1 < l.length) || !Region.binds .any e) && (match l[l.length - 1]? with | some x => (List.range (l.length - 1)).all fun i => x.after.any fun e => Region.binds .any e && e.on == i | none => false)
theorem any_snoc {l0 : List Oper} {x : Oper} (hB : lastB (l0 ++ [x]) = true) (hp : plainB l0 l0.length = true) : ∀ (f : Nat) (listed listed' : Array Bool) (a : Act) (w : World), listed.size = l0.length → listed'.size = l0.length + 1 → (∀ i, i < l0.length → listed'[i]? = listed[i]?) → listed'.getD l0.length false = false →
    wpAny P .any l0.toArray (Exit.then (fun a w => wpList P (l0 ++ [x]).toArray Q [x] a w) Q) f listed a w → wpAny P .any (l0 ++ [x]).toArray Q (f + 1) listed' a w := by
  have hlen : (l0 ++ [x]).length = l0.length + 1 := by simp
  simp only [lastB, Bool.and_eq_true, hlen, Nat.add_sub_cancel] at hB
  obtain ⟨hg, hx⟩ := hB
  have hxl : (l0 ++ [x])[l0.length]? = some x := by simp
  rw [hxl] at hx
  simp only [] at hx
  have hg' : ∀ o ∈ l0 ++ [x], o.guard = none ∧ ∀ e ∈ o.after, Region.binds .any e = true → e.on < l0.length := fun o ho => by
    have := List.all_eq_true.1 hg o ho
    simp only [Bool.and_eq_true, Option.isNone_iff_eq_none, Array.all_eq_true_iff_forall_mem, Bool.or_eq_true, decide_eq_true_eq, Bool.not_eq_true'] at this
    refine ⟨this.1, fun e he hb => ?_⟩
    rcases this.2 e he with h | h
    · omega
    · rw [hb] at h; cases h
  have hx' : ∀ i, i < l0.length → ∃ e ∈ x.after, Region.binds .any e = true ∧ e.on = i := fun i hi => by
    have := List.all_eq_true.1 hx i (List.mem_range.2 hi)
    simpa only [Array.any_eq_true', Bool.and_eq_true, beq_iff_eq] using this
  have hat : ∀ i, i < l0.length → (l0 ++ [x]).toArray[i]? = l0.toArray[i]? := fun i hi => by simp [hi, List.getElem?_append_left]
  have hgD : ∀ (listed listed' : Array Bool) (d : Bool), (∀ i, i < l0.length → listed'[i]? = listed[i]?) → ∀ i, i < l0.length → listed'.getD i d = listed.getD i d := fun listed listed' d h i hi => by
    rw [Array.getD_eq_getD_getElem?, Array.getD_eq_getD_getElem?, h i hi]
  have hr : ∀ (listed listed' : Array Bool), (∀ i, i < l0.length → listed'[i]? = listed[i]?) → ∀ i, i < l0.length → (i ∈ Region.ready .any (l0 ++ [x]).toArray listed' ↔ i ∈ Region.ready .any l0.toArray listed) := fun listed listed' h i hi => by
    rw [mem_ready, mem_ready, hat i hi, hgD listed listed' true h i hi]
    refine and_congr_right fun _ => ?_
    constructor
    · rintro ⟨o, ho, he⟩
      have hm : o ∈ l0 ++ [x] := by
        have := List.mem_of_getElem? (l := l0) (i := i) (a := o) (by simpa using ho)
        simp [this]
      exact ⟨o, ho, fun e h1 h2 => by rw [← hgD listed listed' false h _ ((hg' o hm).2 e h1 h2)]; exact he e h1 h2⟩
    · rintro ⟨o, ho, he⟩
      have hm : o ∈ l0 ++ [x] := by
        have := List.mem_of_getElem? (l := l0) (i := i) (a := o) (by simpa using ho)
        simp [this]
      exact ⟨o, ho, fun e h1 h2 => by rw [hgD listed listed' false h _ ((hg' o hm).2 e h1 h2)]; exact he e h1 h2⟩
  -- all but the last are done
  have fin : ∀ (f : Nat) (listed listed' : Array Bool) (a : Act) (w : World), listed.size = l0.length → listed'.size = l0.length + 1 → (∀ i, i < l0.length → listed'[i]? = listed[i]?) → listed'.getD l0.length false = false → Region.ready .any l0.toArray listed = [] →
      wpList P (l0 ++ [x]).toArray Q [x] a w → wpAny P .any (l0 ++ [x]).toArray Q (f + 1) listed' a w := fun f listed listed' a w s1 s2 hl hlast h0 h => by
    have hrx : ∀ i, i ∈ Region.ready .any (l0 ++ [x]).toArray listed' → i = l0.length := fun i hi => by
      rcases Nat.lt_trichotomy i l0.length with h1 | h1 | h1
      · have := (hr listed listed' hl i h1).1 hi
        rw [h0] at this; cases this
      · exact h1
      · obtain ⟨_, o, ho, _⟩ := mem_ready.1 hi
        have := (Array.getElem?_eq_some_iff.1 ho).1
        simp at this
        omega
    have hall : ∀ i, i < l0.length → listed.getD i false = true := all_listed hp s1 (by rw [List.take_length]; exact h0)
    have hxr : l0.length ∈ Region.ready .any (l0 ++ [x]).toArray listed' := mem_ready.2 ⟨getD_in (by omega) hlast, x, by simp, fun e h1 h2 => by
      have h3 := (hg' x (by simp)).2 e h1 h2
      rw [hgD listed listed' false hl _ h3]
      exact hall _ h3⟩
    refine ⟨fun h1 => (by rw [h1] at hxr; cases hxr), fun i hi => ?_⟩
    obtain rfl := hrx i hi
    have hw : wpOp P (l0 ++ [x]).toArray Q l0.length (wpList P (l0 ++ [x]).toArray Q []) a w := by
      have e1 : (l0 ++ [x]).toArray[l0.length]? = some x := by simp
      unfold wpOp
      simp only [e1]
      exact h
    refine wpOp_mono (fun a' w' h' => any_done ?_ h' _) hw
    apply List.eq_nil_iff_forall_not_mem.2
    intro k hk
    have hs2 : ∀ i, i < l0.length → (listed'.setIfInBounds l0.length true)[i]? = listed[i]? := fun i hi => by
      rw [Array.getElem?_setIfInBounds_ne (by omega), hl i hi]
    rcases Nat.lt_trichotomy k l0.length with h1 | h1 | h1
    · have := (hr listed _ hs2 k h1).1 hk
      rw [h0] at this; cases this
    · subst h1
      have := (mem_ready.1 hk).1
      rw [Array.getD_eq_getD_getElem?, Array.getElem?_setIfInBounds_self_of_lt (by omega)] at this
      cases this
    · obtain ⟨_, o, ho, _⟩ := mem_ready.1 hk
      have := (Array.getElem?_eq_some_iff.1 ho).1
      simp at this
      omega
  intro f
  induction f with
  | zero =>
    intro listed listed' a w s1 s2 hl hlast h
    exact fin 0 listed listed' a w s1 s2 hl hlast h.1 h.2
  | succ f ih =>
    intro listed listed' a w s1 s2 hl hlast h
    by_cases h0 : Region.ready .any l0.toArray listed = []
    · exact fin (f + 1) listed listed' a w s1 s2 hl hlast h0 (h.1 h0)
    · obtain ⟨k, hk⟩ := List.exists_mem_of_ne_nil _ h0
      have hlt : ∀ i, i ∈ Region.ready .any l0.toArray listed → i < l0.length := fun i hi => by
        obtain ⟨_, o, ho, _⟩ := mem_ready.1 hi
        have := (Array.getElem?_eq_some_iff.1 ho).1
        simpa using this
      have hkl := hlt k hk
      have hku : listed.getD k false = false := by
        have h1 := (mem_ready.1 hk).1
        rw [Array.getD_eq_getD_getElem?, Array.getElem?_eq_getElem (by omega)] at h1 ⊢
        exact h1
      refine ⟨fun h1 => ?_, fun i hi => ?_⟩
      · have := (hr listed listed' hl k hkl).2 hk
        rw [h1] at this; cases this
      · have hil : i < l0.length := by
          rcases Nat.lt_trichotomy i l0.length with h1 | h1 | h1
          · exact h1
          · subst h1
            obtain ⟨_, o, ho, he⟩ := mem_ready.1 hi
            have hox : o = x := by
              have e1 : (l0 ++ [x]).toArray[l0.length]? = some x := by simp
              exact Option.some.inj (ho.symm.trans e1)
            subst hox
            obtain ⟨e, h1, h2, h3⟩ := hx' k hkl
            have h4 := he e h1 h2
            rw [h3, hgD listed listed' false hl k hkl, hku] at h4
            cases h4
          · obtain ⟨_, o, ho, _⟩ := mem_ready.1 hi
            have := (Array.getElem?_eq_some_iff.1 ho).1
            simp at this
            omega
        have hi0 := (hr listed listed' hl i hil).1 hi
        have ho : l0.toArray[i]? = some l0[i] := by simp [hil]
        refine wpOp_then ho (by rw [hat i hil]; exact ho) (hg' l0[i] (by simp)).1 (fun a' w' h' => ?_) (h.2 i hi0)
        refine ih _ _ a' w' (by simpa using s1) (by simpa using s2) (fun j hj => ?_) ?_ h'
        · by_cases hij : i = j
          · subst hij
            rw [Array.getElem?_setIfInBounds_self_of_lt (by omega), Array.getElem?_setIfInBounds_self_of_lt (by omega)]
          · rw [Array.getElem?_setIfInBounds_ne hij, Array.getElem?_setIfInBounds_ne hij]; exact hl j hj
        · rw [getD_set_ne false (by omega)]; exact hlast
/-- a region whose head writes new memory alone, and new variables into each of which something of the head is stored, at its orders -/
theorem St.any_stores {w0 : World} {L : List (Nat × Array Value)} (n : Nat) (Ds Ss : List Tmp) (Z F : Nat → Array Value) (V : Nat → Value) (ty : Nat → TypeId) {Q : Exit → Act → World → Prop} {a : Act} {w : World} {l : List Oper} (h0 : St w0 L w) (hB : storesB l n Ds Ss = true)
    (hal : ∀ j o, j < Ds.length → l[n + j]? = some o → ∀ (w : World) (a : Act), (execOp a.eval o).run P w = .ok (.value (ptrTo w.heap.size)) (w.alloc (.cells (Z j) (ty j))))
    (hszF : ∀ j, j < Ds.length → (F j).size = (Z j).size)
    (hst : ∀ j o d s, j < Ds.length → l[n + Ds.length + j]? = some o → Ds[j]? = some d → Ss[j]? = some s → ∀ (w : World) (a : Act) (g : Nat), a.eval (.tmp d) = ptrTo g → a.eval (.tmp s) = V j → rowAt w g = Z j → freeRow w g = true → isRow w g = true → (execOp a.eval o).run P w = .ok .skip (w.setRow g (F j)))
    (hin : ∀ d ∈ Ds, d < a.tmps.size)
    (h : walkB P (St w0 L) (fun a' => (∀ j s, j < Ds.length → Ss[j]? = some s → a'.eval (.tmp s) = V j) ∧ ∀ w' (gs : Nat → Nat), St w0 (entF F (fun j => some (gs j)) Ds.length ++ L) w' → Q .normal (putF Ds (fun j => some (gs j)) Ds.length a') w') (l.take n) a) : wpAny P .any l.toArray Q l.length (Array.replicate l.length false) a w.drew := by
  have hB' := hB
  simp only [storesB, Bool.and_eq_true, decide_eq_true_eq] at hB'
  obtain ⟨⟨⟨⟨⟨⟨⟨⟨hn, _⟩, _⟩, _⟩, _⟩, _⟩, _⟩, _⟩, hlex⟩ := hB'
  simp only [Region.lexB, Bool.and_eq_true] at hlex
  have htl : (l.take n).length = n := by simp; omega
  have H := wpAnyB_lex (C := St w0 L) (md := .any) hlex.1 (l.take n) 0 (Array.replicate (l.take n).toArray.size false) a (by simp) (by simpa using hlex.2) h
  have hu : ∀ k, undF (fun _ => none) k = k := fun k => by
    induction k with
    | zero => rfl
    | succ k ih => simp [undF, ih]
  have he : ∀ (cs : Nat → Array Value) k, entF cs (fun _ => none) k = [] := fun cs k => by
    induction k with
    | zero => rfl
    | succ k ih => simp [entF, ih]
  have hp : ∀ k, putF Ds (fun _ => none) k a = a := fun k => by
    induction k with
    | zero => rfl
    | succ k ih => simp [putF, ih]
  have := simSt (P := P) (w0 := w0) (L := L) hB hal hszF hst (Q := fun a' => (∀ j s, j < Ds.length → Ss[j]? = some s → a'.eval (.tmp s) = V j) ∧ ∀ w' (gs : Nat → Nat), St w0 (entF F (fun j => some (gs j)) Ds.length ++ L) w' → Q .normal (putF Ds (fun j => some (gs j)) Ds.length a') w') (Q' := Q) a.tmps.size hin (fun a hq => hq.1) (fun a w gs hw hq => hq.2 w gs hw) (n + Ds.length + Ds.length) n (fun _ => none) (fun _ => none)
    (Array.replicate (l.take n).toArray.size false) (Array.replicate l.length false) a w.drew (by rw [hu]) rfl (by rw [he]; exact h0.drew) (by simp; omega) (by simp) (fun i hi => by rw [Array.getElem?_replicate, Array.getElem?_replicate, if_pos (by omega), if_pos (by rw [List.size_toArray]; omega)])
    (fun j _ => by rw [getD_replicate_false]; rfl) (fun j _ => by rw [getD_replicate_false]; rfl) (fun j hj => by cases hj) (by rw [htl] at H; exact H)
  rw [hp, hn] at this
  exact this
/-- one new variable, and a last operation -/
theorem St.region_store1_last {w0 : World} {L : List (Nat × Array Value)} (n : Nat) (d s : Tmp) (Z F : Array Value) (V : Value) (t : TypeId) {id : Nat} {Q : Exit → Act → World → Prop} {a : Act} {w : World} {l : List Oper} (h0 : St w0 L w) (hm : P.follows .mixedOrders = true) (hT : lastB l = true) (hB : storesB l.dropLast n [d] [s] = true) (o1 o2 : Oper) (e1 : l[n]? = some o1) (e2 : l[n + 1]? = some o2)
    (h1 : ∀ (w : World) (a : Act), (execOp a.eval o1).run P w = .ok (.value (ptrTo w.heap.size)) (w.alloc (.cells Z t)))
    (h2 : ∀ (w : World) (a : Act) (g : Nat), a.eval (.tmp d) = ptrTo g → a.eval (.tmp s) = V → rowAt w g = Z → freeRow w g = true → isRow w g = true → (execOp a.eval o2).run P w = .ok .skip (w.setRow g F))
    (hsz : F.size = Z.size) (hin : d < a.tmps.size)
    (h : walkB P (St w0 L) (fun a' => a'.eval (.tmp s) = V ∧ ∀ w' g, St w0 ((g, F) :: L) w' → wpList P l.toArray Q (l.drop (n + 2)) (a'.put (some d) (ptrTo g)) w') (l.take n) a) : (Code.region id l.toArray true).wp P Q a w := by
  have hB' := hB
  simp only [storesB, Bool.and_eq_true, decide_eq_true_eq] at hB'
  obtain ⟨⟨⟨⟨⟨⟨⟨⟨hn, _⟩, hp⟩, _⟩, _⟩, _⟩, _⟩, _⟩, _⟩ := hB'
  have hn2 : l.dropLast.length = n + 2 := by rw [← hn]; rfl
  have hl : l.length = n + 3 := by rw [List.length_dropLast] at hn2; omega
  obtain ⟨l0, x, rfl⟩ : ∃ l0 x, l = l0 ++ [x] := ⟨l.dropLast, l.getLast (by intro e; rw [e] at hl; cases hl), (List.dropLast_concat_getLast _).symm⟩
  rw [List.dropLast_concat] at hB hp hn2
  have ht : (l0 ++ [x]).take n = l0.take n := by rw [List.take_append_of_le_length (by omega)]
  have hd : (l0 ++ [x]).drop (n + 2) = [x] := by rw [← hn2, List.drop_left]
  rw [ht, hd] at h
  rw [List.getElem?_append_left (by omega)] at e1 e2
  refine wp_region_any hm ?_
  have hs : (l0 ++ [x]).toArray.size = l0.length + 1 := by simp
  rw [hs]
  refine any_snoc hT hp l0.length (Array.replicate l0.length false) _ _ _ (by simp) (by simp) (fun i hi => by rw [Array.getElem?_replicate, Array.getElem?_replicate, if_pos hi, if_pos (by omega)]) (getD_replicate_false _ _) ?_
  refine St.any_stores (w0 := w0) (L := L) n [d] [s] (fun _ => Z) (fun _ => F) (fun _ => V) (fun _ => t) h0 hB ?_ (fun _ _ => hsz) ?_ (by simpa using hin) (walkB_mono (fun a' hq => ⟨?_, fun w' gs hw => ?_⟩) _ _ h)
  · intro j o hj ho w a
    match j, hj with
    | 0, _ => rw [Nat.add_zero, e1] at ho; cases ho; exact h1 w a
  · intro j o d' s' hj ho hd hs w a g
    match j, hj with
    | 0, _ => rw [show n + [d].length + 0 = n + 1 from rfl, e2] at ho; cases ho; cases hd; cases hs; exact h2 w a g
  · intro j s' hj hs
    match j, hj with
    | 0, _ => cases hs; exact hq.1
  · exact hq.2 w' (gs 0) (by simpa [entF] using hw)
end
end Go.Proofs.YtgaecjhghpkcoaaGreat
end

section
namespace Go.Proofs.YtgaecjhghpkcoaaGreat
open Go Go.RowKit

/-- those behind place n wait for it, or for one behind it -/
def laterB (l : List Oper) (n : Nat) : Bool := (List.range l.length).all fun t => decide (t ≤ n) || match l[t]? with | some o => o.after.toList.any (fun e => Region.binds .any e && decide (n ≤ e.on ∧ e.on < t)) | none => false
section
variable {P : Program} {C : World → Prop}
theorem waits_mid {l : List Oper} {n : Nat} {listed : Array Bool} (hs : Region.sinkB .any l.toArray n = true) (hc : laterB l n = true) (hn : n < l.toArray.size) (inv : HeadInv .any l.toArray n listed) :
    ∀ (d i : Nat), n - i = d → i < n → listed.getD i true = false → ∀ t, n ≤ t → t ∉ Region.ready .any l.toArray listed := by
  intro d
  induction d using Nat.strongRecOn with
  | _ d ih =>
    intro i hd hi hun t ht hr
    obtain ⟨_, ot, hot, hall⟩ := mem_ready.1 hr
    have htlt : t < l.toArray.size := (Array.getElem?_eq_some_iff.1 hot).1
    by_cases htn : t = n
    · subst htn
      have h1 := List.all_eq_true.1 hs i (List.mem_range.2 hi)
      obtain ⟨j, hj, hj2⟩ := List.any_eq_true.1 h1
      simp only [Bool.and_eq_true, decide_eq_true_eq] at hj2
      obtain ⟨oj, hoj, e, he, hb, hon⟩ := Region.waitsFor_spec hj2.2
      have hjle : j ≤ t := by have := List.mem_range.1 hj; omega
      by_cases hjt : j = t
      · subst hjt
        have : oj = ot := Option.some.inj (hoj.symm.trans hot)
        subst this
        have h2 := hall e he hb
        rw [hon, getD_both hun] at h2
        cases h2
      · cases hl : listed.getD j false with
        | true =>
          have h2 := inv.closed j oj hoj hl e he hb
          rw [hon, getD_both hun] at h2
          cases h2
        | false =>
          have hjs : j < listed.size := by rw [inv.size]; omega
          exact ih (t - j) (by omega) j rfl (by omega) (getD_in hjs hl) t (Nat.le_refl _) hr
    · have h1 := List.all_eq_true.1 hc t (List.mem_range.2 (by simpa using htlt))
      have hot' : l[t]? = some ot := by simpa using hot
      simp only [hot', Bool.or_eq_true, decide_eq_true_eq, List.any_eq_true, Bool.and_eq_true, Array.mem_toList_iff] at h1
      rcases h1 with h1 | ⟨e, he, hb, h3, h4⟩
      · omega
      · have h2 := hall e he hb
        rw [getD_both (inv.tail e.on h3 (by omega))] at h2
        cases h2
theorem sim_mid {l : List Oper} {n : Nat} (hn : n < l.length) (hp : plainB l n = true) (hs : Region.sinkB .any l.toArray n = true) (hc : laterB l n = true)
    {Q : Act → Prop} {Q' : Exit → Act → World → Prop} (hQ : ∀ f a w, C w → Q a → wpAny P .any l.toArray Q' ((l.length - n) + f) ((List.replicate n true ++ List.replicate (l.length - n) false).toArray) a w) :
    ∀ (f : Nat) (part listed : Array Bool) (a : Act) (w : World), C w → part.size = n → (∀ i, i < n → listed[i]? = part[i]?) → HeadInv .any l.toArray n listed →
      wpAnyQ P .any (l.take n).toArray C Q f part a → wpAny P .any l.toArray Q' ((l.length - n) + f) listed a w := by
  have fin : ∀ (f : Nat) (part listed : Array Bool) (a : Act) (w : World), C w → part.size = n → (∀ i, i < n → listed[i]? = part[i]?) → HeadInv .any l.toArray n listed →
      Region.ready .any (l.take n).toArray part = [] → Q a → wpAny P .any l.toArray Q' ((l.length - n) + f) listed a w := by
    intro f part listed a w hw hz hl inv h0 h1
    have hall := all_listed hp hz h0
    have he : listed = (List.replicate n true ++ List.replicate (l.length - n) false).toArray := by
      have hsz := inv.size
      simp only [List.size_toArray] at hsz
      refine Array.ext (by simp [hsz]; omega) fun i hi _ => ?_
      by_cases hin : i < n
      · have h2 := hall i hin
        rw [← getD_lt hl hin false] at h2
        simp only [Array.getD_eq_getD_getElem?, Array.getElem?_eq_getElem hi, Option.getD_some] at h2
        simp [h2, hin]
      · have h2 := inv.tail i (by omega) (by simp only [List.size_toArray]; omega)
        simp only [Array.getD_eq_getD_getElem?, Array.getElem?_eq_getElem hi, Option.getD_some] at h2
        rw [h2, List.getElem_toArray, List.getElem_append_right (by simp; omega)]
        simp
    rw [he]
    exact hQ f a w hw h1
  intro f
  induction f with
  | zero => intro part listed a w hw hz hl inv h; exact fin 0 part listed a w hw hz hl inv h.1 h.2
  | succ f ih =>
    intro part listed a w hw hz hl inv h
    by_cases h0 : Region.ready .any (l.take n).toArray part = []
    · exact fin (f + 1) part listed a w hw hz hl inv h0 (h.1 h0)
    · have hr : ∀ i, i < n → (i ∈ Region.ready .any l.toArray listed ↔ i ∈ Region.ready .any (l.take n).toArray part) := fun i hi => by
        obtain ⟨o, ho, _, he⟩ := plainB_at hp hi
        rw [mem_ready, mem_ready, getD_lt hl hi true]
        have e1 : l.toArray[i]? = some o := by simp [ho]
        have e2 : (l.take n).toArray[i]? = some o := by simp [hi, ho]
        simp only [e1, e2, Option.some.injEq, exists_eq_left']
        constructor
        · rintro ⟨x, y⟩; exact ⟨x, fun e hm hb => by rw [← getD_lt hl (by have := he e hm hb; omega) false]; exact y e hm hb⟩
        · rintro ⟨x, y⟩; exact ⟨x, fun e hm hb => by rw [getD_lt hl (by have := he e hm hb; omega) false]; exact y e hm hb⟩
      obtain ⟨i0, hi0⟩ := List.exists_mem_of_ne_nil _ h0
      have hi0n : i0 < n := by
        obtain ⟨_, o, ho, _⟩ := mem_ready.1 hi0
        have := (Array.getElem?_eq_some_iff.1 ho).1
        simp only [List.size_toArray, List.length_take] at this
        omega
      have hu : listed.getD i0 true = false := (mem_ready.1 ((hr i0 hi0n).2 hi0)).1
      rw [show (l.length - n) + (f + 1) = ((l.length - n) + f) + 1 by omega]
      refine ⟨fun h1 => (by have := (hr i0 hi0n).2 hi0; rw [h1] at this; cases this), fun i hi => ?_⟩
      have hin : i < n := by
        rcases Nat.lt_or_ge i n with h1 | h1
        · exact h1
        · exact absurd hi (waits_mid hs hc (by simpa using hn) inv _ i0 rfl hi0n hu i h1)
      refine wpOp_of_qOp hw (fun a' w' hw' h3 => ih _ _ a' w' hw' ?_ ?_ (inv.set hi hin) h3) (qOp_head hp hin (h.2 i ((hr i hin).1 hi)))
      · simpa using hz
      · intro j hj
        have hsz := inv.size
        simp only [List.size_toArray] at hsz
        by_cases hij : i = j
        · subst hij
          rw [Array.getElem?_setIfInBounds_self_of_lt (by omega), Array.getElem?_setIfInBounds_self_of_lt (by omega)]
        · rw [Array.getElem?_setIfInBounds_ne hij, Array.getElem?_setIfInBounds_ne hij]; exact hl j hj


theorem anyQ_more {ops : Array Oper} {md : Region.Mode} {Q : Act → Prop} : ∀ (f x : Nat) (listed : Array Bool) (a : Act), wpAnyQ P md ops C Q f listed a → wpAnyQ P md ops C Q (f + x) listed a
  | 0, 0, _, _, h => h
  | 0, x + 1, _, _, h => by
    rw [Nat.zero_add]
    exact ⟨fun _ => h.2, fun i hi => by rw [h.1] at hi; cases hi⟩
  | f + 1, x, _, _, h => by
    rw [show f + 1 + x = (f + x) + 1 by omega]
    exact ⟨h.1, fun i hi => qOp_mono (fun a h' => anyQ_more f x _ a h') (h.2 i hi)⟩
def midB (l : List Oper) (n : Nat) : Bool :=
  decide (n < l.length) && plainB l n && Region.lexB .any (l.take n).toArray && Region.sinkB .any l.toArray n && laterB l n && (match l[n]? with | some o => o.guard.isNone | none => false) && Region.noSelect l.toArray &&
    Region.lexFrom .any l.toArray (l.length - (n + 1)) (n + 1) ((List.replicate n true ++ List.replicate (l.length - n) false).toArray.setIfInBounds n true) &&
    decide (Region.ready .any l.toArray ((List.replicate n true ++ List.replicate (l.length - n) false).toArray) = [n])
theorem wp_region_mid (n : Nat) {id : Nat} {Q : Exit → Act → World → Prop} {a : Act} {w : World} {l : List Oper} (hm : P.follows .mixedOrders = true) (hB : midB l n = true) (on : Oper) (hon : l[n]? = some on) (hC : C w.drew)
    (h : wpQuiet P (l.take n).toArray C (fun a' => ∀ w', C w' → wpList P l.toArray (Exit.then (fun a2 w2 => ∃ C2 : World → Prop, C2 w2 ∧ wpQuiet P l.toArray C2 (fun a3 => ∀ w3, C2 w3 → Q .normal a3 w3) (l.drop (n + 1)) a2) Q) [on] a' w') (l.take n) a) : (Code.region id l.toArray true).wp P Q a w := by
  simp only [midB, Bool.and_eq_true, decide_eq_true_eq, hon, Option.isNone_iff_eq_none] at hB
  obtain ⟨⟨⟨⟨⟨⟨⟨⟨hn, hp⟩, hlex⟩, hs⟩, hc⟩, hg⟩, hsel⟩, hlex2⟩, hrd⟩ := hB
  simp only [Region.lexB, Bool.and_eq_true] at hlex
  have htl : (l.take n).length = n := by simp; omega
  have H := wpAnyQ_lex (C := C) (md := .any) hlex.1 (l.take n) 0 (Array.replicate (l.take n).toArray.size false) a (by simp) (by simpa using hlex.2) h
  have inv0 : HeadInv .any l.toArray n (Array.replicate l.toArray.size false) :=
    ⟨by simp, fun j oj _ hl => (by rw [getD_replicate_false] at hl; cases hl), fun t _ ht => getD_in (by simpa using ht) (getD_replicate_false _ _)⟩
  refine wp_region_any hm ?_
  have hon' : l.toArray[n]? = some on := by simpa using hon
  have := sim_mid (C := C) hn hp hs hc (Q' := Q) (fun f a w hw hq => by
    rw [show l.length - n + f = ((l.length - (n + 1)) + f) + 1 by omega]
    refine ⟨fun h0 => (by rw [hrd] at h0; cases h0), fun i hi => ?_⟩
    rw [hrd] at hi
    obtain rfl : i = n := by simpa using hi
    have hw1 : wpOp P l.toArray (Exit.then (fun a2 w2 => ∃ C2 : World → Prop, C2 w2 ∧ wpQuiet P l.toArray C2 (fun a3 => ∀ w3, C2 w3 → Q .normal a3 w3) (l.drop (i + 1)) a2) Q) i (wpList P l.toArray (Exit.then (fun a2 w2 => ∃ C2 : World → Prop, C2 w2 ∧ wpQuiet P l.toArray C2 (fun a3 => ∀ w3, C2 w3 → Q .normal a3 w3) (l.drop (i + 1)) a2) Q) []) a w := by
      unfold wpOp; simp only [hon']; exact hq w hw
    refine wpOp_then hon' hon' hg (fun a2 w2 h2 => ?_) hw1
    obtain ⟨C2, hC2, hq2⟩ := h2
    have hdl : (l.drop (i + 1)).length = l.length - (i + 1) := by simp
    have H2 := wpAnyQ_lex (C := C2) (md := .any) hsel (l.drop (i + 1)) (i + 1) ((List.replicate i true ++ List.replicate (l.length - i) false).toArray.setIfInBounds i true) a2 (fun j => by simp [List.getElem?_drop]) (by rw [hdl]; exact hlex2) hq2
    rw [hdl] at H2
    exact wpAny_of_quiet (C := C2) (fun _ w' hw' h => h w' hw') _ _ _ _ hC2 (anyQ_more _ f _ _ H2)) _ _ (Array.replicate l.toArray.size false) a _ hC (by simp; omega) (fun i hi => by rw [Array.getElem?_replicate, Array.getElem?_replicate, if_pos (by simp; omega), if_pos (by simp; omega)]) inv0 H
  rw [htl, show l.length - n + n = l.toArray.size by simp; omega] at this
  exact this
end
end Go.Proofs.YtgaecjhghpkcoaaGreat
end

section
namespace Go.Proofs.YtgaecjhghpkcoaaGreat
open Go.RowKit

structure Qw (P : Program) (ops : Array Oper) (C : World → Prop) (Q : Act → Prop) (l : List Oper) (a : Act) : Prop where
  out : wpQuiet P ops C Q l a
section
variable {P : Program} {ops : Array Oper} {C : World → Prop} {Q : Act → Prop}
theorem qw_skip {o : Oper} {rest : List Oper} {a : Act} (hg : Region.wanted o (yielded ops a.tmps) = false) (hn : Qw P ops C Q rest (a.put o.dst undef)) : Qw P ops C Q (o :: rest) a := ⟨head_skip hg hn.out⟩
theorem qw_step {o : Oper} {rest : List Oper} {a : Act} {v : Value} (hg : Region.wanted o (yielded ops a.tmps) = true) (h : ∀ w, C w → o.quietAt P a C w v) (hn : Qw P ops C Q rest (a.put o.dst v)) : Qw P ops C Q (o :: rest) a := ⟨head_step_g hg h hn.out⟩
theorem qw_nil {a : Act} (h : Q a) : Qw P ops C Q [] a := ⟨wpQuiet_nil h⟩
variable {w0 a : World} {L : List (Nat × Array Value)} {id : Nat} {Q : Exit → Act → World → Prop} {t : Act} {l : List Oper}
theorem St.qregion (h : St w0 L a) (hm : P.follows .mixedOrders = true) (hB : Region.lexB .any l.toArray = true)
    (k : Qw P l.toArray (St w0 L) (fun a' => ∀ w', St w0 L w' → Q .normal a' w') l t) : (Code.region id l.toArray true).wp P Q t a := St.region h hm hB k.out
theorem St.qregion_tail (n : Nat) (h : St w0 L a) (hm : P.follows .mixedOrders = true) (hB : tailB l n = true)
    (k : Qw P (l.take n).toArray (St w0 L) (fun a' => ∀ w', St w0 L w' → wpList P l.toArray Q (l.drop n) a' w') (l.take n) t) : (Code.region id l.toArray true).wp P Q t a := St.region_tail n h hm hB k.out
end
end Go.Proofs.YtgaecjhghpkcoaaGreat
end
