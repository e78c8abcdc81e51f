/- A region that draws its order: a head of quiet operations, one operation that waits for them and for which all others wait, and others behind it, quiet again, in a class of their own. No condition. -/
import Derived.Test.YtgaecjhghpkcoaaGreatPerm
namespace Go.Proofs.YtgaecjhghpkcoaaGreat
open Go Go.RowKit

/-- those behind place n wait for it, or for one behind it -/
def laterB (l : List Oper) (n : Nat) : Bool := (List.range l.length).all fun t => decide (t ≤ n) || match l[t]? with | some o => o.after.toList.any (fun e => Region.binds .any e && decide (n ≤ e.on ∧ e.on < t)) | none => false
section
variable {P : Program} {C : World → Prop}
theorem waits_mid {l : List Oper} {n : Nat} {listed : Array Bool} (hs : Region.sinkB .any l.toArray n = true) (hc : laterB l n = true) (hn : n < l.toArray.size) (inv : HeadInv .any l.toArray n listed) :
    ∀ (d i : Nat), n - i = d → i < n → listed.getD i true = false → ∀ t, n ≤ t → t ∉ Region.ready .any l.toArray listed := by
  intro d
  induction d using Nat.strongRecOn with
  | _ d ih =>
    intro i hd hi hun t ht hr
    obtain ⟨_, ot, hot, hall⟩ := mem_ready.1 hr
    have htlt : t < l.toArray.size := (Array.getElem?_eq_some_iff.1 hot).1
    by_cases htn : t = n
    · subst htn
      have h1 := List.all_eq_true.1 hs i (List.mem_range.2 hi)
      obtain ⟨j, hj, hj2⟩ := List.any_eq_true.1 h1
      simp only [Bool.and_eq_true, decide_eq_true_eq] at hj2
      obtain ⟨oj, hoj, e, he, hb, hon⟩ := Region.waitsFor_spec hj2.2
      have hjle : j ≤ t := by have := List.mem_range.1 hj; omega
      by_cases hjt : j = t
      · subst hjt
        have : oj = ot := Option.some.inj (hoj.symm.trans hot)
        subst this
        have h2 := hall e he hb
        rw [hon, getD_both hun] at h2
        cases h2
      · cases hl : listed.getD j false with
        | true =>
          have h2 := inv.closed j oj hoj hl e he hb
          rw [hon, getD_both hun] at h2
          cases h2
        | false =>
          have hjs : j < listed.size := by rw [inv.size]; omega
          exact ih (t - j) (by omega) j rfl (by omega) (getD_in hjs hl) t (Nat.le_refl _) hr
    · have h1 := List.all_eq_true.1 hc t (List.mem_range.2 (by simpa using htlt))
      have hot' : l[t]? = some ot := by simpa using hot
      simp only [hot', Bool.or_eq_true, decide_eq_true_eq, List.any_eq_true, Bool.and_eq_true, Array.mem_toList_iff] at h1
      rcases h1 with h1 | ⟨e, he, hb, h3, h4⟩
      · omega
      · have h2 := hall e he hb
        rw [getD_both (inv.tail e.on h3 (by omega))] at h2
        cases h2
theorem sim_mid {l : List Oper} {n : Nat} (hn : n < l.length) (hp : plainB l n = true) (hs : Region.sinkB .any l.toArray n = true) (hc : laterB l n = true)
    {Q : Act → Prop} {Q' : Exit → Act → World → Prop} (hQ : ∀ f a w, C w → Q a → wpAny P .any l.toArray Q' ((l.length - n) + f) ((List.replicate n true ++ List.replicate (l.length - n) false).toArray) a w) :
    ∀ (f : Nat) (part listed : Array Bool) (a : Act) (w : World), C w → part.size = n → (∀ i, i < n → listed[i]? = part[i]?) → HeadInv .any l.toArray n listed →
      wpAnyQ P .any (l.take n).toArray C Q f part a → wpAny P .any l.toArray Q' ((l.length - n) + f) listed a w := by
  have fin : ∀ (f : Nat) (part listed : Array Bool) (a : Act) (w : World), C w → part.size = n → (∀ i, i < n → listed[i]? = part[i]?) → HeadInv .any l.toArray n listed →
      Region.ready .any (l.take n).toArray part = [] → Q a → wpAny P .any l.toArray Q' ((l.length - n) + f) listed a w := by
    intro f part listed a w hw hz hl inv h0 h1
    have hall := all_listed hp hz h0
    have he : listed = (List.replicate n true ++ List.replicate (l.length - n) false).toArray := by
      have hsz := inv.size
      simp only [List.size_toArray] at hsz
      refine Array.ext (by simp [hsz]; omega) fun i hi _ => ?_
      by_cases hin : i < n
      · have h2 := hall i hin
        rw [← getD_lt hl hin false] at h2
        simp only [Array.getD_eq_getD_getElem?, Array.getElem?_eq_getElem hi, Option.getD_some] at h2
        simp [h2, hin]
      · have h2 := inv.tail i (by omega) (by simp only [List.size_toArray]; omega)
        simp only [Array.getD_eq_getD_getElem?, Array.getElem?_eq_getElem hi, Option.getD_some] at h2
        rw [h2, List.getElem_toArray, List.getElem_append_right (by simp; omega)]
        simp
    rw [he]
    exact hQ f a w hw h1
  intro f
  induction f with
  | zero => intro part listed a w hw hz hl inv h; exact fin 0 part listed a w hw hz hl inv h.1 h.2
  | succ f ih =>
    intro part listed a w hw hz hl inv h
    by_cases h0 : Region.ready .any (l.take n).toArray part = []
    · exact fin (f + 1) part listed a w hw hz hl inv h0 (h.1 h0)
    · have hr : ∀ i, i < n → (i ∈ Region.ready .any l.toArray listed ↔ i ∈ Region.ready .any (l.take n).toArray part) := fun i hi => by
        obtain ⟨o, ho, _, he⟩ := plainB_at hp hi
        rw [mem_ready, mem_ready, getD_lt hl hi true]
        have e1 : l.toArray[i]? = some o := by simp [ho]
        have e2 : (l.take n).toArray[i]? = some o := by simp [hi, ho]
        simp only [e1, e2, Option.some.injEq, exists_eq_left']
        constructor
        · rintro ⟨x, y⟩; exact ⟨x, fun e hm hb => by rw [← getD_lt hl (by have := he e hm hb; omega) false]; exact y e hm hb⟩
        · rintro ⟨x, y⟩; exact ⟨x, fun e hm hb => by rw [getD_lt hl (by have := he e hm hb; omega) false]; exact y e hm hb⟩
      obtain ⟨i0, hi0⟩ := List.exists_mem_of_ne_nil _ h0
      have hi0n : i0 < n := by
        obtain ⟨_, o, ho, _⟩ := mem_ready.1 hi0
        have := (Array.getElem?_eq_some_iff.1 ho).1
        simp only [List.size_toArray, List.length_take] at this
        omega
      have hu : listed.getD i0 true = false := (mem_ready.1 ((hr i0 hi0n).2 hi0)).1
      rw [show (l.length - n) + (f + 1) = ((l.length - n) + f) + 1 by omega]
      refine ⟨fun h1 => (by have := (hr i0 hi0n).2 hi0; rw [h1] at this; cases this), fun i hi => ?_⟩
      have hin : i < n := by
        rcases Nat.lt_or_ge i n with h1 | h1
        · exact h1
        · exact absurd hi (waits_mid hs hc (by simpa using hn) inv _ i0 rfl hi0n hu i h1)
      refine wpOp_of_qOp hw (fun a' w' hw' h3 => ih _ _ a' w' hw' ?_ ?_ (inv.set hi hin) h3) (qOp_head hp hin (h.2 i ((hr i hin).1 hi)))
      · simpa using hz
      · intro j hj
        have hsz := inv.size
        simp only [List.size_toArray] at hsz
        by_cases hij : i = j
        · subst hij
          rw [Array.getElem?_setIfInBounds_self_of_lt (by omega), Array.getElem?_setIfInBounds_self_of_lt (by omega)]
        · rw [Array.getElem?_setIfInBounds_ne hij, Array.getElem?_setIfInBounds_ne hij]; exact hl j hj


theorem anyQ_more {ops : Array Oper} {md : Region.Mode} {Q : Act → Prop} : ∀ (f x : Nat) (listed : Array Bool) (a : Act), wpAnyQ P md ops C Q f listed a → wpAnyQ P md ops C Q (f + x) listed a
  | 0, 0, _, _, h => h
  | 0, x + 1, _, _, h => by
    rw [Nat.zero_add]
    exact ⟨fun _ => h.2, fun i hi => by rw [h.1] at hi; cases hi⟩
  | f + 1, x, _, _, h => by
    rw [show f + 1 + x = (f + x) + 1 by omega]
    exact ⟨h.1, fun i hi => qOp_mono (fun a h' => anyQ_more f x _ a h') (h.2 i hi)⟩
def midB (l : List Oper) (n : Nat) : Bool :=
  decide (n < l.length) && plainB l n && Region.lexB .any (l.take n).toArray && Region.sinkB .any l.toArray n && laterB l n && (match l[n]? with | some o => o.guard.isNone | none => false) && Region.noSelect l.toArray &&
    Region.lexFrom .any l.toArray (l.length - (n + 1)) (n + 1) ((List.replicate n true ++ List.replicate (l.length - n) false).toArray.setIfInBounds n true) &&
    decide (Region.ready .any l.toArray ((List.replicate n true ++ List.replicate (l.length - n) false).toArray) = [n])
theorem wp_region_mid (n : Nat) {id : Nat} {Q : Exit → Act → World → Prop} {a : Act} {w : World} {l : List Oper} (hm : P.follows .mixedOrders = true) (hB : midB l n = true) (on : Oper) (hon : l[n]? = some on) (hC : C w.drew)
    (h : wpQuiet P (l.take n).toArray C (fun a' => ∀ w', C w' → wpList P l.toArray (Exit.then (fun a2 w2 => ∃ C2 : World → Prop, C2 w2 ∧ wpQuiet P l.toArray C2 (fun a3 => ∀ w3, C2 w3 → Q .normal a3 w3) (l.drop (n + 1)) a2) Q) [on] a' w') (l.take n) a) : (Code.region id l.toArray true).wp P Q a w := by
  simp only [midB, Bool.and_eq_true, decide_eq_true_eq, hon, Option.isNone_iff_eq_none] at hB
  obtain ⟨⟨⟨⟨⟨⟨⟨⟨hn, hp⟩, hlex⟩, hs⟩, hc⟩, hg⟩, hsel⟩, hlex2⟩, hrd⟩ := hB
  simp only [Region.lexB, Bool.and_eq_true] at hlex
  have htl : (l.take n).length = n := by simp; omega
  have H := wpAnyQ_lex (C := C) (md := .any) hlex.1 (l.take n) 0 (Array.replicate (l.take n).toArray.size false) a (by simp) (by simpa using hlex.2) h
  have inv0 : HeadInv .any l.toArray n (Array.replicate l.toArray.size false) :=
    ⟨by simp, fun j oj _ hl => (by rw [getD_replicate_false] at hl; cases hl), fun t _ ht => getD_in (by simpa using ht) (getD_replicate_false _ _)⟩
  refine wp_region_any hm ?_
  have hon' : l.toArray[n]? = some on := by simpa using hon
  have := sim_mid (C := C) hn hp hs hc (Q' := Q) (fun f a w hw hq => by
    rw [show l.length - n + f = ((l.length - (n + 1)) + f) + 1 by omega]
    refine ⟨fun h0 => (by rw [hrd] at h0; cases h0), fun i hi => ?_⟩
    rw [hrd] at hi
    obtain rfl : i = n := by simpa using hi
    have hw1 : wpOp P l.toArray (Exit.then (fun a2 w2 => ∃ C2 : World → Prop, C2 w2 ∧ wpQuiet P l.toArray C2 (fun a3 => ∀ w3, C2 w3 → Q .normal a3 w3) (l.drop (i + 1)) a2) Q) i (wpList P l.toArray (Exit.then (fun a2 w2 => ∃ C2 : World → Prop, C2 w2 ∧ wpQuiet P l.toArray C2 (fun a3 => ∀ w3, C2 w3 → Q .normal a3 w3) (l.drop (i + 1)) a2) Q) []) a w := by
      unfold wpOp; simp only [hon']; exact hq w hw
    refine wpOp_then hon' hon' hg (fun a2 w2 h2 => ?_) hw1
    obtain ⟨C2, hC2, hq2⟩ := h2
    have hdl : (l.drop (i + 1)).length = l.length - (i + 1) := by simp
    have H2 := wpAnyQ_lex (C := C2) (md := .any) hsel (l.drop (i + 1)) (i + 1) ((List.replicate i true ++ List.replicate (l.length - i) false).toArray.setIfInBounds i true) a2 (fun j => by simp [List.getElem?_drop]) (by rw [hdl]; exact hlex2) hq2
    rw [hdl] at H2
    exact wpAny_of_quiet (C := C2) (fun _ w' hw' h => h w' hw') _ _ _ _ hC2 (anyQ_more _ f _ _ H2)) _ _ (Array.replicate l.toArray.size false) a _ hC (by simp; omega) (fun i hi => by rw [Array.getElem?_replicate, Array.getElem?_replicate, if_pos (by simp; omega), if_pos (by simp; omega)]) inv0 H
  rw [htl, show l.length - n + n = l.toArray.size by simp; omega] at this
  exact this
end
end Go.Proofs.YtgaecjhghpkcoaaGreat
