/- A region that draws its order: a head of reads and of calls that write new memory alone, some allocations that may come up anywhere beside them, a tail in one forced order behind all. One walk of the head in the order of the text serves every order. -/
import Derived.Test.YtepooocdpifcfaaSt
namespace Go.Proofs.Ytepooocdpifcfaa
open Go Go.RowKit

/-- the slots of the allocations, put -/
def putF (Ds : List Tmp) (G : Nat → Option Nat) : Nat → Act → Act
  | 0, a => a
  | j + 1, a => match G j with
    | some g => (putF Ds G j a).put Ds[j]? (ptrTo g)
    | none => putF Ds G j a
/-- the blocks that they have made -/
def entF (cs : Nat → Array Value) (G : Nat → Option Nat) : Nat → List (Nat × Array Value)
  | 0 => []
  | j + 1 => match G j with
    | some g => (g, cs j) :: entF cs G j
    | none => entF cs G j
def undF (G : Nat → Option Nat) : Nat → Nat
  | 0 => 0
  | j + 1 => undF G j + (if (G j).isNone then 1 else 0)
def setF (G : Nat → Option Nat) (i g : Nat) : Nat → Option Nat := fun j => if j = i then some g else G j

theorem undF_zero {G : Nat → Option Nat} : ∀ {k : Nat}, undF G k = 0 → ∀ j, j < k → ∃ g, G j = some g
  | 0, _, j, hj => by omega
  | k + 1, h, j, hj => by
    simp only [undF] at h
    rcases Nat.lt_or_ge j k with h1 | h1
    · exact undF_zero (by omega) j h1
    · obtain rfl : j = k := by omega
      cases hg : G j with
      | none => simp [hg] at h
      | some g => exact ⟨g, rfl⟩
theorem undF_pos {G : Nat → Option Nat} : ∀ {k : Nat}, undF G k ≠ 0 → ∃ j, j < k ∧ G j = none
  | 0, h => (h rfl).elim
  | k + 1, h => by
    cases hg : G k with
    | none => exact ⟨k, by omega, hg⟩
    | some g =>
      obtain ⟨j, h1, h2⟩ := undF_pos (G := G) (k := k) (by simpa [undF, hg] using h)
      exact ⟨j, by omega, h2⟩
theorem undF_past (G : Nat → Option Nat) (i g : Nat) : ∀ {k : Nat}, k ≤ i → undF (setF G i g) k = undF G k
  | 0, _ => rfl
  | k + 1, h => by
    have : setF G i g k = G k := by unfold setF; rw [if_neg (by omega)]
    simp only [undF, this, undF_past G i g (show k ≤ i by omega)]
theorem undF_set {G : Nat → Option Nat} {i : Nat} (g : Nat) (hi : G i = none) : ∀ {k : Nat}, i < k → undF (setF G i g) k + 1 = undF G k
  | 0, h => by omega
  | k + 1, h => by
    by_cases h1 : i = k
    · subst h1
      have : setF G i g i = some g := by unfold setF; rw [if_pos rfl]
      simp only [undF, this, hi, undF_past G i g (Nat.le_refl i)]
      simp
    · have : setF G i g k = G k := by unfold setF; rw [if_neg (Ne.symm h1)]
      have h2 := undF_set g hi (k := k) (by omega)
      simp only [undF, this]; omega
theorem entF_past (cs : Nat → Array Value) (G : Nat → Option Nat) (i g : Nat) : ∀ {k : Nat}, k ≤ i → entF cs (setF G i g) k = entF cs G k
  | 0, _ => rfl
  | k + 1, h => by
    have : setF G i g k = G k := by unfold setF; rw [if_neg (by omega)]
    simp only [entF, this, entF_past cs G i g (show k ≤ i by omega)]
theorem entF_set (cs : Nat → Array Value) {G : Nat → Option Nat} {i : Nat} (g : Nat) (hi : G i = none) : ∀ {k : Nat}, i < k → (entF cs (setF G i g) k).Perm ((g, cs i) :: entF cs G k)
  | 0, h => by omega
  | k + 1, h => by
    by_cases h1 : i = k
    · subst h1
      have : setF G i g i = some g := by unfold setF; rw [if_pos rfl]
      simp only [entF, this, hi, entF_past cs G i g (Nat.le_refl i)]
      exact .refl _
    · have : setF G i g k = G k := by unfold setF; rw [if_neg (Ne.symm h1)]
      have h2 := entF_set cs g hi (k := k) (by omega)
      simp only [entF, this]
      cases G k with
      | none => exact h2
      | some x => exact (h2.cons (x, cs k)).trans (.swap _ _ _)
theorem St.perm {w0 w : World} {L L' : List (Nat × Array Value)} (h : St w0 L w) (hp : L'.Perm L) : St w0 L' w :=
  ⟨h.below, (hp.map Prod.fst).nodup_iff.2 h.ne, fun x hx => h.rows x (hp.mem_iff.1 hx)⟩

theorem putF_past (Ds : List Tmp) (G : Nat → Option Nat) (i g : Nat) (a : Act) : ∀ {k : Nat}, k ≤ i → putF Ds (setF G i g) k a = putF Ds G k a
  | 0, _ => rfl
  | k + 1, h => by
    have : setF G i g k = G k := by unfold setF; rw [if_neg (by omega)]
    simp only [putF, this, putF_past Ds G i g a (show k ≤ i by omega)]
theorem putF_put (Ds : List Tmp) (G : Nat → Option Nat) (a : Act) {x : Option Tmp} (v : Value) (hx : ∀ d, x = some d → d ∉ Ds) : ∀ {k : Nat}, putF Ds G k (a.put x v) = (putF Ds G k a).put x v
  | 0 => rfl
  | k + 1 => by
    simp only [putF]
    cases G k with
    | none => exact putF_put Ds G a v hx
    | some g =>
      show (putF Ds G k (a.put x v)).put Ds[k]? (ptrTo g) = ((putF Ds G k a).put Ds[k]? (ptrTo g)).put x v
      rw [putF_put Ds G a v hx]
      exact Act.put_comm _ (x := x) (y := Ds[k]?) v (ptrTo g) (fun d hd he => hx d hd (List.mem_of_getElem? he))
theorem putF_set (Ds : List Tmp) (hn : Ds.Nodup) {G : Nat → Option Nat} {i : Nat} (g : Nat) (a : Act) (hi : G i = none) : ∀ {k : Nat}, i < k → k ≤ Ds.length → putF Ds (setF G i g) k a = (putF Ds G k a).put Ds[i]? (ptrTo g)
  | 0, h, _ => by omega
  | k + 1, h, hk => by
    by_cases h1 : i = k
    · subst h1
      have : setF G i g i = some g := by unfold setF; rw [if_pos rfl]
      simp only [putF, this, hi, putF_past Ds G i g a (Nat.le_refl i)]
    · have : setF G i g k = G k := by unfold setF; rw [if_neg (Ne.symm h1)]
      have h2 := putF_set Ds hn g a hi (k := k) (by omega) (by omega)
      simp only [putF, this]
      cases G k with
      | none => exact h2
      | some x =>
        show (putF Ds (setF G i g) k a).put Ds[k]? (ptrTo x) = ((putF Ds G k a).put Ds[k]? (ptrTo x)).put Ds[i]? (ptrTo g)
        rw [h2]
        refine Act.put_comm _ (x := Ds[i]?) (y := Ds[k]?) (ptrTo g) (ptrTo x) (fun d hd he => ?_)
        exact h1 ((List.getElem?_inj (i := i) (j := k) (by omega) hn).1 (hd.trans he.symm))

/-- the head is plain and keeps off the allocations' slots; the allocations wait for nothing; the tail is forced -/
def floatsB (l : List Oper) (n : Nat) (Ds : List Tmp) : Bool :=
  decide (n + Ds.length < l.length) && plainB l n && (List.range n).all (fun i => match l[i]? with | some o => Ds.all (fun d => o.dst != some d && !(o.looksAt l.toArray).contains d) | none => false) &&
    decide Ds.Nodup && (List.range Ds.length).all (fun j => match l[n + j]? with | some o => o.guard.isNone && o.after.isEmpty && o.dst == Ds[j]? | none => false) && Region.noSelect l.toArray && Region.lexB .any (l.take n).toArray && Region.sinkB .any l.toArray (n + Ds.length) && Region.chainB .any l.toArray (n + Ds.length) &&
    Region.seqB .any l.toArray (l.length - (n + Ds.length)) (n + Ds.length) ((List.replicate (n + Ds.length) true ++ List.replicate (l.length - (n + Ds.length)) false).toArray)

section
variable {P : Program} {w0 : World} {L : List (Nat × Array Value)}

theorem stepAt_putF {l : List Oper} {o : Oper} {Ds : List Tmp} {G : Nat → Option Nat} {a : Act} {w : World} {v : Value} (hs : Region.noSelect l.toArray = true) {i : Nat} (ho : l.toArray[i]? = some o) (hd : ∀ d ∈ Ds, d ∉ o.looksAt l.toArray) (h : stepAt P o a w v) : ∀ {k : Nat}, stepAt P o (putF Ds G k a) w v
  | 0 => h
  | k + 1 => by
    have ih := stepAt_putF (G := G) hs ho hd h (k := k)
    simp only [putF]
    cases G k with
    | none => exact ih
    | some g =>
      show stepAt P o ((putF Ds G k a).put Ds[k]? (ptrTo g)) w v
      unfold stepAt at *
      rwa [execOp_put (ops := l.toArray) o (Region.noSelect_spec hs i o · · ho) _ Ds[k]? (ptrTo g) (fun d he => hd d (List.mem_of_getElem? he))]

theorem simFs {l : List Oper} {n : Nat} {Ds : List Tmp} {cs : Nat → Array Value} {ty : Nat → TypeId} (hB : floatsB l n Ds = true)
    (hal : ∀ j o, j < Ds.length → l[n + j]? = some o → ∀ (w : World) (a : Act), (execOp a.eval o).run P w = .ok (.value (ptrTo w.heap.size)) (w.alloc (.cells (cs j) (ty j))))
    {Q : Act → Prop} {Q' : Exit → Act → World → Prop}
    (hQ : ∀ a w (gs : Nat → Nat), St w0 (entF cs (fun j => some (gs j)) Ds.length ++ L) w → Q a → wpList P l.toArray Q' (l.drop (n + Ds.length)) (putF Ds (fun j => some (gs j)) Ds.length a) w) :
    ∀ (N f : Nat) (G : Nat → Option Nat) (part listed : Array Bool) (a : Act) (w : World), f + undF G Ds.length = N → St w0 (entF cs G Ds.length ++ L) w → part.size = n → (∀ i, i < n → listed[i]? = part[i]?) →
      (∀ j, j < Ds.length → listed.getD (n + j) false = (G j).isSome) → HeadInv .any l.toArray (n + Ds.length) listed → wpAnyB P .any (l.take n).toArray (St w0 L) Q f part a →
      wpAny P .any l.toArray Q' ((l.length - (n + Ds.length)) + N) listed (putF Ds G Ds.length a) w := by
  simp only [floatsB, Bool.and_eq_true, decide_eq_true_eq] at hB
  obtain ⟨⟨⟨⟨⟨⟨⟨⟨⟨hn, hp⟩, hd⟩, hnd⟩, ho⟩, hsel⟩, _⟩, hs⟩, hc⟩, hq⟩ := hB
  have hsz : n + Ds.length < l.toArray.size := by simpa using hn
  have hhead : ∀ i, i < n → ∃ o, l[i]? = some o ∧ o.guard = none ∧ (∀ e ∈ o.after, Region.binds .any e = true → e.on < i) ∧ (∀ d, o.dst = some d → d ∉ Ds) ∧ (∀ d ∈ Ds, d ∉ o.looksAt l.toArray) := fun i hi => by
    obtain ⟨o, h1, h2, h3⟩ := plainB_at hp hi
    have h4 := List.all_eq_true.1 hd i (List.mem_range.2 hi)
    simp only [h1, List.all_eq_true, Bool.and_eq_true, bne_iff_ne, Bool.not_eq_true', ← Bool.not_eq_true, List.contains_iff_mem] at h4
    exact ⟨o, h1, h2, h3, fun d h5 h6 => (h4 d h6).1 h5, fun d h6 => (h4 d h6).2⟩
  have hfl : ∀ j, j < Ds.length → ∃ o, l[n + j]? = some o ∧ o.guard = none ∧ o.after = #[] ∧ o.dst = Ds[j]? := fun j hj => by
    have h4 := List.all_eq_true.1 ho j (List.mem_range.2 hj)
    split at h4
    · rename_i o h5
      simp only [Bool.and_eq_true, Option.isNone_iff_eq_none, Array.isEmpty_iff, beq_iff_eq] at h4
      exact ⟨o, h5, h4.1.1, h4.1.2, h4.2⟩
    · cases h4
  have hr : ∀ (part listed : Array Bool), (∀ i, i < n → listed[i]? = part[i]?) → ∀ i, i < n → (i ∈ Region.ready .any l.toArray listed ↔ i ∈ Region.ready .any (l.take n).toArray part) := fun part listed hl i hi => by
    obtain ⟨o, ho, _, he, _⟩ := hhead i hi
    rw [mem_ready, mem_ready, getD_lt hl hi true]
    have e1 : l.toArray[i]? = some o := by simp [ho]
    have e2 : (l.take n).toArray[i]? = some o := by simp [hi, ho]
    simp only [e1, e2, Option.some.injEq, exists_eq_left']
    constructor
    · rintro ⟨x, y⟩; exact ⟨x, fun e hm hb => by rw [← getD_lt hl (by have := he e hm hb; omega) false]; exact y e hm hb⟩
    · rintro ⟨x, y⟩; exact ⟨x, fun e hm hb => by rw [getD_lt hl (by have := he e hm hb; omega) false]; exact y e hm hb⟩
  -- all is done: the tail
  have fin : ∀ (x : Nat) (G : Nat → Option Nat) (part listed : Array Bool) (a : Act) (w : World), undF G Ds.length = 0 → St w0 (entF cs G Ds.length ++ L) w → part.size = n → (∀ i, i < n → listed[i]? = part[i]?) →
      (∀ j, j < Ds.length → listed.getD (n + j) false = (G j).isSome) → HeadInv .any l.toArray (n + Ds.length) listed → Region.ready .any (l.take n).toArray part = [] → Q a →
      wpAny P .any l.toArray Q' ((l.length - (n + Ds.length)) + x) listed (putF Ds G Ds.length a) w := by
    intro x G part listed a w hu hw hz hl hlf inv h0 h1
    have hall := all_listed hp hz h0
    have hG := undF_zero hu
    obtain ⟨gs, hgs⟩ : ∃ gs : Nat → Nat, ∀ j, j < Ds.length → G j = some (gs j) := ⟨fun j => (G j).getD 0, fun j hj => by obtain ⟨g, hg⟩ := hG j hj; simp [hg]⟩
    have eP : ∀ k, k ≤ Ds.length → putF Ds G k a = putF Ds (fun j => some (gs j)) k a := fun k => by
      induction k with
      | zero => intro _; rfl
      | succ k ih => intro hk; simp only [putF, hgs k (by omega), ih (by omega)]
    have eE : ∀ k, k ≤ Ds.length → entF cs G k = entF cs (fun j => some (gs j)) k := fun k => by
      induction k with
      | zero => intro _; rfl
      | succ k ih => intro hk; simp only [entF, hgs k (by omega), ih (by omega)]
    have he : listed = (List.replicate (n + Ds.length) true ++ List.replicate (l.length - (n + Ds.length)) false).toArray := by
      have hsz := inv.size
      simp only [List.size_toArray] at hsz
      refine Array.ext (by simp [hsz]; omega) fun i hi _ => ?_
      by_cases hin : i < n + Ds.length
      · have h2 : listed.getD i false = true := by
          by_cases hi2 : i < n
          · have h2 := hall i hi2
            rwa [← getD_lt hl hi2 false] at h2
          · have h3 := hlf (i - n) (by omega)
            rw [show n + (i - n) = i by omega, hgs _ (by omega)] at h3
            exact h3
        simp only [Array.getD_eq_getD_getElem?, Array.getElem?_eq_getElem hi, Option.getD_some] at h2
        simp only [h2, List.getElem_toArray]
        rw [List.getElem_append_left (by simp; omega)]
        simp
      · have h2 := inv.tail i (by omega) (by simp only [List.size_toArray]; omega)
        simp only [Array.getD_eq_getD_getElem?, Array.getElem?_eq_getElem hi, Option.getD_some] at h2
        rw [h2, List.getElem_toArray, List.getElem_append_right (by simp; omega)]
        simp
    have hdl : (l.drop (n + Ds.length)).length = l.length - (n + Ds.length) := by simp
    rw [← hdl]
    refine any_tail x (l.drop (n + Ds.length)) (n + Ds.length) listed _ w (fun j => by simp [List.getElem?_drop]) ?_ (by rw [eP _ (Nat.le_refl _)]; exact hQ _ _ gs (by rw [← eE _ (Nat.le_refl _)]; exact hw) h1)
    rw [hdl, he]; exact hq
  intro N
  induction N with
  | zero =>
    intro f G part listed a w hN hw hz hl hlf inv h
    obtain rfl : f = 0 := by omega
    exact fin 0 G part listed a w (by omega) hw hz hl hlf inv h.1 h.2
  | succ N ih =>
    intro f G part listed a w hN hw hz hl hlf inv h
    have hlsz := inv.size
    simp only [List.size_toArray] at hlsz
    -- is anything left ahead of the tail?
    by_cases hdone : undF G Ds.length = 0 ∧ Region.ready .any (l.take n).toArray part = []
    · have hq1 : Q a := by cases f with | zero => exact h.2 | succ f => exact h.1 hdone.2
      exact fin (N + 1) G part listed a w hdone.1 hw hz hl hlf inv hdone.2 hq1
    have hready : ∃ i0, i0 < n + Ds.length ∧ i0 ∈ Region.ready .any l.toArray listed := by
      by_cases hu : undF G Ds.length = 0
      · have h0 : Region.ready .any (l.take n).toArray part ≠ [] := fun e => hdone ⟨hu, e⟩
        obtain ⟨i0, hi0⟩ := List.exists_mem_of_ne_nil _ h0
        have hi0n : i0 < n := by
          obtain ⟨_, o, ho, _⟩ := mem_ready.1 hi0
          have := (Array.getElem?_eq_some_iff.1 ho).1
          simp only [List.size_toArray, List.length_take] at this
          omega
        exact ⟨i0, by omega, (hr part listed hl i0 hi0n).2 hi0⟩
      · obtain ⟨j, hj, hg⟩ := undF_pos hu
        obtain ⟨o, h1, _, h3, _⟩ := hfl j hj
        have h4 := hlf j hj
        rw [hg] at h4
        exact ⟨n + j, by omega, mem_ready.2 ⟨getD_in (by omega) (by simpa using h4), o, by simp [h1], fun e he => by rw [h3] at he; simp at he⟩⟩
    obtain ⟨i0, hi0m, hi0⟩ := hready
    rw [show (l.length - (n + Ds.length)) + (N + 1) = ((l.length - (n + Ds.length)) + N) + 1 by omega]
    refine ⟨fun h1 => (by rw [h1] at hi0; cases hi0), fun i hi => ?_⟩
    have him : i < n + Ds.length := by
      rcases Nat.lt_or_ge i (n + Ds.length) with h1 | h1
      · exact h1
      · exact absurd hi (tail_waits hs hc hsz inv _ i0 rfl hi0m (mem_ready.1 hi0).1 i h1)
    by_cases hin : i < n
    · -- an operation of the head
      have hir := (hr part listed hl i hin).1 hi
      obtain ⟨f, rfl⟩ : ∃ f', f = f' + 1 := by
        cases f with
        | zero => rw [h.1] at hir; cases hir
        | succ f => exact ⟨f, rfl⟩
      obtain ⟨o, ho1, hg1, _, h1, h2⟩ := hhead i hin
      have h3 := h.2 i hir
      unfold bOp at h3
      have e2 : (l.take n).toArray[i]? = some o := by simp [hin, ho1]
      simp only [e2] at h3
      obtain ⟨v, h4, h5⟩ := h3
      have e1 : l.toArray[i]? = some o := by simp [ho1]
      have hw1 : St w0 L w := by
        refine hw.weaken ?_ (fun x hx => by simp [hx])
        have := hw.ne
        simp only [List.map_append, List.nodup_append] at this
        exact this.2.1
      have hat : stepAt P o (putF Ds G Ds.length a) w v := stepAt_putF hsel e1 h2 (h4 w hw1)
      unfold wpOp
      simp only [e1, Region.wanted, hg1, if_true]
      refine .inl (wp_of_step hat fun w' hb => ?_)
      rw [← putF_put Ds G a v h1]
      refine ih f G _ _ _ w' (by omega) (hw.call hb) (by simpa using hz) (fun j hj => ?_) (fun j hj => ?_) (inv.set hi (by omega)) h5
      · by_cases hij : i = j
        · subst hij
          rw [Array.getElem?_setIfInBounds_self_of_lt (by omega), Array.getElem?_setIfInBounds_self_of_lt (by omega)]
        · rw [Array.getElem?_setIfInBounds_ne hij, Array.getElem?_setIfInBounds_ne hij]; exact hl j hj
      · rw [getD_set_ne false (by omega)]; exact hlf j hj
    · -- an allocation
      obtain ⟨j, hj, rfl⟩ : ∃ j, j < Ds.length ∧ i = n + j := ⟨i - n, by omega, by omega⟩
      obtain ⟨o, h1, h2, h3, h4⟩ := hfl j hj
      have e1 : l.toArray[n + j]? = some o := by simp [h1]
      have hun : G j = none := by
        have h5 := hlf j hj
        have h6 := getD_both (mem_ready.1 hi).1
        rw [h6] at h5
        cases hg : G j with
        | none => rfl
        | some g => rw [hg] at h5; cases h5
      unfold wpOp
      simp only [e1, Region.wanted, h2, if_true]
      refine .inl ?_
      unfold Oper.wp
      rw [hal j o hj h1 w _]
      simp only [Oper.upon, h4]
      rw [← putF_set Ds hnd w.heap.size a hun hj (Nat.le_refl _)]
      refine ih f (setF G j w.heap.size) part _ a _ (by have := undF_set w.heap.size hun hj; omega) ?_ hz (fun i hi => ?_) (fun i hi => ?_) (inv.set hi (by omega)) h
      · refine (hw.push (cs j) (ty j)).perm ?_
        exact ((entF_set cs w.heap.size hun hj).append_right L)
      · rw [Array.getElem?_setIfInBounds_ne (by omega)]; exact hl i hi
      · by_cases hij : i = j
        · subst hij
          simp only [setF, if_true, Option.isSome_some]
          simp; omega
        · rw [getD_set_ne false (by omega), hlf i hi]
          simp only [setF, if_neg hij]

/-- **A region whose head writes new memory alone, allocations that come up anywhere, a tail in one forced order behind all.** -/
theorem St.region_floats (n : Nat) (Ds : List Tmp) (cs : Nat → Array Value) (ty : Nat → TypeId) {id : Nat} {Q : Exit → Act → World → Prop} {a : Act} {w : World} {l : List Oper} (h0 : St w0 L w) (hm : P.follows .mixedOrders = true) (hB : floatsB l n Ds = true)
    (hal : ∀ j o, j < Ds.length → l[n + j]? = some o → ∀ (w : World) (a : Act), (execOp a.eval o).run P w = .ok (.value (ptrTo w.heap.size)) (w.alloc (.cells (cs j) (ty j))))
    (h : walkB P (St w0 L) (fun a' => ∀ w' (gs : Nat → Nat), St w0 (entF cs (fun j => some (gs j)) Ds.length ++ L) w' → wpList P l.toArray Q (l.drop (n + Ds.length)) (putF Ds (fun j => some (gs j)) Ds.length a') w') (l.take n) a) : (Code.region id l.toArray true).wp P Q a w := by
  have hB' := hB
  simp only [floatsB, Bool.and_eq_true, decide_eq_true_eq] at hB'
  obtain ⟨⟨⟨⟨⟨⟨⟨⟨⟨hn, _⟩, _⟩, _⟩, _⟩, _⟩, hlex⟩, _⟩, _⟩, _⟩ := hB'
  simp only [Region.lexB, Bool.and_eq_true] at hlex
  have htl : (l.take n).length = n := by simp; omega
  have H := wpAnyB_lex (C := St w0 L) (md := .any) hlex.1 (l.take n) 0 (Array.replicate (l.take n).toArray.size false) a (by simp) (by simpa using hlex.2) h
  have inv0 : HeadInv .any l.toArray (n + Ds.length) (Array.replicate l.toArray.size false) :=
    ⟨by simp, fun j oj _ hl => (by rw [getD_replicate_false] at hl; cases hl), fun t _ ht => getD_in (by simpa using ht) (getD_replicate_false _ _)⟩
  have hu : ∀ k, undF (fun _ => none) k = k := fun k => by
    induction k with
    | zero => rfl
    | succ k ih => simp [undF, ih]
  have he : ∀ k, entF cs (fun _ => none) k = [] := fun k => by
    induction k with
    | zero => rfl
    | succ k ih => simp [entF, ih]
  have hp : ∀ k, putF Ds (fun _ => none) k a = a := fun k => by
    induction k with
    | zero => rfl
    | succ k ih => simp [putF, ih]
  refine wp_region_any hm ?_
  have := simFs (P := P) hB hal (Q := fun a' => ∀ w' (gs : Nat → Nat), St w0 (entF cs (fun j => some (gs j)) Ds.length ++ L) w' → wpList P l.toArray Q (l.drop (n + Ds.length)) (putF Ds (fun j => some (gs j)) Ds.length a') w') (Q' := Q) (fun a w gs hw hq => hq w gs hw) (n + Ds.length) n (fun _ => none)
    (Array.replicate (l.take n).toArray.size false) (Array.replicate l.toArray.size false) a w.drew (by rw [hu]) (by rw [he]; exact h0.drew) (by simp; omega) (fun i hi => by rw [Array.getElem?_replicate, Array.getElem?_replicate, if_pos (by simp; omega), if_pos (by simp; omega)])
    (fun j _ => by rw [getD_replicate_false]; rfl) inv0 (by rw [htl] at H; exact H)
  rw [hp, show l.length - (n + Ds.length) + (n + Ds.length) = l.toArray.size by simp; omega] at this
  exact this
/-- two of them -/
theorem St.region_float2 (n : Nat) (d1 d2 : Tmp) (cs1 cs2 : Array Value) (t1 t2 : TypeId) {id : Nat} {Q : Exit → Act → World → Prop} {a : Act} {w : World} {l : List Oper} (h0 : St w0 L w) (hm : P.follows .mixedOrders = true) (hB : floatsB l n [d1, d2] = true) (o1 o2 : Oper) (e1 : l[n]? = some o1) (e2 : l[n + 1]? = some o2)
    (h1 : ∀ (w : World) (a : Act), (execOp a.eval o1).run P w = .ok (.value (ptrTo w.heap.size)) (w.alloc (.cells cs1 t1))) (h2 : ∀ (w : World) (a : Act), (execOp a.eval o2).run P w = .ok (.value (ptrTo w.heap.size)) (w.alloc (.cells cs2 t2)))
    (h : walkB P (St w0 L) (fun a' => ∀ w' g1 g2, St w0 ((g2, cs2) :: (g1, cs1) :: L) w' → wpList P l.toArray Q (l.drop (n + 2)) ((a'.put (some d1) (ptrTo g1)).put (some d2) (ptrTo g2)) w') (l.take n) a) : (Code.region id l.toArray true).wp P Q a w := by
  refine St.region_floats (w0 := w0) (L := L) n [d1, d2] (fun j => if j = 0 then cs1 else cs2) (fun j => if j = 0 then t1 else t2) h0 hm hB ?_ (walkB_mono (fun a' hq w' gs hw => ?_) _ _ h)
  · intro j o hj ho w a
    match j, hj with
    | 0, _ => rw [Nat.add_zero, e1] at ho; cases ho; exact h1 w a
    | 1, _ => rw [e2] at ho; cases ho; exact h2 w a
  · exact hq w' (gs 0) (gs 1) (by simpa [entF] using hw)
/-- three of them -/
theorem St.region_float3 (n : Nat) (d1 d2 d3 : Tmp) (cs1 cs2 cs3 : Array Value) (t1 t2 t3 : TypeId) {id : Nat} {Q : Exit → Act → World → Prop} {a : Act} {w : World} {l : List Oper} (h0 : St w0 L w) (hm : P.follows .mixedOrders = true) (hB : floatsB l n [d1, d2, d3] = true) (o1 o2 o3 : Oper) (e1 : l[n]? = some o1) (e2 : l[n + 1]? = some o2) (e3 : l[n + 2]? = some o3)
    (h1 : ∀ (w : World) (a : Act), (execOp a.eval o1).run P w = .ok (.value (ptrTo w.heap.size)) (w.alloc (.cells cs1 t1))) (h2 : ∀ (w : World) (a : Act), (execOp a.eval o2).run P w = .ok (.value (ptrTo w.heap.size)) (w.alloc (.cells cs2 t2)))
    (h3 : ∀ (w : World) (a : Act), (execOp a.eval o3).run P w = .ok (.value (ptrTo w.heap.size)) (w.alloc (.cells cs3 t3)))
    (h : walkB P (St w0 L) (fun a' => ∀ w' g1 g2 g3, St w0 ((g3, cs3) :: (g2, cs2) :: (g1, cs1) :: L) w' → wpList P l.toArray Q (l.drop (n + 3)) (((a'.put (some d1) (ptrTo g1)).put (some d2) (ptrTo g2)).put (some d3) (ptrTo g3)) w') (l.take n) a) : (Code.region id l.toArray true).wp P Q a w := by
  refine St.region_floats (w0 := w0) (L := L) n [d1, d2, d3] (fun j => if j = 0 then cs1 else if j = 1 then cs2 else cs3) (fun j => if j = 0 then t1 else if j = 1 then t2 else t3) h0 hm hB ?_ (walkB_mono (fun a' hq w' gs hw => ?_) _ _ h)
  · intro j o hj ho w a
    match j, hj with
    | 0, _ => rw [Nat.add_zero, e1] at ho; cases ho; exact h1 w a
    | 1, _ => rw [e2] at ho; cases ho; exact h2 w a
    | 2, _ => rw [e3] at ho; cases ho; exact h3 w a
  · exact hq w' (gs 0) (gs 1) (gs 2) (by simpa [entF] using hw)
end
end Go.Proofs.Ytepooocdpifcfaa
