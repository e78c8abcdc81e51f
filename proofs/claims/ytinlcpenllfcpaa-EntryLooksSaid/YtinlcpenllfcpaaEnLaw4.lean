/- When two values are the same, as the document says; what Back makes of a value. No program stands in this text; no condition beside those that each law names. -/
import Derived.Test.YtinlcpenllfcpaaEnLaw3
namespace Go.Proofs.Ytinlcpenllfcpaa
open Go.RowKit

mutual
def rSame : Nd → Nd → Bool
  | .mk k n s kids names, .mk k' n' s' kids' names' => if k ≠ k' then false else if k = 1 then (decide (n = 1) == decide (n' = 1)) else if k = 2 then decide (n = n') else if k = 3 then decide (s = s') else if k < 4 then true else if kids.length ≠ kids'.length then false else sameLs (decide (k = 5)) names names' 0 kids kids'
def sameLs (p : Bool) (nm nm' : List ByteArray) : Nat → List Nd → List Nd → Bool
  | i, x :: l, y :: l' => if p = true ∧ nameOf nm i ≠ nameOf nm' i then false else if rSame x y = false then false else sameLs p nm nm' (i + 1) l l'
  | _, [], _ => true
  | _, _ :: _, [] => true
end
theorem sameLs_put (p : Bool) (nm nm' : List ByteArray) : ∀ (l l' : List Nd) (i : Nat), (∀ x ∈ l, ∀ y, rSame x y = true → ndPut x = ndPut y) → l.length = l'.length → sameLs p nm nm' i l l' = true → putL p nm i l = putL p nm' i l'
  | [], [], i, _, _, _ => by rw [putL, putL]
  | [], _ :: _, _, _, h, _ => by cases h
  | _ :: _, [], _, _, h, _ => by cases h
  | x :: l, y :: l', i, ih, hl, h => by
    rw [sameLs] at h
    by_cases c1 : p = true ∧ nameOf nm i ≠ nameOf nm' i
    · rw [if_pos c1] at h; cases h
    rw [if_neg c1] at h
    by_cases c2 : rSame x y = false
    · rw [if_pos c2] at h; cases h
    rw [if_neg c2] at h
    have e1 := ih x (.head _) y (by simpa using c2)
    have e2 := sameLs_put p nm nm' l l' (i + 1) (fun z hz => ih z (.tail _ hz)) (by simpa using hl) h
    rw [putL, putL, e1, e2]
    by_cases hp : p = true
    · rw [if_pos hp, if_pos hp, Decidable.of_not_not fun h => c1 ⟨hp, h⟩]
    · rw [if_neg hp, if_neg hp]
theorem rSame_put : ∀ x y, rSame x y = true → ndPut x = ndPut y := by
  refine Nd.ind fun k n s kids names ih => ?_
  intro y
  obtain ⟨k', n', s', kids', names'⟩ := y
  intro h
  rw [rSame] at h
  by_cases hk : k ≠ k'
  · rw [if_pos hk] at h; cases h
  rw [if_neg hk] at h
  obtain rfl : k = k' := Decidable.of_not_not hk
  rw [ndPut, ndPut]
  by_cases e0 : k = 0
  · rw [if_pos e0, if_pos e0]
  rw [if_neg e0, if_neg e0]
  by_cases e1 : k = 1
  · rw [if_pos e1] at h
    rw [if_pos e1, if_pos e1]
    have h := beq_iff_eq.1 h
    rw [decide_eq_decide] at h
    by_cases hn : n = 1
    · rw [if_pos hn, if_pos (h.1 hn)]
    · rw [if_neg hn, if_neg fun k => hn (h.2 k)]
  rw [if_neg e1] at h
  rw [if_neg e1, if_neg e1]
  by_cases e2 : k = 2
  · rw [if_pos e2] at h
    rw [if_pos e2, if_pos e2, of_decide_eq_true h]
  rw [if_neg e2] at h
  rw [if_neg e2, if_neg e2]
  by_cases e3 : k = 3
  · rw [if_pos e3] at h
    rw [if_pos e3, if_pos e3, of_decide_eq_true h]
  rw [if_neg e3, if_neg (show ¬ k < 4 by omega)] at h
  rw [if_neg e3, if_neg e3]
  by_cases hl : kids.length ≠ kids'.length
  · rw [if_pos hl] at h; cases h
  rw [if_neg hl] at h
  have hl : kids.length = kids'.length := Decidable.of_not_not hl
  by_cases e4 : k = 4
  · rw [show decide (k = 5) = false from decide_eq_false (by omega)] at h
    rw [if_pos e4, if_pos e4, hl, sameLs_put false names names' kids kids' 0 ih hl h]
  rw [if_neg e4, if_neg e4]
  by_cases e5 : k = 5
  · rw [show decide (k = 5) = true from decide_eq_true e5] at h
    rw [if_pos e5, if_pos e5, hl, sameLs_put true names names' kids kids' 0 ih hl h]
  · rw [if_neg e5, if_neg e5]
theorem sameLs_norm (p : Bool) (nm nm' : List ByteArray) : ∀ (l l' : List Nd) (i : Nat), (∀ x ∈ l, ∀ y, ndNorm x = ndNorm y → rSame x y = true) → normL l = normL l' → (p = true → ∀ j, j < l.length → nameOf nm (i + j) = nameOf nm' (i + j)) → sameLs p nm nm' i l l' = true
  | [], l', i, _, _, _ => by rw [sameLs]
  | _ :: _, [], i, _, _, _ => by rw [sameLs]
  | x :: l, y :: l', i, ih, hl, hn => by
    rw [normL, normL] at hl
    injection hl with h1 h2
    rw [sameLs, if_neg (fun h => h.2 (by have := hn h.1 0 (Nat.succ_pos _); rwa [Nat.add_zero] at this)), ih x (.head _) y h1, if_neg (by decide)]
    refine sameLs_norm p nm nm' l l' (i + 1) (fun z hz => ih z (.tail _ hz)) h2 fun hp j hj => ?_
    have := hn hp (j + 1) (by rw [List.length_cons]; omega)
    rw [show i + 1 + j = i + (j + 1) by omega]
    exact this
theorem norm_kind (k n : Nat) (s : ByteArray) (kids : List Nd) (names : List ByteArray) : (ndNorm (.mk k n s kids names)).kind = k := by
  rw [ndNorm]
  by_cases e0 : k = 0
  · rw [if_pos e0, e0]; rfl
  rw [if_neg e0]
  by_cases e1 : k = 1
  · rw [if_pos e1, e1]; rfl
  rw [if_neg e1]
  by_cases e2 : k = 2
  · rw [if_pos e2, e2]; rfl
  rw [if_neg e2]
  by_cases e3 : k = 3
  · rw [if_pos e3, e3]; rfl
  rw [if_neg e3]
  rfl
theorem rSame_norm : ∀ x y, ndNorm x = ndNorm y → rSame x y = true := by
  refine Nd.ind fun k n s kids names ih => ?_
  intro y
  obtain ⟨k', n', s', kids', names'⟩ := y
  intro h
  have hk : k = k' := by have := congrArg Nd.kind h; rwa [norm_kind, norm_kind] at this
  subst hk
  rw [rSame, if_neg (fun h => h rfl)]
  rw [ndNorm, ndNorm] at h
  by_cases e1 : k = 1
  · rw [if_neg (show ¬ k = 0 by omega), if_neg (show ¬ k = 0 by omega), if_pos e1, if_pos e1] at h
    rw [if_pos e1]
    injection h with _ h2
    rw [beq_iff_eq, decide_eq_decide]
    by_cases a : n = 1
    · rw [if_pos a] at h2
      by_cases b : n' = 1
      · exact ⟨fun _ => b, fun _ => a⟩
      · rw [if_neg b] at h2; cases h2
    · rw [if_neg a] at h2
      by_cases b : n' = 1
      · rw [if_pos b] at h2; cases h2
      · exact ⟨fun h => absurd h a, fun h => absurd h b⟩
  rw [if_neg e1]
  by_cases e2 : k = 2
  · rw [if_neg (show ¬ k = 0 by omega), if_neg (show ¬ k = 0 by omega), if_neg e1, if_neg e1, if_pos e2, if_pos e2] at h
    rw [if_pos e2]
    injection h with _ h2
    exact decide_eq_true h2
  rw [if_neg e2]
  by_cases e3 : k = 3
  · rw [if_neg (show ¬ k = 0 by omega), if_neg (show ¬ k = 0 by omega), if_neg e1, if_neg e1, if_neg e2, if_neg e2, if_pos e3, if_pos e3] at h
    rw [if_pos e3]
    injection h with _ _ h2
    exact decide_eq_true h2
  rw [if_neg e3]
  by_cases e4 : k < 4
  · rw [if_pos e4]
  rw [if_neg e4]
  rw [if_neg (show ¬ k = 0 by omega), if_neg (show ¬ k = 0 by omega), if_neg e1, if_neg e1, if_neg e2, if_neg e2, if_neg e3, if_neg e3] at h
  injection h with _ _ _ h3 h4
  have hl : kids.length = kids'.length := by
    have := congrArg List.length h3
    rwa [normL_map, normL_map, List.length_map, List.length_map] at this
  rw [if_neg (fun h => h hl)]
  refine sameLs_norm _ names names' kids kids' 0 ih h3 fun hp j hj => ?_
  have hp := of_decide_eq_true hp
  rw [if_pos hp, if_pos hp, ← hl] at h4
  rw [Nat.zero_add]
  have := congrArg (fun l => l[j]?) h4
  simp only [List.getElem?_map, List.getElem?_range hj] at this
  exact Option.some.inj this
theorem rSame_self (x : Nd) : rSame x x = true := rSame_norm x x rfl
/-- the program's Same, and the document's -/
theorem sameB_iff {x y : Nd} (hx : Num64 x) (hy : Num64 y) : sameB x y = (decide (ndChk x 0 = 0) && decide (ndChk y 0 = 0) && rSame x y) := by
  unfold sameB
  by_cases cx : ndChk x 0 = 0
  · by_cases cy : ndChk y 0 = 0
    · rw [decide_eq_true cx, decide_eq_true cy, Bool.true_and, Bool.true_and, Bool.eq_iff_iff, decide_eq_true_eq]
      exact ⟨fun h => rSame_norm _ _ (put_inj hx cx hy cy h.2.2), fun h => ⟨cx, cy, rSame_put _ _ h⟩⟩
    · rw [decide_eq_false cy, Bool.and_false, Bool.false_and]
      exact decide_eq_false fun h => cy h.2.1
  · rw [decide_eq_false cx, Bool.false_and, Bool.false_and]
    exact decide_eq_false fun h => cx h.1
end Go.Proofs.Ytinlcpenllfcpaa
