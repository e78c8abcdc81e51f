/- Texts that part at one byte have sums that part, if the block that all is multiplied by is not zero. Plain; texts shorter than 2 to 40. -/
import Derived.Test.YtepooocdpifcfaaGhSums
namespace Go.Proofs.Ytepooocdpifcfaa
open Go.RowKit

theorem nums_part : ∀ (n j : Nat) (l m : List UInt8), l.length ≤ n → l.length = m.length → j < l.length → (∀ i, i ≠ j → l.getD i 0 = m.getD i 0) → l.getD j 0 ≠ m.getD j 0 →
    ∃ pre c d post, nums l = pre ++ c :: post ∧ nums m = pre ++ d :: post ∧ c ≠ d
  | 0, j, l, m, hn, _, hj, _, _ => by omega
  | n + 1, j, l, m, hn, hlm, hj, he, hne => by
    have h1 : l ≠ [] := fun e => by rw [e] at hj; simp at hj
    have h2 : m ≠ [] := fun e => by rw [hlm, e] at hj; simp at hj
    rw [nums_cons l h1, nums_cons m h2]
    by_cases h16 : j < 16
    · refine ⟨[], num (fun i => l.getD i 0), num (fun i => m.getD i 0), nums (l.drop 16), rfl, ?_, fun e => hne (num_inj e j h16)⟩
      have : l.drop 16 = m.drop 16 := by
        apply List.ext_getElem?
        intro i
        rw [List.getElem?_drop, List.getElem?_drop]
        by_cases hi : 16 + i < l.length
        · have := he (16 + i) (by omega)
          rw [List.getD_eq_getElem?_getD, List.getD_eq_getElem?_getD, List.getElem?_eq_getElem hi, List.getElem?_eq_getElem (by omega)] at this
          rw [List.getElem?_eq_getElem hi, List.getElem?_eq_getElem (by omega)]
          simpa using this
        · rw [List.getElem?_eq_none (by omega), List.getElem?_eq_none (by omega)]
      rw [this]; rfl
    · have hc : num (fun i => l.getD i 0) = num (fun i => m.getD i 0) := numTo_congr fun i hi => he i (by omega)
      have hd : ∀ (x : List UInt8) i, (x.drop 16).getD i 0 = x.getD (16 + i) 0 := fun x i => by
        rw [List.getD_eq_getElem?_getD, List.getD_eq_getElem?_getD, List.getElem?_drop]
      obtain ⟨pre, c, d, post, e1, e2, e3⟩ := nums_part n (j - 16) (l.drop 16) (m.drop 16) (by rw [List.length_drop]; omega) (by rw [List.length_drop, List.length_drop, hlm]) (by rw [List.length_drop]; omega)
        (fun i hi => by rw [hd, hd]; exact he _ (by omega)) (by rw [hd, hd, show 16 + (j - 16) = j by omega]; exact hne)
      exact ⟨_ :: pre, c, d, post, by rw [e1]; rfl, by rw [hc, e2]; rfl, e3⟩
theorem fold_part {h c d : Nat} (hh : Gh.Ok h) (h0 : h ≠ 0) (pre post : List Nat) (hp : ∀ x ∈ pre ++ c :: post, Gh.Ok x) (hd : Gh.Ok d) (hcd : c ≠ d) : Gh.fold h 0 (pre ++ c :: post) ≠ Gh.fold h 0 (pre ++ d :: post) := by
  rw [Gh.fold_append, Gh.fold_append]
  exact Gh.fold_ne hh h0 (Gh.fold_lt Gh.ok_zero _ (fun x hx => hp x (by simp [hx]))) (hp c (by simp)) hd hcd _ (fun x hx => hp x (by simp [hx]))
theorem getD_map (n : Nat) (f : Nat → UInt8) (i : Nat) : ((List.range n).map f).getD i 0 = if i < n then f i else 0 := by
  rw [List.getD_eq_getElem?_getD]
  by_cases h : i < n
  · simp [h]
  · simp [h]
/-- the sums of (f, g) and (f', g'), of which one byte differs -/
theorem sum_part (h : Nat → UInt8) (m n : Nat) (F : Nat → UInt8) (j : Nat) (v : UInt8) (hm : m < 2 ^ 40) (hn : n < 2 ^ 40) (hj : j < m + n) (hv : v ≠ F j) (hh : same 16 h (fun _ => 0) = false) :
    same 16 (sumB h (strOf m (upd F j v)) (strOf n fun i => upd F j v (m + i))) (sumB h (strOf m F) (strOf n fun i => F (m + i))) = false := by
  have h0 : num h ≠ 0 := fun e => by
    have : same 16 h (fun _ => 0) = true := (same_iff _ _ _).2 (num_inj (by rw [e]; exact num_zero.symm))
    rw [hh] at this; cases this
  have hl : lens (strOf m (upd F j v)) (strOf n fun i => upd F j v (m + i)) = lens (strOf m F) (strOf n fun i => F (m + i)) := by
    unfold lens; rw [strOf_size, strOf_size, strOf_size, strOf_size]
  have hok : Gh.Ok (lens (strOf m F) (strOf n fun i => F (m + i))) := lens_ok (by rw [strOf_size]; exact hm) (by rw [strOf_size]; exact hn)
  cases hs : same 16 (sumB h (strOf m (upd F j v)) (strOf n fun i => upd F j v (m + i))) (sumB h (strOf m F) (strOf n fun i => F (m + i))) with
  | false => rfl
  | true =>
    exfalso
    have hall : ∀ a b : ByteArray, Gh.Ok (lens a b) → ∀ x ∈ nums (txt a) ++ nums (txt b) ++ [lens a b], Gh.Ok x := fun a b hab x hx => by
      simp only [List.mem_append, List.mem_singleton] at hx
      rcases hx with (hx | hx) | rfl
      · exact nums_ok _ _ x hx
      · exact nums_ok _ _ x hx
      · exact hab
    have e : sumN (num h) (strOf m (upd F j v)) (strOf n fun i => upd F j v (m + i)) = sumN (num h) (strOf m F) (strOf n fun i => F (m + i)) := by
      have h1 : ∀ a b : ByteArray, Gh.Ok (lens a b) → Gh.Ok (sumN (num h) a b) := fun a b hab => Gh.fold_lt Gh.ok_zero _ (hall a b hab)
      have h2 : num (sumB h (strOf m (upd F j v)) (strOf n fun i => upd F j v (m + i))) = num (sumB h (strOf m F) (strOf n fun i => F (m + i))) := numTo_congr ((same_iff _ _ _).1 hs)
      unfold sumB at h2
      have hok' : Gh.Ok (lens (strOf m (upd F j v)) (strOf n fun i => upd F j v (m + i))) := by rw [hl]; exact hok
      have e1 := num_unum (h1 _ _ hok')
      have e2 := num_unum (h1 _ _ hok)
      exact e1.symm.trans (h2.trans e2)
    unfold sumN at e
    rw [hl, txt_strOf, txt_strOf, txt_strOf, txt_strOf] at e
    by_cases hjm : j < m
    · have e2 : (List.range n).map (fun i => upd F j v (m + i)) = (List.range n).map fun i => F (m + i) := List.map_congr_left fun i hi => upd_other _ _ _ _ (by omega)
      rw [e2] at e
      obtain ⟨pre, c, d, post, q1, q2, q3⟩ := nums_part _ j ((List.range m).map (upd F j v)) ((List.range m).map F) (Nat.le_refl _) (by simp) (by simpa using hjm)
        (fun i hi => by rw [getD_map, getD_map, upd_other _ _ _ _ hi]) (by rw [getD_map, getD_map, if_pos hjm, if_pos hjm, upd_same]; exact hv)
      have a1 : ∀ x ∈ nums ((List.range m).map (upd F j v)), Gh.Ok x := nums_ok _ _
      have a2 : ∀ x ∈ nums ((List.range m).map F), Gh.Ok x := nums_ok _ _
      rw [q1] at a1; rw [q2] at a2
      rw [q1, q2, List.append_assoc, List.append_assoc, List.append_assoc, List.append_assoc, List.cons_append, List.cons_append] at e
      refine fold_part (num_lt h) h0 pre _ (fun x hx => ?_) (a2 d (by simp)) q3 e
      simp only [List.mem_append, List.mem_cons, List.mem_singleton] at hx
      rcases hx with hx | rfl | hx | hx | rfl | hx
      · exact a1 x (by simp [hx])
      · exact a1 x (by simp)
      · exact a1 x (by simp [hx])
      · exact nums_ok _ _ x hx
      · exact hok
      · cases hx
    · have e2 : (List.range m).map (upd F j v) = (List.range m).map F := List.map_congr_left fun i hi => upd_other _ _ _ _ (by have := List.mem_range.1 hi; omega)
      rw [e2] at e
      have hjn : j - m < n := by omega
      obtain ⟨pre, c, d, post, q1, q2, q3⟩ := nums_part _ (j - m) ((List.range n).map fun i => upd F j v (m + i)) ((List.range n).map fun i => F (m + i)) (Nat.le_refl _) (by simp) (by simpa using hjn)
        (fun i hi => by rw [getD_map, getD_map, upd_other _ _ _ _ (by omega)]) (by rw [getD_map, getD_map, if_pos hjn, if_pos hjn, show m + (j - m) = j by omega, upd_same]; exact hv)
      have a1 : ∀ x ∈ nums ((List.range n).map fun i => upd F j v (m + i)), Gh.Ok x := nums_ok _ _
      have a2 : ∀ x ∈ nums ((List.range n).map fun i => F (m + i)), Gh.Ok x := nums_ok _ _
      rw [q1] at a1; rw [q2] at a2
      rw [q1, q2, ← List.append_assoc, ← List.append_assoc, List.append_assoc, List.append_assoc (_ ++ pre), List.cons_append, List.cons_append] at e
      refine fold_part (num_lt h) h0 (nums ((List.range m).map F) ++ pre) _ (fun x hx => ?_) (a2 d (by simp)) q3 e
      simp only [List.mem_append, List.mem_cons, List.mem_singleton] at hx
      rcases hx with (hx | hx) | rfl | hx | rfl | hx
      · exact nums_ok _ _ x hx
      · exact a1 x (by simp [hx])
      · exact a1 x (by simp)
      · exact a1 x (by simp [hx])
      · exact hok
      · cases hx
/-- nothing is summed to nothing -/
theorem fold_zero : ∀ l : List Nat, (∀ c ∈ l, Gh.Ok c) → Gh.fold 0 0 l = 0
  | [], _ => rfl
  | c :: l, h => by
    show Gh.fold 0 (Gh.mul (0 ^^^ c) 0) l = 0
    rw [Nat.zero_xor, Gh.mul_zero (h c (by simp))]
    exact fold_zero l (fun x hx => h x (by simp [hx]))
theorem sum_zero (a b : ByteArray) (ha : a.size < 2 ^ 40) (hb : b.size < 2 ^ 40) : same 16 (sumB (fun _ => 0) a b) (fun _ => 0) = true := by
  apply same_num_of
  unfold sumB
  have hall : ∀ x ∈ nums (txt a) ++ nums (txt b) ++ [lens a b], Gh.Ok x := fun x hx => by
    simp only [List.mem_append, List.mem_singleton] at hx
    rcases hx with (hx | hx) | rfl
    · exact nums_ok _ _ x hx
    · exact nums_ok _ _ x hx
    · exact lens_ok ha hb
  have e : sumN (num fun _ => 0) a b = 0 := by
    unfold sumN; rw [num_zero]; exact fold_zero _ hall
  rw [e, num_unum Gh.ok_zero, num_zero]
theorem sum_empty (h : Nat → UInt8) (a b : ByteArray) (ha : a.size = 0) (hb : b.size = 0) : same 16 (sumB h a b) (fun _ => 0) = true := by
  apply same_num_of
  unfold sumB
  have e1 : txt a = [] := List.length_eq_zero_iff.1 (by rw [txt_size]; exact ha)
  have e2 : txt b = [] := List.length_eq_zero_iff.1 (by rw [txt_size]; exact hb)
  have e : sumN (num h) a b = 0 := by
    unfold sumN lens; rw [e1, e2, ha, hb]; exact Gh.zero_mul _
  rw [e, num_unum Gh.ok_zero, num_zero]
end Go.Proofs.Ytepooocdpifcfaa
