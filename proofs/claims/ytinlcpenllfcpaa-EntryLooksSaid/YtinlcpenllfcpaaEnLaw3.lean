/- What the bytes of a value tell: of the whole text; one byte more; one byte less; what counts of a value. No program stands in this text; no condition beside those that each law names. -/
import Derived.Test.YtinlcpenllfcpaaEnLaw2
import Derived.Test.YtinlcpenllfcpaaEnRefPut
namespace Go.Proofs.Ytinlcpenllfcpaa
open Go.RowKit

theorem ofText_strL (l : List UInt8) (i : Nat) : ofText (strL l) i = atL l i := txL_at (strL l) i ▸ rfl
theorem fit_strL (l : List UInt8) : Fit (strL l) 0 l := fun i _ _ => by rw [Nat.zero_add, ofText_strL]
theorem list_at {a b : List UInt8} (hl : a.length = b.length) (h : ∀ i, i < a.length → atL a i = atL b i) : a = b := by
  refine List.ext_getElem hl fun i h1 h2 => ?_
  have := h i h1
  unfold atL at this
  rw [List.getD_eq_getElem?_getD, List.getD_eq_getElem?_getD, List.getElem?_eq_getElem h1, List.getElem?_eq_getElem h2] at this
  exact this
theorem fit_eq {a b : List UInt8} (h : Fit (strL a) 0 b) (hl : b.length = a.length) : b = a := list_at hl fun i hi => by
  rw [← h i hi (by rw [strL_size]; omega), Nat.zero_add, ofText_strL]
theorem fit_text {s : ByteArray} {l : List UInt8} (h : Fit s 0 l) (hl : l.length = s.size) : strL l = s := by
  refine (strOf_ofText (strL l) s.size (by rw [strL_size, hl])).symm.trans (Eq.trans ?_ (strOf_ofText s s.size rfl))
  refine strOf_congr fun i hi => ?_
  rw [ofText_strL, ← h i (by omega) (by omega), Nat.zero_add]
theorem ndPut_pos (x : Nd) : 0 < (ndPut x).length := by
  cases x with
  | mk k n s kids names =>
    rw [ndPut]
    split
    · exact Nat.succ_pos _
    · split
      · exact Nat.succ_pos _
      · split
        · exact Nat.succ_pos _
        · split
          · exact Nat.succ_pos _
          · split
            · exact Nat.succ_pos _
            · split
              · exact Nat.succ_pos _
              · exact Nat.succ_pos _
theorem put_taken {x : Nd} (hN : Num64 x) (hc : ndChk x 0 = 0) : ndTake (strL (ndPut x)) = .ok (ndNorm x) := by
  unfold ndTake
  rw [one_put x hN (strL (ndPut x)) 4 0 (Nat.le_refl _) hc (fit_strL _)]
  unfold toldP
  rw [if_pos (by rw [strL_size]; omega)]
  dsimp only
  rw [if_pos (by rw [strL_size]; omega)]
theorem put_more {x : Nd} (hN : Num64 x) (hc : ndChk x 0 = 0) : ndTake (strL (ndPut x) ++ ⟨#[0]⟩) = .error 4 := by
  have e : strL (ndPut x) ++ ⟨#[0]⟩ = strL (ndPut x ++ [0]) := strL_app (ndPut x) [0]
  rw [e]
  unfold ndTake
  rw [one_put x hN _ 4 0 (Nat.le_refl _) hc (fit_strL (ndPut x ++ [0])).left]
  unfold toldP
  rw [if_pos (by rw [strL_size, List.length_append]; omega)]
  dsimp only
  rw [if_neg (by rw [strL_size, List.length_append]; simp)]
theorem put_short {x : Nd} (hN : Num64 x) (hc : ndChk x 0 = 0) (u : ByteArray) (hu : u.size < (ndPut x).length) (hF : Fit u 0 (ndPut x)) : ndTake u = .error 3 := by
  unfold ndTake
  rw [one_put x hN _ 4 0 (Nat.le_refl _) hc hF]
  unfold toldP
  rw [if_neg (by omega)]
theorem norm_put {x : Nd} (hN : Num64 x) (hc : ndChk x 0 = 0) : ndPut (ndNorm x) = ndPut x ∧ ndChk (ndNorm x) 0 = 0 := by
  have G := ndTake_ok (put_taken hN hc)
  refine ⟨fit_eq G.fit ?_, G.chk⟩
  have := G.len
  rw [strL_size] at this
  omega
theorem same_norm {x : Nd} (hN : Num64 x) (hc : ndChk x 0 = 0) : sameB x (ndNorm x) = true := by
  obtain ⟨h1, h2⟩ := norm_put hN hc
  exact decide_eq_true ⟨hc, h2, h1.symm⟩
/-- values of the same bytes are the same, as far as it counts -/
theorem put_inj {x y : Nd} (hx : Num64 x) (cx : ndChk x 0 = 0) (hy : Num64 y) (cy : ndChk y 0 = 0) (h : ndPut x = ndPut y) : ndNorm x = ndNorm y := by
  have h1 := put_taken hx cx
  rw [h, put_taken hy cy] at h1
  exact (Except.ok.inj h1).symm
theorem take_put {s : ByteArray} {x : Nd} (h : ndTake s = .ok x) : strL (ndPut x) = s := by
  have G := ndTake_ok h
  exact fit_text G.fit (by have := G.len; omega)
theorem small_norm : ∀ (x : Nd), Small x → Small (ndNorm x) := by
  refine Nd.ind fun k n s kids names ih => ?_
  intro h
  cases h with
  | mk _ _ _ _ _ h1 h2 h3 h4 h5 =>
  have leaf : ∀ (k n : Nat) (s : ByteArray), s.size ≤ 1000 → Small (.mk k n s [] []) := fun k n s h => .mk _ _ _ _ _ h (by decide) (by decide) (fun t h => by cases h) (fun x h => by cases h)
  rw [ndNorm]
  by_cases e0 : k = 0
  · rw [if_pos e0]; exact leaf _ _ _ (by decide)
  rw [if_neg e0]
  by_cases e1 : k = 1
  · rw [if_pos e1]; exact leaf _ _ _ (by decide)
  rw [if_neg e1]
  by_cases e2 : k = 2
  · rw [if_pos e2]; exact leaf _ _ _ (by decide)
  rw [if_neg e2]
  by_cases e3 : k = 3
  · rw [if_pos e3]; exact leaf _ _ _ h1
  rw [if_neg e3, normL_map]
  refine .mk _ _ _ _ _ (by decide) (by rw [List.length_map]; exact h2) ?_ ?_ ?_
  · split
    · rw [List.length_map, List.length_range]; exact h2
    · exact Nat.zero_le _
  · intro t ht
    split at ht
    · obtain ⟨i, _, rfl⟩ := List.mem_map.1 ht
      exact small_name h4 i
    · cases ht
  · intro y hy
    obtain ⟨z, hz, rfl⟩ := List.mem_map.1 hy
    exact ih z hz (h5 z hz)
end Go.Proofs.Ytinlcpenllfcpaa
