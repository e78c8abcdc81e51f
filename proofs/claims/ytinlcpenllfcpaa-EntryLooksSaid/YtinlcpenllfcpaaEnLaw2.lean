/- What the bytes of a value tell, the other way round: bytes of which a value is taken are that value's bytes. No program stands in this text; no condition beside those that each law names. -/
import Derived.Test.YtinlcpenllfcpaaEnLaw
namespace Go.Proofs.Ytinlcpenllfcpaa
open Go.RowKit

structure Got (s : ByteArray) (p q : Nat) (x : Nd) (d : Nat) : Prop where
  fits : q ≤ s.size
  len : q = p + (ndPut x).length
  fit : Fit s p (ndPut x)
  chk : ndChk x d = 0
  small : s.size ≤ 1000 → Small x
  norm : ndNorm x = x
  num : Num64 x
structure GotI (s : ByteArray) (pr : Bool) (y : ByteArray × Nd) : Prop where
  small : s.size ≤ 1000 → Small y.2
  norm : ndNorm y.2 = y.2
  num : Num64 y.2
  none : pr = false → y.1 = noT
  size : y.1.size ≤ s.size
theorem items_back (s : ByteArray) (f : Nat → PR) (pr : Bool) (d : Nat) (hf : ∀ p x q, f p = .ok (x, q) → Got s p q x d) : ∀ (c : Nat) (acc : List (ByteArray × Nd)) (p : Nat) (L : List (ByteArray × Nd)) (q : Nat), p ≤ s.size → itemsA s f pr c acc p = .ok (L, q) →
    ∃ l, L = acc ++ l ∧ l.length = c ∧ q ≤ s.size ∧ q = p + (putI pr l).length ∧ Fit s p (putI pr l) ∧ chkI pr d (acc.getLast?.map Prod.fst) l = 0 ∧ ∀ y ∈ l, GotI s pr y
  | 0, acc, p, L, q, hp, h => by
    rw [itemsA] at h
    cases h
    exact ⟨[], (List.append_nil _).symm, rfl, hp, by rw [putI]; rfl, by rw [putI]; exact .nil _ _, by rw [chkI], fun y hy => by cases hy⟩
  | c + 1, acc, p, L, q, hp, h => by
    cases pr with
    | true =>
      rw [itemsA_true] at h
      cases hR : takeR s p with
      | error e => rw [hR] at h; cases h
      | ok v =>
        obtain ⟨t, p1⟩ := v
        rw [hR] at h
        dsimp only at h
        obtain ⟨a1, a2, a3, a4, a5⟩ := takeR_ok hR
        by_cases c2 : behind (acc.getLast?.map Prod.fst) t = true
        · rw [if_pos c2] at h; cases h
        rw [if_neg c2] at h
        cases hO : f p1 with
        | error e => rw [hO] at h; cases h
        | ok v =>
          obtain ⟨x, p2⟩ := v
          rw [hO] at h
          dsimp only at h
          have T := hf _ _ _ hO
          obtain ⟨l, b1, b2, b3, b4, b5, b6, b7⟩ := items_back s f true d hf c _ _ _ _ T.fits h
          rw [List.getLast?_concat] at b6
          refine ⟨(t, x) :: l, by rw [b1, List.append_assoc]; rfl, by rw [List.length_cons, b2], b3, ?_, ?_, ?_, ?_⟩
          · rw [putI, if_pos rfl, List.length_append, List.length_append]
            have := T.len
            dsimp only
            omega
          · rw [putI, if_pos rfl]
            refine a3.app ?_
            dsimp only
            rw [← a2]
            refine T.fit.app ?_
            rw [← T.len]
            exact b5
          · rw [chkI, if_neg (fun h => absurd h.2 (Nat.not_lt.2 a4)), if_neg (fun h => c2 h.2), if_neg (fun h => h T.chk)]
            exact b6
          · intro y hy
            rcases List.mem_cons.1 hy with rfl | hy
            · exact ⟨T.small, T.norm, T.num, (fun h => by cases h), a5⟩
            · exact b7 y hy
    | false =>
      rw [itemsA_false] at h
      cases hO : f p with
      | error e => rw [hO] at h; cases h
      | ok v =>
        obtain ⟨x, p2⟩ := v
        rw [hO] at h
        dsimp only at h
        have T := hf _ _ _ hO
        obtain ⟨l, b1, b2, b3, b4, b5, b6, b7⟩ := items_back s f false d hf c _ _ _ _ T.fits h
        refine ⟨(noT, x) :: l, by rw [b1, List.append_assoc]; rfl, by rw [List.length_cons, b2], b3, ?_, ?_, ?_, ?_⟩
        · rw [putI, if_neg Bool.false_ne_true, List.nil_append, List.length_append]
          have := T.len
          dsimp only
          omega
        · rw [putI, if_neg Bool.false_ne_true, List.nil_append]
          refine T.fit.app ?_
          rw [← T.len]
          exact b5
        · rw [chkI, if_neg (fun h => absurd h.1 Bool.false_ne_true), if_neg (fun h => absurd h.1 Bool.false_ne_true), if_neg (fun h => h T.chk), chkI_false d _ (acc.getLast?.map Prod.fst)]
          rw [chkI_false d _ (acc.getLast?.map Prod.fst)] at b6
          exact b6
        · intro y hy
          rcases List.mem_cons.1 hy with rfl | hy
          · exact ⟨T.small, T.norm, T.num, fun _ => rfl, Nat.zero_le _⟩
          · exact b7 y hy
theorem beL_one {s : ByteArray} {p : Nat} (k : Nat) (hk : numAt s p 1 = k) : ofText s p = UInt8.ofNat k := by
  apply UInt8.toNat_inj.1
  rw [← numAt_first, hk, UInt8.toNat_ofNat']
  have : numAt s p 1 < 256 ^ 1 := numTo_lt _ 1
  omega
theorem with_back (s : ByteArray) (f : Option (Nat → PR)) (r : Nat) (hr : r ≤ 4) (hf : ∀ g, f = some g → 1 ≤ r ∧ ∀ p x q, g p = .ok (x, q) → Got s p q x (4 - r + 1)) (p : Nat) (x : Nd) (q : Nat) (h : oneWith s f p = .ok (x, q)) : Got s p q x (4 - r) := by
  rw [oneWith_eq] at h
  by_cases c : p + 1 ≤ s.size
  · rw [if_pos c] at h
    obtain ⟨k, hk⟩ : ∃ k, numAt s p 1 = k := ⟨_, rfl⟩
    have hb := beL_one k hk
    rw [hk] at h
    clear hk
    unfold restR at h
    by_cases k6 : 6 < k
    · rw [if_pos k6] at h; cases h
    rw [if_neg k6] at h
    by_cases k0 : k = 0
    · rw [if_pos k0] at h
      cases h
      subst k0
      exact ⟨c, rfl, .cons (fun _ => hb) (.nil _ _), rfl, fun _ => .mk _ _ _ _ _ (by decide) (by decide) (by decide) (fun t h => by cases h) (fun x h => by cases h), rfl, .mk _ _ _ _ _ (by decide) (fun x h => by cases h)⟩
    rw [if_neg k0] at h
    by_cases k2 : k < 3
    · rw [if_pos k2] at h
      cases h
      refine ⟨c, ?_, ?_, rfl, fun _ => .mk _ _ _ _ _ (by decide) (by decide) (by decide) (fun t h => by cases h) (fun x h => by cases h), ?_, .mk _ _ _ _ _ (by omega) (fun x h => by cases h)⟩
      · have : k = 1 ∨ k = 2 := by omega
        rcases this with rfl | rfl <;> rfl
      · have : k = 1 ∨ k = 2 := by omega
        rcases this with rfl | rfl <;> exact .cons (fun _ => hb) (.nil _ _)
      · have : k = 1 ∨ k = 2 := by omega
        rcases this with rfl | rfl <;> rfl
    rw [if_neg k2] at h
    by_cases k3 : k = 3
    · rw [if_pos k3] at h
      cases hT : takeN s (p + 1) 8 with
      | error e => rw [hT] at h; cases h
      | ok v =>
        obtain ⟨n, p2⟩ := v
        rw [hT] at h
        cases h
        obtain ⟨a1, a2, a3⟩ := takeN_ok hT
        subst k3
        have hn : n < 256 ^ 8 := by rw [a1]; exact numTo_lt _ 8
        refine ⟨a3, ?_, ?_, rfl, fun _ => .mk _ _ _ _ _ (by decide) (by decide) (by decide) (fun t h => by cases h) (fun x h => by cases h), rfl, .mk _ _ _ _ _ (by omega) (fun x h => by cases h)⟩
        · show q = p + (3 :: beL 8 n).length
          rw [List.length_cons, beL_len]; omega
        · show Fit s p (3 :: beL 8 n)
          rw [a1]
          exact .cons (fun _ => hb) (num_fit _ _ _)
    rw [if_neg k3] at h
    by_cases k4 : k = 4
    · rw [if_pos k4] at h
      cases hT : takeR s (p + 1) with
      | error e => rw [hT] at h; cases h
      | ok v =>
        obtain ⟨t, p2⟩ := v
        rw [hT] at h
        cases h
        obtain ⟨a1, a2, a3, a4, a5⟩ := takeR_ok hT
        subst k4
        refine ⟨a1, ?_, ?_, ?_, fun hs => .mk _ _ _ _ _ (by omega) (by decide) (by decide) (fun t h => by cases h) (fun x h => by cases h), rfl, .mk _ _ _ _ _ (by omega) (fun x h => by cases h)⟩
        · show q = p + (4 :: rowL t).length
          rw [List.length_cons]; omega
        · show Fit s p (4 :: rowL t)
          exact .cons (fun _ => hb) a3
        · rw [ndChk, if_neg (by decide), if_neg (by omega)]; rfl
    rw [if_neg k4] at h
    cases f with
    | none => cases h
    | some g =>
      dsimp only at h
      obtain ⟨r1, hg⟩ := hf g rfl
      cases hT : takeN s (p + 1) 1 with
      | error e => rw [hT] at h; cases h
      | ok v =>
        obtain ⟨c1, p2⟩ := v
        rw [hT] at h
        dsimp only at h
        obtain ⟨a1, a2, a3⟩ := takeN_ok hT
        have hb2 := beL_one c1 a1.symm
        by_cases c64 : 64 < c1
        · rw [if_pos c64] at h; cases h
        rw [if_neg c64] at h
        obtain ⟨pr, hpr⟩ : ∃ pr, decide (k = 6) = pr := ⟨_, rfl⟩
        rw [hpr] at h
        cases hI : itemsA s g pr c1 [] p2 with
        | error e => rw [hI] at h; cases h
        | ok v =>
          obtain ⟨L, p3⟩ := v
          rw [hI] at h
          cases h
          obtain ⟨l, b1, b2, b3, b4, b5, b6, b7⟩ := items_back s g pr (4 - r + 1) hg c1 [] p2 L q a3 hI
          rw [List.nil_append] at b1
          subst b1
          have hk5 : decide (k - 1 = 5) = pr := by rw [← hpr, decide_eq_decide]; omega
          have hnm : itemsOf (if k - 1 = 5 then L.map Prod.fst else []) 0 (L.map Prod.snd) = L := by
            by_cases e5 : k - 1 = 5
            · rw [if_pos e5]
              exact itemsOf_self L []
            · rw [if_neg e5]
              exact itemsOf_none L 0 fun y hy => (b7 y hy).none (by rw [← hk5]; exact decide_eq_false e5)
          have hput : ndPut (ofItems (k - 1) L) = UInt8.ofNat k :: UInt8.ofNat c1 :: putI pr L := by
            unfold ofItems
            rw [ndPut, if_neg (by omega), if_neg (by omega), if_neg (by omega), if_neg (by omega), putL_items, putL_items, hnm, List.length_map, b2]
            by_cases e5 : k - 1 = 5
            · have e6 : k = 6 := by omega
              have : pr = true := by rw [← hk5]; exact decide_eq_true e5
              rw [if_neg (by omega), if_pos e5, this, e6]
              rfl
            · have e6 : k = 5 := by omega
              have : pr = false := by rw [← hk5]; exact decide_eq_false e5
              rw [if_pos (by omega), this, e6]
              rfl
          refine ⟨b3, ?_, ?_, ?_, fun hs => ?_, ?_, ?_⟩
          · rw [hput, List.length_cons, List.length_cons]; omega
          · rw [hput]
            refine .cons (fun _ => hb) (.cons (fun _ => hb2) ?_)
            rw [← a2]
            exact b5
          · unfold ofItems
            rw [ndChk, if_neg (by omega), if_neg (by omega), if_neg (by omega), if_neg (by omega), List.length_map, if_neg (by omega), chkL_items, hnm, hk5]
            exact b6
          · unfold ofItems
            refine .mk _ _ _ _ _ (by decide) (by rw [List.length_map]; omega) ?_ ?_ ?_
            · by_cases e5 : k - 1 = 5
              · rw [if_pos e5, List.length_map]; omega
              · rw [if_neg e5]; exact Nat.zero_le _
            · intro t ht
              by_cases e5 : k - 1 = 5
              · rw [if_pos e5] at ht
                obtain ⟨y, hy, rfl⟩ := List.mem_map.1 ht
                have := (b7 y hy).size
                omega
              · rw [if_neg e5] at ht; cases ht
            · intro y hy
              obtain ⟨z, hz, rfl⟩ := List.mem_map.1 hy
              exact (b7 z hz).small hs
          · have hk : ∀ (names : List ByteArray), itemsOf names 0 (L.map Prod.snd) = L → (List.range (L.map Prod.snd).length).map (nameOf names) = L.map Prod.fst := fun names hn => by
              have := itemsOf_fst names (L.map Prod.snd) 0
              simp only [Nat.zero_add] at this
              rw [hn] at this
              exact this.symm
            unfold ofItems
            rw [ndNorm, if_neg (by omega), if_neg (by omega), if_neg (by omega), if_neg (by omega), normL_map]
            have g1 : (L.map Prod.snd).map ndNorm = L.map Prod.snd := by
              rw [List.map_map]
              exact List.map_congr_left fun y hy => (b7 y hy).norm
            rw [g1]
            by_cases e5 : k - 1 = 5
            · rw [if_pos e5] at hnm
              rw [if_pos e5, if_pos e5, hk _ hnm]
            · rw [if_neg e5, if_neg e5]
          · unfold ofItems
            refine .mk _ _ _ _ _ (by decide) fun y hy => ?_
            obtain ⟨z, hz, rfl⟩ := List.mem_map.1 hy
            exact (b7 z hz).num
  · rw [if_neg c] at h; cases h
theorem one_back (s : ByteArray) : ∀ (r : Nat), r ≤ 4 → ∀ (p : Nat) (x : Nd) (q : Nat), oneP s r p = .ok (x, q) → Got s p q x (4 - r)
  | 0, hr, p, x, q, h => by
    rw [oneP] at h
    exact with_back s none 0 hr (fun g hg => by cases hg) p x q h
  | r + 1, hr, p, x, q, h => by
    rw [oneP] at h
    refine with_back s _ (r + 1) hr (fun g hg => ?_) p x q h
    cases hg
    refine ⟨by omega, fun p x q h => ?_⟩
    have := one_back s r (by omega) p x q h
    rw [show 4 - (r + 1) + 1 = 4 - r by omega]
    exact this
/-! ### of the whole text -/
theorem ndTake_ok {s : ByteArray} {x : Nd} (h : ndTake s = .ok x) : Got s 0 s.size x 0 := by
  unfold ndTake at h
  cases hO : oneP s 4 0 with
  | error e => rw [hO] at h; cases h
  | ok v =>
    obtain ⟨y, p⟩ := v
    rw [hO] at h
    dsimp only at h
    by_cases c : p = s.size
    · rw [if_pos c] at h
      cases h
      have := one_back s 4 (Nat.le_refl _) 0 x p hO
      rw [c] at this
      exact this
    · rw [if_neg c] at h; cases h
end Go.Proofs.Ytinlcpenllfcpaa
