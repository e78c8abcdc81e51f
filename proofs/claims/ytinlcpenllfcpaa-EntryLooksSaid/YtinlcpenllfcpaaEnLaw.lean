/- What the bytes of a value tell: the value of the bytes of a value; bytes that fall short; the bytes of a value that was taken. No program stands in this text; no condition beside those that each law names. -/
import Derived.Test.YtinlcpenllfcpaaEnSame
namespace Go.Proofs.Ytinlcpenllfcpaa
open Go.RowKit

/-- bytes that stand in a text, as far as it goes -/
def Fit (s : ByteArray) (p : Nat) (l : List UInt8) : Prop := ∀ i, i < l.length → p + i < s.size → ofText s (p + i) = atL l i
theorem atL_left (a b : List UInt8) (i : Nat) (h : i < a.length) : atL (a ++ b) i = atL a i := by
  unfold atL
  rw [List.getD_eq_getElem?_getD, List.getD_eq_getElem?_getD, List.getElem?_append_left h]
theorem atL_right (a b : List UInt8) (i : Nat) : atL (a ++ b) (a.length + i) = atL b i := by
  unfold atL
  rw [List.getD_eq_getElem?_getD, List.getD_eq_getElem?_getD, List.getElem?_append_right (by omega), Nat.add_sub_cancel_left]
theorem Fit.left {s : ByteArray} {p : Nat} {a b : List UInt8} (h : Fit s p (a ++ b)) : Fit s p a := fun i hi hp => by
  rw [h i (by rw [List.length_append]; omega) hp, atL_left _ _ _ hi]
theorem Fit.right {s : ByteArray} {p : Nat} {a b : List UInt8} (h : Fit s p (a ++ b)) : Fit s (p + a.length) b := fun i hi hp => by
  rw [Nat.add_assoc, h (a.length + i) (by rw [List.length_append]; omega) (by omega), atL_right]
theorem Fit.app {s : ByteArray} {p : Nat} {a b : List UInt8} (h1 : Fit s p a) (h2 : Fit s (p + a.length) b) : Fit s p (a ++ b) := fun i hi hp => by
  rw [List.length_append] at hi
  by_cases c : i < a.length
  · rw [h1 i c hp, atL_left _ _ _ c]
  · have := h2 (i - a.length) (by omega) (by omega)
    rw [show p + a.length + (i - a.length) = p + i by omega] at this
    rw [this]
    conv => rhs; rw [show i = a.length + (i - a.length) by omega]
    rw [atL_right]
theorem Fit.tail {s : ByteArray} {p : Nat} {b : UInt8} {l : List UInt8} (h : Fit s p (b :: l)) : Fit s (p + 1) l := Fit.right (a := [b]) h
theorem Fit.nil (s : ByteArray) (p : Nat) : Fit s p [] := fun i hi => absurd hi (by simp)
theorem Fit.cons {s : ByteArray} {p : Nat} {b : UInt8} {l : List UInt8} (hb : p < s.size → ofText s p = b) (h : Fit s (p + 1) l) : Fit s p (b :: l) := by
  refine Fit.app (a := [b]) (fun i hi hp => ?_) h
  have : i = 0 := by simp at hi; omega
  subst this
  exact hb hp
theorem numAt_first (s : ByteArray) (p : Nat) : numAt s p 1 = (ofText s p).toNat := by
  simp [numAt, numTo]
theorem Fit.first {s : ByteArray} {p : Nat} {b : UInt8} {l : List UInt8} (h : Fit s p (b :: l)) (hp : p < s.size) : numAt s p 1 = b.toNat := by
  rw [numAt_first, show ofText s p = b from h 0 (by simp) hp]

/-! ### numbers and rows -/
theorem ofText_sub (s : ByteArray) (a b i : Nat) (hb : b ≤ s.size) (hi : i < b - a) : ofText (s.extract a b) i = ofText s (a + i) := by
  unfold ofText
  rw [ByteArray.data_extract, Array.getD_eq_getD_getElem?, Array.getD_eq_getD_getElem?, Array.getElem?_extract, if_pos]
  have : s.size = s.data.size := rfl
  omega
theorem fit_num {s : ByteArray} {p k N : Nat} (h : Fit s p (beL k N)) (hp : p + k ≤ s.size) (hN : N < 256 ^ k) : numAt s p k = N := by
  unfold numAt
  rw [numTo_congr (c := byteN N k) fun i hi => ?_, numTo_byteN _ _ _ (Nat.le_refl _), Nat.sub_self, Nat.pow_zero, Nat.div_one, Nat.mod_eq_of_lt hN]
  rw [h i (by rw [beL_len]; exact hi) (by omega), beL_at _ _ _ hi, beB_pow]
  rfl
theorem num_fit (s : ByteArray) (p k : Nat) : Fit s p (beL k (numAt s p k)) := fun i hi _ => by
  rw [beL_len] at hi
  rw [beL_at _ _ _ hi, beB_pow]
  unfold numAt
  have h := numTo_div (fun i => ofText s (p + i)) (i + 1) (k - 1 - i)
  rw [show i + 1 + (k - 1 - i) = k by omega] at h
  rw [h]
  apply UInt8.toNat_inj.1
  rw [UInt8.toNat_ofNat']
  simp only [numTo]
  have := (ofText s (p + i)).toNat_lt
  omega
theorem takeN_fit {s : ByteArray} {p k N : Nat} (h : Fit s p (beL k N)) (hN : N < 256 ^ k) : takeN s p k = if p + k ≤ s.size then .ok (N, p + k) else .error 3 := by
  unfold takeN
  by_cases c : p + k ≤ s.size
  · rw [if_pos c, if_pos c, fit_num h c hN]
  · rw [if_neg c, if_neg c]
theorem extract_fit (s : ByteArray) (a m : Nat) (h : a + m ≤ s.size) : Fit s a (txL (s.extract a (a + m))) := fun i hi _ => by
  rw [txL_len, ByteArray.size_extract] at hi
  rw [txL_at, ofText_sub _ _ _ _ h (by omega)]
theorem fit_extract {s t : ByteArray} {a : Nat} (h : Fit s a (txL t)) (hp : a + t.size ≤ s.size) : s.extract a (a + t.size) = t := by
  have hsz : (s.extract a (a + t.size)).size = t.size := by rw [ByteArray.size_extract]; omega
  refine (strOf_ofText (s.extract a (a + t.size)) t.size hsz).symm.trans (Eq.trans ?_ (strOf_ofText t t.size rfl))
  refine strOf_congr fun i hi => ?_
  rw [ofText_sub _ _ _ _ hp (by omega), h i (by rw [txL_len]; exact hi) (by omega), txL_at]
theorem takeR_fit {s : ByteArray} {p : Nat} {t : ByteArray} (h : Fit s p (rowL t)) (ht : t.size ≤ 65535) : takeR s p = if p + (rowL t).length ≤ s.size then .ok (t, p + (rowL t).length) else .error 3 := by
  unfold rowL at h
  have hN := h.left
  have hT := h.right
  rw [beL_len] at hT
  rw [rowL_len]
  unfold takeR
  by_cases c : p + 2 ≤ s.size
  · rw [if_pos c, fit_num hN c (by omega)]
    by_cases c2 : p + 2 + t.size ≤ s.size
    · rw [if_pos c2, if_pos (by omega), fit_extract hT c2, Nat.add_assoc]
    · rw [if_neg c2, if_neg (by omega)]
  · rw [if_neg c, if_neg (by omega)]
theorem takeR_ok {s : ByteArray} {p q : Nat} {r : ByteArray} (h : takeR s p = .ok (r, q)) : q ≤ s.size ∧ q = p + (rowL r).length ∧ Fit s p (rowL r) ∧ r.size ≤ 65535 ∧ r.size ≤ s.size := by
  unfold takeR at h
  by_cases c : p + 2 ≤ s.size
  · rw [if_pos c] at h
    by_cases c2 : p + 2 + numAt s p 2 ≤ s.size
    · rw [if_pos c2] at h
      cases h
      have hlt : numAt s p 2 < 256 ^ 2 := numTo_lt _ 2
      have hsz : (s.extract (p + 2) (p + 2 + numAt s p 2)).size = numAt s p 2 := by rw [ByteArray.size_extract]; omega
      refine ⟨c2, by rw [rowL_len, hsz]; omega, ?_, by omega, by omega⟩
      unfold rowL
      rw [hsz]
      exact (num_fit s p 2).app (by rw [beL_len]; exact extract_fit s _ _ c2)
    · rw [if_neg c2] at h; cases h
  · rw [if_neg c] at h; cases h
theorem takeN_ok {s : ByteArray} {p k N q : Nat} (h : takeN s p k = .ok (N, q)) : N = numAt s p k ∧ q = p + k ∧ q ≤ s.size := by
  unfold takeN at h
  by_cases c : p + k ≤ s.size
  · rw [if_pos c] at h; cases h; exact ⟨rfl, rfl, c⟩
  · rw [if_neg c] at h; cases h

/-! ### what lies within, with its names -/
def itemsOf (names : List ByteArray) : Nat → List Nd → List (ByteArray × Nd)
  | _, [] => []
  | i, x :: l => (nameOf names i, x) :: itemsOf names (i + 1) l
def putI (pr : Bool) : List (ByteArray × Nd) → List UInt8
  | [] => []
  | q :: l => (if pr = true then rowL q.1 else []) ++ (ndPut q.2 ++ putI pr l)
def behind (prev : Option ByteArray) (t : ByteArray) : Bool := match prev with | none => false | some q => !lessT q t
def chkI (pr : Bool) (d : Nat) : Option ByteArray → List (ByteArray × Nd) → Nat
  | _, [] => 0
  | prev, q :: l => if pr = true ∧ 65535 < q.1.size then 5 else if pr = true ∧ behind prev q.1 = true then 4 else if ndChk q.2 d ≠ 0 then ndChk q.2 d else chkI pr d (some q.1) l
theorem chkI_false (d : Nat) (a b : Option ByteArray) (l : List (ByteArray × Nd)) : chkI false d a l = chkI false d b l := by
  cases l with
  | nil => unfold chkI; rfl
  | cons q l => unfold chkI; simp only [Bool.false_eq_true, false_and, if_false]
theorem putL_items (pr : Bool) (names : List ByteArray) : ∀ (l : List Nd) (i : Nat), putL pr names i l = putI pr (itemsOf names i l)
  | [], i => by rw [putL, itemsOf, putI]
  | x :: l, i => by rw [putL, itemsOf, putI, putL_items pr names l]
def prevOf (names : List ByteArray) (i : Nat) : Option ByteArray := if i = 0 then none else some (nameOf names (i - 1))
theorem behind_prev (names : List ByteArray) (i : Nat) (t : ByteArray) : behind (prevOf names i) t = true ↔ 0 < i ∧ lessT (nameOf names (i - 1)) t = false := by
  unfold prevOf behind
  by_cases c : i = 0
  · rw [if_pos c]; simp [c]
  · rw [if_neg c]; simp; omega
theorem chkL_items (pr : Bool) (names : List ByteArray) (d : Nat) : ∀ (l : List Nd) (i : Nat), chkL pr names i l d = chkI pr d (prevOf names i) (itemsOf names i l)
  | [], i => by rw [chkL, itemsOf, chkI]
  | x :: l, i => by
    rw [chkL, itemsOf, chkI, chkL_items pr names d l]
    rw [show prevOf names (i + 1) = some (nameOf names i) by unfold prevOf; rw [if_neg (by omega), Nat.add_sub_cancel]]
    simp only [behind_prev]
theorem itemsOf_snd (names : List ByteArray) : ∀ (l : List Nd) (i : Nat), (itemsOf names i l).map Prod.snd = l
  | [], i => by rw [itemsOf]; rfl
  | x :: l, i => by rw [itemsOf, List.map_cons, itemsOf_snd names l]
theorem itemsOf_fst (names : List ByteArray) : ∀ (l : List Nd) (i : Nat), (itemsOf names i l).map Prod.fst = (List.range l.length).map fun j => nameOf names (i + j)
  | [], i => by rw [itemsOf]; rfl
  | x :: l, i => by
    rw [itemsOf, List.map_cons, itemsOf_fst names l, List.length_cons, List.range_succ_eq_map, List.map_cons, List.map_map]
    congr 1
    exact List.map_congr_left fun j _ => by simp only [Function.comp]; congr 1; omega
theorem itemsOf_len (names : List ByteArray) : ∀ (l : List Nd) (i : Nat), (itemsOf names i l).length = l.length
  | [], i => by rw [itemsOf]; rfl
  | x :: l, i => by rw [itemsOf, List.length_cons, List.length_cons, itemsOf_len names l]
theorem itemsOf_self : ∀ (l : List (ByteArray × Nd)) (pre : List ByteArray), itemsOf (pre ++ l.map Prod.fst) pre.length (l.map Prod.snd) = l
  | [], pre => by rw [List.map_nil, List.map_nil, itemsOf]
  | q :: l, pre => by
    rw [List.map_cons, List.map_cons, itemsOf]
    have h := itemsOf_self l (pre ++ [q.1])
    rw [List.append_assoc, List.length_append] at h
    rw [show nameOf (pre ++ q.1 :: l.map Prod.fst) pre.length = q.1 by unfold nameOf; rw [List.getD_eq_getElem?_getD]; simp]
    exact congrArg (List.cons q) h
theorem itemsOf_none : ∀ (l : List (ByteArray × Nd)) (i : Nat), (∀ q ∈ l, q.1 = noT) → itemsOf [] i (l.map Prod.snd) = l
  | [], i, _ => by rw [List.map_nil, itemsOf]
  | q :: l, i, h => by
    rw [List.map_cons, itemsOf, itemsOf_none l _ fun x hx => h x (.tail _ hx), show nameOf [] i = q.1 from (h q (.head _)).symm]

/-! ### the value of the bytes of a value -/
/-- numbers that have their bytes -/
inductive Num64 : Nd → Prop
  | mk (k n : Nat) (s : ByteArray) (kids : List Nd) (names : List ByteArray) (h : n < 18446744073709551616) (h2 : ∀ x ∈ kids, Num64 x) : Num64 (.mk k n s kids names)
theorem NodeAt.num64 {w : World} {c : NdC} {x : Nd} (h : NodeAt w c x) : Num64 x := by
  induction h with
  | mk c kids names cs hk hn h1 h2 h3 h4 h5 ih =>
    refine .mk _ _ _ _ _ hn fun x hx => ?_
    obtain ⟨i, hi, rfl⟩ := List.mem_iff_getElem.1 hx
    exact ih i hi
theorem itemsA_true (s : ByteArray) (f : Nat → PR) (c : Nat) (acc : List (ByteArray × Nd)) (p : Nat) : itemsA s f true (c + 1) acc p = match takeR s p with
    | .error e => .error e
    | .ok (r, p1) => if behind (acc.getLast?.map Prod.fst) r = true then .error 4 else match f p1 with
      | .error e => .error e
      | .ok (x, p2) => itemsA s f true c (acc ++ [(r, x)]) p2 := by
  rw [itemsA, if_pos rfl]
  cases takeR s p with
  | error e => rfl
  | ok v => cases acc.getLast? <;> rfl
theorem itemsA_false (s : ByteArray) (f : Nat → PR) (c : Nat) (acc : List (ByteArray × Nd)) (p : Nat) : itemsA s f false (c + 1) acc p = match f p with
    | .error e => .error e
    | .ok (x, p2) => itemsA s f false c (acc ++ [(noT, x)]) p2 := by
  rw [itemsA, if_neg Bool.false_ne_true]
  cases f p <;> rfl
def toldP (s : ByteArray) (p : Nat) (l : List UInt8) (x : Nd) : PR := if p + l.length ≤ s.size then .ok (x, p + l.length) else .error 3
theorem items_put (s : ByteArray) (f : Nat → PR) (pr : Bool) (d : Nat) : ∀ (l : List (ByteArray × Nd)) (acc : List (ByteArray × Nd)) (p : Nat), (∀ q ∈ l, ndChk q.2 d = 0 → ∀ p, p ≤ s.size → Fit s p (ndPut q.2) → f p = toldP s p (ndPut q.2) (ndNorm q.2)) →
    p ≤ s.size → chkI pr d (acc.getLast?.map Prod.fst) l = 0 → Fit s p (putI pr l) →
    itemsA s f pr l.length acc p = if p + (putI pr l).length ≤ s.size then .ok (acc ++ l.map (fun q => (if pr = true then q.1 else noT, ndNorm q.2)), p + (putI pr l).length) else .error 3
  | [], acc, p, _, hp, _, _ => by
    rw [putI, List.length_nil, itemsA, if_pos (by simpa using hp)]
    simp
  | q :: l, acc, p, hf, hp, hc, hF => by
    rw [chkI] at hc
    rw [putI] at hF
    rw [putI, List.length_cons]
    by_cases hpr : pr = true
    · subst hpr
      rw [if_pos rfl] at hF
      rw [itemsA_true, if_pos rfl]
      by_cases c1 : 65535 < q.1.size
      · rw [if_pos ⟨rfl, c1⟩] at hc; cases hc
      rw [if_neg (fun h => c1 h.2)] at hc
      by_cases c2 : behind (acc.getLast?.map Prod.fst) q.1 = true
      · rw [if_pos ⟨rfl, c2⟩] at hc; cases hc
      rw [if_neg (fun h => c2 h.2)] at hc
      by_cases c3 : ndChk q.2 d = 0
      · rw [if_neg (fun h => h c3)] at hc
        rw [takeR_fit hF.left (by omega)]
        by_cases b1 : p + (rowL q.1).length ≤ s.size
        · rw [if_pos b1]
          dsimp only
          rw [if_neg c2, hf q (.head _) c3 _ b1 hF.right.left]
          unfold toldP
          by_cases b2 : p + (rowL q.1).length + (ndPut q.2).length ≤ s.size
          · rw [if_pos b2]
            dsimp only
            rw [items_put s f true d l (acc ++ [(q.1, ndNorm q.2)]) _ (fun x hx => hf x (.tail _ hx)) b2 (by rw [List.getLast?_concat]; exact hc) hF.right.right]
            simp only [List.length_append, List.map_cons, if_true, List.append_assoc, List.cons_append, List.nil_append, Nat.add_assoc]
          · rw [if_neg b2, if_neg (by simp only [List.length_append]; omega)]
        · rw [if_neg b1, if_neg (by simp only [List.length_append]; omega)]
      · rw [if_pos c3] at hc; exact absurd hc c3
    · have hpr : pr = false := by simpa using hpr
      subst hpr
      rw [if_neg Bool.false_ne_true, List.nil_append] at hF
      rw [itemsA_false, if_neg Bool.false_ne_true, List.nil_append]
      rw [if_neg (fun h => absurd h.1 (by decide)), if_neg (fun h => absurd h.1 (by decide))] at hc
      by_cases c3 : ndChk q.2 d = 0
      · rw [if_neg (fun h => h c3)] at hc
        rw [hf q (.head _) c3 _ hp hF.left]
        unfold toldP
        by_cases b2 : p + (ndPut q.2).length ≤ s.size
        · rw [if_pos b2]
          dsimp only
          rw [items_put s f false d l (acc ++ [(noT, ndNorm q.2)]) _ (fun x hx => hf x (.tail _ hx)) b2 (by rw [chkI_false d _ (some q.1)]; exact hc) hF.right]
          simp only [List.length_append, List.map_cons, List.append_assoc, List.cons_append, List.nil_append, Nat.add_assoc]
          rfl
        · rw [if_neg b2, if_neg (by simp only [List.length_append]; omega)]
      · rw [if_pos c3] at hc; exact absurd hc c3
theorem oneWith_fit {s : ByteArray} {p : Nat} {b : UInt8} {l : List UInt8} (h : Fit s p (b :: l)) (f : Option (Nat → PR)) : oneWith s f p = if p + 1 ≤ s.size then restR s f b.toNat (p + 1) else .error 3 := by
  rw [oneWith_eq]
  by_cases c : p + 1 ≤ s.size
  · rw [if_pos c, if_pos c, h.first (by omega)]
  · rw [if_neg c, if_neg c]
theorem one_put : ∀ (x : Nd), Num64 x → ∀ (s : ByteArray) (r p : Nat), r ≤ 4 → ndChk x (4 - r) = 0 → Fit s p (ndPut x) → oneP s r p = toldP s p (ndPut x) (ndNorm x) := by
  refine Nd.ind fun k n t kids names ih => ?_
  intro hN s r p hr hc hF
  cases hN with
  | mk _ _ _ _ _ hn hkN =>
  obtain ⟨f, hf⟩ : ∃ f, oneP s r = oneWith s f := by
    cases r with
    | zero => exact ⟨_, by rw [oneP]⟩
    | succ r => exact ⟨_, by rw [oneP]⟩
  rw [ndChk] at hc
  by_cases k5 : 5 < k
  · rw [if_pos k5] at hc; cases hc
  rw [if_neg k5] at hc
  by_cases k3 : k = 3 ∧ 65535 < t.size
  · rw [if_pos k3] at hc; cases hc
  rw [if_neg k3] at hc
  unfold toldP
  rw [ndPut] at hF ⊢
  rw [ndNorm]
  by_cases e0 : k = 0
  · rw [if_pos e0] at hF ⊢
    rw [if_pos e0, hf, oneWith_fit hF]
    rfl
  rw [if_neg e0] at hF ⊢
  rw [if_neg e0]
  by_cases e1 : k = 1
  · rw [if_pos e1] at hF ⊢
    rw [if_pos e1, hf, oneWith_fit hF]
    by_cases n1 : n = 1
    · rw [if_pos n1, if_pos n1]; rfl
    · rw [if_neg n1, if_neg n1]; rfl
  rw [if_neg e1] at hF ⊢
  rw [if_neg e1]
  by_cases e2 : k = 2
  · rw [if_pos e2] at hF ⊢
    rw [if_pos e2, hf, oneWith_fit hF, List.length_cons, beL_len]
    by_cases b1 : p + 1 ≤ s.size
    · rw [if_pos b1]
      show restR s f 3 (p + 1) = _
      unfold restR
      rw [if_neg (by decide), if_neg (by decide), if_neg (by decide), if_pos rfl, takeN_fit hF.tail (by omega)]
      by_cases b2 : p + 1 + 8 ≤ s.size
      · rw [if_pos b2, if_pos (by omega)]
      · rw [if_neg b2, if_neg (by omega)]
    · rw [if_neg b1, if_neg (by omega)]
  rw [if_neg e2] at hF ⊢
  rw [if_neg e2]
  by_cases e3 : k = 3
  · rw [if_pos e3] at hF ⊢
    rw [if_pos e3, hf, oneWith_fit hF, List.length_cons]
    by_cases b1 : p + 1 ≤ s.size
    · rw [if_pos b1]
      show restR s f 4 (p + 1) = _
      unfold restR
      rw [if_neg (by decide), if_neg (by decide), if_neg (by decide), if_neg (by decide), if_pos rfl, takeR_fit hF.tail (by omega)]
      by_cases b2 : p + 1 + (rowL t).length ≤ s.size
      · rw [if_pos b2, if_pos (by omega)]
        show Except.ok _ = _
        congr 2; omega
      · rw [if_neg b2, if_neg (by omega)]
    · rw [if_neg b1, if_neg (by omega)]
  rw [if_neg e3] at hF ⊢
  rw [if_neg e3]
  rw [if_neg (show ¬ k < 4 by omega)] at hc
  by_cases d4 : 4 ≤ 4 - r
  · rw [if_pos d4] at hc; cases hc
  rw [if_neg d4] at hc
  by_cases l64 : 64 < kids.length
  · rw [if_pos l64] at hc; cases hc
  rw [if_neg l64] at hc
  obtain ⟨r', rfl⟩ : ∃ r', r = r' + 1 := ⟨r - 1, by omega⟩
  rw [show 4 - (r' + 1) + 1 = 4 - r' by omega] at hc
  clear hf f
  have hkey : ∀ (pr : Bool), decide (k = 5) = pr → Fit s p (UInt8.ofNat (k + 1) :: UInt8.ofNat kids.length :: putL pr names 0 kids) → oneP s (r' + 1) p = toldP s p (UInt8.ofNat (k + 1) :: UInt8.ofNat kids.length :: putL pr names 0 kids) (.mk k 0 noT (normL kids) (if k = 5 then (List.range kids.length).map (nameOf names) else [])) := by
    intro pr hpr hF
    rw [hpr, chkL_items] at hc
    rw [putL_items] at hF ⊢
    have e6 : (UInt8.ofNat (k + 1)).toNat = k + 1 := by rw [UInt8.toNat_ofNat']; omega
    have eL : (UInt8.ofNat kids.length).toNat = kids.length := by rw [UInt8.toNat_ofNat']; omega
    unfold toldP
    rw [oneP, oneWith_fit hF, e6, List.length_cons, List.length_cons]
    by_cases b1 : p + 1 ≤ s.size
    · rw [if_pos b1]
      unfold restR
      rw [if_neg (by omega), if_neg (by omega), if_neg (by omega), if_neg (by omega), if_neg (by omega)]
      dsimp only
      unfold takeN
      by_cases b2 : p + 1 + 1 ≤ s.size
      · rw [if_pos b2, hF.tail.first (by omega), eL]
        dsimp only
        rw [if_neg l64, show decide (k + 1 = 6) = pr by rw [← hpr, decide_eq_decide]; omega]
        have hit := items_put s (oneP s r') pr (4 - r') (itemsOf names 0 kids) [] (p + 1 + 1) (fun q hq hq0 p' hp' hF' => by
          have hm : q.2 ∈ kids := by rw [← itemsOf_snd names kids 0]; exact List.mem_map_of_mem hq
          exact ih q.2 hm (hkN _ hm) s r' p' (by omega) hq0 hF') b2 hc hF.tail.tail
        rw [itemsOf_len] at hit
        rw [hit]
        by_cases b3 : p + 1 + 1 + (putI pr (itemsOf names 0 kids)).length ≤ s.size
        · rw [if_pos b3, if_pos (by omega)]
          dsimp only
          rw [List.nil_append]
          unfold ofItems
          rw [Nat.add_sub_cancel, List.map_map, List.map_map, normL_map]
          have g1 : (itemsOf names 0 kids).map (Prod.snd ∘ fun q => (if pr = true then q.1 else noT, ndNorm q.2)) = kids.map ndNorm := by
            conv => rhs; rw [← itemsOf_snd names kids 0, List.map_map]
            rfl
          have g2 : (if k = 5 then (itemsOf names 0 kids).map (Prod.fst ∘ fun q => (if pr = true then q.1 else noT, ndNorm q.2)) else []) = if k = 5 then (List.range kids.length).map (nameOf names) else [] := by
            by_cases k5' : k = 5
            · rw [if_pos k5', if_pos k5']
              have : pr = true := by rw [← hpr]; exact decide_eq_true k5'
              subst this
              have := itemsOf_fst names kids 0
              simp only [Nat.zero_add] at this
              rw [← this]
              rfl
            · rw [if_neg k5', if_neg k5']
          rw [g1, g2]
          congr 2; omega
        · rw [if_neg b3, if_neg (by omega)]
      · rw [if_neg b2, if_neg (by omega)]
    · rw [if_neg b1, if_neg (by omega)]
  by_cases e4 : k = 4
  · rw [if_pos e4] at hF ⊢
    have := hkey false (by rw [e4]; rfl) (by rw [e4]; exact hF)
    rw [this]
    unfold toldP
    rw [e4]
    rfl
  · have e5 : k = 5 := by omega
    rw [if_neg e4, if_pos e5] at hF ⊢
    have := hkey true (by rw [e5]; rfl) (by rw [e5]; exact hF)
    rw [this]
    unfold toldP
    rw [e5]
    rfl
end Go.Proofs.Ytinlcpenllfcpaa
