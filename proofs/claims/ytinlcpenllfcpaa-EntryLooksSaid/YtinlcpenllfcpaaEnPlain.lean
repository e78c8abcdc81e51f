/- Values of a few kinds, as trees: whether one may be, its bytes, the value of bytes; and what is said of these. No program stands in this text; no condition. -/
import Derived.Test.YtinlcpenllfcpaaRefNum
import Derived.Test.YtinlcpenllfcpaaVApp
namespace Go.Proofs.Ytinlcpenllfcpaa

/-- a value: its kind (0 nothing, 1 a bool, 2 a number, 3 a text, 4 a list, 5 pairs, others of no kind), its number, its text, what lies within, and the names of that -/
inductive Nd where
  | mk (k n : Nat) (s : ByteArray) (kids : List Nd) (names : List ByteArray)
theorem Nd.ind {P : Nd → Prop} (h : ∀ k n s kids names, (∀ x ∈ kids, P x) → P (.mk k n s kids names)) : ∀ x, P x :=
  fun x => Nd.rec (motive_1 := P) (motive_2 := fun l => ∀ x ∈ l, P x) (fun k n s kids names ih => h k n s kids names ih) (fun x hx => by cases hx) (fun a l ha hl x hx => (List.mem_cons.1 hx).elim (fun e => e ▸ ha) (hl x)) x
def noT : ByteArray := ⟨#[]⟩
def Nd.zero : Nd := .mk 0 0 noT [] []
def Nd.kind : Nd → Nat | .mk k _ _ _ _ => k
def Nd.num : Nd → Nat | .mk _ n _ _ _ => n
def Nd.txt : Nd → ByteArray | .mk _ _ s _ _ => s
def Nd.kids : Nd → List Nd | .mk _ _ _ l _ => l
def Nd.names : Nd → List ByteArray | .mk _ _ _ _ l => l
/-- the name of an item; empty, if it lacks -/
def nameOf (names : List ByteArray) (i : Nat) : ByteArray := names.getD i noT
mutual
/-- how high a tree is -/
def Nd.ht : Nd → Nat
  | .mk _ _ _ kids _ => 1 + htL kids
def htL : List Nd → Nat
  | [] => 0
  | x :: l => max x.ht (htL l)
end
theorem ht_mem {x : Nd} : ∀ {l : List Nd}, x ∈ l → x.ht ≤ htL l
  | y :: l, h => by
    unfold htL
    rcases List.mem_cons.1 h with rfl | h
    · omega
    · have := ht_mem h; omega
/-- a text ahead of another one -/
def lessT (a b : ByteArray) : Bool := Op.bytesLess a.toList b.toList

/-! ### is it too much? -/
mutual
def ovN : Nd → Nat → Nat → Nat
  | .mk _ _ s kids names, d, left => if 7 < d ∨ left < 1 ∨ 200 < s.size ∨ 70 < kids.length ∨ 70 < names.length then 1000 else if names.any (fun t => decide (200 < t.size)) = true then 1000 else ovL kids 1 (d + 1) left
def ovL : List Nd → Nat → Nat → Nat → Nat
  | [], used, _, _ => used
  | x :: l, used, d, left => if left < used + ovN x d (left - used) then 1000 else ovL l (used + ovN x d (left - used)) d left
end
/-! ### may it be? -/
mutual
def ndChk : Nd → Nat → Nat
  | .mk k _ s kids names, d => if 5 < k then 22 else if k = 3 ∧ 65535 < s.size then 5 else if k < 4 then 0 else if 4 ≤ d then 24 else if 64 < kids.length then 5 else chkL (decide (k = 5)) names 0 kids (d + 1)
def chkL (p : Bool) (names : List ByteArray) (i : Nat) : List Nd → Nat → Nat
  | [], _ => 0
  | x :: l, d => if p = true ∧ 65535 < (nameOf names i).size then 5 else if p = true ∧ 0 < i ∧ lessT (nameOf names (i - 1)) (nameOf names i) = false then 4 else if ndChk x d ≠ 0 then ndChk x d else chkL p names (i + 1) l d
end
/-! ### its bytes -/
def beL (k N : Nat) : List UInt8 := (List.range k).map (beB N k)
def txL (s : ByteArray) : List UInt8 := s.data.toList
def rowL (s : ByteArray) : List UInt8 := beL 2 s.size ++ txL s
mutual
def ndPut : Nd → List UInt8
  | .mk k n s kids names => if k = 0 then [0] else if k = 1 then [if n = 1 then 2 else 1] else if k = 2 then 3 :: beL 8 n else if k = 3 then 4 :: rowL s else if k = 4 then 5 :: UInt8.ofNat kids.length :: putL false names 0 kids else if k = 5 then 6 :: UInt8.ofNat kids.length :: putL true names 0 kids else [0]
def putL (p : Bool) (names : List ByteArray) (i : Nat) : List Nd → List UInt8
  | [] => []
  | x :: l => (if p = true then rowL (nameOf names i) else []) ++ (ndPut x ++ putL p names (i + 1) l)
end
/-! ### what counts of it -/
mutual
def ndNorm : Nd → Nd
  | .mk k n s kids names => if k = 0 then .zero else if k = 1 then .mk 1 (if n = 1 then 1 else 0) noT [] [] else if k = 2 then .mk 2 n noT [] [] else if k = 3 then .mk 3 0 s [] [] else .mk k 0 noT (normL kids) (if k = 5 then (List.range kids.length).map (nameOf names) else [])
def normL : List Nd → List Nd
  | [] => []
  | x :: l => ndNorm x :: normL l
end
theorem normL_map : ∀ l, normL l = l.map ndNorm
  | [] => by unfold normL; rfl
  | x :: l => by unfold normL; rw [normL_map l]; rfl
/-! ### the value of bytes -/
def takeN (s : ByteArray) (p k : Nat) : Except Nat (Nat × Nat) := if p + k ≤ s.size then .ok (numAt s p k, p + k) else .error 3
def takeR (s : ByteArray) (p : Nat) : Except Nat (ByteArray × Nat) := if p + 2 ≤ s.size then (if p + 2 + numAt s p 2 ≤ s.size then .ok (s.extract (p + 2) (p + 2 + numAt s p 2), p + 2 + numAt s p 2) else .error 3) else .error 3
/-- items, one after the other, behind those that are there -/
def itemsA (s : ByteArray) (f : Nat → Except Nat (Nd × Nat)) (pr : Bool) : Nat → List (ByteArray × Nd) → Nat → Except Nat (List (ByteArray × Nd) × Nat)
  | 0, acc, p => .ok (acc, p)
  | c + 1, acc, p =>
    if pr = true then match takeR s p with
      | .error e => .error e
      | .ok (r, p1) => if (match acc.getLast? with | none => false | some q => !lessT q.1 r) = true then .error 4 else match f p1 with
        | .error e => .error e
        | .ok (x, p2) => itemsA s f pr c (acc ++ [(r, x)]) p2
    else match f p with
      | .error e => .error e
      | .ok (x, p2) => itemsA s f pr c (acc ++ [(noT, x)]) p2
def ofItems (k : Nat) (l : List (ByteArray × Nd)) : Nd := .mk k 0 noT (l.map Prod.snd) (if k = 5 then l.map Prod.fst else [])
def oneWith (s : ByteArray) (f : Option (Nat → Except Nat (Nd × Nat))) (p : Nat) : Except Nat (Nd × Nat) :=
  match takeN s p 1 with
  | .error e => .error e
  | .ok (k, p1) =>
    if 6 < k then .error 22 else if k = 0 then .ok (.zero, p1) else if k < 3 then .ok (.mk 1 (k - 1) noT [] [], p1)
    else if k = 3 then match takeN s p1 8 with
      | .error e => .error e
      | .ok (n, p2) => .ok (.mk 2 n noT [] [], p2)
    else if k = 4 then match takeR s p1 with
      | .error e => .error e
      | .ok (r, p2) => .ok (.mk 3 0 r [] [], p2)
    else match f with
      | none => .error 24
      | some g => match takeN s p1 1 with
        | .error e => .error e
        | .ok (c, p2) => if 64 < c then .error 5 else match itemsA s g (decide (k = 6)) c [] p2 with
          | .error e => .error e
          | .ok (l, p3) => .ok (ofItems (k - 1) l, p3)
/-- a value, within which so many may lie -/
def oneP (s : ByteArray) : Nat → Nat → Except Nat (Nd × Nat)
  | 0 => oneWith s none
  | r + 1 => oneWith s (some (oneP s r))
def ndTake (s : ByteArray) : Except Nat Nd := match oneP s 4 0 with
  | .error e => .error e
  | .ok (x, p) => if p = s.size then .ok x else .error 4
end Go.Proofs.Ytinlcpenllfcpaa
