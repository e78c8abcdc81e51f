/- A barrier of either kind, with its notes, in one fact; what is put and got, in one word for both kinds. -/
import Derived.Test.YtgaecjhghpkcoaaGreatBaOpened
namespace Go.Proofs.YtgaecjhghpkcoaaGreat
open Go.RowKit

def kdOf (id : Bool) : Nat := if id = true then 1 else 0
def ntOf (id : Bool) (q : Nat) : Value := if id = true then .pointer (some ⟨q, 0, none⟩) else .pointer none
/-- what notes are -/
abbrev Notes := List (ByteArray × (ByteArray × ByteArray))
/-- a barrier with its notes; the blocks behind them -/
structure BarAt (id : Bool) (w0 : World) (g : Nat) (b : Br) (q m : Nat) (N : Notes) (L : List (Nat × Array Value)) (w : World) : Prop where
  st : St w0 ((g, br b) :: (q, #[.map (some m)]) :: L) w
  mp : Mp encN w m N
  md : b.md = true
  kd : b.kd = kdOf id
  nt : b.nt = ntOf id q
  n6 : b.n ≤ 6
  m0 : w0.heap.size ≤ m
  sz : ∀ k x, findN k N = some x → x.2.size < 2 ^ 38
section
variable {id : Bool} {w0 w w' : World} {g : Nat} {b : Br} {q m : Nat} {N : Notes} {L : List (Nat × Array Value)}
theorem BarAt.call (h : BarAt id w0 g b q m N L w) (hb : Below w.heap.size w w') : BarAt id w0 g b q m N L w' := ⟨h.st.call hb, h.mp.call _ hb, h.md, h.kd, h.nt, h.n6, h.m0, h.sz⟩
theorem BarAt.to (h : BarAt id w0 g b q m N L w) {b' : Br} {L' : List (Nat × Array Value)} (hs : St w0 ((g, br b') :: (q, #[.map (some m)]) :: L') w') (hk : Mk w w') (h1 : b'.md = b.md) (h2 : b'.kd = b.kd) (h3 : b'.nt = b.nt) (h4 : b'.n ≤ 6) : BarAt id w0 g b' q m N L' w' :=
  ⟨hs, h.mp.mk _ hk, h1.trans h.md, h2.trans h.kd, h3.trans h.nt, h4, h.m0, h.sz⟩
theorem BarAt.next (h : BarAt id w0 g b q m N L w) {b' : Br} (hs : Sk w w0 ((g, br b') :: (q, #[.map (some m)]) :: L) w') (h1 : b'.md = b.md) (h2 : b'.kd = b.kd) (h3 : b'.nt = b.nt) (h4 : b'.n ≤ 6) : BarAt id w0 g b' q m N L w' := h.to hs.toSt hs.kept h1 h2 h3 h4
theorem BarAt.push (h : BarAt id w0 g b q m N L w) (cs : Array Value) (t : TypeId) : BarAt id w0 g b q m N ((w.heap.size, cs) :: L) (w.alloc (.cells cs t)) :=
  h.to ((h.st.push cs t).perm (List.perm_middle (l₁ := [_, _]))) (Mk.alloc (Mk.refl _) _) rfl rfl rfl h.n6
theorem BarAt.skip (h : BarAt id w0 g b q m N L w) (o : Obj) : BarAt id w0 g b q m N L (w.alloc o) := h.to (h.st.skip o) (Mk.alloc (Mk.refl _) _) rfl rfl rfl h.n6
theorem BarAt.perm (h : BarAt id w0 g b q m N L w) {L' : List (Nat × Array Value)} (hp : L'.Perm L) : BarAt id w0 g b q m N L' w := h.to (h.st.perm ((hp.cons _).cons _)) (Mk.refl _) rfl rfl rfl h.n6
/-- a row behind them is written -/
theorem BarAt.set {k : Nat} {c : Array Value} (h : BarAt id w0 g b q m N ((k, c) :: L) w) (cs : Array Value) (hs : cs.size = c.size) : BarAt id w0 g b q m N ((k, cs) :: L) (w.setRow k cs) :=
  h.to (((h.st.perm (L' := (k, c) :: (g, br b) :: (q, #[.map (some m)]) :: L) (List.perm_middle (l₁ := [_, _])).symm).set_head cs hs).perm (List.perm_middle (l₁ := [_, _]))) (Mk.setRow (Mk.refl _) _ _) rfl rfl rfl h.n6
end
theorem took_same (b : Br) : b.took.md = b.md ∧ b.took.kd = b.kd ∧ b.took.nt = b.nt ∧ b.took.n = b.n ∧ b.took.f = b.f ∧ b.took.e = b.e := by
  unfold Br.took; split <;> exact ⟨rfl, rfl, rfl, rfl, rfl, rfl⟩
/-- what is put -/
def hideS (id : Bool) (b : Br) (p t : ByteArray) : ByteArray := if id = true then nilS (t.size + 16) else sealedT b.n b.f b.e b.c p t
def putS (id : Bool) (b : Br) (p t : ByteArray) : ByteArray := if takeE b = 0 then headS b.n (nonceS b.e b.c) ++ hideS id b p t else ⟨#[]⟩
def putM (id : Bool) (b : Br) (p t : ByteArray) (N : Notes) : Notes := if id = true ∧ takeE b = 0 then putN (nonceS b.e b.c) (p, t) N else N
theorem hideS_size (id : Bool) (b : Br) (p t : ByteArray) : (hideS id b p t).size = t.size + 16 := by
  unfold hideS
  split
  · exact strOf_size _ _
  · unfold sealedT; rw [sealS_size]
theorem putS_size (id : Bool) (b : Br) (p t : ByteArray) : (putS id b p t).size ≤ t.size + 32 := by
  unfold putS
  split
  · rw [entry_size _ _ _ (nonceS_size _ _), hideS_size]; omega
  · exact Nat.zero_le _
theorem put_bar (id : Bool) (w0 w : World) (g : Nat) (b : Br) (q m : Nat) (N : Notes) (L : List (Nat × Array Value)) (p t : ByteArray) (hp : p.size < 2 ^ 38) (ht : t.size < 2 ^ 38) (h : BarAt id w0 g b q m N L w) :
    Calls Tryz.prog 23 #[.pointer (some ⟨g, 0, none⟩), .string p, .string t] w fun r w' => r = .returned (.tuple #[.string (putS id b p t), .int .i64 ((takeE b : Nat) : Int)]) ∧ BarAt id w0 g b.took q m (putM id b p t N) L w' ∧ Mo m w w' := by
  by_cases hE : takeE b = 0
  · have e1 : b.took = { b with c := b.c + 1 } := by unfold Br.took; rw [if_pos hE]
    have e2 : putS id b p t = headS b.n (nonceS b.e b.c) ++ hideS id b p t := by unfold putS; rw [if_pos hE]
    rw [e2, hE]
    cases id
    · have e3 : hideS false b p t = sealedT b.n b.f b.e b.c p t := by unfold hideS; exact if_neg (by decide)
      have e4 : putM false b p t N = N := by unfold putM; exact if_neg fun h => by cases h.1
      rw [e3, e4]
      refine (put_real b h.md h.kd h.n6 hE p t (by omega) (by omega) g w w0 w _ h.st.sk).mono ?_
      rintro r w' ⟨rfl, hs⟩
      rw [e1]
      exact ⟨rfl, h.next hs rfl rfl rfl h.n6, fun k es c _ hk => hs.kept k es c hk⟩
    · have e3 : hideS true b p t = nilS (t.size + 16) := by unfold hideS; exact if_pos rfl
      have e4 : putM true b p t N = putN (nonceS b.e b.c) (p, t) N := by unfold putM; exact if_pos ⟨rfl, hE⟩
      rw [e3, e4]
      refine (put_ideal b h.md h.kd h.n6 hE q m h.nt N p t (by omega) g w w0 w L h.st.sk h.mp h.m0).mono ?_
      rintro r w' ⟨rfl, hmo, hmp, hs⟩
      rw [e1]
      refine ⟨rfl, ⟨hs.toSt, hmp, h.md, h.kd, h.nt, h.n6, h.m0, fun k x hx => ?_⟩, hmo⟩
      rw [find_put] at hx
      split at hx
      · cases hx; exact ht
      · exact h.sz k x hx
  · have e1 : b.took = b := by unfold Br.took; rw [if_neg hE]
    have e2 : putS id b p t = ⟨#[]⟩ := by unfold putS; rw [if_neg hE]
    have e4 : putM id b p t N = N := by unfold putM; exact if_neg fun h => hE h.2
    rw [e1, e2, e4]
    refine (put_no b h.md hE p t g w w0 w _ h.st.sk).mono ?_
    rintro r w' ⟨rfl, hs⟩
    exact ⟨rfl, h.next hs rfl rfl rfl h.n6, fun k es c _ hk => hs.kept k es c hk⟩
theorem get_bar (id : Bool) (w0 w : World) (g : Nat) (b : Br) (q m : Nat) (N : Notes) (L : List (Nat × Array Value)) (p s : ByteArray) (hp : p.size < 2 ^ 38) (hs : s.size < 2 ^ 39) (h : BarAt id w0 g b q m N L w) (R : ByteArray × Nat) (hR : getO id b.n b.f (fun k => findN k N) p s = R) :
    Calls Tryz.prog 12 #[.pointer (some ⟨g, 0, none⟩), .string p, .string s] w fun r w' => r = .returned (.tuple #[.string R.1, .int .i64 ((R.2 : Nat) : Int)]) ∧ Below w.heap.size w w' := by
  subst hR
  unfold getO
  by_cases h0 : b.n = 0
  · rw [if_pos h0]; exact get_sealed b h.md h0 p s g w0 w _ h.st
  · rw [if_neg h0]
    by_cases h1 : s.size < 32
    · rw [if_pos h1]; exact get_short b h.md h0 p s h1 g w0 w _ h.st
    · rw [if_neg h1]
      by_cases h2 : numAt s 0 4 < 1 ∨ b.n < numAt s 0 4
      · rw [if_pos h2]; exact get_none b h.md h0 p s (by omega) (by omega) h2 g w0 w _ h.st
      · rw [if_neg h2]
        cases id
        · rw [if_neg (by decide)]
          exact get_real b h.md h.kd h0 h.n6 p s (by omega) (by omega) (by omega) h2 _ rfl g w0 w _ h.st
        · rw [if_pos rfl]
          exact get_ideal b h.md h.kd h0 h.n6 q m h.nt N p s (by omega) (by omega) h2 _ rfl (fun q' t' e => Nat.le_of_lt (Nat.lt_of_lt_of_le (h.sz _ _ e) (by omega))) g w w0 w L h.st.sk h.mp
theorem opened_bar (id : Bool) (p : Value) (mk : Nat → UInt8) (t : Nat) (h1 : 1 ≤ t) (h6 : t ≤ 6) (e c : Nat) (hk : mayC e c) (w0 w : World) (q m : Nat) (N : Notes) (L : List (Nat × Array Value)) (hp : id = true → p = .pointer (some ⟨q, 0, none⟩)) (hC : St w0 ((q, #[.map (some m)]) :: L) w) (hM : Mp encN w m N) (h0 : w0.heap.size ≤ m) (hsz : ∀ k x, findN k N = some x → x.2.size < 2 ^ 38) :
    Calls Tryz.prog 26 #[.int .u8 ((kdOf id : Nat) : Int), p, .agg (blk 16 mk), .int .i64 (t : Int), .agg (cn e c)] w fun r w' => ∃ g L', r = .returned (.pointer (some ⟨g, 0, none⟩)) ∧ BarAt id w0 g ⟨true, kdOf id, ntOf id q, t, ringF mk t, e, c⟩ q m N (L' ++ L) w' ∧ Mk w w' := by
  have hN : BarMakes (kdOf id) p (ntOf id q) w w0 ((q, #[.map (some m)]) :: L) := by
    cases id
    · exact barMakes_real p w w0 _
    · rw [hp rfl]; exact barMakes_ideal q m w w0 _ (.head _)
  refine (opened_any (kdOf id) p (ntOf id q) mk t h1 h6 e c hk w w0 w _ hN hC.sk).mono ?_
  rintro r w' ⟨g, L', rfl, hs⟩
  exact ⟨g, L', rfl, ⟨hs.toSt.perm ((List.perm_middle (l₁ := L')).symm.cons _), hM.mk _ hs.kept, rfl, rfl, rfl, h6, h0, hsz⟩, hs.kept⟩
end Go.Proofs.YtgaecjhghpkcoaaGreat
