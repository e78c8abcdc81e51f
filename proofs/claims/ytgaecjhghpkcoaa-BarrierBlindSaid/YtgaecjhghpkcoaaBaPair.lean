/- Two ideal barriers, each with notes of its own, as one fact; what is put and got at either of them; a third one on notes that were forked off. -/
import Derived.Test.YtgaecjhghpkcoaaMBa
import Derived.Test.YtgaecjhghpkcoaaMRegion
namespace Go.Proofs.Ytgaecjhghpkcoaa
open Go.RowKit

theorem perm_of22 {a b : List (Nat × Array Value)} (h : ∀ (cnt : List (Nat × Array Value) → Nat) (on : (Nat × Array Value) → Nat), (∀ x y, cnt (x ++ y) = cnt x + cnt y) → (∀ x l, cnt (x :: l) = on x + cnt l) → cnt [] = 0 → cnt a = cnt b) : a.Perm b := by
  classical
  exact List.perm_iff_count.2 fun z => h (fun l => List.count z l) (fun x => List.count z [x]) (fun _ _ => List.count_append) (fun x l => List.count_append (l₁ := [x])) rfl
/-- two of them -/
structure Pair (w0 : World) (ga : Nat) (ba : Br) (qa ma : Nat) (Na : Notes) (gb : Nat) (bb : Br) (qb mb : Nat) (Nb : Notes) (L : List (Nat × Array Value)) (w : World) : Prop where
  a : BarAt true w0 ga ba qa ma Na ((gb, br bb) :: (qb, #[.map (some mb)]) :: L) w
  b : BarAt true w0 gb bb qb mb Nb ((ga, br ba) :: (qa, #[.map (some ma)]) :: L) w
  ne : ma ≠ mb
section
variable {w0 w w' : World} {ga : Nat} {ba : Br} {qa ma : Nat} {Na : Notes} {gb : Nat} {bb : Br} {qb mb : Nat} {Nb : Notes} {L : List (Nat × Array Value)}
theorem pair_perm {x1 x2 x3 x4 : Nat × Array Value} {L : List (Nat × Array Value)} : (x3 :: x4 :: x1 :: x2 :: L).Perm (x1 :: x2 :: x3 :: x4 :: L) :=
  List.perm_append_comm_assoc [x3, x4] [x1, x2] L
theorem BarAt.other (h : BarAt true w0 ga ba qa ma Na ((gb, br bb) :: (qb, #[.map (some mb)]) :: L) w) (hm : Mp encN w mb Nb) (h1 : bb.md = true) (h2 : bb.kd = kdOf true) (h3 : bb.nt = ntOf true qb) (h6 : bb.n ≤ 6) (h0 : w0.heap.size ≤ mb) (hz : ∀ k x, findN k Nb = some x → x.2.size < 2 ^ 38) :
    BarAt true w0 gb bb qb mb Nb ((ga, br ba) :: (qa, #[.map (some ma)]) :: L) w :=
  ⟨h.st.perm pair_perm, hm, h1, h2, h3, h6, h0, hz⟩
theorem Pair.flip (h : Pair w0 ga ba qa ma Na gb bb qb mb Nb L w) : Pair w0 gb bb qb mb Nb ga ba qa ma Na L w := ⟨h.b, h.a, h.ne.symm⟩
theorem Pair.call (h : Pair w0 ga ba qa ma Na gb bb qb mb Nb L w) (hb : Below w.heap.size w w') : Pair w0 ga ba qa ma Na gb bb qb mb Nb L w' := ⟨h.a.call hb, h.b.call hb, h.ne⟩
/-- all blocks, in one list -/
theorem Pair.st (h : Pair w0 ga ba qa ma Na gb bb qb mb Nb L w) : St w0 ((ga, br ba) :: (qa, #[.map (some ma)]) :: (gb, br bb) :: (qb, #[.map (some mb)]) :: L) w := h.a.st
/-- other blocks behind them -/
theorem Pair.to (h : Pair w0 ga ba qa ma Na gb bb qb mb Nb L w) {L' : List (Nat × Array Value)} (hs : St w0 ((ga, br ba) :: (qa, #[.map (some ma)]) :: (gb, br bb) :: (qb, #[.map (some mb)]) :: L') w') (hm : Mk w w') : Pair w0 ga ba qa ma Na gb bb qb mb Nb L' w' :=
  ⟨h.a.to hs hm rfl rfl rfl h.a.n6, h.b.to (hs.perm pair_perm) hm rfl rfl rfl h.b.n6, h.ne⟩
theorem Pair.sub (h : Pair w0 ga ba qa ma Na gb bb qb mb Nb L w) {L' : List (Nat × Array Value)} (hs : L'.Sublist L) : Pair w0 ga ba qa ma Na gb bb qb mb Nb L' w :=
  ⟨h.a.sub ((hs.cons_cons _).cons_cons _), h.b.sub ((hs.cons_cons _).cons_cons _), h.ne⟩
/-- a row behind them is written -/
theorem Pair.set {k : Nat} {c : Array Value} (h : Pair w0 ga ba qa ma Na gb bb qb mb Nb ((k, c) :: L) w) (cs : Array Value) (hs : cs.size = c.size) : Pair w0 ga ba qa ma Na gb bb qb mb Nb ((k, cs) :: L) (w.setRow k cs) :=
  h.to (((h.st.perm (L' := (k, c) :: (ga, br ba) :: (qa, #[.map (some ma)]) :: (gb, br bb) :: (qb, #[.map (some mb)]) :: L) (List.perm_middle (l₁ := [_, _, _, _])).symm).set_head cs hs).perm (List.perm_middle (l₁ := [_, _, _, _]))) (Mk.setRow (Mk.refl _) _ _)
theorem Pair.put (h : Pair w0 ga ba qa ma Na gb bb qb mb Nb L w) (p t : ByteArray) (hp : p.size < 2 ^ 38) (ht : t.size < 2 ^ 38) (hE : takeE ba = 0) :
    Calls Try.prog 27 #[.pointer (some ⟨ga, 0, none⟩), .string p, .string t] w fun r w' => r = .returned (.tuple #[.string (putS true ba p t), .int .i64 0]) ∧ Pair w0 ga { ba with c := ba.c + 1 } qa ma (putM true ba p t Na) gb bb qb mb Nb L w' :=
  (put_yes h.a p t hp ht hE).mono fun _ _ ⟨a, c, d⟩ => ⟨a, c, c.other (h.b.mp.mo d h.ne.symm) h.b.md h.b.kd h.b.nt h.b.n6 h.b.m0 h.b.sz, h.ne⟩
/-- what was put last is got -/
theorem Pair.get (h : Pair w0 ga ba qa ma Na gb bb qb mb Nb L w) (b : Br) (p t s : ByteArray) (hE : takeE b = 0) (hn : ba.n = b.n) (hf : ba.f = b.f) (hp : p.size < 2 ^ 38) (hs : s.size < 2 ^ 39) (hS : putS true b p t = s) (hN : findN (nonceS b.e b.c) Na = some (p, t)) :
    Calls Try.prog 29 #[.pointer (some ⟨ga, 0, none⟩), .string p, .string s] w fun r w' => r = .returned (.tuple #[.string t, .int .i64 0]) ∧ Below w.heap.size w w' := by
  refine get_bar true w0 w ga ba qa ma Na _ p s hp hs h.a (t, 0) ?_
  rw [hn, hf, ← hS]
  exact get_put true b p t b.n b.f _ hE (hn ▸ h.a.n6) (Nat.le_refl _) (fun _ _ => rfl) (fun _ => hN)
end
theorem putM_find (b : Br) (p t : ByteArray) (N : Notes) (hE : takeE b = 0) : findN (nonceS b.e b.c) (putM true b p t N) = some (p, t) := by
  unfold putM; rw [if_pos ⟨rfl, hE⟩, find_put, if_pos rfl]
/-- ideal: entries do not tell the texts -/
theorem putS_blind (b b' : Br) (p t p' t' : ByteArray) (hE : takeE b = 0) (hE' : takeE b' = 0) (hn : b.n = b'.n) (he : b.e = b'.e) (hc : b.c = b'.c) (ht : t.size = t'.size) : putS true b p t = putS true b' p' t' := by
  rw [putS_yes _ _ _ _ hE, putS_yes _ _ _ _ hE', hn, he, hc]
  unfold hideS
  rw [if_pos rfl, if_pos rfl, ht]
theorem putS_long (id : Bool) (b : Br) (p t : ByteArray) (hE : takeE b = 0) : (putS id b p t).size = t.size + 32 := by
  rw [putS_yes _ _ _ _ hE, entry_size _ _ _ (nonceS_size _ _), hideS_size]; omega
/-- one barrier with its notes, and notes for another one -/
structure Half (w0 : World) (ga : Nat) (ba : Br) (qa ma : Nat) (Na : Notes) (qb mb : Nat) (Nb : Notes) (L : List (Nat × Array Value)) (w : World) : Prop where
  a : BarAt true w0 ga ba qa ma Na ((qb, #[.map (some mb)]) :: L) w
  mp : Mp encN w mb Nb
  m0 : w0.heap.size ≤ mb
  ne : ma ≠ mb
  sz : ∀ k x, findN k Nb = some x → x.2.size < 2 ^ 38
/-- two of them, and notes for a third one -/
structure Forked (w0 : World) (ga : Nat) (ba : Br) (qa ma : Nat) (Na : Notes) (gb : Nat) (bb : Br) (qb mb : Nat) (Nb : Notes) (q m : Nat) (N : Notes) (L : List (Nat × Array Value)) (w : World) : Prop where
  p : Pair w0 ga ba qa ma Na gb bb qb mb Nb ((q, #[.map (some m)]) :: L) w
  mp : Mp encN w m N
  m0 : w0.heap.size ≤ m
  na : ma ≠ m
  nb : mb ≠ m
  sz : ∀ k x, findN k N = some x → x.2.size < 2 ^ 38
/-- three of them -/
structure Trio (w0 : World) (ga : Nat) (ba : Br) (qa ma : Nat) (Na : Notes) (gb : Nat) (bb : Br) (qb mb : Nat) (Nb : Notes) (gc : Nat) (bc : Br) (qc mc : Nat) (Nc : Notes) (L : List (Nat × Array Value)) (w : World) : Prop where
  p : Pair w0 ga ba qa ma Na gb bb qb mb Nb ((gc, br bc) :: (qc, #[.map (some mc)]) :: L) w
  c : BarAt true w0 gc bc qc mc Nc ((ga, br ba) :: (qa, #[.map (some ma)]) :: (gb, br bb) :: (qb, #[.map (some mb)]) :: L) w
  na : ma ≠ mc
  nb : mb ≠ mc
section
variable {w0 w w' : World} {ga : Nat} {ba : Br} {qa ma : Nat} {Na : Notes} {gb : Nat} {bb : Br} {qb mb : Nat} {Nb : Notes} {gc : Nat} {bc : Br} {qc mc : Nat} {Nc : Notes} {L : List (Nat × Array Value)}
theorem Half.call (h : Half w0 ga ba qa ma Na qb mb Nb L w) (hb : Below w.heap.size w w') : Half w0 ga ba qa ma Na qb mb Nb L w' := ⟨h.a.call hb, h.mp.call _ hb, h.m0, h.ne, h.sz⟩
theorem Half.drew (h : Half w0 ga ba qa ma Na qb mb Nb L w) : Half w0 ga ba qa ma Na qb mb Nb L w.drew := h.call ((Below.refl _ w).drew)
theorem Forked.call (h : Forked w0 ga ba qa ma Na gb bb qb mb Nb qc mc Nc L w) (hb : Below w.heap.size w w') : Forked w0 ga ba qa ma Na gb bb qb mb Nb qc mc Nc L w' := ⟨h.p.call hb, h.mp.call _ hb, h.m0, h.na, h.nb, h.sz⟩
theorem Trio.call (h : Trio w0 ga ba qa ma Na gb bb qb mb Nb gc bc qc mc Nc L w) (hb : Below w.heap.size w w') : Trio w0 ga ba qa ma Na gb bb qb mb Nb gc bc qc mc Nc L w' := ⟨h.p.call hb, h.c.call hb, h.na, h.nb⟩
theorem half_new (h : BarAt true w0 ga ba qa ma Na L w) : Calls Try.prog 26 #[] w fun r w' => ∃ q m, r = .returned (.pointer (some ⟨q, 0, none⟩)) ∧ Half w0 ga ba qa ma Na q m [] L w' := by
  refine (newNotes_any w w w [] (Sk.nil w)).mono ?_
  rintro r w' ⟨q, m, rfl, hs, hM, h0⟩
  exact ⟨q, m, rfl, h.join (L' := [_]) hs.toSt, hM, Nat.le_trans h.st.below.size h0, Nat.ne_of_lt (Nat.lt_of_lt_of_le h.mp.lt h0), fun _ _ h => by cases h⟩
theorem half_open (h : Half w0 ga ba qa ma Na qb mb Nb L w) (mk : Nat → UInt8) (t : Nat) (h1 : 1 ≤ t) (h6 : t ≤ 6) (e c : Nat) (hk : mayC e c) :
    Calls Try.prog 24 #[.int .u8 ((kdOf true : Nat) : Int), .pointer (some ⟨qb, 0, none⟩), .agg (blk 16 mk), .int .i64 (t : Int), .agg (cn e c)] w fun r w' => ∃ gb L', r = .returned (.pointer (some ⟨gb, 0, none⟩)) ∧ Pair w0 ga ba qa ma Na gb ⟨true, kdOf true, ntOf true qb, t, ringF mk t, e, c⟩ qb mb Nb (L' ++ L) w' := by
  refine (opened_bar true (.pointer (some ⟨qb, 0, none⟩)) mk t h1 h6 e c hk w0 w qb mb Nb ((ga, br ba) :: (qa, #[.map (some ma)]) :: L) (fun _ => rfl) (h.a.st.perm (perm_of22 fun _ _ c1 c2 c3 => by simp only [c2]; omega)) h.mp h.m0 h.sz).mono ?_
  rintro r w' ⟨gb, L', rfl, hB, hk'⟩
  exact ⟨gb, L', rfl, ⟨hB.st.perm (perm_of22 fun _ _ c1 c2 c3 => by simp only [c1, c2]; omega), h.a.mp.mk _ hk', h.a.md, h.a.kd, h.a.nt, h.a.n6, h.a.m0, h.a.sz⟩, hB.perm (perm_of22 fun _ _ c1 c2 c3 => by simp only [c1, c2]; omega), h.ne⟩
theorem Pair.join (h : Pair w0 ga ba qa ma Na gb bb qb mb Nb L w) {L' : List (Nat × Array Value)} (k : St w L' w') : Pair w0 ga ba qa ma Na gb bb qb mb Nb (L' ++ L) w' :=
  ⟨(h.a.join k).perm (perm_of22 fun _ _ c1 c2 c3 => by simp only [c1, c2]; omega), (h.b.join k).perm (perm_of22 fun _ _ c1 c2 c3 => by simp only [c1, c2]; omega), h.ne⟩
theorem Pair.perm (h : Pair w0 ga ba qa ma Na gb bb qb mb Nb L w) {L' : List (Nat × Array Value)} (hp : L'.Perm L) : Pair w0 ga ba qa ma Na gb bb qb mb Nb L' w :=
  ⟨h.a.perm ((hp.cons _).cons _), h.b.perm ((hp.cons _).cons _), h.ne⟩
theorem Pair.pushM (h : Pair w0 ga ba qa ma Na gb bb qb mb Nb L w) (n : Nat) (f : Nat → UInt8) (t : TypeId) (k : Nat) : Pair w0 ga ba qa ma Na gb bb qb mb Nb ((w.heap.size, blk n f) :: L) (w.alloc (.cells (blk n f) t (n, k))) :=
  h.to ((h.st.pushM n f t k).perm (perm_of22 fun _ _ _ c2 c3 => by simp only [c2]; omega)) (Mk.alloc (Mk.refl _) _)
theorem pair_fork (h : Pair w0 ga ba qa ma Na gb bb qb mb Nb L w) : Calls Try.prog 31 #[.pointer (some ⟨qa, 0, none⟩)] w fun r w' => ∃ q m, r = .returned (.pointer (some ⟨q, 0, none⟩)) ∧ Forked w0 ga ba qa ma Na gb bb qb mb Nb q m Na L w' := by
  have hat := h.a.st.at (g := qa) (c := #[.map (some ma)]) (by simp)
  refine (notesFork_any qa ma Na w hat.1 hat.2.2.1 hat.2.2.2.2 h.a.mp).mono ?_
  rintro r w' ⟨q, m, rfl, hs, hM, h0⟩
  exact ⟨q, m, rfl, h.join (L' := [_]) hs, hM, Nat.le_trans h.a.st.below.size h0, Nat.ne_of_lt (Nat.lt_of_lt_of_le h.a.mp.lt h0), Nat.ne_of_lt (Nat.lt_of_lt_of_le h.b.mp.lt h0), h.a.sz⟩
theorem forked_open (h : Forked w0 ga ba qa ma Na gb bb qb mb Nb qc mc Nc L w) (mk : Nat → UInt8) (t : Nat) (h1 : 1 ≤ t) (h6 : t ≤ 6) (e c : Nat) (hk : mayC e c) :
    Calls Try.prog 24 #[.int .u8 ((kdOf true : Nat) : Int), .pointer (some ⟨qc, 0, none⟩), .agg (blk 16 mk), .int .i64 (t : Int), .agg (cn e c)] w fun r w' => ∃ gc L', r = .returned (.pointer (some ⟨gc, 0, none⟩)) ∧ Trio w0 ga ba qa ma Na gb bb qb mb Nb gc ⟨true, kdOf true, ntOf true qc, t, ringF mk t, e, c⟩ qc mc Nc (L' ++ L) w' := by
  refine (opened_bar true (.pointer (some ⟨qc, 0, none⟩)) mk t h1 h6 e c hk w0 w qc mc Nc ((ga, br ba) :: (qa, #[.map (some ma)]) :: (gb, br bb) :: (qb, #[.map (some mb)]) :: L) (fun _ => rfl) (h.p.st.perm (perm_of22 fun _ _ c1 c2 c3 => by simp only [c2]; omega)) h.mp h.m0 h.sz).mono ?_
  rintro r w' ⟨gc, L', rfl, hB, hk'⟩
  refine ⟨gc, L', rfl, ⟨⟨hB.st.perm (perm_of22 fun _ _ c1 c2 c3 => by simp only [c1, c2]; omega), h.p.a.mp.mk _ hk', h.p.a.md, h.p.a.kd, h.p.a.nt, h.p.a.n6, h.p.a.m0, h.p.a.sz⟩, ⟨hB.st.perm (perm_of22 fun _ _ c1 c2 c3 => by simp only [c1, c2]; omega), h.p.b.mp.mk _ hk', h.p.b.md, h.p.b.kd, h.p.b.nt, h.p.b.n6, h.p.b.m0, h.p.b.sz⟩, h.p.ne⟩, hB.perm (perm_of22 fun _ _ c1 c2 c3 => by simp only [c1, c2]; omega), h.na, h.nb⟩
theorem trio_put (h : Trio w0 ga ba qa ma Na gb bb qb mb Nb gc bc qc mc Nc L w) (p t : ByteArray) (hp : p.size < 2 ^ 38) (ht : t.size < 2 ^ 38) (hE : takeE bc = 0) :
    Calls Try.prog 27 #[.pointer (some ⟨gc, 0, none⟩), .string p, .string t] w fun r w' => r = .returned (.tuple #[.string (putS true bc p t), .int .i64 0]) ∧ Pair w0 ga ba qa ma Na gb bb qb mb Nb ((gc, br { bc with c := bc.c + 1 }) :: (qc, #[.map (some mc)]) :: L) w' := by
  refine (put_yes h.c p t hp ht hE).mono ?_
  rintro r w' ⟨rfl, hB, hm⟩
  exact ⟨rfl, ⟨hB.st.perm (perm_of22 fun _ _ c1 c2 c3 => by simp only [c2]; omega), h.p.a.mp.mo hm h.na, h.p.a.md, h.p.a.kd, h.p.a.nt, h.p.a.n6, h.p.a.m0, h.p.a.sz⟩, ⟨hB.st.perm (perm_of22 fun _ _ c1 c2 c3 => by simp only [c2]; omega), h.p.b.mp.mo hm h.nb, h.p.b.md, h.p.b.kd, h.p.b.nt, h.p.b.n6, h.p.b.m0, h.p.b.sz⟩, h.p.ne⟩
end
/-- a text of which each byte is moved on, so far -/
def othF (seed : UInt8) (f : Nat → UInt8) (k i : Nat) : UInt8 := if i < k then f i + (seed + UInt8.ofNat i) else f i
theorem othF_zero (seed : UInt8) (f : Nat → UInt8) : othF seed f 0 = f := funext fun i => if_neg (Nat.not_lt_zero i)
theorem othF_next (seed : UInt8) (f : Nat → UInt8) (k : Nat) : upd (othF seed f k) k (othF seed f k k + (seed + UInt8.ofNat k)) = othF seed f (k + 1) := by
  funext i
  unfold upd othF
  by_cases h : i = k
  · subst h; simp
  · rw [if_neg h]
    by_cases h2 : i < k
    · rw [if_pos h2, if_pos (by omega)]
    · rw [if_neg h2, if_neg (by omega)]
theorem B_addw (x y : UInt8) : IntKind.u8.wrap (B x + B y) = B (x + y) := by
  rw [wrap8]; unfold B; rw [UInt8.toNat_add]; omega
theorem B_addm (x y : UInt8) : (B x + B y) % 256 = B (x + y) := by
  unfold B; rw [UInt8.toNat_add]; omega
theorem B_ofm (n : Nat) : ((n : Int) % 256) = B (UInt8.ofNat n) := by unfold B; rw [UInt8.toNat_ofNat']; omega
theorem B_oth (x s : UInt8) (n : Nat) : (B x + (B s + (n : Int))) % 256 = B (x + (s + UInt8.ofNat n)) := by
  unfold B; rw [UInt8.toNat_add, UInt8.toNat_add, UInt8.toNat_ofNat']; omega
theorem B_oth2 (x s : UInt8) (n : Nat) : (B x + (B s + B (UInt8.ofNat n))) % 256 = B (x + (s + UInt8.ofNat n)) := by
  unfold B; rw [UInt8.toNat_add, UInt8.toNat_add]; omega
end Go.Proofs.Ytgaecjhghpkcoaa
