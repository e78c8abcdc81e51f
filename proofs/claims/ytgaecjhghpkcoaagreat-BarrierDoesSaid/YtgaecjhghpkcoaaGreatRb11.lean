/- The reference's barrier beside the program's: what both have alike; what is done with it, in one word for both kinds. -/
import Derived.Test.YtgaecjhghpkcoaaGreatRb10
import Derived.Test.YtgaecjhghpkcoaaGreatMBa
namespace Go.Proofs.YtgaecjhghpkcoaaGreat
open Go.RowKit

/-- what the document's barrier has of the program's -/
structure Twin (id : Bool) (b : Br) (N : Notes) (r : Rb) (nl : List (ByteArray × ByteArray × ByteArray)) (L : List (Nat × Array Value)) : Prop where
  tid : r.id = id
  kn : r.kn = b.n
  te : r.e = b.e
  tc : r.c = b.c
  keys : KeysIn L (.slice r.ka r.kn r.kc) b.n b.f
  notes : NotesIn L r.na r.nn r.nc nl
  same : ∀ k, lastN k nl = findN k N
  sz : ∀ x ∈ nl, x.2.2.size ≤ 2 ^ 39
  nil : b.n = 0 → b.e = 0 ∧ b.c = 0
  n6 : b.n ≤ 6
theorem KeysIn.none {L : List (Nat × Array Value)} {v : Value} {f g : Nat → UInt8} (h : KeysIn L v 0 f) : KeysIn L v 0 g := by
  rcases h with h | ⟨q, c, F, h1, h2, _, h4⟩
  · exact .inl h
  · exact .inr ⟨q, c, F, h1, h2, fun i hi => absurd hi (by omega), h4⟩
theorem KeysIn.form {L : List (Nat × Array Value)} {v : Value} {n : Nat} {f : Nat → UInt8} (h : KeysIn L v n f) : ∃ a c, v = .slice a n c := by
  rcases h with ⟨h, rfl⟩ | ⟨q, c, F, h1, _⟩
  · exact ⟨_, _, h⟩
  · exact ⟨_, _, h1⟩
section
variable {id : Bool} {w0 w : World} {b : Br} {N : Notes} {r : Rb} {nl : List (ByteArray × ByteArray × ByteArray)} {L : List (Nat × Array Value)}
theorem Twin.fresh (id : Bool) (kd : Nat) (nt : Value) (L : List (Nat × Array Value)) : Twin id (Br.fresh kd nt) [] ⟨id, none, 0, 0, 0, 0, none, 0, 0⟩ [] L :=
  ⟨rfl, rfl, rfl, rfl, .inl ⟨rfl, rfl⟩, .nil, fun _ => rfl, (fun _ h => by cases h), (fun _ => ⟨rfl, rfl⟩), Nat.zero_le _⟩
theorem Twin.mono (h : Twin id b N r nl L) {L' : List (Nat × Array Value)} (hL : ∀ x ∈ L, x ∈ L') : Twin id b N r nl L' :=
  ⟨h.tid, h.kn, h.te, h.tc, h.keys.mono hL, h.notes.mono hL, h.same, h.sz, h.nil, h.n6⟩
theorem Twin.take (h : Twin id b N r nl L) : takeN r.kn r.e r.c = takeE b := by rw [h.kn, h.te, h.tc]; rfl
theorem Twin.at (h : Twin id b N r nl L) (hC : St w0 L w) : Keys16 w (.slice r.ka r.kn r.kc) r.kn b.f := by
  have k := h.keys.keys hC
  rw [← h.kn] at k
  exact k
theorem takeE_n1 {b : Br} (h : takeE b = 0) : b.n ≠ 0 := fun e => by
  unfold takeE at h; rw [if_pos e] at h; cases h
theorem Twin.took (h : Twin id b N r nl L) : Twin id b.took N r.took nl L := by
  unfold Br.took Rb.took
  rw [h.take]
  split
  · rename_i hE
    have hn := takeE_n1 hE
    exact ⟨h.tid, h.kn, h.te, by show r.c + 1 = b.c + 1; rw [h.tc], h.keys, h.notes, h.same, h.sz, fun e => (hn e).elim, h.n6⟩
  · exact h
theorem Twin.shut (h : Twin id b N r nl L) : Twin id b.shut N r.shut nl L :=
  ⟨h.tid, rfl, rfl, rfl, .inl ⟨rfl, rfl⟩, h.notes, h.same, h.sz, fun _ => ⟨rfl, rfl⟩, Nat.zero_le _⟩
theorem Twin.openE (h : Twin id b N r nl L) (n e c : Nat) : openER r n e c = openE b n e c := by
  unfold openER Go.Proofs.YtgaecjhghpkcoaaGreat.openE
  rw [h.kn]
  by_cases h0 : b.n = 0
  · have a1 : ¬ 0 < b.n := by omega
    have a2 : ¬ (b.n ≠ 0) := fun k => k h0
    rw [if_neg a1, if_neg a2]
  · have a1 : 0 < b.n := by omega
    rw [if_pos a1, if_pos h0]
theorem Twin.opened (h : Twin id b N r nl L) (a : Option Addr) (n k : Nat) (f : Nat → UInt8) (e c : Nat) (h6 : n ≤ 6) (hk : KeysIn L (.slice a n k) n f) : Twin id (b.opened n f e c) N (r.opened a n k e c) nl L := by
  unfold Br.opened Rb.opened
  rw [h.openE]
  split
  · rename_i hE
    have hn : n ≠ 0 := fun e0 => by
      unfold Go.Proofs.YtgaecjhghpkcoaaGreat.openE at hE
      split at hE <;> first | cases hE | (rw [if_pos (.inl e0)] at hE; cases hE)
    exact ⟨h.tid, rfl, rfl, rfl, hk, h.notes, h.same, h.sz, fun e0 => (hn e0).elim, h6⟩
  · exact h
theorem Twin.turnE (h : Twin id b N r nl L) (n : Nat) : turnER r n = turnE b n := by
  unfold turnER Go.Proofs.YtgaecjhghpkcoaaGreat.turnE
  rw [h.kn]
theorem Twin.turned (h : Twin id b N r nl L) (a : Option Addr) (n k : Nat) (f : Nat → UInt8) (h6 : n ≤ 6) (hk : KeysIn L (.slice a n k) n f) : Twin id (b.turned n f) N (r.turned a n k) nl L := by
  unfold Br.turned Rb.turned
  rw [h.turnE]
  split
  · rename_i hE
    have hn : n ≠ 0 := fun e0 => by
      unfold Go.Proofs.YtgaecjhghpkcoaaGreat.turnE at hE
      split at hE <;> first | cases hE | (rw [if_pos e0] at hE; cases hE)
    exact ⟨h.tid, rfl, h.te, h.tc, hk, h.notes, h.same, h.sz, fun e0 => (hn e0).elim, h6⟩
  · exact h
theorem Twin.lock (h : Twin id b N r nl L) (m : Nat → UInt8) (hC : St w0 L w) : Calls Tryz.prog 21 #[.agg (rbC r), .agg (blk 16 m)] w fun x w' => x = .returned (.tuple #[.string (lockS b m), .agg (rbC r.took), .int .i64 ((takeE b : Nat) : Int)]) ∧ Below w.heap.size w w' := by
  have k := refLock21 r b.f m (by rw [h.kn]; exact h.n6) w (h.at hC)
  have e : lockNS r.kn b.f r.e r.c m = lockS b m := by unfold lockNS lockS; rw [h.take, h.kn, h.te, h.tc]
  rw [e, h.take] at k
  exact k
theorem Twin.get (h : Twin id b N r nl L) (p s : ByteArray) (hp : p.size < 2 ^ 38) (hs : s.size < 2 ^ 39) (hl : nl.length < 2 ^ 29) (hC : St w0 L w) (R : ByteArray × Nat) (hR : getO id b.n b.f (fun k => findN k N) p s = R) :
    Calls Tryz.prog 13 #[.agg (rbC r), .string p, .string s] w fun x w' => x = .returned (.tuple #[.string R.1, .int .i64 ((R.2 : Nat) : Int)]) ∧ Below w.heap.size w w' := by
  subst hR
  unfold getO
  rw [← h.kn]
  by_cases h0 : r.kn = 0
  · rw [if_pos h0]; exact refGet_sealed r p s h0 w
  · rw [if_neg h0]
    by_cases h1 : s.size < 32
    · rw [if_pos h1]; exact refGet_short r p s h0 h1 w
    · rw [if_neg h1]
      have h6 : r.kn ≤ 6 := by rw [h.kn]; exact h.n6
      by_cases h2 : numAt s 0 4 < 1 ∨ r.kn < numAt s 0 4
      · rw [if_pos h2]; exact refGet_none r p s h0 h6 (by omega) (by omega) h2 w
      · rw [if_neg h2]
        cases id
        · rw [if_neg (by decide)]
          exact refGet_real r b.f p s h.tid h6 (by omega) (by omega) (by omega) h2 w (h.at hC)
        · rw [if_pos rfl]
          have hN := h.notes.at hC
          have hsm := h.same (s.extract 4 16)
          have hti := h.tid
          have hsz := h.sz
          show Calls _ _ _ _ fun x w' => x = .returned (.tuple #[.string (idealR (findN (s.extract 4 16) N) p (s.extract 16 s.size)).1, .int .i64 (((idealR (findN (s.extract 4 16) N) p (s.extract 16 s.size)).2 : Nat) : Int)]) ∧ _
          rw [← hsm]
          obtain ⟨rid, ka, kn, kc, e, c, na, nn, nc⟩ := r
          dsimp only at hN hti h6 h2 ⊢
          subst hti
          exact refGet_idealC ka kn kc e c na nn nc nl p s h6 (by omega) (by omega) h2 w hN hl hsz
theorem Twin.put (h : Twin id b N r nl L) (p t : ByteArray) (hp : p.size < 2 ^ 38) (ht : t.size < 2 ^ 38) (hl : nl.length < 2 ^ 29) (hC : St w0 L w) :
    Calls Tryz.prog 24 #[.agg (rbC r), .string p, .string t] w fun x w' => ∃ r' nl' L', x = .returned (.tuple #[.string (putS id b p t), .agg (rbC r'), .int .i64 ((takeE b : Nat) : Int)]) ∧ Twin id b.took (putM id b p t N) r' nl' (L' ++ L) ∧ nl'.length ≤ nl.length + 1 ∧ St w L' w' := by
  by_cases hE : takeE b = 0
  · have h6 : r.kn ≤ 6 := by rw [h.kn]; exact h.n6
    have hE' : takeN r.kn r.e r.c = 0 := by rw [h.take]; exact hE
    have e1 : b.took = { b with c := b.c + 1 } := by unfold Br.took; rw [if_pos hE]
    have e2 : putS id b p t = headS r.kn (nonceS r.e r.c) ++ hideS id b p t := by unfold putS; rw [if_pos hE, h.kn, h.te, h.tc]
    have hn := takeE_n1 hE
    rw [e2, hE, e1]
    cases id
    · have e3 : hideS false b p t = sealedT r.kn b.f r.e r.c p t := by unfold hideS; rw [if_neg (by decide), h.kn, h.te, h.tc]
      have e4 : putM false b p t N = N := by unfold putM; exact if_neg fun h => by cases h.1
      rw [e3, e4]
      refine (refPut_real r b.f p t h.tid h6 hE' (by omega) (by omega) w (h.at hC)).mono ?_
      rintro x w' ⟨rfl, hw⟩
      exact ⟨{ r with c := r.c + 1 }, nl, [], rfl, ⟨h.tid, h.kn, h.te, by show r.c + 1 = b.c + 1; rw [h.tc], h.keys, h.notes, h.same, h.sz, fun e => (hn e).elim, h.n6⟩, Nat.le_succ _, (St.nil w).call hw⟩
    · have e3 : hideS true b p t = nilS (t.size + 16) := by unfold hideS; exact if_pos rfl
      have e4 : putM true b p t N = putN (nonceS r.e r.c) (p, t) N := by unfold putM; rw [if_pos ⟨rfl, hE⟩, h.te, h.tc]
      rw [e3, e4]
      refine (refPut_ideal r nl p t h.tid h6 hE' (by omega) w (h.notes.at hC) hl).mono ?_
      rintro x w' ⟨na', nn', nc', L', rfl, hN, hw⟩
      refine ⟨{ r with c := r.c + 1, na := na', nn := nn', nc := nc' }, nl ++ [(nonceS r.e r.c, p, t)], L', rfl, ⟨h.tid, h.kn, h.te, by show r.c + 1 = b.c + 1; rw [h.tc], h.keys.mono fun x hx => List.mem_append.2 (.inr hx), hN.mono fun x hx => List.mem_append.2 (.inl hx), fun k => ?_, fun x hx => ?_, fun e => (hn e).elim, h.n6⟩, by simp, hw⟩
      · rw [lastN_put, find_put, h.same k]
        by_cases hk : nonceS r.e r.c = k
        · rw [if_pos hk, if_pos hk.symm]
        · rw [if_neg hk, if_neg (Ne.symm hk)]
      · rcases List.mem_append.1 hx with hx | hx
        · exact h.sz x hx
        · rw [List.mem_singleton] at hx; subst hx; show t.size ≤ 2 ^ 39; omega
  · have e1 : b.took = b := by unfold Br.took; rw [if_neg hE]
    have e2 : putS id b p t = ⟨#[]⟩ := by unfold putS; rw [if_neg hE]
    have e4 : putM id b p t N = N := by unfold putM; exact if_neg fun h => hE h.2
    have k := refPut_no r p t (by rw [h.take]; exact hE) w
    rw [h.take] at k
    rw [e1, e2, e4]
    refine k.mono ?_
    rintro x w' ⟨rfl, hw⟩
    exact ⟨r, nl, [], rfl, h, Nat.le_succ _, (St.nil w).call hw⟩
/-- a barrier is like the document's -/
theorem Twin.like {g q m : Nat} {L2 : List (Nat × Array Value)} (h : Twin id b N r nl L) (hB : BarAt id w0 g b q m N L2 w) (hL : ∀ x ∈ L, x ∈ L2) : Calls Tryz.prog 25 #[.pointer (some ⟨g, 0, none⟩), .agg (rbC r)] w fun e w' => e = .returned (.bool true) ∧ Below w.heap.size w w' := by
  have h6 : r.kn ≤ 6 := by rw [h.kn]; exact h.n6
  by_cases h0 : b.n = 0
  · obtain ⟨e0, c0⟩ := h.nil h0
    have hk : r.kn = 0 := h.kn.trans h0
    have hcn : cn r.e r.c = cn 0 0 := by rw [h.te, h.tc, e0, c0]
    refine like_core (.pointer (some ⟨g, 0, none⟩)) r (fun _ => 0) h6 w true (by rw [hk]; rfl) (fun w' hb => sealed_shut b hB.md h0 g w0 w' _ (hB.call hb).st) (fun w' hb => ?_) (fun w' hb => ?_) ?_
    · rw [hcn]; exact count_shut b hB.md h0 g w0 w' _ (hB.call hb).st
    · rw [hk]; exact ring_shut b hB.md h0 g w0 w' _ (hB.call hb).st
    · have k := h.keys
      rw [h0] at k
      have k2 : KeysIn L (.slice r.ka r.kn r.kc) r.kn (fun _ => 0) := by rw [hk] at k ⊢; exact k.none
      exact (k2.mono fun x hx => .tail _ (.tail _ (hL x hx))).keys hB.st
  · refine like_core (.pointer (some ⟨g, 0, none⟩)) r b.f h6 w false (by rw [beq_eq_false_iff_ne, h.kn]; omega) (fun w' hb => sealed_open b hB.md h0 g w0 w' _ (hB.call hb).st) (fun w' hb => ?_) (fun w' hb => ?_) ?_
    · rw [h.te, h.tc]; exact count_open b hB.md h0 g w0 w' _ (hB.call hb).st
    · rw [h.kn]; exact ring_open b hB.md h0 g w0 w' _ (hB.call hb).st
    · exact (h.mono fun x hx => .tail _ (.tail _ (hL x hx))).at hB.st
end
end Go.Proofs.YtgaecjhghpkcoaaGreat
