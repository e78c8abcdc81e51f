/- Entries taken apart, in plain words; Unlock, whole, the program's and the reference's. -/
import Derived.Test.YtgaecjhghpkcoaaGreatBar13
import Derived.Test.YtgaecjhghpkcoaaGreatBar9
namespace Go.Proofs.YtgaecjhghpkcoaaGreat
open Go.RowKit

/-! ### plain -/
theorem ofText_lead (a b : ByteArray) (i : Nat) (h : i < a.size) : ofText (a ++ b) i = ofText a i := by
  have h' : i < a.data.size := h
  unfold ofText
  rw [ByteArray.data_append, Array.getD_eq_getD_getElem?, Array.getD_eq_getD_getElem?, Array.getElem?_append_left h']
theorem strS_again (r v : Nat → UInt8) (n : Nat) (s : ByteArray) : strS r v n (strS r v n s) = s := by
  unfold strS
  rw [strOf_size]
  refine (strOf_congr fun i hi => ?_).trans (strOf_ofText s s.size rfl)
  unfold strB
  rw [ofText_strOf _ _ _ hi, UInt8.xor_assoc, UInt8.xor_self, UInt8.xor_zero]
theorem extract_mid (A B C : ByteArray) (a b : Nat) (ha : A.size = a) (hb : a + B.size = b) : (A ++ B ++ C).extract a b = B := by
  apply ByteArray.ext
  rw [ByteArray.data_extract, ByteArray.data_append, ByteArray.data_append]
  have ha' : A.data.size = a := ha
  have hb' : a + B.data.size = b := hb
  have s2 : (A.data ++ B.data).size = A.data.size + B.data.size := by simp only [Array.size_append]
  have s3 : (A.data ++ B.data ++ C.data).size = A.data.size + B.data.size + C.data.size := by simp only [Array.size_append]
  apply Array.ext_getElem?
  intro i
  rw [Array.getElem?_extract]
  by_cases h : i < B.data.size
  · rw [if_pos (by omega), Array.getElem?_append_left (by omega), Array.getElem?_append_right (by omega)]
    congr 1; omega
  · rw [if_neg (by omega), Array.getElem?_eq_none (by omega)]
theorem extract_end (A B : ByteArray) (a b : Nat) (ha : A.size = a) (hb : a + B.size = b) : (A ++ B).extract a b = B := by
  have h := extract_mid A B ⟨#[]⟩ a b ha hb
  have e : A ++ B ++ (⟨#[]⟩ : ByteArray) = A ++ B := by
    apply ByteArray.ext
    rw [ByteArray.data_append]
    exact Array.append_empty
  rwa [e] at h
theorem be4 (t : Nat) (h : t < 4294967296) : numTo (beB t 4) 4 = t := by
  simp only [numTo, beB, UInt8.toNat_ofNat', Nat.reducePow, Nat.reduceSub, Nat.reduceMul, Nat.pow_zero, Nat.div_one]
  omega
theorem be6 (t : Nat) (h : t < 281474976710656) : numTo (beB t 6) 6 = t := by
  simp only [numTo, beB, UInt8.toNat_ofNat', Nat.reducePow, Nat.reduceSub, Nat.reduceMul, Nat.pow_zero, Nat.div_one]
  omega
theorem headS_size (t : Nat) (n : ByteArray) : (headS t n).size = 4 + n.size := by unfold headS; rw [ByteArray.size_append, strOf_size]
section
variable (t : Nat) (n X : ByteArray) (hn : n.size = 12)
include hn
theorem entry_size : (headS t n ++ X).size = 16 + X.size := by rw [ByteArray.size_append, headS_size, hn]
theorem entry_nonce : (headS t n ++ X).extract 4 16 = n := by
  unfold headS
  exact extract_mid _ _ _ 4 16 (strOf_size _ _) (by omega)
theorem entry_rest : (headS t n ++ X).extract 16 (headS t n ++ X).size = X := by
  rw [entry_size t n X hn]
  exact extract_end _ _ 16 _ (by rw [headS_size, hn]) rfl
omit hn in
theorem entry_term (ht : t < 4294967296) : numAt (headS t n ++ X) 0 4 = t := by
  unfold numAt
  refine (numTo_congr (c := beB t 4) fun i hi => ?_).trans (be4 t ht)
  rw [Nat.zero_add, ofText_lead _ _ _ (by rw [headS_size]; omega)]
  unfold headS
  rw [ofText_lead _ _ _ (by rw [strOf_size]; omega), ofText_strOf _ _ _ hi]
end
theorem openR_own (k : Nat → UInt8) (nn a t : ByteArray) : openR k nn a (sealS (Ci.rounds k) (ofText nn) a t) = (t, 0) := by
  unfold openR
  rw [if_pos (tagged_own _ _ _ _), cut_seal, strS_again]

/-! ### a ring's text -/
def parseR (t : ByteArray) : Option (Nat × (Nat → UInt8)) :=
  if t.size = 0 then none else if (ofText t 0).toNat < 1 ∨ 6 < (ofText t 0).toNat then none else if t.size ≠ 1 + (ofText t 0).toNat * 16 then none else some ((ofText t 0).toNat, parseB (t.extract 1 t.size) ((ofText t 0).toNat * 16))
theorem parseR_n {t : ByteArray} {n : Nat} {f : Nat → UInt8} (h : parseR t = some (n, f)) : 1 ≤ n ∧ n ≤ 6 := by
  unfold parseR at h
  split at h
  · cases h
  · split at h
    · cases h
    · split at h
      · cases h
      · rename_i h1 _
        have := congrArg Prod.fst (Option.some.inj h)
        simp only at this
        omega
/-- both take the same ring of a text, or none -/
theorem parse_both (t : ByteArray) (hs : t.size < 2 ^ 40) : (∃ d : Nat, parseR t = none ∧ 1 ≤ d ∧ (∀ w, Calls Tryz.prog 61 #[.string t] w fun e w' => e = .returned (.tuple #[.agg (rg 0 fun _ => 0), .int .i64 (d : Int)]) ∧ Below w.heap.size w w') ∧
      ∀ w, Calls Tryz.prog 63 #[.string t] w fun e w' => e = .returned (.tuple #[.slice none 0 0, .int .i64 (d : Int)]) ∧ Below w.heap.size w w') ∨
    ∃ (n : Nat) (f : Nat → UInt8), parseR t = some (n, f) ∧ (∀ w, Calls Tryz.prog 61 #[.string t] w fun e w' => e = .returned (.tuple #[.agg (rg n f), .int .i64 0]) ∧ Below w.heap.size w w') ∧
      ∀ w0 w L, St w0 L w → Calls Tryz.prog 63 #[.string t] w (Keyed w0 L n f) := by
  unfold parseR
  by_cases h0 : t.size = 0
  · rw [if_pos h0]
    exact .inl ⟨3, rfl, by omega, fun w => parse_empty t h0 w, fun w => refParse_empty t h0 w⟩
  · rw [if_neg h0]
    obtain ⟨N, hN⟩ : ∃ N, (ofText t 0).toNat = N := ⟨_, rfl⟩
    rw [hN]
    by_cases h1 : N < 1 ∨ 6 < N
    · rw [if_pos h1]
      exact .inl ⟨4, rfl, by omega, fun w => parse_form t N (by omega) hN hs h1 w, fun w => refParse_form t N (by omega) hN h1 w⟩
    · rw [if_neg h1]
      by_cases h2 : t.size = 1 + N * 16
      · rw [if_neg (fun h => h h2)]
        exact .inr ⟨N, _, rfl, fun w => parse_ok t _ N (by omega) hN (by omega) (by omega) h2 rfl w, fun w0 w L hC => refParse_ok t _ N (by omega) hN (by omega) (by omega) h2 rfl w0 w L hC⟩
      · rw [if_pos h2]
        rcases Nat.lt_or_gt_of_ne h2 with h3 | h3
        · exact .inl ⟨3, rfl, by omega, fun w => parse_size t N 3 (by omega) hN hs (by omega) (by omega) (.inl ⟨h3, rfl⟩) w, fun w => refParse_size t N 3 (by omega) hN (by omega) (by omega) (.inl ⟨h3, rfl⟩) w⟩
        · exact .inl ⟨4, rfl, by omega, fun w => parse_size t N 4 (by omega) hN hs (by omega) (by omega) (.inr ⟨h3, rfl⟩) w, fun w => refParse_size t N 4 (by omega) hN (by omega) (by omega) (.inr ⟨h3, rfl⟩) w⟩
theorem parseR_back (n : Nat) (f : Nat → UInt8) (h1 : 1 ≤ n) (h6 : n ≤ 6) : parseR (ringT n f) = some (n, parseB ((ringT n f).extract 1 (ringT n f).size) (n * 16)) := by
  have hN : (ofText (ringT n f) 0).toNat = n := by
    unfold ringT
    rw [ofText_strOf _ _ _ (by omega)]
    unfold ringB glue
    rw [if_pos (by omega), UInt8.toNat_ofNat_of_lt' (by have : UInt8.size = 256 := rfl; omega)]
  unfold parseR
  rw [if_neg (by rw [ringT_size]; omega), hN, if_neg (by omega), if_neg (by rw [ringT_size]; omega)]

/-! ### Unlock -/
def ringW : ByteArray := ⟨#[114, 105, 110, 103]⟩
theorem ringW_size : ringW.size < 2 ^ 40 := by decide
/-- the ring of an entry, and why there is none -/
def unlockR (m : Nat → UInt8) (s : ByteArray) : Nat × (Nat → UInt8) × Nat :=
  if s.size < 32 then (0, fun _ => 0, 3) else if numAt s 0 4 ≠ 0 then (0, fun _ => 0, 4) else
    if (openR m (s.extract 4 16) ringW (s.extract 16 s.size)).2 ≠ 0 then (0, fun _ => 0, (openR m (s.extract 4 16) ringW (s.extract 16 s.size)).2) else
      match parseR (openR m (s.extract 4 16) ringW (s.extract 16 s.size)).1 with
      | none => (0, fun _ => 0, 4)
      | some (n, f) => (n, f, 0)
theorem openRef_at (k : Nat → UInt8) (nn a s : ByteArray) (ha : a.size < 2 ^ 40) (hs : s.size < 2 ^ 40) (h : nn.size = 12) (hl : 16 ≤ s.size) (w : World) : Calls Tryz.prog 48 #[.agg (blk 16 k), .string nn, .string a, .string s] w fun e w' => e = .returned (.tuple #[.string (openR k nn a s).1, .int .i64 (((openR k nn a s).2 : Nat) : Int)]) ∧ Below w.heap.size w w' := by
  unfold openR
  split
  · rename_i hk; exact refOpen09_full k nn a s ha hs h hl true hk _ 0 (.inl ⟨rfl, rfl, rfl⟩) w
  · rename_i hk; exact refOpen09_full k nn a s ha hs h hl false (by simpa using hk) _ 11 (.inr ⟨rfl, rfl, rfl⟩) w
theorem openR_size (k : Nat → UInt8) (nn a s : ByteArray) : (openR k nn a s).1.size ≤ s.size := by
  unfold openR
  split
  · show (strS _ _ 2 (cutS s)).size ≤ _
    rw [show (strS (Ci.rounds k) (ofText nn) 2 (cutS s)).size = (cutS s).size from strOf_size _ _]
    unfold cutS; rw [ByteArray.size_extract]; omega
  · exact Nat.zero_le _
theorem unlock_any (m : Nat → UInt8) (s : ByteArray) (hs : s.size < 2 ^ 40) (w : World) : Calls Tryz.prog 30 #[.agg (blk 16 m), .string s] w fun e w' => e = .returned (.tuple #[.agg (rg (unlockR m s).1 (unlockR m s).2.1), .int .i64 (((unlockR m s).2.2 : Nat) : Int)]) ∧ Below w.heap.size w w' := by
  unfold unlockR
  by_cases h : s.size < 32
  · rw [if_pos h]; exact unlock_short m s h w
  · rw [if_neg h]
    by_cases ht : numAt s 0 4 = 0
    · rw [if_neg (fun k => k ht)]
      have hO : OpensTo m s (openR m (s.extract 4 16) ringW (s.extract 16 s.size)).1 (openR m (s.extract 4 16) ringW (s.extract 16 s.size)).2 := fun w => openR_at m _ ringW _ ringW_size (by rw [ByteArray.size_extract]; omega) (by rw [ByteArray.size_extract]; omega) (by rw [ByteArray.size_extract]; omega) w
      have hz := openR_size m (s.extract 4 16) ringW (s.extract 16 s.size)
      rw [show (s.extract 16 s.size).size = s.size - 16 by rw [ByteArray.size_extract]; omega] at hz
      obtain ⟨⟨R, E⟩, hRE⟩ : ∃ x, openR m (s.extract 4 16) ringW (s.extract 16 s.size) = x := ⟨_, rfl⟩
      rw [hRE] at hO hz ⊢
      simp only at hO hz ⊢
      by_cases hE : E = 0
      · subst hE
        rw [if_neg (fun k => k rfl)]
        rcases parse_both R (by omega) with ⟨d, e1, e2, e3, _⟩ | ⟨n, f, e1, e2, _⟩
        · rw [e1]; exact unlock_form m s R d (by omega) hs ht hO e2 e3 w
        · rw [e1]; exact unlock_ok m s R n f (by omega) hs ht hO e2 w
      · rw [if_pos hE]
        exact unlock_key m s R E (by omega) hs ht hE hO w
    · rw [if_pos ht]; exact unlock_term m s (by omega) hs ht w
/-- a list of keys that is handed back with an error -/
def KeysE (w0 : World) (L : List (Nat × Array Value)) (n : Nat) (f : Nat → UInt8) (E : Nat) (e : Ending) (w : World) : Prop := ∃ v, e = .returned (.tuple #[v, .int .i64 (E : Int)]) ∧ Out16 w0 L v n f w
theorem refUnlock_any (m : Nat → UInt8) (s : ByteArray) (hs : s.size < 2 ^ 40) (w0 w : World) (L : List (Nat × Array Value)) (hC : St w0 L w) : Calls Tryz.prog 33 #[.agg (blk 16 m), .string s] w (KeysE w0 L (unlockR m s).1 (unlockR m s).2.1 (unlockR m s).2.2) := by
  have hno : ∀ (E : Nat) (e : Ending) (w' : World), (e = .returned (.tuple #[.slice none 0 0, .int .i64 (E : Int)]) ∧ Below w.heap.size w w') → KeysE w0 L 0 (fun _ => 0) E e w' := fun E e w' h => ⟨_, h.1, .inl ⟨rfl, rfl, hC.call h.2⟩⟩
  unfold unlockR
  by_cases h : s.size < 32
  · rw [if_pos h]; exact (refUnlock_short m s h w).mono (hno 3)
  · rw [if_neg h]
    by_cases ht : numAt s 0 4 = 0
    · rw [if_neg (fun k => k ht)]
      have hO : OpensRef m s (openR m (s.extract 4 16) ringW (s.extract 16 s.size)).1 (openR m (s.extract 4 16) ringW (s.extract 16 s.size)).2 := fun w => openRef_at m _ ringW _ ringW_size (by rw [ByteArray.size_extract]; omega) (by rw [ByteArray.size_extract]; omega) (by rw [ByteArray.size_extract]; omega) w
      have hz := openR_size m (s.extract 4 16) ringW (s.extract 16 s.size)
      rw [show (s.extract 16 s.size).size = s.size - 16 by rw [ByteArray.size_extract]; omega] at hz
      obtain ⟨⟨R, E⟩, hRE⟩ : ∃ x, openR m (s.extract 4 16) ringW (s.extract 16 s.size) = x := ⟨_, rfl⟩
      rw [hRE] at hO hz ⊢
      simp only at hO hz ⊢
      by_cases hE : E = 0
      · subst hE
        rw [if_neg (fun k => k rfl)]
        rcases parse_both R (by omega) with ⟨d, e1, e2, _, e3⟩ | ⟨n, f, e1, _, e2⟩
        · rw [e1]; exact (refUnlock_form m s R d (by omega) ht hO e2 e3 w).mono (hno 4)
        · rw [e1]
          refine (refUnlock_ok m s R n f (by omega) ht hO w0 w L (fun w L h => e2 w0 w L h) hC).mono ?_
          rintro e w' ⟨g, c, F, rfl, h1, h2, h3⟩
          exact ⟨_, rfl, .inr ⟨g, c, F, rfl, h1, h2, h3⟩⟩
      · rw [if_pos hE]
        exact (refUnlock_key m s R E (by omega) ht hE hO w).mono (hno E)
    · rw [if_pos ht]; exact (refUnlock_term m s (by omega) ht w).mono (hno 4)
theorem unlock_back (m : Nat → UInt8) (n : Nat) (f : Nat → UInt8) (e c : Nat) (h1 : 1 ≤ n) (h6 : n ≤ 6) : unlockR m (headS 0 (nonceS e c) ++ sealedR m n f e c) = (n, parseB ((ringT n f).extract 1 (ringT n f).size) (n * 16), 0) := by
  have hn := nonceS_size e c
  unfold unlockR
  rw [if_neg (by rw [entry_size 0 _ _ hn]; unfold sealedR; rw [sealS_size, ringT_size]; omega), if_neg (fun h => h (entry_term 0 _ _ (by omega))), entry_nonce 0 _ _ hn, entry_rest 0 _ _ hn]
  unfold sealedR
  rw [show (⟨#[114, 105, 110, 103]⟩ : ByteArray) = ringW from rfl, openR_own]
  simp only [ne_eq, not_true_eq_false, if_false]
  rw [parseR_back n f h1 h6]
end Go.Proofs.YtgaecjhghpkcoaaGreat
