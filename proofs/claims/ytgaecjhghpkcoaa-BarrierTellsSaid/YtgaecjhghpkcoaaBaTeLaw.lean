/- Entries of which one byte is another one, and paths of which one byte is: what a barrier tells of them, in plain words. No program stands in this text; no condition beside those that each law names. -/
import Derived.Test.YtgaecjhghpkcoaaMBa
import Derived.Test.YtgaecjhghpkcoaaGcTells
namespace Go.Proofs.Ytgaecjhghpkcoaa
open Go.RowKit

/-- an entry that is another one behind its head: what the head says -/
theorem entry_same (S : ByteArray) (n i : Nat) (x : UInt8) (hn : S.size = n) (hi : 16 ≤ i) (h32 : 32 ≤ n) :
    numAt (strOf n (upd (ofText S) i x)) 0 4 = numAt S 0 4 ∧ (strOf n (upd (ofText S) i x)).extract 4 16 = S.extract 4 16 ∧ (strOf n (upd (ofText S) i x)).extract 16 n = strOf (n - 16) fun j => upd (ofText S) i x (16 + j) := by
  refine ⟨?_, ?_, strOf_extract _ _ _ _ (Nat.le_refl _)⟩
  · unfold numAt
    exact numTo_congr fun j hj => by rw [ofText_strOf _ _ _ (by omega), upd_other _ _ _ _ (by omega)]
  · rw [strOf_extract _ _ _ _ (by omega)]
    conv => rhs; rw [← strOf_ofText S n hn, strOf_extract _ _ _ _ (by omega : 16 ≤ n)]
    exact strOf_congr fun j hj => upd_other _ _ _ _ (by omega)
theorem real_seal (b : Br) (p t : ByteArray) : hideS false b p t = sealS (Ci.rounds (keyB b.f (b.n - 1))) (ofText (nonceS b.e b.c)) p t := by
  unfold hideS sealedT
  rw [if_neg (by decide)]
theorem real_tells (b : Br) (p t : ByteArray) (N : ByteArray → Option (ByteArray × ByteArray)) (hE : takeE b = 0) (h6 : b.n ≤ 6) (hp : p.size < 2 ^ 40) (ht : t.size < 2 ^ 40) (hh : same 16 (hashB (Ci.rounds (keyB b.f (b.n - 1)))) (fun _ => 0) = false)
    (i : Nat) (hi : 16 ≤ i) (hi2 : i < t.size + 32) (x : UInt8) (hx : x ≠ ofText (putS false b p t) i) : getO false b.n b.f N p (strOf (t.size + 32) (upd (ofText (putS false b p t)) i x)) = (⟨#[]⟩, 11) := by
  have h1 := takeE_n hE
  have hs := entry_size b.n (nonceS b.e b.c) (hideS false b p t) (nonceS_size _ _)
  have hm := entry_term b.n (nonceS b.e b.c) (hideS false b p t) (by omega)
  have hr := entry_rest b.n (nonceS b.e b.c) (hideS false b p t) (nonceS_size _ _)
  have ho := entry_nonce b.n (nonceS b.e b.c) (hideS false b p t) (nonceS_size _ _)
  rw [← putS_yes false b p t hE] at hs hm hr ho
  generalize putS false b p t = S at *
  rw [hideS_size] at hs
  have hS : S.size = t.size + 32 := by omega
  obtain ⟨e1, e2, e3⟩ := entry_same S (t.size + 32) i x hS hi (by omega)
  unfold getO
  rw [if_neg (by omega), strOf_size, if_neg (by omega), e1, hm, if_neg (by omega), if_neg (by decide), e2, e3, ho]
  rw [hS, real_seal] at hr
  have hl : (sealS (Ci.rounds (keyB b.f (b.n - 1))) (ofText (nonceS b.e b.c)) p t).size = t.size + 16 := sealS_size _ _ _ _
  have hF : ∀ j, j < t.size + 16 → ofText S (16 + j) = ofText (sealS (Ci.rounds (keyB b.f (b.n - 1))) (ofText (nonceS b.e b.c)) p t) j := fun j hj => by
    rw [← hr, ofText_extract _ _ _ _ (by omega) (by omega)]
  have hxj : x ≠ ofText (p ++ sealS (Ci.rounds (keyB b.f (b.n - 1))) (ofText (nonceS b.e b.c)) p t) (p.size + (i - 16)) := by
    rw [ofText_tail, ← hF _ (by omega), show 16 + (i - 16) = i by omega]
    exact hx
  have hT := tells_tag (Ci.rounds (keyB b.f (b.n - 1))) (ofText (nonceS b.e b.c)) p t (p.size + (i - 16)) x hp ht hh (by omega) hxj
  have ep : strOf p.size (upd (ofText (p ++ sealS (Ci.rounds (keyB b.f (b.n - 1))) (ofText (nonceS b.e b.c)) p t)) (p.size + (i - 16)) x) = p := by
    rw [strOf_congr (g := ofText p) fun j hj => by rw [upd_other _ _ _ _ (by omega)]; exact ofText_head _ _ _ hj]
    exact strOf_ofText p _ rfl
  have es : (strOf (t.size + 16) fun j => upd (ofText (p ++ sealS (Ci.rounds (keyB b.f (b.n - 1))) (ofText (nonceS b.e b.c)) p t)) (p.size + (i - 16)) x (p.size + j)) = strOf (t.size + 32 - 16) fun j => upd (ofText S) i x (16 + j) := by
    rw [show t.size + 32 - 16 = t.size + 16 by omega]
    refine strOf_congr fun j hj => ?_
    unfold upd
    by_cases hj2 : 16 + j = i
    · rw [if_pos hj2, if_pos (by omega)]
    · rw [if_neg hj2, if_neg (by omega), ofText_tail, hF j hj]
  rw [ep, es] at hT
  unfold openR
  rw [if_neg (by rw [hT]; decide)]
theorem real_path (b : Br) (p t : ByteArray) (N : ByteArray → Option (ByteArray × ByteArray)) (hE : takeE b = 0) (h6 : b.n ≤ 6) (hp : p.size < 2 ^ 40) (ht : t.size < 2 ^ 40) (hh : same 16 (hashB (Ci.rounds (keyB b.f (b.n - 1)))) (fun _ => 0) = false)
    (i : Nat) (hi : i < p.size) (x : UInt8) (hx : x ≠ ofText p i) : getO false b.n b.f N (strOf p.size (upd (ofText p) i x)) (putS false b p t) = (⟨#[]⟩, 11) := by
  have h1 := takeE_n hE
  have hs := entry_size b.n (nonceS b.e b.c) (hideS false b p t) (nonceS_size _ _)
  have hm := entry_term b.n (nonceS b.e b.c) (hideS false b p t) (by omega)
  have hr := entry_rest b.n (nonceS b.e b.c) (hideS false b p t) (nonceS_size _ _)
  have ho := entry_nonce b.n (nonceS b.e b.c) (hideS false b p t) (nonceS_size _ _)
  rw [← putS_yes false b p t hE] at hs hm hr ho
  generalize putS false b p t = S at *
  rw [hideS_size] at hs
  unfold getO
  rw [if_neg (by omega), if_neg (by omega), hm, if_neg (by omega), if_neg (by decide), hr, ho, real_seal]
  have hl : (sealS (Ci.rounds (keyB b.f (b.n - 1))) (ofText (nonceS b.e b.c)) p t).size = t.size + 16 := sealS_size _ _ _ _
  have hxj : x ≠ ofText (p ++ sealS (Ci.rounds (keyB b.f (b.n - 1))) (ofText (nonceS b.e b.c)) p t) i := by
    rw [ofText_head _ _ _ hi]; exact hx
  have hT := tells_tag (Ci.rounds (keyB b.f (b.n - 1))) (ofText (nonceS b.e b.c)) p t i x hp ht hh (by omega) hxj
  have ep : strOf p.size (upd (ofText (p ++ sealS (Ci.rounds (keyB b.f (b.n - 1))) (ofText (nonceS b.e b.c)) p t)) i x) = strOf p.size (upd (ofText p) i x) := by
    refine strOf_congr fun j hj => ?_
    unfold upd
    by_cases hj2 : j = i
    · rw [if_pos hj2, if_pos hj2]
    · rw [if_neg hj2, if_neg hj2, ofText_head _ _ _ hj]
  have es : (strOf (t.size + 16) fun j => upd (ofText (p ++ sealS (Ci.rounds (keyB b.f (b.n - 1))) (ofText (nonceS b.e b.c)) p t)) i x (p.size + j)) = sealS (Ci.rounds (keyB b.f (b.n - 1))) (ofText (nonceS b.e b.c)) p t := by
    rw [strOf_congr (g := ofText (sealS (Ci.rounds (keyB b.f (b.n - 1))) (ofText (nonceS b.e b.c)) p t)) fun j hj => by rw [upd_other _ _ _ _ (by omega), ofText_tail]]
    exact strOf_ofText _ _ hl
  rw [ep, es] at hT
  unfold openR
  rw [if_neg (by rw [hT]; decide)]
theorem ideal_path (b : Br) (p q t : ByteArray) (M : ByteArray → Option (ByteArray × ByteArray)) (hE : takeE b = 0) (h6 : b.n ≤ 6) (hM : M (nonceS b.e b.c) = some (p, t)) (hq : p ≠ q) : getO true b.n b.f M q (putS true b p t) = (⟨#[]⟩, 11) := by
  have h1 := takeE_n hE
  have hs := entry_size b.n (nonceS b.e b.c) (hideS true b p t) (nonceS_size _ _)
  have hm := entry_term b.n (nonceS b.e b.c) (hideS true b p t) (by omega)
  rw [putS_yes true b p t hE]
  unfold getO
  rw [if_neg (by omega), if_neg (by rw [hs, hideS_size]; omega), hm, if_neg (by omega), if_pos rfl, entry_nonce _ _ _ (nonceS_size _ _), hM]
  unfold idealR
  exact if_neg fun h => hq h.1
theorem ideal_tells (b : Br) (p t : ByteArray) (M : ByteArray → Option (ByteArray × ByteArray)) (hE : takeE b = 0) (h6 : b.n ≤ 6) (hM : M (nonceS b.e b.c) = some (p, t)) (i : Nat) (hi : 16 ≤ i) (hi2 : i < t.size + 32) (x : UInt8) (hx : x ≠ ofText (putS true b p t) i) : getO true b.n b.f M p (strOf (t.size + 32) (upd (ofText (putS true b p t)) i x)) = (⟨#[]⟩, 11) := by
  have h1 := takeE_n hE
  have hs := entry_size b.n (nonceS b.e b.c) (hideS true b p t) (nonceS_size _ _)
  have hm := entry_term b.n (nonceS b.e b.c) (hideS true b p t) (by omega)
  have hr := entry_rest b.n (nonceS b.e b.c) (hideS true b p t) (nonceS_size _ _)
  have ho := entry_nonce b.n (nonceS b.e b.c) (hideS true b p t) (nonceS_size _ _)
  rw [← putS_yes true b p t hE] at hs hm hr ho
  generalize putS true b p t = S at *
  rw [hideS_size] at hs
  have hS : S.size = t.size + 32 := by omega
  obtain ⟨e1, e2, e3⟩ := entry_same S (t.size + 32) i x hS hi (by omega)
  unfold getO
  rw [if_neg (by omega), strOf_size, if_neg (by omega), e1, hm, if_neg (by omega), if_pos rfl, e2, e3, ho, hM]
  unfold idealR
  refine if_neg fun h => hx ?_
  have hF : ofText S i = 0 := by
    have : ofText S (16 + (i - 16)) = ofText (hideS true b p t) (i - 16) := by
      rw [← hr, ofText_extract _ _ _ _ (by omega) (by omega)]
    rw [show 16 + (i - 16) = i by omega] at this
    rw [this]
    unfold hideS nilS
    rw [if_pos rfl]
    exact ofText_strOf _ _ _ (by omega)
  have := congrArg (fun s => ofText s (i - 16)) h.2
  rw [ofText_strOf _ _ _ (by omega), ofText_strOf _ _ _ (by omega), show 16 + (i - 16) = i by omega, upd_same] at this
  rw [this, hF]
end Go.Proofs.Ytgaecjhghpkcoaa
