/- What is put is got, in plain words, also by rings that have more keys, or are taken of their text. No program stands in this text. -/
import Derived.Test.YtgaecjhghpkcoaaGreatBaAt
namespace Go.Proofs.YtgaecjhghpkcoaaGreat
open Go.RowKit

theorem expandE_same {a b : Nat → UInt8} (h : Ci.EqB a b) : ∀ n, Ci.EqB (Ci.expand a n) (Ci.expand b n)
  | 0 => h
  | n + 1 => Ci.next_congr (expandE_same h n) _
theorem roundsE_same {a b : Nat → UInt8} (h : Ci.EqB a b) : Ci.rounds a = Ci.rounds b := funext fun j => expandE_same h (j / 16) (j % 16) (Nat.mod_lt _ (by omega))
theorem openR_same {a b : Nat → UInt8} (h : Ci.EqB a b) (nn p s : ByteArray) : openR a nn p s = openR b nn p s := by
  unfold openR
  rw [roundsE_same h]
theorem putS_yes (id : Bool) (b : Br) (p t : ByteArray) (hE : takeE b = 0) : putS id b p t = headS b.n (nonceS b.e b.c) ++ hideS id b p t := by unfold putS; rw [if_pos hE]
/-- what is put is got by a ring that has the key -/
theorem get_put (id : Bool) (b : Br) (p t : ByteArray) (n : Nat) (f : Nat → UInt8) (M : ByteArray → Option (ByteArray × ByteArray)) (hE : takeE b = 0) (h6 : n ≤ 6) (hn : b.n ≤ n) (hf : Ci.EqB (keyB f (b.n - 1)) (keyB b.f (b.n - 1))) (hM : id = true → M (nonceS b.e b.c) = some (p, t)) :
    getO id n f M p (putS id b p t) = (t, 0) := by
  have h1 := takeE_n hE
  have hs := entry_size b.n (nonceS b.e b.c) (hideS id b p t) (nonceS_size _ _)
  have ht := entry_term b.n (nonceS b.e b.c) (hideS id b p t) (by omega)
  rw [putS_yes id b p t hE]
  unfold getO
  rw [if_neg (by omega), if_neg (by rw [hs, hideS_size]; omega), ht, if_neg (by omega), entry_nonce _ _ _ (nonceS_size _ _), entry_rest _ _ _ (nonceS_size _ _)]
  cases id
  · rw [if_neg (by decide), openR_same hf]
    unfold hideS
    rw [if_neg (by decide)]
    exact openR_own _ _ _ _
  · rw [if_pos rfl, hM rfl]
    unfold hideS idealR
    rw [if_pos rfl]
    exact if_pos ⟨rfl, rfl⟩
theorem add_key (f k : Nat → UInt8) (n u : Nat) (h : u < n) : Ci.EqB (keyB (addB f n k) u) (keyB f u) := fun i hi => by
  unfold keyB addB cpy
  rw [if_neg]
  have : u * 16 + 16 ≤ n * 16 := by omega
  omega
theorem parse_key (n : Nat) (f : Nat → UInt8) (u : Nat) (h : u < n) : Ci.EqB (keyB (parseB ((ringT n f).extract 1 (ringT n f).size) (n * 16)) u) (keyB f u) := fun i hi => by
  have hu : u * 16 + 16 ≤ n * 16 := by omega
  unfold keyB parseB
  rw [if_pos (by omega), ofText_extract _ _ _ _ (by rw [ringT_size]; omega) (Nat.le_refl _)]
  unfold ringT
  rw [ofText_strOf _ _ _ (by omega)]
  unfold ringB glue
  rw [if_neg (by omega)]
  congr 1; omega
end Go.Proofs.YtgaecjhghpkcoaaGreat
