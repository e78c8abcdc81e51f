/- A key and a block in secret, reckoned round by round in literals. No program stands in this text; no condition. -/
import Derived.Test.YtepooocdpifcfaaCiPlain
namespace Go.Proofs.Ytepooocdpifcfaa.Ci
open Gf

def lit (l : List UInt8) : Nat → UInt8 := fun i => l.getD i 0
def eqB (f g : Nat → UInt8) : Bool := (List.range 16).all fun i => f i == g i
theorem of_eqB {f g : Nat → UInt8} (h : eqB f g = true) : EqB f g := fun i hi => by
  have := List.all_eq_true.1 h i (List.mem_range.2 hi)
  simpa using this
theorem nextAt_congr {a b s t : Nat → UInt8} (h : EqB a b) (k : ∀ i, i < 4 → s i = t i) : ∀ n i, n < 4 → i < 4 → nextAt a s n i = nextAt b t n i
  | 0, i, _, hi => by unfold nextAt; rw [h i (by omega), k i hi]
  | n + 1, i, hn, hi => by unfold nextAt; rw [h _ (by omega), nextAt_congr h k n i (by omega) hi]
theorem first_congr {a b : Nat → UInt8} (h : EqB a b) (m : UInt8) : ∀ i, i < 4 → first a m i = first b m i := fun i hi => by
  rcases four_cases hi with rfl | rfl | rfl | rfl <;> simp only [first] <;> rw [h _ (by decide)]
theorem next_congr {a b : Nat → UInt8} (h : EqB a b) (m : UInt8) : EqB (next a m) (next b m) := fun i hi => by
  unfold next
  exact nextAt_congr h (first_congr h m) _ _ (by omega) (by omega)
def bx (a : UInt8) : UInt8 := boxTab.getD a.toNat 0
theorem box_bx : box = bx := funext box_tab
def firstT (b : Nat → UInt8) (m : UInt8) : Nat → UInt8 := lit [bx (b 13) ^^^ m, bx (b 14), bx (b 15), bx (b 12)]
theorem first_tab (b : Nat → UInt8) (m : UInt8) : ∀ i, i < 4 → first b m i = firstT b m i := fun i hi => by
  rcases four_cases hi with rfl | rfl | rfl | rfl <;> simp only [first, box_bx] <;> rfl
def nextT (b : Nat → UInt8) (m : UInt8) : Nat → UInt8 := fun j => nextAt b (firstT b m) (j / 4) (j % 4)
theorem next_tab (b : Nat → UInt8) (m : UInt8) : EqB (next b m) (nextT b m) := fun i hi => by
  unfold next nextT
  exact nextAt_congr (EqB.refl _) (first_tab b m) _ _ (by omega) (by omega)
theorem expand_step {key : Nat → UInt8} {n : Nat} {l m : List UInt8} (x : UInt8) (hx : mark n = x) (h : EqB (expand key n) (lit l)) (hn : eqB (nextT (lit l) x) (lit m) = true) : EqB (expand key (n + 1)) (lit m) := by
  show EqB (next (expand key n) (mark n)) _
  rw [hx]
  exact ((next_congr h x).trans (next_tab _ _)).trans (of_eqB hn)
theorem seal_step {r b : Nat → UInt8} {n : Nat} {s e k m : List UInt8} (h : EqB (sealTo r b n) (lit s)) (hk : EqB (rd r (n + 1)) (lit k)) (he : eqB (each bx (lit s)) (lit e) = true) (hm : eqB (xorB (columns mix (turn (lit e))) (lit k)) (lit m) = true) : EqB (sealTo r b (n + 1)) (lit m) := by
  show EqB (xorB (columns mix (turn (each box (sealTo r b n)))) (rd r (n + 1))) _
  rw [box_bx]
  exact (EqB.xor (EqB.columns mix_congr (((h.each bx).trans (of_eqB he)).turn)) hk).trans (of_eqB hm)
theorem seal_last {r b : Nat → UInt8} {s e k m : List UInt8} (h : EqB (sealTo r b 9) (lit s)) (hk : EqB (rd r 10) (lit k)) (he : eqB (each bx (lit s)) (lit e) = true) (hm : eqB (xorB (turn (lit e)) (lit k)) (lit m) = true) : EqB (sealB r b) (lit m) := by
  show EqB (xorB (turn (each box (sealTo r b 9))) (rd r 10)) _
  rw [box_bx]
  exact (EqB.xor (((h.each bx).trans (of_eqB he)).turn) hk).trans (of_eqB hm)
theorem rd_rounds (key : Nat → UInt8) (n : Nat) : EqB (rd (rounds key) n) (expand key n) := fun i hi => by
  unfold rd rounds
  rw [show (16 * n + i) / 16 = n by omega, show (16 * n + i) % 16 = i by omega]

def testKey : Nat → UInt8 := fun i => UInt8.ofNat i
def testBlock : Nat → UInt8 := fun i => UInt8.ofNat (17 * i)

theorem key0 : EqB (expand testKey 0) (lit [0, 1, 2, 3, 4, 5, 6, 7, 8, 9, 10, 11, 12, 13, 14, 15]) := of_eqB (by decide +kernel)
theorem key1 : EqB (expand testKey 1) (lit [214, 170, 116, 253, 210, 175, 114, 250, 218, 166, 120, 241, 214, 171, 118, 254]) := expand_step 1 (by decide +kernel) key0 (by decide +kernel)
theorem key2 : EqB (expand testKey 2) (lit [182, 146, 207, 11, 100, 61, 189, 241, 190, 155, 197, 0, 104, 48, 179, 254]) := expand_step 2 (by decide +kernel) key1 (by decide +kernel)
theorem key3 : EqB (expand testKey 3) (lit [182, 255, 116, 78, 210, 194, 201, 191, 108, 89, 12, 191, 4, 105, 191, 65]) := expand_step 4 (by decide +kernel) key2 (by decide +kernel)
theorem key4 : EqB (expand testKey 4) (lit [71, 247, 247, 188, 149, 53, 62, 3, 249, 108, 50, 188, 253, 5, 141, 253]) := expand_step 8 (by decide +kernel) key3 (by decide +kernel)
theorem key5 : EqB (expand testKey 5) (lit [60, 170, 163, 232, 169, 159, 157, 235, 80, 243, 175, 87, 173, 246, 34, 170]) := expand_step 16 (by decide +kernel) key4 (by decide +kernel)
theorem key6 : EqB (expand testKey 6) (lit [94, 57, 15, 125, 247, 166, 146, 150, 167, 85, 61, 193, 10, 163, 31, 107]) := expand_step 32 (by decide +kernel) key5 (by decide +kernel)
theorem key7 : EqB (expand testKey 7) (lit [20, 249, 112, 26, 227, 95, 226, 140, 68, 10, 223, 77, 78, 169, 192, 38]) := expand_step 64 (by decide +kernel) key6 (by decide +kernel)
theorem key8 : EqB (expand testKey 8) (lit [71, 67, 135, 53, 164, 28, 101, 185, 224, 22, 186, 244, 174, 191, 122, 210]) := expand_step 128 (by decide +kernel) key7 (by decide +kernel)
theorem key9 : EqB (expand testKey 9) (lit [84, 153, 50, 209, 240, 133, 87, 104, 16, 147, 237, 156, 190, 44, 151, 78]) := expand_step 27 (by decide +kernel) key8 (by decide +kernel)
theorem key10 : EqB (expand testKey 10) (lit [19, 17, 29, 127, 227, 148, 74, 23, 243, 7, 167, 139, 77, 43, 48, 197]) := expand_step 54 (by decide +kernel) key9 (by decide +kernel)
theorem st0 : EqB (sealTo (rounds testKey) testBlock 0) (lit [0, 16, 32, 48, 64, 80, 96, 112, 128, 144, 160, 176, 192, 208, 224, 240]) := (EqB.xor (EqB.refl testBlock) ((rd_rounds testKey 0).trans key0)).trans (of_eqB (by decide +kernel))
theorem st1 : EqB (sealTo (rounds testKey) testBlock 1) (lit [137, 216, 16, 232, 133, 90, 206, 104, 45, 24, 67, 216, 203, 18, 143, 228]) := seal_step (e := [99, 202, 183, 4, 9, 83, 208, 81, 205, 96, 224, 231, 186, 112, 225, 140]) st0 ((rd_rounds testKey 1).trans key1) (by decide +kernel) (by decide +kernel)
theorem st2 : EqB (sealTo (rounds testKey) testBlock 2) (lit [73, 21, 89, 143, 85, 229, 215, 160, 218, 202, 148, 250, 31, 10, 99, 247]) := seal_step (e := [167, 97, 202, 155, 151, 190, 139, 69, 216, 173, 26, 97, 31, 201, 115, 105]) st1 ((rd_rounds testKey 2).trans key2) (by decide +kernel) (by decide +kernel)
theorem st3 : EqB (sealTo (rounds testKey) testBlock 3) (lit [250, 99, 106, 40, 37, 179, 57, 201, 64, 102, 138, 49, 87, 36, 77, 23]) := seal_step (e := [59, 89, 203, 115, 252, 217, 14, 224, 87, 116, 34, 45, 192, 103, 251, 104]) st2 ((rd_rounds testKey 3).trans key3) (by decide +kernel) (by decide +kernel)
theorem st4 : EqB (sealTo (rounds testKey) testBlock 4) (lit [36, 114, 64, 35, 105, 102, 179, 250, 110, 210, 117, 50, 136, 66, 91, 108]) := seal_step (e := [45, 251, 2, 52, 63, 109, 18, 221, 9, 51, 126, 199, 91, 54, 227, 240]) st3 ((rd_rounds testKey 4).trans key4) (by decide +kernel) (by decide +kernel)
theorem st5 : EqB (sealTo (rounds testKey) testBlock 5) (lit [200, 22, 119, 188, 155, 122, 201, 59, 37, 2, 121, 146, 176, 38, 25, 150]) := seal_step (e := [54, 64, 9, 38, 249, 51, 109, 45, 159, 181, 157, 35, 196, 44, 57, 80]) st4 ((rd_rounds testKey 5).trans key5) (by decide +kernel) (by decide +kernel)
theorem st6 : EqB (sealTo (rounds testKey) testBlock 6) (lit [198, 47, 225, 9, 247, 94, 237, 195, 204, 121, 57, 93, 132, 249, 207, 93]) := seal_step (e := [232, 71, 245, 101, 20, 218, 221, 226, 63, 119, 182, 79, 231, 247, 212, 144]) st5 ((rd_rounds testKey 6).trans key6) (by decide +kernel) (by decide +kernel)
theorem st7 : EqB (sealTo (rounds testKey) testBlock 7) (lit [209, 135, 108, 15, 121, 196, 48, 10, 180, 85, 148, 173, 214, 111, 244, 31]) := seal_step (e := [180, 21, 248, 1, 104, 88, 85, 46, 75, 182, 18, 76, 95, 153, 138, 76]) st6 ((rd_rounds testKey 7).trans key7) (by decide +kernel) (by decide +kernel)
theorem st8 : EqB (sealTo (rounds testKey) testBlock 8) (lit [253, 227, 186, 210, 5, 229, 208, 215, 53, 71, 150, 78, 241, 254, 55, 241]) := seal_step (e := [62, 23, 80, 118, 182, 28, 4, 103, 141, 252, 34, 149, 246, 168, 191, 192]) st7 ((rd_rounds testKey 8).trans key8) (by decide +kernel) (by decide +kernel)
theorem st9 : EqB (sealTo (rounds testKey) testBlock 9) (lit [189, 110, 124, 61, 242, 181, 119, 158, 11, 97, 33, 110, 139, 16, 182, 137]) := seal_step (e := [84, 17, 244, 181, 107, 217, 112, 14, 150, 160, 144, 47, 161, 187, 154, 161]) st8 ((rd_rounds testKey 9).trans key9) (by decide +kernel) (by decide +kernel)
theorem test_seal : EqB (sealB (rounds testKey) testBlock) (lit [105, 196, 224, 216, 106, 123, 4, 48, 216, 205, 183, 128, 112, 180, 197, 90]) := seal_last (e := [122, 159, 16, 39, 137, 213, 245, 11, 43, 239, 253, 159, 61, 202, 78, 167]) st9 ((rd_rounds testKey 10).trans key10) (by decide +kernel) (by decide +kernel)
end Go.Proofs.Ytepooocdpifcfaa.Ci
