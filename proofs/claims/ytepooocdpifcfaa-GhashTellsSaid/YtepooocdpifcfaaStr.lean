/- Texts out of rows of bytes. No condition beside those that each rule names. -/
import Derived.Test.YtepooocdpifcfaaCiOf
import Derived.Laws.BytesArg
namespace Go.Proofs.Ytepooocdpifcfaa
open Go.RowKit

/-- the text of n bytes -/
def strOf (n : Nat) (f : Nat → UInt8) : ByteArray := ⟨((List.range n).map f).toArray⟩
def byteOf' : Value → UInt8
  | .int _ n => UInt8.ofNat n.toNat
  | _ => 0
def isByte : Value → Bool
  | .int .u8 n => decide (0 ≤ n ∧ n < 256)
  | _ => false
/-- the text of a row -/
def bytesOf (cs : Array Value) : ByteArray := ⟨cs.map byteOf'⟩
def allBytes (cs : Array Value) : Bool := cs.all isByte
theorem strOf_size (n : Nat) (f : Nat → UInt8) : (strOf n f).size = n := by simp [strOf, ByteArray.size]
theorem ofText_strOf (n : Nat) (f : Nat → UInt8) (i : Nat) (h : i < n) : ofText (strOf n f) i = f i := by simp [ofText, strOf, h]
theorem allBytes_blk (n : Nat) (f : Nat → UInt8) : allBytes (blk n f) = true := by
  simp only [allBytes, blk, List.all_toArray, List.all_map, List.all_eq_true]
  intro i _
  have := B_bd (f i)
  simp only [Function.comp, isByte, decide_eq_true_eq]
  omega
theorem bytesOf_blk (n : Nat) (f : Nat → UInt8) : bytesOf (blk n f) = strOf n f := by
  unfold bytesOf strOf blk
  congr 1
  apply Array.ext_getElem?
  intro i
  by_cases h : i < n
  · simp [h, byteOf', B]
  · simp [h]
theorem strOf_ofText (s : ByteArray) (n : Nat) (h : s.size = n) : strOf n (ofText s) = s := by
  subst h
  unfold strOf ofText
  cases s with
  | mk d =>
    congr 1
    apply Array.ext_getElem?
    intro i
    by_cases hi : i < d.size
    · have hi' : i < (ByteArray.mk d).size := hi
      simp [hi', Array.getElem?_eq_getElem hi]
    · have hi' : ¬ i < (ByteArray.mk d).size := hi
      simp [hi', Nat.le_of_not_lt hi]
theorem strOf_congr {n : Nat} {f g : Nat → UInt8} (h : ∀ i, i < n → f i = g i) : strOf n f = strOf n g := by
  unfold strOf; congr 2
  exact List.map_congr_left fun i hi => h i (List.mem_range.1 hi)

section
variable {P : Program} {w : World}
theorem run_bytes_row (src dst e : TypeId) (g o n cap : Nat) (hs : P.underlying src = some (.slice e)) (he : P.underlying e = some (.int .u8)) (hd : P.underlying dst = some .string)
    (hr : isRow w g = true) (hn : o + n ≤ (rowAt w g).size) (hb : allBytes (cut (rowAt w g) o (o + n)) = true) :
    (convert src dst (.slice (some ⟨g, o, none⟩) n cap)).run P w = .ok (.string (bytesOf (cut (rowAt w g) o (o + n)))) w := by
  have hl := run_loadCells_row (P := P) g o n hr hn
  unfold cut at *
  generalize hc : (rowAt w g).extract o (o + n) = cs at *
  have hcs : cs = ((cs.toList.map fun v => ((byteOf' v).toNat : Int)).map (Value.int .u8)).toArray := by
    apply Array.ext_getElem?
    intro i
    by_cases hi : i < cs.size
    · simp only [allBytes, Array.all_eq_true_iff_forall_mem] at hb
      have h1 := hb cs[i] (by simp)
      simp only [List.map_map, List.getElem?_toArray, List.getElem?_map, Array.getElem?_toList, Array.getElem?_eq_getElem hi, Option.map_some, Function.comp]
      generalize cs[i] = v at *
      cases v <;> simp only [isByte, Bool.false_eq_true] at h1
      rename_i k m
      cases k <;> simp only [Bool.false_eq_true, decide_eq_true_eq] at h1
      congr 2
      simp only [byteOf']
      rw [UInt8.toNat_ofNat_of_lt' (by have : UInt8.size = 256 := rfl; omega)]
      omega
    · simp [Nat.le_of_not_lt hi]
  rw [run_convert_bytes_string w src dst e _ n cap hs he hd, run_bytesToString w _ n cap _ (hl.trans (by rw [← hcs])), foldl_push_bytes]
  congr 2
  unfold bytesOf
  congr 1
  have he0 : ByteArray.empty.data = #[] := rfl
  rw [he0]
  apply Array.ext_getElem?
  intro i
  by_cases hi : i < cs.size
  · simp [Array.getElem?_eq_getElem hi]
  · simp [Nat.le_of_not_lt hi]
/-- the same as a rule for the walk -/
def convBS (src dst : TypeId) (x : Value) : Sem Value := convert src dst x
theorem convBS_row (src dst : TypeId) (g o n cap : Nat) (hs : P.underlying src = some (.slice (P.elem src))) (he : P.underlying (P.elem src) = some (.int .u8)) (hd : P.underlying dst = some .string)
    (hr : isRow w g = true) (hn : o + n ≤ (rowAt w g).size) (hb : allBytes (cut (rowAt w g) o (o + n)) = true) :
    (convBS src dst (.slice (some ⟨g, o, none⟩) n cap)).run P w = .ok (.string (bytesOf (cut (rowAt w g) o (o + n)))) w := run_bytes_row src dst _ g o n cap hs he hd hr hn hb
theorem convBS_nil (src dst : TypeId) (n cap : Nat) (hs : P.underlying src = some (.slice (P.elem src))) (he : P.underlying (P.elem src) = some (.int .u8)) (hd : P.underlying dst = some .string) :
    (convBS src dst (.slice none n cap)).run P w = .ok (.string ByteArray.empty) w := run_convert_bytes_nil w src _ hs he n cap dst hd
end
theorem convBS_in (x : Value) : convert 33 9 x = convBS 33 9 x := rfl
end Go.Proofs.Ytepooocdpifcfaa
