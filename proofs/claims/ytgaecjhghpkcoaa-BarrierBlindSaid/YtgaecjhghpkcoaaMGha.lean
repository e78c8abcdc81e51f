/- Texts out of rows of bytes. No condition beside those that each rule names. * Rows made of texts ([]byte(s)), and parts of rows (b[i:], b[:i]), as rules for the walk. No condition beside those that each rule names. * The field of 2^128 in plain Lean, as the document's chapter 8 has it: a block is a number below 2^128 whose bit 127 - i is coefficient i. Products: order and brackets of factors, sums, 1, no divisors of 0; powers; texts folded in. No program stands in this text. Conditions: numbers below 2^128 where a law says so. * Numbers of 64 bits as the walk's integers, and pairs of them; a block's two halves. No condition. * The program's small functions of a block's halves. No condition but that numbers are blocks. * A block as its halves, and back. No condition. * The product of two blocks, as the program reckons it. No condition. * Products, 1, powers and coefficients of blocks, as the program tells them. Powers: up to 65536 factors. * Texts folded in, as the program does it. No condition but that texts are shorter than 2 to 40 where their lengths are told. * The sum of two texts and their lengths, as the program tells it; coefficients. Texts shorter than 2 to 40. -/
import Derived.Test.YtgaecjhghpkcoaaMCip
import Derived.Laws.BytesArg
import Derived.Test.YtgaecjhghpkcoaaMGround
import Derived.Laws.IdiomStrings
section
namespace Go.Proofs.Ytgaecjhghpkcoaa
open Go.RowKit

/-- the text of n bytes -/
def strOf (n : Nat) (f : Nat → UInt8) : ByteArray := ⟨((List.range n).map f).toArray⟩
def byteOf' : Value → UInt8
  | .int _ n => UInt8.ofNat n.toNat
  | _ => 0
def isByte : Value → Bool
  | .int .u8 n => decide (0 ≤ n ∧ n < 256)
  | _ => false
/-- the text of a row -/
def bytesOf (cs : Array Value) : ByteArray := ⟨cs.map byteOf'⟩
def allBytes (cs : Array Value) : Bool := cs.all isByte
theorem strOf_size (n : Nat) (f : Nat → UInt8) : (strOf n f).size = n := by simp [strOf, ByteArray.size]
theorem ofText_strOf (n : Nat) (f : Nat → UInt8) (i : Nat) (h : i < n) : ofText (strOf n f) i = f i := by simp [ofText, strOf, h]
theorem allBytes_blk (n : Nat) (f : Nat → UInt8) : allBytes (blk n f) = true := by
  simp only [allBytes, blk, List.all_toArray, List.all_map, List.all_eq_true]
  intro i _
  have := B_bd (f i)
  simp only [Function.comp, isByte, decide_eq_true_eq]
  omega
theorem bytesOf_blk (n : Nat) (f : Nat → UInt8) : bytesOf (blk n f) = strOf n f := by
  unfold bytesOf strOf blk
  congr 1
  apply Array.ext_getElem?
  intro i
  by_cases h : i < n
  · simp [h, byteOf', B]
  · simp [h]
theorem strOf_ofText (s : ByteArray) (n : Nat) (h : s.size = n) : strOf n (ofText s) = s := by
  subst h
  unfold strOf ofText
  cases s with
  | mk d =>
    congr 1
    apply Array.ext_getElem?
    intro i
    by_cases hi : i < d.size
    · have hi' : i < (ByteArray.mk d).size := hi
      simp [hi', Array.getElem?_eq_getElem hi]
    · have hi' : ¬ i < (ByteArray.mk d).size := hi
      simp [hi', Nat.le_of_not_lt hi]
theorem strOf_congr {n : Nat} {f g : Nat → UInt8} (h : ∀ i, i < n → f i = g i) : strOf n f = strOf n g := by
  unfold strOf; congr 2
  exact List.map_congr_left fun i hi => h i (List.mem_range.1 hi)

section
variable {P : Program} {w : World}
theorem run_bytes_row (src dst e : TypeId) (g o n cap : Nat) (hs : P.underlying src = some (.slice e)) (he : P.underlying e = some (.int .u8)) (hd : P.underlying dst = some .string)
    (hr : isRow w g = true) (hn : o + n ≤ (rowAt w g).size) (hb : allBytes (cut (rowAt w g) o (o + n)) = true) :
    (convert src dst (.slice (some ⟨g, o, none⟩) n cap)).run P w = .ok (.string (bytesOf (cut (rowAt w g) o (o + n)))) w := by
  have hl := run_loadCells_row (P := P) g o n hr hn
  unfold cut at *
  generalize hc : (rowAt w g).extract o (o + n) = cs at *
  have hcs : cs = ((cs.toList.map fun v => ((byteOf' v).toNat : Int)).map (Value.int .u8)).toArray := by
    apply Array.ext_getElem?
    intro i
    by_cases hi : i < cs.size
    · simp only [allBytes, Array.all_eq_true_iff_forall_mem] at hb
      have h1 := hb cs[i] (by simp)
      simp only [List.map_map, List.getElem?_toArray, List.getElem?_map, Array.getElem?_toList, Array.getElem?_eq_getElem hi, Option.map_some, Function.comp]
      generalize cs[i] = v at *
      cases v <;> simp only [isByte, Bool.false_eq_true] at h1
      rename_i k m
      cases k <;> simp only [Bool.false_eq_true, decide_eq_true_eq] at h1
      congr 2
      simp only [byteOf']
      rw [UInt8.toNat_ofNat_of_lt' (by have : UInt8.size = 256 := rfl; omega)]
      omega
    · simp [Nat.le_of_not_lt hi]
  rw [run_convert_bytes_string w src dst e _ n cap hs he hd, run_bytesToString w _ n cap _ (hl.trans (by rw [← hcs])), foldl_push_bytes]
  congr 2
  unfold bytesOf
  congr 1
  have he0 : ByteArray.empty.data = #[] := rfl
  rw [he0]
  apply Array.ext_getElem?
  intro i
  by_cases hi : i < cs.size
  · simp [Array.getElem?_eq_getElem hi]
  · simp [Nat.le_of_not_lt hi]
/-- the same as a rule for the walk -/
def convBS (src dst : TypeId) (x : Value) : Sem Value := convert src dst x
theorem convBS_row (src dst : TypeId) (g o n cap : Nat) (hs : P.underlying src = some (.slice (P.elem src))) (he : P.underlying (P.elem src) = some (.int .u8)) (hd : P.underlying dst = some .string)
    (hr : isRow w g = true) (hn : o + n ≤ (rowAt w g).size) (hb : allBytes (cut (rowAt w g) o (o + n)) = true) :
    (convBS src dst (.slice (some ⟨g, o, none⟩) n cap)).run P w = .ok (.string (bytesOf (cut (rowAt w g) o (o + n)))) w := run_bytes_row src dst _ g o n cap hs he hd hr hn hb
theorem convBS_nil (src dst : TypeId) (n cap : Nat) (hs : P.underlying src = some (.slice (P.elem src))) (he : P.underlying (P.elem src) = some (.int .u8)) (hd : P.underlying dst = some .string) :
    (convBS src dst (.slice none n cap)).run P w = .ok (.string ByteArray.empty) w := run_convert_bytes_nil w src _ hs he n cap dst hd
end
theorem convBS_in (x : Value) : convert 68 9 x = convBS 68 9 x := rfl
end Go.Proofs.Ytgaecjhghpkcoaa
end

section
namespace Go.Proofs.Ytgaecjhghpkcoaa
open Go.RowKit

/-- the room of a row that is made of a text -/
def capS (w : World) (n : Nat) (e : TypeId) : Nat := grownCap w n 0 e
theorem capS_ge (w : World) (n : Nat) (e : TypeId) : n ≤ capS w n e := grownCap_ge w n 0 e
theorem capS_le (w : World) (n : Nat) (e : TypeId) (h : n ≤ maxLen) : capS w n e ≤ maxLen := grownCap_le_maxLen w n 0 e h
theorem ofText_out (s : ByteArray) (i : Nat) (h : s.size ≤ i) : ofText s i = 0 := by
  have hsz : s.data.size = s.size := rfl
  simp [ofText, Array.getElem?_eq_none (show s.data.size ≤ i by omega)]
theorem bytesRow_blk (s : ByteArray) (c : Nat) (h : s.size ≤ c) : bytesRow s c = blk c (ofText s) := by
  have hsz : s.data.size = s.size := rfl
  apply Array.ext_getElem?
  intro i
  unfold bytesRow
  by_cases hi : i < s.size
  · rw [blk_get _ _ _ (by omega), Array.getElem?_append_left (by simpa using hi)]
    simp [ofText, B, Array.getElem?_eq_getElem (show i < s.data.size by omega)]
  · rw [Array.getElem?_append_right (by simp; omega)]
    by_cases hc : i < c
    · rw [blk_get _ _ _ hc, ofText_out s i (by omega), Array.getElem?_replicate, if_pos (by simp; omega)]
      rfl
    · rw [Array.getElem?_replicate, if_neg (by simp; omega)]
      simp [blk_size, Nat.le_of_not_lt hc]
section
variable {P : Program} {w : World}
def convSB (src dst : TypeId) (x : Value) : Sem Value := convert src dst x
theorem convSB_row (src dst : TypeId) (s : ByteArray) (hs : P.underlying src = some .string) (hd : P.underlying dst = some (.slice (P.elem dst))) (he : P.underlying (P.elem dst) = some (.int .u8)) :
    (convSB src dst (.string s)).run P w = .ok (.slice (some ⟨w.heap.size, 0, none⟩) s.size (capS w s.size (P.elem dst)))
      (w.drew.alloc (.cells (blk (capS w s.size (P.elem dst)) (ofText s)) (P.elem dst) (capS w s.size (P.elem dst), capS w s.size (P.elem dst) + 1))) := by
  have h := run_bytes_of_string w src dst (P.elem dst) s hs hd he
  rw [bytesRow_blk s _ (grownCap_ge w s.size 0 _), blk_size] at h
  exact h
theorem freeRow_endB (n : Nat) (f : Nat → UInt8) (t : TypeId) (m k : Nat) : freeRow (w.alloc (.cells (blk n f) t (n, m))) k = if k = w.heap.size then true else freeRow w k := by
  rw [freeRow_mark, blk_size, unmarked_end]
end
theorem convSB_in (x : Value) : convert 9 68 x = convSB 9 68 x := rfl
theorem St.pushM {w0 a : World} {L : List (Nat × Array Value)} (h : St w0 L a) (n : Nat) (f : Nat → UInt8) (t : TypeId) (m : Nat) : St w0 ((a.heap.size, blk n f) :: L) (a.alloc (.cells (blk n f) t (n, m))) := by
  have h' := h.skip (.cells (blk n f) t (n, m))
  refine ⟨h'.below, ?_, ?_⟩
  · simp only [List.map_cons, List.nodup_cons]
    refine ⟨fun hm => ?_, h.ne⟩
    obtain ⟨x, hx, he⟩ := List.mem_map.1 hm
    have := (h.rows x hx).1.2
    omega
  · intro x hx
    rcases List.mem_cons.1 hx with rfl | hx
    · refine ⟨⟨h.below.size, by simp⟩, ?_, ?_, ?_⟩
      · simp [rowAt_alloc]
      · simp [freeRow_endB]
      · simp [isRow_alloc]
    · exact h'.rows x hx
theorem St.pushMA {w0 a : World} {L : List (Nat × Array Value)} (h : St w0 L a) (n : Nat) (f : Nat → UInt8) (t : TypeId) (m : Nat) {g : Nat} (hg : a.heap.size = g) : St w0 ((g, blk n f) :: L) (a.alloc (.cells (blk n f) t (n, m))) := hg ▸ h.pushM n f t m

/-! ### parts of rows -/
/-- where a part begins: at its end the machine keeps the elder address -/
def sOff (o m l : Nat) : Nat := if m = l then o else o + l
theorem sOff_zero (o m : Nat) : sOff o m 0 = o := by simp [sOff]
theorem sOff_in (o m l n : Nat) (h : l + n ≤ m) (hn : 0 < n) : sOff o m l = o + l := by unfold sOff; rw [if_neg (by omega)]
theorem sOff_le (m l n : Nat) (h : l + n ≤ m) : sOff 0 m l + n ≤ m := by unfold sOff; split <;> omega
theorem sliced_row (g o l h m : Nat) : sliced (some ⟨g, o, none⟩) l h m 1 = .slice (some ⟨g, sOff o m l, none⟩) (h - l) (m - l) := by
  unfold sliced sOff
  split
  · rfl
  · simp [add_mid]
section
variable {P : Program} {w : World}
theorem slice_from (t : TypeId) (g o n cap : Nat) (kd : IntKind) (k : Int) (h : P.underlying t = some (.slice (P.elem t))) (hs : (sizeOf (P.elem t)).run P w = .ok 1 w) (h0 : 0 ≤ k) (hk : k ≤ (n : Int)) :
    (Instr.slice t (.slice (some ⟨g, o, none⟩) n cap) (some (.int kd k)) none none).run P w = .ok (.slice (some ⟨g, sOff o cap k.toNat, none⟩) (n - k.toNat) (cap - k.toNat)) w := by
  rw [run_slice_l (P := P) w t (some ⟨g, o, none⟩) n cap h kd k h0 hk, hs]
  simp only [Result.andThen_ok, sliced_row]
theorem slice_to (t : TypeId) (g o n cap : Nat) (kd : IntKind) (k : Int) (h : P.underlying t = some (.slice (P.elem t))) (hs : (sizeOf (P.elem t)).run P w = .ok 1 w) (h0 : 0 ≤ k) (hk : k ≤ (cap : Int)) :
    (Instr.slice t (.slice (some ⟨g, o, none⟩) n cap) none (some (.int kd k)) none).run P w = .ok (.slice (some ⟨g, o, none⟩) k.toNat cap) w := by
  rw [run_slice_h (P := P) w t (some ⟨g, o, none⟩) n cap h kd k h0 hk, hs]
  simp only [Result.andThen_ok, sliced_row, sOff_zero, Nat.sub_zero]
end
theorem strOf_off (m l n : Nat) (f : Nat → UInt8) (h : l + n ≤ m) : strOf (sOff 0 m l + n - sOff 0 m l) (fun j => f (sOff 0 m l + j)) = strOf n fun j => f (l + j) := by
  rw [Nat.add_sub_cancel_left]
  by_cases hn : 0 < n
  · rw [sOff_in 0 m l n h hn, Nat.zero_add]
  · obtain rfl : n = 0 := by omega
    rfl
end Go.Proofs.Ytgaecjhghpkcoaa
end

section
namespace Go.Proofs.Ytgaecjhghpkcoaa.Gh

/-- times x -/
def dbl (v : Nat) : Nat := (v >>> 1) ^^^ (if v.testBit 0 then 0xe1 <<< 120 else 0)
def dblN : Nat → Nat → Nat
  | 0, w => w
  | n + 1, w => dbl (dblN n w)
/-- the first n coefficients of v, times w -/
def tm (w v : Nat) : Nat → Nat
  | 0 => 0
  | n + 1 => tm w v n ^^^ (if v.testBit (127 - n) then dblN n w else 0)
def mul (w v : Nat) : Nat := tm w v 128
def one : Nat := 2 ^ 127
def Ok (v : Nat) : Prop := v < 2 ^ 128

theorem ite_xor (p q : Bool) (c : Nat) : (if (p ^^ q) = true then c else 0) = (if p = true then c else 0) ^^^ (if q = true then c else 0) := by
  cases p <;> cases q <;> simp
theorem ite_xor2 (p : Bool) (c d : Nat) : (if p = true then c ^^^ d else 0) = (if p = true then c else 0) ^^^ (if p = true then d else 0) := by
  cases p <;> simp
theorem xor_22 (a b c d : Nat) : (a ^^^ b) ^^^ (c ^^^ d) = (a ^^^ c) ^^^ (b ^^^ d) := by ac_rfl
theorem dbl_xor (a b : Nat) : dbl (a ^^^ b) = dbl a ^^^ dbl b := by
  unfold dbl
  rw [Nat.shiftRight_xor_distrib, Nat.testBit_xor, ite_xor, xor_22]
theorem dbl_zero : dbl 0 = 0 := rfl
theorem xor_lt {a b : Nat} (ha : Ok a) (hb : Ok b) : Ok (a ^^^ b) := Nat.xor_lt_two_pow ha hb
theorem ok_zero : Ok 0 := by unfold Ok; decide
theorem ok_one : Ok one := by unfold Ok one; decide
theorem dbl_lt {a : Nat} (ha : Ok a) : Ok (dbl a) := by
  unfold dbl
  refine xor_lt ?_ ?_
  · unfold Ok at *
    rw [Nat.shiftRight_eq_div_pow]
    omega
  · split
    · unfold Ok; decide
    · exact ok_zero
theorem dblN_lt {a : Nat} (ha : Ok a) : ∀ n, Ok (dblN n a)
  | 0 => ha
  | n + 1 => dbl_lt (dblN_lt ha n)
theorem dblN_xor (a b : Nat) : ∀ n, dblN n (a ^^^ b) = dblN n a ^^^ dblN n b
  | 0 => rfl
  | n + 1 => by simp only [dblN, dblN_xor a b n, dbl_xor]
theorem dblN_zero : ∀ n, dblN n 0 = 0
  | 0 => rfl
  | n + 1 => by simp only [dblN, dblN_zero n]; rfl
theorem dblN_dbl (a : Nat) : ∀ n, dblN n (dbl a) = dbl (dblN n a)
  | 0 => rfl
  | n + 1 => by simp only [dblN, dblN_dbl a n]
theorem dblN_add (a : Nat) (m : Nat) : ∀ n, dblN (n + m) a = dblN n (dblN m a)
  | 0 => by rw [Nat.zero_add]; rfl
  | n + 1 => by rw [show n + 1 + m = (n + m) + 1 by omega]; simp only [dblN, dblN_add a m n]
theorem tm_lt {w : Nat} (hw : Ok w) (v : Nat) : ∀ n, Ok (tm w v n)
  | 0 => ok_zero
  | n + 1 => by
    simp only [tm]
    refine xor_lt (tm_lt hw v n) ?_
    split
    · exact dblN_lt hw n
    · exact ok_zero
theorem mul_lt {w : Nat} (hw : Ok w) (v : Nat) : Ok (mul w v) := tm_lt hw v 128
theorem tm_zero_left (v : Nat) : ∀ n, tm 0 v n = 0
  | 0 => rfl
  | n + 1 => by simp [tm, tm_zero_left v n, dblN_zero]
theorem tm_xor_left (a b v : Nat) : ∀ n, tm (a ^^^ b) v n = tm a v n ^^^ tm b v n
  | 0 => by simp [tm]
  | n + 1 => by
    simp only [tm, tm_xor_left a b v n, dblN_xor, ite_xor2]
    exact xor_22 _ _ _ _
theorem tm_xor_right (w a b : Nat) : ∀ n, tm w (a ^^^ b) n = tm w a n ^^^ tm w b n
  | 0 => by simp [tm]
  | n + 1 => by
    simp only [tm, tm_xor_right w a b n, Nat.testBit_xor, ite_xor]
    exact xor_22 _ _ _ _
theorem tm_dbl (a v : Nat) : ∀ n, tm (dbl a) v n = dbl (tm a v n)
  | 0 => dbl_zero.symm
  | n + 1 => by
    simp only [tm, tm_dbl a v n, dblN_dbl, dbl_xor]
    cases v.testBit (127 - n) <;> simp [dbl_zero]
theorem tm_dblN (a v m : Nat) : ∀ n, tm (dblN n a) v m = dblN n (tm a v m)
  | 0 => rfl
  | n + 1 => by simp only [dblN, tm_dbl, tm_dblN a v m n]
/-- sums of x's powers times a: they change places -/
theorem tm_comm (a w v m : Nat) : ∀ n, tm (tm a w n) v m = tm (tm a v m) w n
  | 0 => tm_zero_left v m
  | n + 1 => by
    simp only [tm]
    rw [tm_xor_left, tm_comm a w v m n]
    congr 1
    cases w.testBit (127 - n)
    · simp [tm_zero_left]
    · simp [tm_dblN]

theorem dblN_one : ∀ n < 128, dblN n one = 2 ^ (127 - n) := by decide +kernel
theorem tm_one_bit (v : Nat) : ∀ n, n ≤ 128 → ∀ j, (tm one v n).testBit j = (decide (j ≤ 127 ∧ 127 - j < n) && v.testBit j)
  | 0, _, j => by simp [tm]
  | n + 1, hn, j => by
    simp only [tm, Nat.testBit_xor, tm_one_bit v n (by omega) j]
    by_cases hv : v.testBit (127 - n) = true
    · rw [if_pos hv, dblN_one n (by omega), Nat.testBit_two_pow]
      by_cases hj : 127 - n = j
      · subst hj
        rw [hv]
        have : 127 - (127 - n) = n := by omega
        simp [this]
      · have e : decide (j ≤ 127 ∧ 127 - j < n) = decide (j ≤ 127 ∧ 127 - j < n + 1) := by
          apply decide_eq_decide.2; omega
        simp [hj, e]
    · rw [if_neg hv]
      by_cases hj : 127 - n = j
      · subst hj
        simp [hv]
      · have e : decide (j ≤ 127 ∧ 127 - j < n) = decide (j ≤ 127 ∧ 127 - j < n + 1) := by
          apply decide_eq_decide.2; omega
        simp [e]
theorem one_mul {v : Nat} (hv : Ok v) : mul one v = v := by
  apply Nat.eq_of_testBit_eq
  intro j
  unfold mul
  rw [tm_one_bit v 128 (Nat.le_refl _)]
  by_cases hj : j ≤ 127
  · simp [hj]; intro h; omega
  · have : v.testBit j = false := Nat.testBit_lt_two_pow (Nat.lt_of_lt_of_le hv (Nat.pow_le_pow_right (by decide) (by omega)))
    simp [this]
theorem mul_comm {w v : Nat} (hw : Ok w) (hv : Ok v) : mul w v = mul v w := by
  have h1 : mul w v = mul (mul one w) v := by rw [one_mul hw]
  rw [h1]
  unfold mul
  rw [tm_comm]
  have h2 := one_mul hv
  unfold mul at h2
  rw [h2]
theorem mul_one {v : Nat} (hv : Ok v) : mul v one = v := by rw [mul_comm hv ok_one, one_mul hv]
theorem mul_right_comm (a b c : Nat) : mul (mul a b) c = mul (mul a c) b := tm_comm a b c 128 128
theorem mul_assoc {a b c : Nat} (ha : Ok a) (hb : Ok b) : mul (mul a b) c = mul a (mul b c) := by
  rw [mul_comm ha hb, mul_right_comm b a c, mul_comm (mul_lt hb c) ha]
theorem mul_xor_right (a b c : Nat) : mul a (b ^^^ c) = mul a b ^^^ mul a c := tm_xor_right a b c 128
theorem mul_xor_left (a b c : Nat) : mul (a ^^^ b) c = mul a c ^^^ mul b c := tm_xor_left a b c 128
theorem zero_mul (v : Nat) : mul 0 v = 0 := tm_zero_left v 128
theorem mul_zero {v : Nat} (hv : Ok v) : mul v 0 = 0 := by rw [mul_comm hv ok_zero, zero_mul]
theorem mul_dbl (a v : Nat) : mul (dbl a) v = dbl (mul a v) := tm_dbl a v 128
def xx : Nat := 2 ^ 126
theorem dbl_one : dbl one = xx := by decide +kernel
theorem ok_xx : Ok xx := by unfold Ok xx; decide
theorem xx_mul {v : Nat} (hv : Ok v) : mul xx v = dbl v := by rw [← dbl_one, mul_dbl, one_mul hv]

/-! ### linear functions are told by what they make of x's powers -/
structure Lin (f : Nat → Nat) : Prop where
  zero : f 0 = 0
  xor : ∀ a b, Ok a → Ok b → f (a ^^^ b) = f a ^^^ f b
theorem lin_ext {f g : Nat → Nat} (hf : Lin f) (hg : Lin g) (h : ∀ n, n < 128 → f (dblN n one) = g (dblN n one)) {v : Nat} (hv : Ok v) : f v = g v := by
  have : ∀ n, n ≤ 128 → f (tm one v n) = g (tm one v n) := fun n => by
    induction n with
    | zero => intro _; simp only [tm]; rw [hf.zero, hg.zero]
    | succ n ih =>
      intro hn
      simp only [tm]
      have h1 : Ok (tm one v n) := tm_lt ok_one v n
      split
      · rw [hf.xor _ _ h1 (dblN_lt ok_one n), hg.xor _ _ h1 (dblN_lt ok_one n), ih (by omega), h n (by omega)]
      · rw [hf.xor _ _ h1 ok_zero, hg.xor _ _ h1 ok_zero, ih (by omega), hf.zero, hg.zero]
  have h2 := this 128 (Nat.le_refl _)
  have h3 := one_mul hv
  unfold mul at h3
  rwa [h3] at h2

/-! ### squares -/
def sq (a : Nat) : Nat := mul a a
theorem sq_lt {a : Nat} (ha : Ok a) : Ok (sq a) := mul_lt ha a
theorem sq_xor {a b : Nat} (ha : Ok a) (hb : Ok b) : sq (a ^^^ b) = sq a ^^^ sq b := by
  unfold sq
  rw [mul_xor_left, mul_xor_right, mul_xor_right, mul_comm hb ha]
  rw [Nat.xor_assoc, ← Nat.xor_assoc (mul a b) (mul a b), Nat.xor_self, Nat.zero_xor]
theorem sq_mul {a b : Nat} (ha : Ok a) (hb : Ok b) : sq (mul a b) = mul (sq a) (sq b) := by
  unfold sq
  have hab := mul_lt ha b
  rw [← mul_assoc (mul_lt ha a) hb, mul_assoc ha hb, ← mul_assoc hb ha, mul_comm hb ha, mul_assoc ha hb, ← mul_assoc ha ha, ← mul_assoc (mul_lt ha a) hb]
theorem sq_one : sq one = one := mul_one ok_one
theorem sq_zero : sq 0 = 0 := zero_mul 0
def sqN : Nat → Nat → Nat
  | 0, a => a
  | n + 1, a => sq (sqN n a)
theorem sqN_lt {a : Nat} (ha : Ok a) : ∀ n, Ok (sqN n a)
  | 0 => ha
  | n + 1 => sq_lt (sqN_lt ha n)
theorem sqN_xor {a b : Nat} (ha : Ok a) (hb : Ok b) : ∀ n, sqN n (a ^^^ b) = sqN n a ^^^ sqN n b
  | 0 => rfl
  | n + 1 => by simp only [sqN, sqN_xor ha hb n, sq_xor (sqN_lt ha n) (sqN_lt hb n)]
theorem sqN_mul {a b : Nat} (ha : Ok a) (hb : Ok b) : ∀ n, sqN n (mul a b) = mul (sqN n a) (sqN n b)
  | 0 => rfl
  | n + 1 => by simp only [sqN, sqN_mul ha hb n, sq_mul (sqN_lt ha n) (sqN_lt hb n)]
theorem sqN_one : ∀ n, sqN n one = one
  | 0 => rfl
  | n + 1 => by simp only [sqN, sqN_one n, sq_one]
theorem sqN_zero : ∀ n, sqN n 0 = 0
  | 0 => rfl
  | n + 1 => by simp only [sqN, sqN_zero n, sq_zero]

/-! ### reckoned quickly -/
def quick (v : Nat) : Nat → Nat → Nat → Nat
  | 0, _, s => s
  | n + 1, w, s => quick v n (dbl w) (s ^^^ (if v.testBit n then w else 0))
theorem quick_tm (v a : Nat) : ∀ n m, n + m = 128 → quick v n (dblN m a) (tm a v m) = tm a v 128
  | 0, m, h => by obtain rfl : m = 128 := by omega
                  rfl
  | n + 1, m, h => by
    have ih := quick_tm v a n (m + 1) (by omega)
    have e : 127 - m = n := by omega
    simp only [quick]
    rw [← ih]
    simp only [tm, dblN, e]
def quickMul (a v : Nat) : Nat := quick v 128 a 0
theorem quickMul_eq (a v : Nat) : quickMul a v = mul a v := quick_tm v a 128 0 (by omega)
def quickSqN : Nat → Nat → Nat
  | 0, a => a
  | n + 1, a => quickMul (quickSqN n a) (quickSqN n a)
theorem quickSqN_eq (a : Nat) : ∀ n, quickSqN n a = sqN n a
  | 0 => rfl
  | n + 1 => by simp only [quickSqN, sqN, quickSqN_eq a n, quickMul_eq]; rfl
set_option maxRecDepth 100000 in
theorem quick_xx : quickSqN 128 xx = xx := by decide +kernel
theorem sqN_xx : sqN 128 xx = xx := by rw [← quickSqN_eq]; exact quick_xx
theorem sqN_all {v : Nat} (hv : Ok v) : sqN 128 v = v := by
  refine lin_ext (f := sqN 128) (g := fun v => v) ⟨sqN_zero 128, fun a b ha hb => sqN_xor ha hb 128⟩ ⟨rfl, fun _ _ _ _ => rfl⟩ (fun n _ => ?_) hv
  induction n with
  | zero => exact sqN_one 128
  | succ n ih =>
    show sqN 128 (dbl (dblN n one)) = dbl (dblN n one)
    have h := dblN_lt ok_one n
    rw [← xx_mul h, sqN_mul ok_xx h 128, sqN_xx, ih (by omega)]

/-! ### which blocks are their own squares -/
def tab : Array Nat := #[0x10d04d25f93556e69f58ce2f8d035a94, 0x202f566ef59a994991d0e977a9aa5ba7, 0x602f566ef59a994991d0e977a9aa5ba7, 0x3045202cccefc1ee67fd0ac2e3641972, 0x402f566ef59a994991d0e977a9aa5ba7, 0x5672e0c1d328e3be0d2c5beb59e57554, 0x2045202cccefc1ee67fd0ac2e3641972, 0x187f9b4b8cafcfaf8e88275824a90133, 0x482f566ef59a994991d0e977a9aa5ba7, 0x22da13517461d3ee69739a8be16c1972, 0x5272e0c1d328e3be0d2c5beb59e57554, 0x6aff55603cd3fceff55228f556d54755, 0x2245202cccefc1ee67fd0ac2e3641972, 0x46fc06025397fc91bb49eab33e4cf467, 0x197f9b4b8cafcfaf8e88275824a90133, 0x646dca2be3d6cc87d093e2fc4c0f4ad5, 0x48af566ef59a994991d0e977a9aa5ba7, 0x5cea2fd59105659e2d1ccaeb5d2c7d54, 0x229a13517461d3ee69739a8be16c1972, 0x3f46a4c41f7d395874f4e33b9d331780, 0x5252e0c1d328e3be0d2c5beb59e57554, 0x312701524d961730583bcf844c342240, 0x6aef55603cd3fceff55228f556d54755, 0x144559bb6c9ffcd7bc4c239cf48626f3, 0x224d202cccefc1ee67fd0ac2e3641972, 0x1a24eaea541cab0f9092b01169688933, 0x46f806025397fc91bb49eab33e4cf467, 0x2c14dba71e26fe964f314b9433eb3eb2, 0x197d9b4b8cafcfaf8e88275824a90133, 0x2561da58536a903fe562896ae4899333, 0x646cca2be3d6cc87d093e2fc4c0f4ad5, 0x41d77800d619af2838dab35b297373a6, 0x48afd66ef59a994991d0e977a9aa5ba7, 0x5ce7c3e3968e47f62e5390ab45fe70d4, 0x5cea6fd59105659e2d1ccaeb5d2c7d54, 0x428019a11caacb8824c8241264b2fba6, 0x229a33517461d3ee69739a8be16c1972, 0x258e6f54b84bf6f7ef54f70e70ef2ef3, 0x3f46b4c41f7d395874f4e33b9d331780, 0x1af0929921b9589f9fb368dce89d2373, 0x5252e8c1d328e3be0d2c5beb59e57554, 0x3bdc8ad604f36599e246fae899f68fc1, 0x312705524d961730583bcf844c342240, 0x38e6217d7e479d8109554569546afc0, 0x6aef57603cd3fceff55228f556d54755, 0x2bd77bb364ab6b3fc733d8875e039333, 0x144558bb6c9ffcd7bc4c239cf48626f3, 0x698e6217d7fb8627ef6aa903c013fa95, 0x224d20acccefc1ee67fd0ac2e3641972, 0x21ce3a83c07704de74dad50f0d583b32, 0x1a24eaaa541cab0f9092b01169688933, 0x56f3167fe31312df9eb885b869165d55, 0x46f806225397fc91bb49eab33e4cf467, 0x77dcb1c60e3ad1c9e2190477682adba7, 0x2c14dbb71e26fe964f314b9433eb3eb2, 0x7348a7e5645f92d076e747a9d181ec26, 0x197d9b438cafcfaf8e88275824a90133, 0x2cfbb4409945161e45d21862e0409b32, 0x2561da5c536a903fe562896ae4899333, 0x36e717e02724b8f1d1527df73b8e8241, 0x646cca29e3d6cc87d093e2fc4c0f4ad5, 0x7adc3b3404788e11d4cfd6f8f5447467, 0x41d77801d619af2838dab35b297373a6, 0x4a2ade42a1db559927495c4d4e62fc1, 0x48afd66e759a994991d0e977a9aa5ba7, 0x329f337db88e12004e8e904902080000, 0x5ce7c3e3d68e47f62e5390ab45fe70d4, 0x36e9eb0be64d6b99d3ec2e5e502bb781, 0x5cea6fd5b105659e2d1ccaeb5d2c7d54, 0x4622ba58b211bb21b69fb337b1785627, 0x428019a10caacb8824c8241264b2fba6, 0x49a065cd7758d5196f0e3578d383201, 0x229a33517c61d3ee69739a8be16c1972, 0x55aabdbeec28a2078079924a4cd2f295, 0x258e6f54bc4bf6f7ef54f70e70ef2ef3, 0x7986f6afcfc951e9cb9188c1a5beebe7, 0x3f46b4c41d7d395874f4e33b9d331780, 0x2f76850d57908a5e54a716d46cf0bb32, 0x1af0929920b9589f9fb368dce89d2373, 0x489a0b11781e0c1196cc4fdebc394c27, 0x5252e8c1d3a8e3be0d2c5beb59e57554, 0x72ccff3fd3d186182e1ce9a41041041, 0x3bdc8ad604b36599e246fae899f68fc1, 0x5c33b52f8947e9462158188b7248d294, 0x312705524db61730583bcf844c342240, 0x79880aa666d696d9c926622882fff1e7, 0x38e6217d7f479d8109554569546afc0, 0x285aabc679b16ad7d6c2852abfdb1eb3, 0x6aef57603cdbfceff55228f556d54755, 0x26d44eb77ddd535ff0b1c738de72bb33, 0x2bd77bb364af6b3fc733d8875e039333, 0x3cfddc25f2ae2df86391fd8d3387a7c0, 0x144558bb6c9dfcd7bc4c239cf48626f3, 0x457534e82f16f649aa2d862c91005ba7, 0x698e6217d7fa8627ef6aa903c013fa95, 0x4bf8b9d33b8f38198de17cdee54751e7, 0x224d20acccef41ee67fd0ac2e3641972, 0x634efa836deeebf650dae654442b4894, 0x21ce3a83c07744de74dad50f0d583b32, 0x4bf6a9a1f02e1f698fec4b1a74166be7, 0x1a24eaaa541c8b0f9092b01169688933, 0x6462e2cc93c28627d2d0526e0d66c2d5, 0x56f3167fe31302df9eb885b869165d55, 0x79b07befedd921e9cd751ec18ebeebe7, 0x46f806225397f491bb49eab33e4cf467, 0x701c741cbd9fc8b06b94eadf79b8c426, 0x77dcb1c60e3ad5c9e2190477682adba7, 0x44eaa59bd8819a999287fa5ed58ad81, 0x2c14dbb71e26fc964f314b9433eb3eb2, 0x602105ae977251e64834e0c2dd2d5a94, 0x7348a7e5645f93d076e747a9d181ec26, 0x645919a4b35879f7d7a68d71cb5770d5, 0x197d9b438cafcf2f8e88275824a90133, 0xd94d9da18080030c4db699e5dc0, 0x2cfbb4409945165e45d21862e0409b32, 0x99a6e1cca2f8641a0b0910804c90841, 0x2561da5c536a901fe562896ae4899333, 0x5f86cdbc744e28fe3430f49ddf071154, 0x36e717e02724b8e1d1527df73b8e8241, 0x51eae8be2fe60df61bf9191de1788d94, 0x646cca29e3d6cc8fd093e2fc4c0f4ad5, 0x5f67891c31b7edb03c86875f90384d1c, 0x7adc3b3404788e15d4cfd6f8f5447467, 0x36dc3b3404788e15d4cfd6f8f5447461, 0x41d77801d619af2a38dab35b297373a6, 0x35bd0e43ef6cf78dcef750ee63bd3171, 0x4a2ade42a1db558927495c4d4e62fc1, 0x0]
/-- linear: coefficient i makes tab[i] -/
def lt (y : Nat) : Nat → Nat
  | 0 => 0
  | n + 1 => lt y n ^^^ (if y.testBit (127 - n) then tab.getD n 0 else 0)
theorem lt_xor (a b : Nat) : ∀ n, lt (a ^^^ b) n = lt a n ^^^ lt b n
  | 0 => by simp [lt]
  | n + 1 => by
    simp only [lt, lt_xor a b n, Nat.testBit_xor, ite_xor]
    exact xor_22 _ _ _ _
theorem lt_zero : ∀ n, lt 0 n = 0
  | 0 => rfl
  | n + 1 => by simp [lt, lt_zero n]
set_option maxRecDepth 100000 in
theorem lt_basis : ∀ n < 128, lt (quickMul (2 ^ (127 - n)) (2 ^ (127 - n)) ^^^ 2 ^ (127 - n)) 128 = if n = 0 then 0 else 2 ^ (127 - n) := by decide +kernel
/-- coefficient 0 struck -/
def strike (v : Nat) : Nat := v &&& (2 ^ 127 - 1)
theorem lt_all {v : Nat} (hv : Ok v) : lt (sq v ^^^ v) 128 = strike v := by
  refine lin_ext (f := fun v => lt (sq v ^^^ v) 128) (g := strike) ⟨?_, fun a b ha hb => ?_⟩ ⟨?_, fun a b _ _ => ?_⟩ (fun n hn => ?_) hv
  · simp only [sq_zero, Nat.xor_self]; exact lt_zero 128
  · rw [← lt_xor, sq_xor ha hb]
    congr 1
    exact xor_22 _ _ _ _
  · simp [strike]
  · unfold strike; exact Nat.and_xor_distrib_right ..
  · rw [dblN_one n hn]
    have h := lt_basis n hn
    rw [quickMul_eq] at h
    show lt (mul (2 ^ (127 - n)) (2 ^ (127 - n)) ^^^ 2 ^ (127 - n)) 128 = strike (2 ^ (127 - n))
    rw [h]
    unfold strike
    rw [Nat.and_two_pow_sub_one_eq_mod]
    split
    · rename_i h0; subst h0; simp
    · rw [Nat.mod_eq_of_lt]
      exact Nat.pow_lt_pow_right (by decide) (by omega)
theorem own_square {v : Nat} (hv : Ok v) (h : sq v = v) : v = 0 ∨ v = one := by
  have h1 := lt_all hv
  rw [h, Nat.xor_self, lt_zero] at h1
  unfold strike at h1
  rw [Nat.and_two_pow_sub_one_eq_mod] at h1
  unfold Ok at hv
  unfold one
  omega

/-! ### no divisors of 0 -/
/-- the product of the first n squares of squares -/
def norm (a : Nat) : Nat → Nat
  | 0 => one
  | n + 1 => mul (norm a n) (sqN n a)
theorem norm_lt {a : Nat} : ∀ n, Ok (norm a n)
  | 0 => ok_one
  | n + 1 => mul_lt (norm_lt n) _
theorem norm_mul {a : Nat} (ha : Ok a) : ∀ n, mul (norm a n) a = sqN n a
  | 0 => one_mul ha
  | n + 1 => by
    simp only [norm, sqN]
    rw [mul_right_comm, norm_mul ha n]; rfl
theorem sq_norm {a : Nat} (ha : Ok a) : ∀ n, mul (sq (norm a n)) a = mul (norm a n) (sqN n a)
  | 0 => by simp only [norm, sqN]; rw [sq_one]
  | n + 1 => by
    have h1 := norm_lt (a := a) n
    have h2 := sqN_lt ha n
    simp only [norm, sqN]
    rw [sq_mul h1 h2, mul_right_comm, sq_norm ha n]
theorem norm_own {a : Nat} (ha : Ok a) : sq (norm a 128) = norm a 128 := by
  have h1 : mul (sq (norm a 127)) a = norm a 128 := sq_norm ha 127
  have h2 : sq (norm a 128) = mul (sq (norm a 127)) (sqN 128 a) := sq_mul (norm_lt 127) (sqN_lt ha 127)
  rw [h2, sqN_all ha, h1]
theorem no_div {a b : Nat} (ha : Ok a) (hb : Ok b) (h : mul a b = 0) : a = 0 ∨ b = 0 := by
  have hn : Ok (norm a 128) := norm_lt 128
  rcases own_square hn (norm_own ha) with h0 | h1
  · left
    have h2 := norm_mul ha 128
    rw [h0, zero_mul, sqN_all ha] at h2
    exact h2.symm
  · right
    have h2 : mul (sq (norm a 127)) a = norm a 128 := sq_norm ha 127
    have h3 : mul (norm a 128) b = 0 := by
      rw [← h2, mul_assoc (sq_lt (norm_lt 127)) ha, h, mul_zero (sq_lt (norm_lt 127))]
    rwa [h1, one_mul hb] at h3
theorem mul_eq_zero {a b : Nat} (ha : Ok a) (hb : Ok b) : mul a b = 0 ↔ a = 0 ∨ b = 0 :=
  ⟨no_div ha hb, fun h => by rcases h with rfl | rfl; exact zero_mul b; exact mul_zero ha⟩

/-! ### powers -/
def pw (h : Nat) : Nat → Nat
  | 0 => one
  | n + 1 => mul (pw h n) h
theorem pw_lt {h : Nat} : ∀ n, Ok (pw h n)
  | 0 => ok_one
  | n + 1 => mul_lt (pw_lt n) h
theorem pw_add {h : Nat} (hh : Ok h) (m : Nat) : ∀ n, pw h (m + n) = mul (pw h m) (pw h n)
  | 0 => (mul_one (pw_lt m)).symm
  | n + 1 => by
    show mul (pw h (m + n)) h = mul (pw h m) (mul (pw h n) h)
    rw [pw_add hh m n, mul_assoc (pw_lt m) (pw_lt n)]
theorem pw_one {h : Nat} (hh : Ok h) : pw h 1 = h := one_mul hh
theorem pw_double {h : Nat} (hh : Ok h) (n : Nat) : pw (mul h h) n = pw h (2 * n) := by
  induction n with
  | zero => rfl
  | succ n ih =>
    show mul (pw (mul h h) n) (mul h h) = _
    rw [ih, show 2 * (n + 1) = (2 * n + 1) + 1 by omega]
    show _ = mul (mul (pw h (2 * n)) h) h
    rw [mul_assoc (pw_lt _) hh]
theorem pw_ne {h : Nat} (hh : Ok h) (h0 : h ≠ 0) : ∀ n, pw h n ≠ 0
  | 0 => by unfold pw one; decide
  | n + 1 => fun e => by
    rcases no_div (pw_lt n) hh e with h1 | h1
    · exact pw_ne hh h0 n h1
    · exact h0 h1

/-! ### numbers folded in -/
def fold (h : Nat) : Nat → List Nat → Nat
  | s, [] => s
  | s, c :: l => fold h (mul (s ^^^ c) h) l
theorem fold_lt {h s : Nat} (hs : Ok s) : ∀ l : List Nat, (∀ c ∈ l, Ok c) → Ok (fold h s l)
  | [], _ => hs
  | c :: l, hl => fold_lt (mul_lt (xor_lt hs (hl c (by simp))) h) l (fun x hx => hl x (by simp [hx]))
theorem fold_append (h : Nat) : ∀ (s : Nat) (l m : List Nat), fold h s (l ++ m) = fold h (fold h s l) m
  | _, [], _ => rfl
  | _, _ :: l, m => fold_append h _ l m
theorem fold_xor {h : Nat} (hh : Ok h) : ∀ (s t : Nat) (l : List Nat), Ok s → Ok t → (∀ c ∈ l, Ok c) → fold h s l ^^^ fold h t l = mul (s ^^^ t) (pw h l.length)
  | s, t, [], hs, ht, _ => by show s ^^^ t = mul (s ^^^ t) one; rw [mul_one (xor_lt hs ht)]
  | s, t, c :: l, hs, ht, hl => by
    have hc := hl c (by simp)
    show fold h (mul (s ^^^ c) h) l ^^^ fold h (mul (t ^^^ c) h) l = _
    rw [fold_xor hh _ _ l (mul_lt (xor_lt hs hc) h) (mul_lt (xor_lt ht hc) h) (fun x hx => hl x (by simp [hx])), ← mul_xor_left]
    have e : (s ^^^ c) ^^^ (t ^^^ c) = s ^^^ t := by
      rw [Nat.xor_comm t c, Nat.xor_assoc, ← Nat.xor_assoc c c, Nat.xor_self, Nat.zero_xor]
    rw [e, mul_assoc (xor_lt hs ht) hh, mul_comm hh (pw_lt _)]; rfl
theorem xor_eq_zero {a b : Nat} (h : a ^^^ b = 0) : a = b := by
  have : (a ^^^ b) ^^^ b = b := by rw [h, Nat.zero_xor]
  rwa [Nat.xor_assoc, Nat.xor_self, Nat.xor_zero] at this
/-- two sums that part at one number, and are alike behind it, part -/
theorem fold_ne {h s c d : Nat} (hh : Ok h) (h0 : h ≠ 0) (hs : Ok s) (hc : Ok c) (hd : Ok d) (hcd : c ≠ d) (l : List Nat) (hl : ∀ c ∈ l, Ok c) : fold h s (c :: l) ≠ fold h s (d :: l) := fun e => by
  have h1 := fold_xor hh (mul (s ^^^ c) h) (mul (s ^^^ d) h) l (mul_lt (xor_lt hs hc) h) (mul_lt (xor_lt hs hd) h) hl
  have e' : fold h (mul (s ^^^ c) h) l = fold h (mul (s ^^^ d) h) l := e
  rw [e', Nat.xor_self, ← mul_xor_left] at h1
  have e2 : (s ^^^ c) ^^^ (s ^^^ d) = c ^^^ d := by
    rw [Nat.xor_comm s c, Nat.xor_assoc, ← Nat.xor_assoc s s, Nat.xor_self, Nat.zero_xor]
  rw [e2] at h1
  rcases no_div (mul_lt (xor_lt hc hd) h) (pw_lt _) h1.symm with h2 | h2
  · rcases no_div (xor_lt hc hd) hh h2 with h3 | h3
    · exact hcd (xor_eq_zero h3)
    · exact h0 h3
  · exact pw_ne hh h0 _ h2
end Go.Proofs.Ytgaecjhghpkcoaa.Gh
end

section
namespace Go.Proofs.Ytgaecjhghpkcoaa
open Go.RowKit

/-- a number of 64 bits as an integer -/
def U (x : UInt64) : Int := (x.toNat : Int)
theorem U_bd (x : UInt64) : 0 ≤ U x ∧ U x ≤ 18446744073709551615 := by
  have := x.toNat_lt; unfold U; omega
theorem U_xor (x y : UInt64) : bits BinOp.xor IntKind.u64 (U x) (U y) = U (x ^^^ y) := by
  unfold U
  rw [u64_xor_nat _ _ x.toNat_lt y.toNat_lt, UInt64.toNat_xor]
theorem U_or (x y : UInt64) : bits BinOp.or IntKind.u64 (U x) (U y) = U (x ||| y) := by
  unfold U
  rw [u64_or_nat _ _ x.toNat_lt y.toNat_lt, UInt64.toNat_or]
theorem U_and (x y : UInt64) : bits BinOp.and IntKind.u64 (U x) (U y) = U (x &&& y) := by
  unfold U
  rw [u64_and_nat _ _ x.toNat_lt y.toNat_lt, UInt64.toNat_and]
theorem U_and1 (x : UInt64) : bits BinOp.and IntKind.u64 (U x) 1 = U (x &&& 1) := U_and x 1
def tailU : UInt64 := 16212958658533785600
theorem U_tail (x : UInt64) : bits BinOp.and IntKind.u64 16212958658533785600 (U x) = U (tailU &&& x) := U_and tailU x
theorem wrap64 (n : Int) : IntKind.u64.wrap n = n % 18446744073709551616 := by simp [IntKind.wrap, IntKind.bits, IntKind.signed]
theorem wrap8 (n : Int) : IntKind.u8.wrap n = n % 256 := by simp [IntKind.wrap, IntKind.bits, IntKind.signed]
theorem U_neg (x : UInt64) : IntKind.u64.wrap (-U x) = U (-x) := by
  rw [wrap64]
  unfold U
  rw [UInt64.toNat_neg]
  have := x.toNat_lt
  show -(x.toNat : Int) % 18446744073709551616 = (((18446744073709551616 - x.toNat) % 18446744073709551616 : Nat) : Int)
  omega
theorem U_half (x : UInt64) : U x / (2 : Int) = U (x >>> 1) := by
  unfold U
  rw [UInt64.toNat_shiftRight, Nat.shiftRight_eq_div_pow]
  show (x.toNat : Int) / 2 = ((x.toNat / 2 ^ 1 : Nat) : Int)
  omega
theorem U_shr (x : UInt64) (k : Nat) (h : k < 64) : U x / (2 : Int) ^ k = U (x >>> UInt64.ofNat k) := by
  unfold U
  rw [UInt64.toNat_shiftRight, Nat.shiftRight_eq_div_pow, UInt64.toNat_ofNat_of_lt' (by have : UInt64.size = 18446744073709551616 := rfl; omega), Nat.mod_eq_of_lt h]
  simp
theorem U_shl8 (x : UInt64) : IntKind.u64.wrap (U x * (256 : Int)) = U (x <<< 8) := by
  rw [wrap64]
  unfold U
  rw [UInt64.toNat_shiftLeft, Nat.shiftLeft_eq]
  show (x.toNat : Int) * 256 % 18446744073709551616 = ((x.toNat * 2 ^ 8 % 2 ^ 64 : Nat) : Int)
  omega
theorem U_shl63 (x : UInt64) : IntKind.u64.wrap (U x * (9223372036854775808 : Int)) = U (x <<< 63) := by
  rw [wrap64]
  unfold U
  rw [UInt64.toNat_shiftLeft, Nat.shiftLeft_eq]
  show (x.toNat : Int) * 9223372036854775808 % 18446744073709551616 = ((x.toNat * 2 ^ 63 % 2 ^ 64 : Nat) : Int)
  omega
theorem U_of (b : UInt8) : IntKind.u64.wrap (B b) = U b.toUInt64 := by
  rw [wrap64]
  have := b.toNat_lt
  unfold U B
  rw [UInt8.toNat_toUInt64]
  omega
theorem U_to (x : UInt64) : IntKind.u8.wrap (U x) = B x.toUInt8 := by
  rw [wrap8]
  unfold U B
  rw [UInt64.toNat_toUInt8]
  omega

/-- two of them -/
def pr (a b : Int) : Array Value := #[.int .u64 a, .int .u64 b]
theorem pr_size (a b : Int) : (pr a b).size = 2 := by simp [pr]
theorem pr_get0 (a b : Int) : (pr a b)[0]? = some (.int .u64 a) := by simp [pr]
theorem pr_get1 (a b : Int) : (pr a b)[1]? = some (.int .u64 b) := by simp [pr]
theorem pr_getE0 (a b : Int) (h : 0 < (pr a b).size) : (pr a b)[0]'h = .int .u64 a := by simp [pr]
theorem pr_getE1 (a b : Int) (h : 1 < (pr a b).size) : (pr a b)[1]'h = .int .u64 b := by simp [pr]
theorem pr_set0 (a b c : Int) : (pr a b).setIfInBounds 0 (.int .u64 c) = pr c b := by simp [pr]
theorem pr_set1 (a b c : Int) : (pr a b).setIfInBounds 1 (.int .u64 c) = pr a c := by simp [pr]
theorem pr_ne (a b : Int) : (pr a b = #[]) = False := by simp [pr]
theorem oneCells_pr (a b : Int) : oneCells (pr a b) = true := by simp [oneCells, pr, Value.oneCell']
theorem paste_pr (a b c d : Int) : paste (pr a b) 0 (pr c d) = pr c d := by simp [pr, paste]
theorem cut_pr (a b : Int) : cut (pr a b) 0 2 = pr a b := by simp [pr, cut]
theorem pr_zero : #[Value.int .u64 0, Value.int .u64 0] = pr 0 0 := rfl
theorem pr_inj {a b c d : Int} (h : pr a b = pr c d) : a = c ∧ b = d := by
  unfold pr at h; simp at h; exact h

/-! ### a block's halves -/
def hiU (v : Nat) : UInt64 := UInt64.ofNat (v >>> 64)
def loU (v : Nat) : UInt64 := UInt64.ofNat v
def wide (v : Nat) : Array Value := pr (U (hiU v)) (U (loU v))
theorem wide_size (v : Nat) : (wide v).size = 2 := by simp [wide, pr]
theorem wide_get0 (v : Nat) : (wide v)[0]? = some (.int .u64 (U (hiU v))) := by simp [wide, pr]
theorem wide_get1 (v : Nat) : (wide v)[1]? = some (.int .u64 (U (loU v))) := by simp [wide, pr]
theorem wide_getE0 (v : Nat) (h : 0 < (wide v).size) : (wide v)[0]'h = .int .u64 (U (hiU v)) := by simp [wide, pr]
theorem wide_getE1 (v : Nat) (h : 1 < (wide v).size) : (wide v)[1]'h = .int .u64 (U (loU v)) := by simp [wide, pr]
theorem wide_ne (v : Nat) : (wide v = #[]) = False := pr_ne _ _
theorem oneCells_wide (v : Nat) : oneCells (wide v) = true := oneCells_pr _ _
theorem paste_wide (x y : Nat) : paste (wide x) 0 (wide y) = wide y := paste_pr _ _ _ _
theorem cut_wide (x : Nat) : cut (wide x) 0 2 = wide x := cut_pr _ _
theorem wide_build (v : Nat) : pr (U (hiU v)) (U (loU v)) = wide v := rfl
theorem wide_zero : #[Value.int .u64 0, Value.int .u64 0] = wide 0 := rfl

theorem hi_nat {v : Nat} (h : Gh.Ok v) : (hiU v).toNat = v >>> 64 := by
  unfold hiU
  rw [UInt64.toNat_ofNat_of_lt']
  unfold Gh.Ok at h
  rw [Nat.shiftRight_eq_div_pow]
  have : UInt64.size = 2 ^ 64 := rfl
  omega
theorem lo_nat (v : Nat) : (loU v).toNat = v % 2 ^ 64 := by
  unfold loU
  rw [UInt64.toNat_ofNat']
theorem hi_xor {x y : Nat} (hx : Gh.Ok x) (hy : Gh.Ok y) : hiU (x ^^^ y) = hiU x ^^^ hiU y := by
  apply UInt64.toNat_inj.1
  rw [UInt64.toNat_xor, hi_nat (Gh.xor_lt hx hy), hi_nat hx, hi_nat hy, Nat.shiftRight_xor_distrib]
theorem lo_xor (x y : Nat) : loU (x ^^^ y) = loU x ^^^ loU y := by
  apply UInt64.toNat_inj.1
  rw [UInt64.toNat_xor, lo_nat, lo_nat, lo_nat, Nat.xor_mod_two_pow]
theorem lo_bit (v : Nat) : loU v &&& 1 = if v.testBit 0 then 1 else 0 := by
  apply UInt64.toNat_inj.1
  rw [UInt64.toNat_and, lo_nat]
  show v % 2 ^ 64 &&& 1 = _
  rw [Nat.and_one_is_mod, Nat.mod_mod_of_dvd _ (by decide : 2 ∣ 2 ^ 64), Nat.testBit_zero]
  by_cases h : v % 2 = 1
  · simp [h]
  · have : v % 2 = 0 := by omega
    simp [this]
theorem hi_dbl {v : Nat} (h : Gh.Ok v) : hiU v >>> 1 ^^^ (tailU &&& -(loU v &&& 1)) = hiU (Gh.dbl v) := by
  have e1 : hiU (v >>> 1) = hiU v >>> 1 := by
    apply UInt64.toNat_inj.1
    have h1 : Gh.Ok (v >>> 1) := by
      unfold Gh.Ok at *; rw [Nat.shiftRight_eq_div_pow]; omega
    rw [UInt64.toNat_shiftRight, hi_nat h1, hi_nat h]
    show v >>> 1 >>> 64 = v >>> 64 >>> 1
    rw [← Nat.shiftRight_add, ← Nat.shiftRight_add]
  have h1 : Gh.Ok (v >>> 1) := by
    unfold Gh.Ok at *; rw [Nat.shiftRight_eq_div_pow]; omega
  unfold Gh.dbl
  rw [hi_xor h1 (by split <;> (unfold Gh.Ok; decide)), e1, lo_bit]
  congr 1
  split <;> decide +kernel
theorem lo_dbl {v : Nat} (h : Gh.Ok v) : loU v >>> 1 ||| hiU v <<< 63 = loU (Gh.dbl v) := by
  unfold Gh.dbl
  rw [lo_xor]
  have e0 : loU (if v.testBit 0 = true then 225 <<< 120 else 0) = 0 := by split <;> decide +kernel
  rw [e0, UInt64.xor_zero]
  apply UInt64.toNat_inj.1
  rw [UInt64.toNat_or, UInt64.toNat_shiftRight, UInt64.toNat_shiftLeft, hi_nat h, lo_nat, lo_nat]
  show (v % 2 ^ 64) >>> 1 ||| ((v >>> 64) <<< 63) % 2 ^ 64 = (v >>> 1) % 2 ^ 64
  apply Nat.eq_of_testBit_eq
  intro i
  simp only [Nat.testBit_or, Nat.testBit_shiftRight, Nat.testBit_mod_two_pow, Nat.testBit_shiftLeft]
  by_cases h1 : i < 63
  · have a1 : 1 + i < 64 := by omega
    have a2 : i < 64 := by omega
    have a3 : ¬ 63 ≤ i := by omega
    simp [a1, a2, a3]
  · by_cases h2 : i = 63
    · subst h2; simp
    · have a1 : ¬ 1 + i < 64 := by omega
      have a2 : ¬ i < 64 := by omega
      simp [a1, a2]
/-- coefficient n, of the half that holds it -/
theorem hi_bit {v : Nat} (h : Gh.Ok v) (i : Nat) : (hiU v).toNat.testBit i = v.testBit (64 + i) := by
  rw [hi_nat h, Nat.testBit_shiftRight]
theorem lo_bit' (v : Nat) (i : Nat) (hi : i < 64) : (loU v).toNat.testBit i = v.testBit i := by
  rw [lo_nat, Nat.testBit_mod_two_pow]; simp [hi]
theorem neg_one_bit (c : Bool) (x : UInt64) : (x &&& -(if c = true then 1 else 0 : UInt64)) = if c = true then x else 0 := by
  cases c
  · simp
  · simp
theorem hi_zero : hiU 0 = 0 := by decide
theorem lo_zero : loU 0 = 0 := by decide
end Go.Proofs.Ytgaecjhghpkcoaa
end

section
namespace Go.Proofs.Ytgaecjhghpkcoaa
open Go.RowKit
attribute [local go_sem] B_xor B_or B_and
attribute [local go_sem] blk_set blk_size blk_get blk_getE upd_same oneCells_blk paste_blk cut_blk szOf
attribute [local go_sem high] paste_all cut_head
attribute [local go_sem] rowAt_alloc rowAt_drew rowAt_drewN isRow_alloc isRow_drew isRow_drewN freeRow_alloc freeRow_end freeRow_drew freeRow_drewN
attribute [local go_sem] setRow_alloc setRow_drew setRow_drewN setCell_drewN alloc_drewN rowAt_put isRow_setRow freeRow_put
attribute [local go_sem ↓] loadS_in storeS_in indexS_in copyS_in
attribute [local go_sem] loadS_row loadS_one storeS_row storeS_one indexS_blk copyS_rows run_equalIn_blk same_refl arrayAt_row
attribute [local go_sem] cell_row frozen_row st_setCell st_blk_ne stepAt stepUpon
attribute [local go_sem high] run_eql_blk run_neq_blk
attribute [local go_sem] U_xor U_or U_and U_and1 U_tail U_neg U_half U_shr U_shl8 U_shl63 U_of U_to pr_size pr_get0 pr_get1 pr_getE0 pr_getE1 pr_set0 pr_set1 pr_ne oneCells_pr paste_pr cut_pr
attribute [local go_sem] wide_size wide_get0 wide_get1 wide_getE0 wide_getE1 wide_ne oneCells_wide paste_wide cut_wide
theorem size_wide (w : World) : (sizeOf 158).run Try.prog w = .ok 2 w := by simp [go_sem]
theorem agg_wide (w : World) : (isAgg 158).run Try.prog w = .ok true w := by simp [go_sem]
attribute [local go_sem] size_wide agg_wide

set_option maxRecDepth 100000 in
theorem double_any (v : Nat) (hv : Gh.Ok v) (w : World) : Calls Try.prog 113 #[.agg (wide v)] w fun e w' => e = .returned (.agg (wide (Gh.dbl v))) ∧ Below w.heap.size w w' := by
  have hz := pr_zero
  have e1 := hi_dbl hv
  have e2 := lo_dbl hv
  go_enter Try.func113, Try.ntmps113
  go_wp2_with fail
  refine bodyPost_ret (results_row rfl _ (w.heap.size + 1) rfl (wide (Gh.dbl v)) (by simp [go_sem]; rfl) (by simp [go_sem]) (by simp [go_sem]) (by simp [go_sem])) rfl ⟨rfl, ?_⟩
  exact ((Below.refl _ _).alloc (Nat.le_refl _) _).alloc (by simp) _

set_option maxRecDepth 100000 in
theorem plus_any (x y : Nat) (hx : Gh.Ok x) (hy : Gh.Ok y) (b : UInt64) (c : Bool) (hb : b = if c = true then 1 else 0) (w : World) : Calls Try.prog 108 #[.agg (wide x), .agg (wide y), .int .u64 (U b)] w fun e w' => e = .returned (.agg (wide (x ^^^ if c = true then y else 0))) ∧ Below w.heap.size w w' := by
  have hz := pr_zero
  have e1 : hiU x ^^^ hiU y &&& -b = hiU (x ^^^ if c = true then y else 0) := by
    subst hb
    rw [neg_one_bit]
    cases c
    · simp
    · simp [hi_xor hx hy]
  have e2 : loU x ^^^ loU y &&& -b = loU (x ^^^ if c = true then y else 0) := by
    subst hb
    rw [neg_one_bit]
    cases c
    · simp
    · simp [lo_xor]
  have hb' := Lib.hid hb
  clear hb
  generalize (x ^^^ if c = true then y else 0) = z at e1 e2 ⊢
  go_enter Try.func108, Try.ntmps108
  go_wp2_with fail
  refine bodyPost_ret (results_row rfl _ (w.heap.size + 1 + 1) rfl (wide z) (by simp [go_sem]; rfl) (by simp [go_sem]) (by simp [go_sem]) (by simp [go_sem])) rfl ⟨rfl, ?_⟩
  exact (((Below.refl _ _).alloc (Nat.le_refl _) _).alloc (by simp) _).alloc (by simp; omega) _

/-! ### a block as a number: the first byte leads -/
def numTo (b : Nat → UInt8) : Nat → Nat
  | 0 => 0
  | k + 1 => numTo b k * 256 + (b k).toNat
def num (b : Nat → UInt8) : Nat := numTo b 16
theorem numTo_lt (b : Nat → UInt8) : ∀ k, numTo b k < 256 ^ k
  | 0 => by simp [numTo]
  | k + 1 => by
    have h := numTo_lt b k
    have h2 := (b k).toNat_lt
    simp only [numTo]
    rw [Nat.pow_succ]
    omega
theorem num_lt (b : Nat → UInt8) : Gh.Ok (num b) := by
  have := numTo_lt b 16
  unfold Gh.Ok num
  omega
theorem numTo_add (b : Nat → UInt8) (m : Nat) : ∀ k, numTo b (m + k) = numTo b m * 256 ^ k + numTo (fun j => b (m + j)) k
  | 0 => by simp [numTo]
  | k + 1 => by
    show numTo b (m + k) * 256 + (b (m + k)).toNat = _
    rw [numTo_add b m k]
    simp only [numTo]
    rw [Nat.pow_succ, Nat.add_mul, Nat.mul_assoc, Nat.add_assoc]
theorem numTo_congr {b c : Nat → UInt8} : ∀ {k : Nat}, (∀ i, i < k → b i = c i) → numTo b k = numTo c k
  | 0, _ => rfl
  | k + 1, h => by simp only [numTo]; rw [numTo_congr (k := k) (fun i hi => h i (by omega)), h k (by omega)]
/-- byte i of a number of k bytes -/
def byteN (v k i : Nat) : UInt8 := UInt8.ofNat (v / 256 ^ (k - 1 - i))
def unum (v : Nat) : Nat → UInt8 := byteN v 16
theorem numTo_byteN (v : Nat) : ∀ (k m : Nat), m ≤ k → numTo (byteN v k) m = v / 256 ^ (k - m) % 256 ^ m
  | k, 0, _ => by simp [numTo, Nat.mod_one]
  | k, m + 1, h => by
    simp only [numTo]
    rw [numTo_byteN v k m (by omega)]
    unfold byteN
    rw [UInt8.toNat_ofNat']
    have e : k - m = (k - (m + 1)) + 1 := by omega
    have e2 : k - 1 - m = k - (m + 1) := by omega
    rw [e, e2, Nat.pow_succ, ← Nat.div_div_eq_div_mul]
    generalize v / 256 ^ (k - (m + 1)) = q
    rw [Nat.pow_succ 256 m, Nat.mul_comm (256 ^ m) 256, Nat.mod_mul]
    show q / 256 % 256 ^ m * 256 + q % 256 = q % 256 + 256 * (q / 256 % 256 ^ m)
    omega
theorem num_unum {v : Nat} (h : Gh.Ok v) : num (unum v) = v := by
  unfold num unum
  rw [numTo_byteN v 16 16 (Nat.le_refl _), Nat.sub_self, Nat.pow_zero, Nat.div_one]
  exact Nat.mod_eq_of_lt h
theorem numTo_div (b : Nat → UInt8) (m : Nat) : ∀ k, numTo b (m + k) / 256 ^ k = numTo b m := fun k => by
  rw [numTo_add]
  have := numTo_lt (fun j => b (m + j)) k
  rw [Nat.add_comm, Nat.add_mul_div_right _ _ (Nat.pow_pos (by decide)), Nat.div_eq_of_lt this, Nat.zero_add]
theorem unum_num (b : Nat → UInt8) (i : Nat) (hi : i < 16) : unum (num b) i = b i := by
  unfold unum byteN num
  have h := numTo_div b (i + 1) (16 - 1 - i)
  rw [show i + 1 + (16 - 1 - i) = 16 by omega] at h
  rw [h]
  apply UInt8.toNat_inj.1
  rw [UInt8.toNat_ofNat']
  simp only [numTo]
  have := (b i).toNat_lt
  omega
theorem blk_unum (b : Nat → UInt8) : blk 16 (unum (num b)) = blk 16 b := blk_congr fun i hi => unum_num b i hi
theorem unum_same {x y : Nat} (hx : Gh.Ok x) (hy : Gh.Ok y) : same 16 (unum x) (unum y) = decide (x = y) := by
  rw [Bool.eq_iff_iff, same_iff, decide_eq_true_eq]
  constructor
  · intro h
    rw [← num_unum hx, ← num_unum hy]
    exact numTo_congr h
  · rintro rfl i _; rfl
theorem num_inj {a b : Nat → UInt8} (h : num a = num b) (i : Nat) (hi : i < 16) : a i = b i := by
  rw [← unum_num a i hi, ← unum_num b i hi, h]
end Go.Proofs.Ytgaecjhghpkcoaa
end

section
namespace Go.Proofs.Ytgaecjhghpkcoaa
open Go.RowKit
attribute [local go_sem] B_xor B_or B_and
attribute [local go_sem] blk_set blk_size blk_get blk_getE upd_same oneCells_blk paste_blk cut_blk szOf
attribute [local go_sem high] paste_all cut_head
attribute [local go_sem] rowAt_alloc rowAt_drew rowAt_drewN isRow_alloc isRow_drew isRow_drewN freeRow_alloc freeRow_end freeRow_drew freeRow_drewN
attribute [local go_sem] setRow_alloc setRow_drew setRow_drewN setCell_drewN alloc_drewN rowAt_put isRow_setRow freeRow_put
attribute [local go_sem ↓] loadS_in storeS_in indexS_in copyS_in
attribute [local go_sem] loadS_row loadS_one storeS_row storeS_one indexS_blk copyS_rows run_equalIn_blk same_refl arrayAt_row
attribute [local go_sem] cell_row frozen_row st_setCell st_blk_ne stepAt stepUpon
attribute [local go_sem high] run_eql_blk run_neq_blk
attribute [local go_sem] U_xor U_or U_and U_and1 U_tail U_neg U_half U_shr U_shl8 U_shl63 U_of U_to pr_size pr_get0 pr_get1 pr_getE0 pr_getE1 pr_set0 pr_set1 pr_ne oneCells_pr paste_pr cut_pr
attribute [local go_sem] wide_size wide_get0 wide_get1 wide_getE0 wide_getE1 wide_ne oneCells_wide paste_wide cut_wide
attribute [local go_sem] size_wide agg_wide

def packU (b : Nat → UInt8) : Nat → UInt64
  | 0 => 0
  | k + 1 => packU b k <<< 8 ||| (b k).toUInt64
theorem packU_nat (b : Nat → UInt8) : ∀ k, k ≤ 8 → (packU b k).toNat = numTo b k
  | 0, _ => rfl
  | k + 1, h => by
    have ih := packU_nat b k (by omega)
    have h1 := numTo_lt b k
    have h2 : 256 ^ k ≤ 256 ^ 7 := Nat.pow_le_pow_right (by decide) (by omega)
    have h3 := (b k).toNat_lt
    simp only [packU, numTo]
    rw [UInt64.toNat_or, UInt64.toNat_shiftLeft, UInt8.toNat_toUInt64, ih]
    show (numTo b k <<< 8) % 2 ^ 64 ||| (b k).toNat = _
    rw [Nat.mod_eq_of_lt (by rw [Nat.shiftLeft_eq]; omega), ← Nat.shiftLeft_add_eq_or_of_lt (by omega), Nat.shiftLeft_eq]
theorem packU_hi (b : Nat → UInt8) : packU b 8 = hiU (num b) := by
  apply UInt64.toNat_inj.1
  rw [packU_nat b 8 (Nat.le_refl _), hi_nat (num_lt b), Nat.shiftRight_eq_div_pow]
  unfold num
  exact (numTo_div b 8 8).symm
theorem packU_lo (b : Nat → UInt8) : packU (fun j => b (8 + j)) 8 = loU (num b) := by
  apply UInt64.toNat_inj.1
  rw [packU_nat _ 8 (Nat.le_refl _), lo_nat]
  unfold num
  have h := numTo_add b 8 8
  have h1 := numTo_lt (fun j => b (8 + j)) 8
  rw [show (16 : Nat) = 8 + 8 from rfl, h]
  omega

set_option maxRecDepth 100000 in
set_option maxHeartbeats 1000000 in
theorem load_any (b : Nat → UInt8) (w : World) : Calls Try.prog 106 #[.agg (blk 16 b)] w fun e w' => e = .returned (.agg (wide (num b))) ∧ Below w.heap.size w w' := by
  have hz := pr_zero
  go_enter Try.func106, Try.ntmps106
  go_wp2_with fail
  go_loopw [5] (fun i wr => ∃ k : Nat, k ≤ 8 ∧ i = .int .i64 (k : Int) ∧ Hid (St w [(w.heap.size + 1 + 1, pr (U (packU b k)) (U (packU (fun j => b (8 + j)) k))), (w.heap.size + 1, pr 0 0), (w.heap.size, blk 16 b)] wr)) (fun i _ => 8 - (intOf i).toNat)
  case atStart => exact ⟨0, by omega, rfl, Lib.hid ((((St.nil w).pushA _ _ rfl).pushA _ _ (by simp)).pushA _ _ (by simp))⟩
  case round =>
    obtain ⟨k, hk, rfl, HR⟩ := hrel
    by_cases hlt : k < 8
    · have e1 : (k : Int) < 8 := by omega
      have e2 : (k : Int) < 16 := by omega
      have e3 : k < 16 := by omega
      have v1 : IntKind.i64.wrap (8 + (k : Int)) = ((8 + k : Nat) : Int) := by rw [IntWalk.i64_in _ (by omega)]; omega
      have e4 : ((8 + k : Nat) : Int) < 16 := by omega
      have e5 : 8 + k < 16 := by omega
      generalize hq : 8 + k = q at v1 e4 e5
      have p1 : packU b k <<< 8 ||| (b k).toUInt64 = packU b (k + 1) := rfl
      have p2 : packU (fun j => b (8 + j)) k <<< 8 ||| (b q).toUInt64 = packU (fun j => b (8 + j)) (k + 1) := by subst hq; rfl
      clear hq
      go_wp2_with fail
      refine St.region_tail 9 HR.out (by kernel_rfl) (by decide +kernel) ?_
      (simp only [List.take, List.drop])
      (first
         | (apply head_skip rfl)
         | (apply head_step_g rfl
            focus
              intro w0 hC
              (fail))
         | (apply head_step_g rfl
            focus
              intro w0 hC
              have hC' := Lib.hid hC
              obtain ⟨⟨r1, f1, i1, b1, l1⟩, ⟨r2, f2, i2, b2, l2⟩, ⟨r3, f3, i3, b3, l3⟩, m12, m21, m13, m31, m23, m32⟩ := St.facts3 hC
              clear hC
              go_simp
              have hC := hC'.out
              (first
                 | with_reducible rfl
                 | (skip
                    (fail)
                    rintro e w' ⟨rfl, hw⟩
                    exact ⟨rfl, St.call (by assumption) hw⟩)))
       try simp only [Act.put, List.setIfInBounds_toArray, List.set])
      (first
         | (apply head_skip rfl)
         | (apply head_step_g rfl
            focus
              intro w0 hC
              (fail))
         | (apply head_step_g rfl
            focus
              intro w0 hC
              have hC' := Lib.hid hC
              obtain ⟨⟨r1, f1, i1, b1, l1⟩, ⟨r2, f2, i2, b2, l2⟩, ⟨r3, f3, i3, b3, l3⟩, m12, m21, m13, m31, m23, m32⟩ := St.facts3 hC
              clear hC
              go_simp
              have hC := hC'.out
              (first
                 | with_reducible rfl
                 | (skip
                    (fail)
                    rintro e w' ⟨rfl, hw⟩
                    exact ⟨rfl, St.call (by assumption) hw⟩)))
       try simp only [Act.put, List.setIfInBounds_toArray, List.set])
      (first
         | (apply head_skip rfl)
         | (apply head_step_g rfl
            focus
              intro w0 hC
              (fail))
         | (apply head_step_g rfl
            focus
              intro w0 hC
              have hC' := Lib.hid hC
              obtain ⟨⟨r1, f1, i1, b1, l1⟩, ⟨r2, f2, i2, b2, l2⟩, ⟨r3, f3, i3, b3, l3⟩, m12, m21, m13, m31, m23, m32⟩ := St.facts3 hC
              clear hC
              go_simp
              have hC := hC'.out
              (first
                 | with_reducible rfl
                 | (skip
                    (fail)
                    rintro e w' ⟨rfl, hw⟩
                    exact ⟨rfl, St.call (by assumption) hw⟩)))
       try simp only [Act.put, List.setIfInBounds_toArray, List.set])
      (first
         | (apply head_skip rfl)
         | (apply head_step_g rfl
            focus
              intro w0 hC
              (fail))
         | (apply head_step_g rfl
            focus
              intro w0 hC
              have hC' := Lib.hid hC
              obtain ⟨⟨r1, f1, i1, b1, l1⟩, ⟨r2, f2, i2, b2, l2⟩, ⟨r3, f3, i3, b3, l3⟩, m12, m21, m13, m31, m23, m32⟩ := St.facts3 hC
              clear hC
              go_simp
              have hC := hC'.out
              (first
                 | with_reducible rfl
                 | (skip
                    (fail)
                    rintro e w' ⟨rfl, hw⟩
                    exact ⟨rfl, St.call (by assumption) hw⟩)))
       try simp only [Act.put, List.setIfInBounds_toArray, List.set])
      (first
         | (apply head_skip rfl)
         | (apply head_step_g rfl
            focus
              intro w0 hC
              (fail))
         | (apply head_step_g rfl
            focus
              intro w0 hC
              have hC' := Lib.hid hC
              obtain ⟨⟨r1, f1, i1, b1, l1⟩, ⟨r2, f2, i2, b2, l2⟩, ⟨r3, f3, i3, b3, l3⟩, m12, m21, m13, m31, m23, m32⟩ := St.facts3 hC
              clear hC
              go_simp
              have hC := hC'.out
              (first
                 | with_reducible rfl
                 | (skip
                    (fail)
                    rintro e w' ⟨rfl, hw⟩
                    exact ⟨rfl, St.call (by assumption) hw⟩)))
       try simp only [Act.put, List.setIfInBounds_toArray, List.set])
      (first
         | (apply head_skip rfl)
         | (apply head_step_g rfl
            focus
              intro w0 hC
              (fail))
         | (apply head_step_g rfl
            focus
              intro w0 hC
              have hC' := Lib.hid hC
              obtain ⟨⟨r1, f1, i1, b1, l1⟩, ⟨r2, f2, i2, b2, l2⟩, ⟨r3, f3, i3, b3, l3⟩, m12, m21, m13, m31, m23, m32⟩ := St.facts3 hC
              clear hC
              go_simp
              have hC := hC'.out
              (first
                 | with_reducible rfl
                 | (skip
                    (fail)
                    rintro e w' ⟨rfl, hw⟩
                    exact ⟨rfl, St.call (by assumption) hw⟩)))
       try simp only [Act.put, List.setIfInBounds_toArray, List.set])
      (first
         | (apply head_skip rfl)
         | (apply head_step_g rfl
            focus
              intro w0 hC
              (fail))
         | (apply head_step_g rfl
            focus
              intro w0 hC
              have hC' := Lib.hid hC
              obtain ⟨⟨r1, f1, i1, b1, l1⟩, ⟨r2, f2, i2, b2, l2⟩, ⟨r3, f3, i3, b3, l3⟩, m12, m21, m13, m31, m23, m32⟩ := St.facts3 hC
              clear hC
              go_simp
              have hC := hC'.out
              (first
                 | with_reducible rfl
                 | (skip
                    (fail)
                    rintro e w' ⟨rfl, hw⟩
                    exact ⟨rfl, St.call (by assumption) hw⟩)))
       try simp only [Act.put, List.setIfInBounds_toArray, List.set])
      (first
         | (apply head_skip rfl)
         | (apply head_step_g rfl
            focus
              intro w0 hC
              (fail))
         | (apply head_step_g rfl
            focus
              intro w0 hC
              have hC' := Lib.hid hC
              obtain ⟨⟨r1, f1, i1, b1, l1⟩, ⟨r2, f2, i2, b2, l2⟩, ⟨r3, f3, i3, b3, l3⟩, m12, m21, m13, m31, m23, m32⟩ := St.facts3 hC
              clear hC
              go_simp
              have hC := hC'.out
              (first
                 | with_reducible rfl
                 | (skip
                    (fail)
                    rintro e w' ⟨rfl, hw⟩
                    exact ⟨rfl, St.call (by assumption) hw⟩)))
       try simp only [Act.put, List.setIfInBounds_toArray, List.set])
      (first
         | (apply head_skip rfl)
         | (apply head_step_g rfl
            focus
              intro w0 hC
              (fail))
         | (apply head_step_g rfl
            focus
              intro w0 hC
              have hC' := Lib.hid hC
              obtain ⟨⟨r1, f1, i1, b1, l1⟩, ⟨r2, f2, i2, b2, l2⟩, ⟨r3, f3, i3, b3, l3⟩, m12, m21, m13, m31, m23, m32⟩ := St.facts3 hC
              clear hC
              go_simp
              have hC := hC'.out
              (first
                 | with_reducible rfl
                 | (skip
                    (fail)
                    rintro e w' ⟨rfl, hw⟩
                    exact ⟨rfl, St.call (by assumption) hw⟩)))
       try simp only [Act.put, List.setIfInBounds_toArray, List.set])
      refine wpQuiet_nil ?_
      intro w1 hC
      (have HC := Lib.hid hC
       have sos := hC.below.os
       obtain ⟨⟨r1, f1, i1, b1, l1⟩, ⟨r2, f2, i2, b2, l2⟩, ⟨r3, f3, i3, b3, l3⟩, m12, m21, m13, m31, m23, m32⟩ := St.facts3 hC
       clear hC)
      go_wp2_with fail
      have HC := Lib.hid (HC.out.set_head (pr (U (packU b (k + 1))) (U (packU (fun j => b (8 + j)) k))))
      (clear r1 f1 i1 b1 l1 r2 f2 i2 b2 l2 r3 f3 i3 b3 l3 m12 m21 m13 m31 m23 m32 sos)
      refine St.region_tail 10 HC.out (by kernel_rfl) (by decide +kernel) ?_
      (simp only [List.take, List.drop])
      (first
         | (apply head_skip rfl)
         | (apply head_step_g rfl
            focus
              intro w0 hC
              (fail))
         | (apply head_step_g rfl
            focus
              intro w0 hC
              have hC' := Lib.hid hC
              obtain ⟨⟨r1, f1, i1, b1, l1⟩, ⟨r2, f2, i2, b2, l2⟩, ⟨r3, f3, i3, b3, l3⟩, m12, m21, m13, m31, m23, m32⟩ := St.facts3 hC
              clear hC
              go_simp
              have hC := hC'.out
              (first
                 | with_reducible rfl
                 | (skip
                    (fail)
                    rintro e w' ⟨rfl, hw⟩
                    exact ⟨rfl, St.call (by assumption) hw⟩)))
       try simp only [Act.put, List.setIfInBounds_toArray, List.set])
      (first
         | (apply head_skip rfl)
         | (apply head_step_g rfl
            focus
              intro w0 hC
              (fail))
         | (apply head_step_g rfl
            focus
              intro w0 hC
              have hC' := Lib.hid hC
              obtain ⟨⟨r1, f1, i1, b1, l1⟩, ⟨r2, f2, i2, b2, l2⟩, ⟨r3, f3, i3, b3, l3⟩, m12, m21, m13, m31, m23, m32⟩ := St.facts3 hC
              clear hC
              go_simp
              have hC := hC'.out
              (first
                 | with_reducible rfl
                 | (skip
                    (fail)
                    rintro e w' ⟨rfl, hw⟩
                    exact ⟨rfl, St.call (by assumption) hw⟩)))
       try simp only [Act.put, List.setIfInBounds_toArray, List.set])
      (first
         | (apply head_skip rfl)
         | (apply head_step_g rfl
            focus
              intro w0 hC
              (fail))
         | (apply head_step_g rfl
            focus
              intro w0 hC
              have hC' := Lib.hid hC
              obtain ⟨⟨r1, f1, i1, b1, l1⟩, ⟨r2, f2, i2, b2, l2⟩, ⟨r3, f3, i3, b3, l3⟩, m12, m21, m13, m31, m23, m32⟩ := St.facts3 hC
              clear hC
              go_simp
              have hC := hC'.out
              (first
                 | with_reducible rfl
                 | (skip
                    (fail)
                    rintro e w' ⟨rfl, hw⟩
                    exact ⟨rfl, St.call (by assumption) hw⟩)))
       try simp only [Act.put, List.setIfInBounds_toArray, List.set])
      (first
         | (apply head_skip rfl)
         | (apply head_step_g rfl
            focus
              intro w0 hC
              (fail))
         | (apply head_step_g rfl
            focus
              intro w0 hC
              have hC' := Lib.hid hC
              obtain ⟨⟨r1, f1, i1, b1, l1⟩, ⟨r2, f2, i2, b2, l2⟩, ⟨r3, f3, i3, b3, l3⟩, m12, m21, m13, m31, m23, m32⟩ := St.facts3 hC
              clear hC
              go_simp
              have hC := hC'.out
              (first
                 | with_reducible rfl
                 | (skip
                    (fail)
                    rintro e w' ⟨rfl, hw⟩
                    exact ⟨rfl, St.call (by assumption) hw⟩)))
       try simp only [Act.put, List.setIfInBounds_toArray, List.set])
      (first
         | (apply head_skip rfl)
         | (apply head_step_g rfl
            focus
              intro w0 hC
              (fail))
         | (apply head_step_g rfl
            focus
              intro w0 hC
              have hC' := Lib.hid hC
              obtain ⟨⟨r1, f1, i1, b1, l1⟩, ⟨r2, f2, i2, b2, l2⟩, ⟨r3, f3, i3, b3, l3⟩, m12, m21, m13, m31, m23, m32⟩ := St.facts3 hC
              clear hC
              go_simp
              have hC := hC'.out
              (first
                 | with_reducible rfl
                 | (skip
                    (fail)
                    rintro e w' ⟨rfl, hw⟩
                    exact ⟨rfl, St.call (by assumption) hw⟩)))
       try simp only [Act.put, List.setIfInBounds_toArray, List.set])
      (first
         | (apply head_skip rfl)
         | (apply head_step_g rfl
            focus
              intro w0 hC
              (fail))
         | (apply head_step_g rfl
            focus
              intro w0 hC
              have hC' := Lib.hid hC
              obtain ⟨⟨r1, f1, i1, b1, l1⟩, ⟨r2, f2, i2, b2, l2⟩, ⟨r3, f3, i3, b3, l3⟩, m12, m21, m13, m31, m23, m32⟩ := St.facts3 hC
              clear hC
              go_simp
              have hC := hC'.out
              (first
                 | with_reducible rfl
                 | (skip
                    (fail)
                    rintro e w' ⟨rfl, hw⟩
                    exact ⟨rfl, St.call (by assumption) hw⟩)))
       try simp only [Act.put, List.setIfInBounds_toArray, List.set])
      (first
         | (apply head_skip rfl)
         | (apply head_step_g rfl
            focus
              intro w0 hC
              (fail))
         | (apply head_step_g rfl
            focus
              intro w0 hC
              have hC' := Lib.hid hC
              obtain ⟨⟨r1, f1, i1, b1, l1⟩, ⟨r2, f2, i2, b2, l2⟩, ⟨r3, f3, i3, b3, l3⟩, m12, m21, m13, m31, m23, m32⟩ := St.facts3 hC
              clear hC
              go_simp
              have hC := hC'.out
              (first
                 | with_reducible rfl
                 | (skip
                    (fail)
                    rintro e w' ⟨rfl, hw⟩
                    exact ⟨rfl, St.call (by assumption) hw⟩)))
       try simp only [Act.put, List.setIfInBounds_toArray, List.set])
      (first
         | (apply head_skip rfl)
         | (apply head_step_g rfl
            focus
              intro w0 hC
              (fail))
         | (apply head_step_g rfl
            focus
              intro w0 hC
              have hC' := Lib.hid hC
              obtain ⟨⟨r1, f1, i1, b1, l1⟩, ⟨r2, f2, i2, b2, l2⟩, ⟨r3, f3, i3, b3, l3⟩, m12, m21, m13, m31, m23, m32⟩ := St.facts3 hC
              clear hC
              go_simp
              have hC := hC'.out
              (first
                 | with_reducible rfl
                 | (skip
                    (fail)
                    rintro e w' ⟨rfl, hw⟩
                    exact ⟨rfl, St.call (by assumption) hw⟩)))
       try simp only [Act.put, List.setIfInBounds_toArray, List.set])
      (first
         | (apply head_skip rfl)
         | (apply head_step_g rfl
            focus
              intro w0 hC
              (fail))
         | (apply head_step_g rfl
            focus
              intro w0 hC
              have hC' := Lib.hid hC
              obtain ⟨⟨r1, f1, i1, b1, l1⟩, ⟨r2, f2, i2, b2, l2⟩, ⟨r3, f3, i3, b3, l3⟩, m12, m21, m13, m31, m23, m32⟩ := St.facts3 hC
              clear hC
              go_simp
              have hC := hC'.out
              (first
                 | with_reducible rfl
                 | (skip
                    (fail)
                    rintro e w' ⟨rfl, hw⟩
                    exact ⟨rfl, St.call (by assumption) hw⟩)))
       try simp only [Act.put, List.setIfInBounds_toArray, List.set])
      (first
         | (apply head_skip rfl)
         | (apply head_step_g rfl
            focus
              intro w0 hC
              (fail))
         | (apply head_step_g rfl
            focus
              intro w0 hC
              have hC' := Lib.hid hC
              obtain ⟨⟨r1, f1, i1, b1, l1⟩, ⟨r2, f2, i2, b2, l2⟩, ⟨r3, f3, i3, b3, l3⟩, m12, m21, m13, m31, m23, m32⟩ := St.facts3 hC
              clear hC
              go_simp
              have hC := hC'.out
              (first
                 | with_reducible rfl
                 | (skip
                    (fail)
                    rintro e w' ⟨rfl, hw⟩
                    exact ⟨rfl, St.call (by assumption) hw⟩)))
       try simp only [Act.put, List.setIfInBounds_toArray, List.set])
      refine wpQuiet_nil ?_
      intro w2 hC
      (have HC := Lib.hid hC
       have sos := hC.below.os
       obtain ⟨⟨r1, f1, i1, b1, l1⟩, ⟨r2, f2, i2, b2, l2⟩, ⟨r3, f3, i3, b3, l3⟩, m12, m21, m13, m31, m23, m32⟩ := St.facts3 hC
       clear hC)
      go_wp2_with fail
      have HC := Lib.hid (HC.out.set_head (pr (U (packU b (k + 1))) (U (packU (fun j => b (8 + j)) (k + 1)))))
      exact ⟨⟨k + 1, by omega, by go_num, HC⟩, by simp [intOf]; omega⟩
    · obtain rfl : k = 8 := by omega
      rw [packU_hi, packU_lo] at HR
      have hC := HR.out
      (have HC := Lib.hid hC
       have sos := hC.below.os
       obtain ⟨⟨r1, f1, i1, b1, l1⟩, ⟨r2, f2, i2, b2, l2⟩, ⟨r3, f3, i3, b3, l3⟩, m12, m21, m13, m31, m23, m32⟩ := St.facts3 hC
       clear hC)
      go_wp2_with fail
      refine bodyPost_ret (results_row rfl _ (w.heap.size + 1) rfl (wide (num b)) ?_ ?_ ?_ ?_) rfl ⟨rfl, ?_⟩
      · simp [go_sem, *]; rfl
      · simp [go_sem]
      · simp [go_sem]
      · simp [go_sem, *]
      · exact below_setRow' HR.out.below (by omega) _

def at8 (k : Nat) : Nat := 8 * k
def sh8 (k : Nat) : Nat := 56 - 8 * k
theorem hi_byte {v : Nat} (h : Gh.Ok v) (k : Nat) (hk : k < 8) : (hiU v >>> UInt64.ofNat (sh8 k)).toUInt8 = unum v k := by
  apply UInt8.toNat_inj.1
  rw [UInt64.toNat_toUInt8, UInt64.toNat_shiftRight, hi_nat h, UInt64.toNat_ofNat_of_lt' (by have : UInt64.size = 18446744073709551616 := rfl; unfold sh8; omega), show sh8 k % 64 = sh8 k from Nat.mod_eq_of_lt (by unfold sh8; omega)]
  unfold unum byteN
  rw [UInt8.toNat_ofNat', ← Nat.shiftRight_add, Nat.shiftRight_eq_div_pow, show 64 + sh8 k = 8 * (16 - 1 - k) by unfold sh8; omega, Nat.pow_mul]
theorem lo_byte (v : Nat) (k : Nat) (hk : k < 8) : (loU v >>> UInt64.ofNat (sh8 k)).toUInt8 = unum v (8 + k) := by
  apply UInt8.toNat_inj.1
  rw [UInt64.toNat_toUInt8, UInt64.toNat_shiftRight, lo_nat, UInt64.toNat_ofNat_of_lt' (by have : UInt64.size = 18446744073709551616 := rfl; unfold sh8; omega), show sh8 k % 64 = sh8 k from Nat.mod_eq_of_lt (by unfold sh8; omega)]
  unfold unum byteN
  rw [UInt8.toNat_ofNat', show 16 - 1 - (8 + k) = 7 - k by omega]
  apply Nat.eq_of_testBit_eq
  intro i
  rw [show (256 : Nat) = 2 ^ 8 from rfl, ← Nat.pow_mul, ← Nat.shiftRight_eq_div_pow]
  simp only [Nat.testBit_mod_two_pow, Nat.testBit_shiftRight]
  by_cases hi : i < 8
  · have e : sh8 k + i = 8 * (7 - k) + i := by unfold sh8; omega
    have e2 : 8 * (7 - k) + i < 64 := by omega
    simp [hi, e, e2]
  · simp [hi]
/-- bytes k, 8 + k of the first k are laid -/
def laidB (v k : Nat) : Nat → UInt8 := fun i => if i % 8 < k then unum v i else 0
theorem laidB_step (v k : Nat) (hk : k < 8) : blk 16 (upd (upd (laidB v k) k (unum v k)) (8 + k) (unum v (8 + k))) = blk 16 (laidB v (k + 1)) := blk_congr fun i hi => by
  unfold upd laidB
  by_cases h1 : i = 8 + k
  · subst h1; rw [if_pos rfl, if_pos (by omega)]
  · rw [if_neg h1]
    by_cases h2 : i = k
    · subst h2; rw [if_pos rfl, if_pos (by omega)]
    · rw [if_neg h2]
      by_cases h3 : i % 8 < k
      · rw [if_pos h3, if_pos (by omega)]
      · rw [if_neg h3, if_neg (by omega)]

set_option maxRecDepth 100000 in
set_option maxHeartbeats 1000000 in
theorem block_any (v : Nat) (hv : Gh.Ok v) (w : World) : Calls Try.prog 110 #[.agg (wide v)] w fun e w' => e = .returned (.agg (blk 16 (unum v))) ∧ Below w.heap.size w w' := by
  have hz := zero16
  go_enter Try.func110, Try.ntmps110
  go_wp2_with fail
  go_loopw [6] (fun i wr => ∃ k : Nat, k ≤ 8 ∧ i = .int .i64 (k : Int) ∧ Hid (St w [(w.heap.size + 1 + 1, blk 16 (laidB v k)), (w.heap.size + 1, blk 16 (fun _ => 0)), (w.heap.size, wide v)] wr)) (fun i _ => 8 - (intOf i).toNat)
  case atStart =>
    refine ⟨0, by omega, rfl, Lib.hid ?_⟩
    rw [show blk 16 (laidB v 0) = blk 16 (fun _ => 0) from blk_congr fun i _ => by simp [laidB]]
    exact (((St.nil w).pushA _ _ rfl).pushA _ _ (by simp)).pushA _ _ (by simp)
  case round =>
    obtain ⟨k, hk, rfl, HR⟩ := hrel
    by_cases hlt : k < 8
    · have e1 : (k : Int) < 8 := by omega
      have e2 : (k : Int) < 16 := by omega
      have e3 : k < 16 := by omega
      have v1 : IntKind.i64.wrap (8 * (k : Int)) = (at8 k : Int) := by rw [IntWalk.i64_in _ (by omega)]; unfold at8; omega
      have v2 : IntKind.i64.wrap (56 - (at8 k : Int)) = (sh8 k : Int) := by unfold at8 sh8; rw [IntWalk.i64_in _ (by omega)]; omega
      have v3 : IntKind.i64.wrap (8 + (k : Int)) = ((8 + k : Nat) : Int) := by rw [IntWalk.i64_in _ (by omega)]; omega
      have e4 : ((8 + k : Nat) : Int) < 16 := by omega
      have e5 : 8 + k < 16 := by omega
      have e6 : sh8 k < 64 := by unfold sh8; omega
      have e7 : (sh8 k : Int) ≤ 64 := by omega
      have b1 := hi_byte hv k hlt
      have b2 := lo_byte v k hlt
      have b3 := laidB_step v k hlt
      have hqk : (k = 8 + k) = False := by simp
      have hC := HR.out
      generalize hq : 8 + k = q at v3 e4 e5 b2 b3 hqk
      clear hq
      (have HC := Lib.hid hC
       have sos := hC.below.os
       obtain ⟨⟨r1, f1, i1, b1, l1⟩, ⟨r2, f2, i2, b2, l2⟩, ⟨r3, f3, i3, b3, l3⟩, m12, m21, m13, m31, m23, m32⟩ := St.facts3 hC
       clear hC)
      go_wp2_with fail
      go_region_held3 (fun w' => rowAt w' w.heap.size = wide v ∧ isRow w' w.heap.size = true ∧ rowAt w' (w.heap.size + 1) = blk 16 (fun _ => 0)) (first | assumption | (simp [go_sem, *]; done)) (fail)
      all_goals
        have HC := Lib.hid ((HC.out.set_head (blk 16 (upd (laidB v k) k (unum v k)))).set_head (blk 16 (laidB v (k + 1)))).drew
        go_wp2_with fail
        exact ⟨⟨k + 1, by omega, by go_num, HC⟩, by simp [intOf]; omega⟩
    · obtain rfl : k = 8 := by omega
      rw [show blk 16 (laidB v 8) = blk 16 (unum v) from blk_congr fun i _ => by unfold laidB; rw [if_pos (by omega)]] at HR
      have hC := HR.out
      (have HC := Lib.hid hC
       have sos := hC.below.os
       obtain ⟨⟨r1, f1, i1, b1, l1⟩, ⟨r2, f2, i2, b2, l2⟩, ⟨r3, f3, i3, b3, l3⟩, m12, m21, m13, m31, m23, m32⟩ := St.facts3 hC
       clear hC)
      go_wp2_with fail
      refine bodyPost_ret (results_row rfl _ (w.heap.size + 1) rfl (blk 16 (unum v)) ?_ ?_ ?_ ?_) rfl ⟨rfl, ?_⟩
      · simp [go_sem, *]
      · simp [go_sem]
      · simp [go_sem]
      · simp [go_sem, *]
      · exact below_setRow' HR.out.below (by omega) _
end Go.Proofs.Ytgaecjhghpkcoaa
end

section
namespace Go.Proofs.Ytgaecjhghpkcoaa
open Go.RowKit
attribute [local go_sem] B_xor B_or B_and
attribute [local go_sem] blk_set blk_size blk_get blk_getE upd_same oneCells_blk paste_blk cut_blk szOf
attribute [local go_sem high] paste_all cut_head
attribute [local go_sem] rowAt_alloc rowAt_drew rowAt_drewN isRow_alloc isRow_drew isRow_drewN freeRow_alloc freeRow_end freeRow_drew freeRow_drewN
attribute [local go_sem] setRow_alloc setRow_drew setRow_drewN setCell_drewN alloc_drewN rowAt_put isRow_setRow freeRow_put
attribute [local go_sem ↓] loadS_in storeS_in indexS_in copyS_in
attribute [local go_sem] loadS_row loadS_one storeS_row storeS_one indexS_blk copyS_rows run_equalIn_blk same_refl arrayAt_row
attribute [local go_sem] cell_row frozen_row st_setCell st_blk_ne stepAt stepUpon
attribute [local go_sem high] run_eql_blk run_neq_blk
attribute [local go_sem] U_xor U_or U_and U_and1 U_tail U_neg U_half U_shr U_shl8 U_shl63 U_of U_to pr_size pr_get0 pr_get1 pr_getE0 pr_getE1 pr_set0 pr_set1 pr_ne oneCells_pr paste_pr cut_pr
attribute [local go_sem] wide_size wide_get0 wide_get1 wide_getE0 wide_getE1 wide_ne oneCells_wide paste_wide cut_wide
attribute [local go_sem] size_wide agg_wide wide_build

section
variable {P : Program} {w : World}
theorem indexS_pr0 (t : TypeId) (a b : Int) (hu : P.underlying t = some (.array 2 (P.elem t))) (hs : (sizeOf (P.elem t)).run P w = .ok 1 w) (ha : (isAgg (P.elem t)).run P w = .ok false w) :
    (indexS t (.agg (pr a b)) (.int .i64 0)).run P w = .ok (.int .u64 a) w := by
  simp [indexS, Instr.index, asIntOf, Sem.run_bind, run_underlying hu, part, hs, ha, pr]
theorem indexS_pr1 (t : TypeId) (a b : Int) (hu : P.underlying t = some (.array 2 (P.elem t))) (hs : (sizeOf (P.elem t)).run P w = .ok 1 w) (ha : (isAgg (P.elem t)).run P w = .ok false w) :
    (indexS t (.agg (pr a b)) (.int .i64 1)).run P w = .ok (.int .u64 b) w := by
  simp [indexS, Instr.index, asIntOf, Sem.run_bind, run_underlying hu, part, hs, ha, pr]
end
attribute [local go_sem] indexS_pr0 indexS_pr1
/-- half k of a block -/
def halfU (v k : Nat) : UInt64 := if k = 0 then hiU v else loU v
/-- which coefficient comes next -/
def at64 (k m : Nat) : Nat := 64 * k + m
theorem half_bit {v : Nat} (hv : Gh.Ok v) (k m : Nat) (hk : k < 2) (hm : m < 64) : halfU v k >>> UInt64.ofNat (63 - m) &&& 1 = if v.testBit (127 - at64 k m) = true then 1 else 0 := by
  have e : (halfU v k).toNat.testBit (63 - m) = v.testBit (127 - at64 k m) := by
    unfold halfU at64
    by_cases h : k = 0
    · subst h
      rw [if_pos rfl, hi_bit hv]
      congr 1; omega
    · obtain rfl : k = 1 := by omega
      rw [if_neg (by decide), lo_bit' v _ (by omega)]
      congr 1; omega
  apply UInt64.toNat_inj.1
  rw [UInt64.toNat_and, UInt64.toNat_shiftRight, UInt64.toNat_ofNat_of_lt' (by have : UInt64.size = 18446744073709551616 := rfl; omega), show (63 - m) % 64 = 63 - m from Nat.mod_eq_of_lt (by omega), ← e]
  show (halfU v k).toNat >>> (63 - m) &&& 1 = _
  rw [Nat.and_one_is_mod, Nat.testBit_eq_decide_div_mod_eq, Nat.shiftRight_eq_div_pow]
  by_cases h : (halfU v k).toNat / 2 ^ (63 - m) % 2 = 1
  · simp [h]
  · have h0 : (halfU v k).toNat / 2 ^ (63 - m) % 2 = 0 := by omega
    simp [h0]

theorem at64_on (k m : Nat) : at64 k (m + 1) = at64 k m + 1 := rfl
theorem at64_end (k : Nat) : at64 k 64 = at64 (k + 1) 0 := by unfold at64; omega
theorem wide_0 : wide 0 = pr 0 0 := by
  unfold wide
  rw [hi_zero, lo_zero]; rfl
theorem plus_step (x v M : Nat) (hx : Gh.Ok x) (b : UInt64) (hb : Hid (b = if v.testBit (127 - M) = true then 1 else 0)) (w : World) : Calls Try.prog 108 #[.agg (wide (Gh.tm x v M)), .agg (wide (Gh.dblN M x)), .int .u64 (U b)] w fun e w' => e = .returned (.agg (wide (Gh.tm x v (M + 1)))) ∧ Below w.heap.size w w' :=
  plus_any _ _ (Gh.tm_lt hx v _) (Gh.dblN_lt hx _) _ _ hb.out w
set_option maxRecDepth 100000 in
set_option maxHeartbeats 1000000 in
theorem times_any (x v : Nat) (hx : Gh.Ok x) (hv : Gh.Ok v) (w : World) : Calls Try.prog 109 #[.agg (wide x), .agg (wide v)] w fun e w' => e = .returned (.agg (wide (Gh.mul x v))) ∧ Below w.heap.size w w' := by
  have hz := pr_zero
  go_enter Try.func109, Try.ntmps109
  go_wp2_with fail
  go_loopw [14] (fun i wr => ∃ k : Nat, k ≤ 2 ∧ i = .int .i64 (k : Int) ∧ Hid (St w [(w.heap.size + 1 + 1 + 1, wide (Gh.tm x v (at64 k 0))), (w.heap.size + 1 + 1, pr 0 0), (w.heap.size + 1, wide v), (w.heap.size, wide (Gh.dblN (at64 k 0) x))] wr)) (fun i _ => 2 - (intOf i).toNat)
  case atStart =>
    refine ⟨0, by omega, rfl, Lib.hid ?_⟩
    show St w [(w.heap.size + 1 + 1 + 1, wide 0), (w.heap.size + 1 + 1, pr 0 0), (w.heap.size + 1, wide v), (w.heap.size, wide x)] _
    rw [wide_0]
    exact ((((St.nil w).pushA _ _ rfl).pushA _ _ (by simp)).pushA _ _ (by simp)).pushA _ _ (by simp)
  case round =>
    obtain ⟨k, hk, rfl, HR⟩ := hrel
    by_cases hlt : k < 2
    · have e1 : (k : Int) < 2 := by omega
      have hidx : ∀ w, (indexS 170 (.agg (wide v)) (.int .i64 (k : Int))).run Try.prog w = .ok (.int .u64 (U (halfU v k))) w := fun w => by
        have h2 : k = 0 ∨ k = 1 := by omega
        rcases h2 with rfl | rfl
        · exact indexS_pr0 _ _ _ (by simp [go_sem]) (by simp [go_sem]) (by simp [go_sem])
        · exact indexS_pr1 _ _ _ (by simp [go_sem]) (by simp [go_sem]) (by simp [go_sem])
      go_wp2_with fail
      clear hidx
      go_loopw [8] (fun i wr => ∃ n : Nat, n ≤ 64 ∧ i = .int .i64 ((n : Int) - 1) ∧ Hid (St w [(w.heap.size + 1 + 1 + 1, wide (Gh.tm x v (at64 k (64 - n)))), (w.heap.size + 1 + 1, pr 0 0), (w.heap.size + 1, wide v), (w.heap.size, wide (Gh.dblN (at64 k (64 - n)) x))] wr)) (fun i _ => (intOf i + 1).toNat)
      case atStart => exact ⟨64, by omega, rfl, HR⟩
      case round =>
        clear HR
        obtain ⟨n, hn, rfl, HJ⟩ := hrel
        cases n with
        | zero =>
          have hJ := HJ.out
          rw [Nat.sub_zero, at64_end] at hJ
          go_wp2_with fail
          exact ⟨⟨k + 1, by omega, by go_num, Lib.hid hJ⟩, by simp [intOf]; omega⟩
        | succ n =>
          rw [show (((n + 1 : Nat) : Int) - 1) = (n : Int) by omega]
          have e2 : n < 64 := by omega
          have e3 : (n : Int) ≤ 64 := by omega
          have e5 : (0 : Int) ≤ (n : Int) := by omega
          have v1 : IntKind.i64.wrap ((n : Int) - 1) = (n : Int) - 1 := IntWalk.i64_in _ (by omega)
          have hhb := half_bit hv k (64 - (n + 1)) hlt (by omega)
          rw [show 63 - (64 - (n + 1)) = n by omega] at hhb
          replace hhb := Lib.hid hhb
          have hend : at64 k (64 - n) = at64 k (64 - (n + 1)) + 1 := by unfold at64; omega
          generalize hM : at64 k (64 - (n + 1)) = M at HJ hhb hend
          clear hM
          go_wp2_with fail
          refine St.region_tail 7 HJ.out (by kernel_rfl) (by decide +kernel) ?_
          (simp only [List.take, List.drop])
          (first
             | (apply head_skip rfl)
             | (apply head_step_g rfl
                focus
                  intro w0 hC
                  (fail))
             | (apply head_step_g rfl
                focus
                  intro w0 hC
                  have hC' := Lib.hid hC
                  obtain ⟨⟨r1, f1, i1, b1, l1⟩, ⟨r2, f2, i2, b2, l2⟩, ⟨r3, f3, i3, b3, l3⟩, ⟨r4, f4, i4, b4, l4⟩, m12, m21, m13, m31, m14, m41, m23, m32, m24, m42, m34, m43⟩ := St.facts4 hC
                  clear hC
                  go_simp
                  have hC := hC'.out
                  (first
                     | with_reducible rfl
                     | (skip
                        (refine (plus_step x v M hx _ hhb _).mono ?_)
                        rintro e w' ⟨rfl, hw⟩
                        exact ⟨rfl, St.call (by assumption) hw⟩)))
           try simp only [Act.put, List.setIfInBounds_toArray, List.set])
          (first
             | (apply head_skip rfl)
             | (apply head_step_g rfl
                focus
                  intro w0 hC
                  (fail))
             | (apply head_step_g rfl
                focus
                  intro w0 hC
                  have hC' := Lib.hid hC
                  obtain ⟨⟨r1, f1, i1, b1, l1⟩, ⟨r2, f2, i2, b2, l2⟩, ⟨r3, f3, i3, b3, l3⟩, ⟨r4, f4, i4, b4, l4⟩, m12, m21, m13, m31, m14, m41, m23, m32, m24, m42, m34, m43⟩ := St.facts4 hC
                  clear hC
                  go_simp
                  have hC := hC'.out
                  (first
                     | with_reducible rfl
                     | (skip
                        (refine (plus_step x v M hx _ hhb _).mono ?_)
                        rintro e w' ⟨rfl, hw⟩
                        exact ⟨rfl, St.call (by assumption) hw⟩)))
           try simp only [Act.put, List.setIfInBounds_toArray, List.set])
          (first
             | (apply head_skip rfl)
             | (apply head_step_g rfl
                focus
                  intro w0 hC
                  (fail))
             | (apply head_step_g rfl
                focus
                  intro w0 hC
                  have hC' := Lib.hid hC
                  obtain ⟨⟨r1, f1, i1, b1, l1⟩, ⟨r2, f2, i2, b2, l2⟩, ⟨r3, f3, i3, b3, l3⟩, ⟨r4, f4, i4, b4, l4⟩, m12, m21, m13, m31, m14, m41, m23, m32, m24, m42, m34, m43⟩ := St.facts4 hC
                  clear hC
                  go_simp
                  have hC := hC'.out
                  (first
                     | with_reducible rfl
                     | (skip
                        (refine (plus_step x v M hx _ hhb _).mono ?_)
                        rintro e w' ⟨rfl, hw⟩
                        exact ⟨rfl, St.call (by assumption) hw⟩)))
           try simp only [Act.put, List.setIfInBounds_toArray, List.set])
          (first
             | (apply head_skip rfl)
             | (apply head_step_g rfl
                focus
                  intro w0 hC
                  (fail))
             | (apply head_step_g rfl
                focus
                  intro w0 hC
                  have hC' := Lib.hid hC
                  obtain ⟨⟨r1, f1, i1, b1, l1⟩, ⟨r2, f2, i2, b2, l2⟩, ⟨r3, f3, i3, b3, l3⟩, ⟨r4, f4, i4, b4, l4⟩, m12, m21, m13, m31, m14, m41, m23, m32, m24, m42, m34, m43⟩ := St.facts4 hC
                  clear hC
                  go_simp
                  have hC := hC'.out
                  (first
                     | with_reducible rfl
                     | (skip
                        (refine (plus_step x v M hx _ hhb _).mono ?_)
                        rintro e w' ⟨rfl, hw⟩
                        exact ⟨rfl, St.call (by assumption) hw⟩)))
           try simp only [Act.put, List.setIfInBounds_toArray, List.set])
          (first
             | (apply head_skip rfl)
             | (apply head_step_g rfl
                focus
                  intro w0 hC
                  (fail))
             | (apply head_step_g rfl
                focus
                  intro w0 hC
                  have hC' := Lib.hid hC
                  obtain ⟨⟨r1, f1, i1, b1, l1⟩, ⟨r2, f2, i2, b2, l2⟩, ⟨r3, f3, i3, b3, l3⟩, ⟨r4, f4, i4, b4, l4⟩, m12, m21, m13, m31, m14, m41, m23, m32, m24, m42, m34, m43⟩ := St.facts4 hC
                  clear hC
                  go_simp
                  have hC := hC'.out
                  (first
                     | with_reducible rfl
                     | (skip
                        (refine (plus_step x v M hx _ hhb _).mono ?_)
                        rintro e w' ⟨rfl, hw⟩
                        exact ⟨rfl, St.call (by assumption) hw⟩)))
           try simp only [Act.put, List.setIfInBounds_toArray, List.set])
          (first
             | (apply head_skip rfl)
             | (apply head_step_g rfl
                focus
                  intro w0 hC
                  (fail))
             | (apply head_step_g rfl
                focus
                  intro w0 hC
                  have hC' := Lib.hid hC
                  obtain ⟨⟨r1, f1, i1, b1, l1⟩, ⟨r2, f2, i2, b2, l2⟩, ⟨r3, f3, i3, b3, l3⟩, ⟨r4, f4, i4, b4, l4⟩, m12, m21, m13, m31, m14, m41, m23, m32, m24, m42, m34, m43⟩ := St.facts4 hC
                  clear hC
                  go_simp
                  have hC := hC'.out
                  (first
                     | with_reducible rfl
                     | (skip
                        (refine (plus_step x v M hx _ hhb _).mono ?_)
                        rintro e w' ⟨rfl, hw⟩
                        exact ⟨rfl, St.call (by assumption) hw⟩)))
           try simp only [Act.put, List.setIfInBounds_toArray, List.set])
          (first
             | (apply head_skip rfl)
             | (apply head_step_g rfl
                focus
                  intro w0 hC
                  (fail))
             | (apply head_step_g rfl
                focus
                  intro w0 hC
                  have hC' := Lib.hid hC
                  obtain ⟨⟨r1, f1, i1, b1, l1⟩, ⟨r2, f2, i2, b2, l2⟩, ⟨r3, f3, i3, b3, l3⟩, ⟨r4, f4, i4, b4, l4⟩, m12, m21, m13, m31, m14, m41, m23, m32, m24, m42, m34, m43⟩ := St.facts4 hC
                  clear hC
                  go_simp
                  have hC := hC'.out
                  (first
                     | with_reducible rfl
                     | (skip
                        (refine (plus_step x v M hx _ hhb _).mono ?_)
                        rintro e w' ⟨rfl, hw⟩
                        exact ⟨rfl, St.call (by assumption) hw⟩)))
           try simp only [Act.put, List.setIfInBounds_toArray, List.set])
          refine wpQuiet_nil ?_
          intro w1 hC
          clear hhb
          (have HC := Lib.hid hC
           have sos := hC.below.os
           obtain ⟨⟨r1, f1, i1, b1, l1⟩, ⟨r2, f2, i2, b2, l2⟩, ⟨r3, f3, i3, b3, l3⟩, ⟨r4, f4, i4, b4, l4⟩, m12, m21, m13, m31, m14, m41, m23, m32, m24, m42, m34, m43⟩ := St.facts4 hC
           clear hC)
          go_wp2_with fail
          have HC := Lib.hid (HC.out.set_head (wide (Gh.tm x v (M + 1))))
          (clear r1 f1 i1 b1 l1 r2 f2 i2 b2 l2 r3 f3 i3 b3 l3 r4 f4 i4 b4 l4 m12 m21 m13 m31 m14 m41 m23 m32 m24 m42 m34 m43 sos)
          refine (double_any _ (Gh.dblN_lt hx M) _).mono ?_; rintro e w3 ⟨rfl, hw⟩
          have HC := Lib.hid (HC.out.call hw)
          clear hw
          have hC := HC.out
          (have HC := Lib.hid hC
           have sos := hC.below.os
           obtain ⟨⟨r1, f1, i1, b1, l1⟩, ⟨r2, f2, i2, b2, l2⟩, ⟨r3, f3, i3, b3, l3⟩, ⟨r4, f4, i4, b4, l4⟩, m12, m21, m13, m31, m14, m41, m23, m32, m24, m42, m34, m43⟩ := St.facts4 hC
           clear hC)
          go_wp2_with fail
          have HC := Lib.hid (HC.out.set w.heap.size (wide (Gh.dblN (M + 1) x)) (by simp) (by rw [r4, wide_size, wide_size]))
          simp only [setL, m14, m24, m34, if_false, if_true] at HC
          refine ⟨⟨n, by omega, rfl, ?_⟩, by simp [intOf]⟩
          rw [hend]; exact HC
    · obtain rfl : k = 2 := by omega
      have hC := HR.out
      have hend : Gh.tm x v (at64 2 0) = Gh.mul x v := rfl
      rw [hend] at hC
      have HR := Lib.hid hC
      (have HC := Lib.hid hC
       have sos := hC.below.os
       obtain ⟨⟨r1, f1, i1, b1, l1⟩, ⟨r2, f2, i2, b2, l2⟩, ⟨r3, f3, i3, b3, l3⟩, ⟨r4, f4, i4, b4, l4⟩, m12, m21, m13, m31, m14, m41, m23, m32, m24, m42, m34, m43⟩ := St.facts4 hC
       clear hC)
      go_wp2_with fail
      refine bodyPost_ret (results_row rfl _ (w.heap.size + 1 + 1) rfl (wide (Gh.mul x v)) ?_ ?_ ?_ ?_) rfl ⟨rfl, ?_⟩
      · simp [go_sem, *]; rfl
      · simp [go_sem]
      · simp [go_sem]
      · simp [go_sem, *]
      · exact below_setRow' HR.out.below (by omega) _
end Go.Proofs.Ytgaecjhghpkcoaa
end

section
namespace Go.Proofs.Ytgaecjhghpkcoaa
open Go.RowKit
attribute [local go_sem] B_xor B_or B_and
attribute [local go_sem] blk_set blk_size blk_get blk_getE upd_same oneCells_blk paste_blk cut_blk szOf
attribute [local go_sem high] paste_all cut_head
attribute [local go_sem] rowAt_alloc rowAt_drew rowAt_drewN isRow_alloc isRow_drew isRow_drewN freeRow_alloc freeRow_end freeRow_drew freeRow_drewN
attribute [local go_sem] setRow_alloc setRow_drew setRow_drewN setCell_drewN alloc_drewN rowAt_put isRow_setRow freeRow_put
attribute [local go_sem ↓] loadS_in storeS_in indexS_in copyS_in
attribute [local go_sem] loadS_row loadS_one storeS_row storeS_one indexS_blk copyS_rows run_equalIn_blk same_refl arrayAt_row
attribute [local go_sem] cell_row frozen_row st_setCell st_blk_ne stepAt stepUpon
attribute [local go_sem high] run_eql_blk run_neq_blk
attribute [local go_sem] U_xor U_or U_and U_and1 U_tail U_neg U_half U_shr U_shl8 U_shl63 U_of U_to pr_size pr_get0 pr_get1 pr_getE0 pr_getE1 pr_set0 pr_set1 pr_ne oneCells_pr paste_pr cut_pr
attribute [local go_sem] wide_size wide_get0 wide_get1 wide_getE0 wide_getE1 wide_ne oneCells_wide paste_wide cut_wide
attribute [local go_sem] size_wide agg_wide wide_build

/-- the product of two blocks -/
def mulB (a b : Nat → UInt8) : Nat → UInt8 := unum (Gh.mul (num a) (num b))
theorem num_mulB (a b : Nat → UInt8) : num (mulB a b) = Gh.mul (num a) (num b) := num_unum (Gh.mul_lt (num_lt a) _)
/-- a block whose first byte is x, and all others 0 -/
theorem lead_blk (x : UInt8) : blk 16 (upd (fun _ => 0) 0 x) = blk 16 (unum (x.toNat * 2 ^ 120)) := blk_congr fun i hi => by
  unfold upd unum byteN
  by_cases h : i = 0
  · subst h
    rw [if_pos rfl]
    apply UInt8.toNat_inj.1
    rw [UInt8.toNat_ofNat']
    have := x.toNat_lt
    omega
  · rw [if_neg h]
    apply UInt8.toNat_inj.1
    rw [UInt8.toNat_ofNat']
    have hp : x.toNat * 2 ^ 120 / 256 ^ (16 - 1 - i) = x.toNat * 256 ^ i := by
      rw [show (2 : Nat) ^ 120 = 256 ^ i * 256 ^ (16 - 1 - i) by rw [← Nat.pow_add, show i + (16 - 1 - i) = 15 by omega], ← Nat.mul_assoc]
      exact Nat.mul_div_cancel _ (Nat.pow_pos (by decide))
    rw [hp]
    obtain ⟨j, rfl⟩ : ∃ j, i = j + 1 := ⟨i - 1, by omega⟩
    rw [Nat.pow_succ, ← Nat.mul_assoc]
    show 0 = _ * 256 % 256
    omega
theorem lead_lit (x : UInt8) (n : Int) (h : n = B x) : (blk 16 fun _ => 0).setIfInBounds 0 (.int .u8 n) = blk 16 (unum (x.toNat * 2 ^ 120)) := by
  subst h; rw [blk_set]; exact lead_blk x
theorem lead_ok (x : UInt8) : Gh.Ok (x.toNat * 2 ^ 120) := by
  have := x.toNat_lt
  unfold Gh.Ok
  omega

/-- n factors -/
def powB (h : Nat → UInt8) (n : Nat) : Nat → UInt8 := unum (Gh.pw (num h) n)
def PowInv (h : Nat → UInt8) (n o y m : Nat) : Prop := Gh.Ok o ∧ Gh.Ok y ∧ Gh.mul o (Gh.pw y m) = Gh.pw (num h) n
theorem powInv_start (h : Nat → UInt8) (n : Nat) : PowInv h n Gh.one (num h) n := ⟨Gh.ok_one, num_lt h, Gh.one_mul (Gh.pw_lt n)⟩
theorem powInv_odd {h : Nat → UInt8} {n o y m : Nat} (i : PowInv h n o y m) (hm : m % 2 = 1) : PowInv h n (Gh.mul o y) (Gh.mul y y) (m / 2) := by
  obtain ⟨h1, h2, h3⟩ := i
  refine ⟨Gh.mul_lt h1 y, Gh.mul_lt h2 y, ?_⟩
  rw [Gh.pw_double h2, Gh.mul_assoc h1 h2, ← h3]
  refine congrArg (Gh.mul o) ?_
  have e : 2 * (m / 2) + 1 = m := by omega
  have e2 : Gh.pw y (2 * (m / 2) + 1) = Gh.mul (Gh.pw y (2 * (m / 2))) y := rfl
  have e3 : Gh.pw y m = Gh.mul (Gh.pw y (2 * (m / 2))) y := (congrArg (Gh.pw y) e.symm).trans e2
  exact (Gh.mul_comm h2 (Gh.pw_lt _)).trans e3.symm
theorem powInv_even {h : Nat → UInt8} {n o y m : Nat} (i : PowInv h n o y m) (hm : m % 2 ≠ 1) : PowInv h n o (Gh.mul y y) (m / 2) := by
  obtain ⟨h1, h2, h3⟩ := i
  refine ⟨h1, Gh.mul_lt h2 y, ?_⟩
  rw [Gh.pw_double h2, show 2 * (m / 2) = m by omega]; exact h3
def half2 (m : Nat) : Nat := m / 2
end Go.Proofs.Ytgaecjhghpkcoaa
end

section
namespace Go.Proofs.Ytgaecjhghpkcoaa
open Go.RowKit
attribute [local go_sem] B_xor B_or B_and
attribute [local go_sem] blk_set blk_size blk_get blk_getE upd_same oneCells_blk paste_blk cut_blk szOf
attribute [local go_sem high] paste_all cut_head
attribute [local go_sem] rowAt_alloc rowAt_drew rowAt_drewN isRow_alloc isRow_drew isRow_drewN freeRow_alloc freeRow_end freeRow_drew freeRow_drewN
attribute [local go_sem] setRow_alloc setRow_drew setRow_drewN setCell_drewN alloc_drewN rowAt_put isRow_setRow freeRow_put
attribute [local go_sem ↓] loadS_in storeS_in indexS_in copyS_in
attribute [local go_sem] loadS_row loadS_one storeS_row storeS_one indexS_blk copyS_rows run_equalIn_blk same_refl arrayAt_row
attribute [local go_sem] cell_row frozen_row st_setCell st_blk_ne stepAt stepUpon
attribute [local go_sem high] run_eql_blk run_neq_blk
attribute [local go_sem] U_xor U_or U_and U_and1 U_tail U_neg U_half U_shr U_shl8 U_shl63 U_of U_to pr_size pr_get0 pr_get1 pr_getE0 pr_getE1 pr_set0 pr_set1 pr_ne oneCells_pr paste_pr cut_pr
attribute [local go_sem] wide_size wide_get0 wide_get1 wide_getE0 wide_getE1 wide_ne oneCells_wide paste_wide cut_wide
attribute [local go_sem] size_wide agg_wide wide_build

/-! ### texts in numbers -/
/-- the numbers of a text, sixteen bytes each -/
def chunks : Nat → List UInt8 → List Nat
  | 0, _ => []
  | n + 1, l => if l = [] then [] else num (fun i => l.getD i 0) :: chunks n (l.drop 16)
def nums (l : List UInt8) : List Nat := chunks l.length l
theorem chunks_more : ∀ (n m : Nat) (l : List UInt8), l.length ≤ n → l.length ≤ m → chunks n l = chunks m l
  | 0, 0, _, _, _ => rfl
  | 0, m + 1, l, h, _ => by
    obtain rfl : l = [] := List.length_eq_zero_iff.1 (by omega)
    simp [chunks]
  | n + 1, 0, l, _, h => by
    obtain rfl : l = [] := List.length_eq_zero_iff.1 (by omega)
    simp [chunks]
  | n + 1, m + 1, l, h1, h2 => by
    simp only [chunks]
    by_cases h : l = []
    · rw [if_pos h, if_pos h]
    · rw [if_neg h, if_neg h]
      have hl : 0 < l.length := List.length_pos_iff.2 h
      rw [chunks_more n m (l.drop 16) (by simp; omega) (by simp; omega)]
theorem nums_nil : nums [] = [] := rfl
theorem nums_cons (l : List UInt8) (h : l ≠ []) : nums l = num (fun i => l.getD i 0) :: nums (l.drop 16) := by
  have hl : 0 < l.length := List.length_pos_iff.2 h
  unfold nums
  obtain ⟨n, hn⟩ : ∃ n, l.length = n + 1 := ⟨l.length - 1, by omega⟩
  conv => lhs; rw [hn]
  simp only [chunks, if_neg h]
  rw [chunks_more n (l.drop 16).length (l.drop 16) (by simp; omega) (Nat.le_refl _)]
theorem nums_ok : ∀ (n : Nat) (l : List UInt8), ∀ c ∈ chunks n l, Gh.Ok c
  | 0, _, c, h => by simp [chunks] at h
  | n + 1, l, c, h => by
    simp only [chunks] at h
    split at h
    · simp at h
    · rcases List.mem_cons.1 h with rfl | h
      · exact num_lt _
      · exact nums_ok n _ c h
/-- a text's bytes -/
def txt (s : ByteArray) : List UInt8 := s.data.toList
theorem txt_size (s : ByteArray) : (txt s).length = s.size := by
  show s.data.toList.length = s.data.size
  simp
theorem ofText_txt (s : ByteArray) : ofText s = fun i => (txt s).getD i 0 := by
  funext i
  simp only [ofText, txt, Array.getD_eq_getD_getElem?, List.getD_eq_getElem?_getD, Array.getElem?_toList]
theorem txt_drop (s : ByteArray) (n : Nat) : txt (s.extract n s.size) = (txt s).drop n := by
  unfold txt
  rw [ByteArray.data_extract, Array.toList_extract, List.extract_eq_take_drop, List.take_of_length_le]
  rw [List.length_drop]
  show s.data.toList.length - n ≤ s.data.size - n
  simp
theorem copyS_short {P : Program} {w : World} (dT sT ty : TypeId) (g dCap n : Nat) (s : ByteArray) (hu : P.underlying dT = some (.slice (P.elem dT))) (hs : (sizeOf (P.elem dT)).run P w = .ok 1 w)
    (hr : freeRow w g = true) (hg : n ≤ (rowAt w g).size) :
    (copyS #[dT, sT] ty #[.slice (some ⟨g, 0, none⟩) n dCap, .string s]).run P w = .ok (goInt ((min s.size n : Nat) : Int)) (w.setRow g (paste (rowAt w g) 0 (blk (min s.size n) (ofText s)))) := by
  have hc : ((s.extract 0 (min s.size n)).data.map fun b => Value.int .u8 (b.toNat : Int)) = blk (min s.size n) (ofText s) := by
    apply Array.ext
    · rw [blk_size, Array.size_map]
      show (s.extract 0 (min s.size n)).size = _
      rw [ByteArray.size_extract]; omega
    · intro i h1 h2
      rw [blk_size] at h2
      have hsz : s.data.size = s.size := rfl
      have hi : i < s.data.size := by omega
      have hb : (blk (min s.size n) (ofText s))[i]? = some (.int .u8 (B (ofText s i))) := blk_get _ _ _ h2
      rw [Array.getElem?_eq_getElem (by rw [blk_size]; exact h2)] at hb
      rw [Option.some.inj hb]
      simp [ofText, B, Array.getElem?_eq_getElem hi]
  have hst := run_storeCells_row (P := P) g 0 (blk (min s.size n) (ofText s)) hr (by rw [blk_size]; omega) (oneCells_blk _ _)
  have hm : Nat.min s.size n = min s.size n := rfl
  simp only [copyS, Builtin.copy_, List.getElem?_toArray, List.getElem?_cons_zero, List.getElem?_cons_succ, Sem.run_bind, run_underlying hu, Result.andThen_ok, Builtin.lenOf, Sem.run_pure, hs, Builtin.firstCells, hm, hc, hst]
theorem chunk_blk (s : ByteArray) : paste (blk 16 fun _ => 0) 0 (blk (min s.size 16) (ofText s)) = blk 16 (ofText s) := by
  rw [paste_blk _ _ _ _ _ (by omega)]
  refine blk_congr fun i hi => ?_
  unfold cpy
  by_cases h : i < s.size
  · rw [if_pos (by omega)]; congr 1; omega
  · rw [if_neg (by omega)]
    have hsz : s.data.size = s.size := rfl
    have : s.data.size ≤ i := by omega
    simp [ofText, Array.getElem?_eq_none this]

/-! ### a sum and the block that it is multiplied by -/
def run (s x : Nat) : Array Value := #[.int .u64 (U (hiU s)), .int .u64 (U (loU s)), .int .u64 (U (hiU x)), .int .u64 (U (loU x))]
theorem run_size (s x : Nat) : (run s x).size = 4 := by simp [run]
theorem oneCells_run (s x : Nat) : oneCells (run s x) = true := by simp [oneCells, run, Value.oneCell']
theorem cut_run0 (s x : Nat) : cut (run s x) 0 2 = wide s := by simp [run, cut, wide, pr]
theorem cut_run2 (s x : Nat) : cut (run s x) 2 4 = wide x := by simp [run, cut, wide, pr]
theorem paste_run (s x t : Nat) : paste (run s x) 0 (wide t) = run t x := by simp [run, paste, wide, pr]
theorem run_ne (s x : Nat) : (run s x = #[]) = False := by simp [run]
theorem build_run0 (a b s : Nat) : Array.foldl (fun (cs : Array Value) (x : Value × Nat) => cs.setIfInBounds x.snd x.fst) (run a b) (wide s).zipIdx 0 2 = run s b := by simp [run, wide, pr]
theorem build_run2 (a b s : Nat) : Array.foldl (fun (cs : Array Value) (x : Value × Nat) => cs.setIfInBounds (2 + x.snd) x.fst) (run a b) (wide s).zipIdx 0 2 = run a s := by simp [run, wide, pr]
theorem run_zero : #[Value.int .u64 0, .int .u64 0, .int .u64 0, .int .u64 0] = run 0 0 := by
  unfold run; rw [hi_zero, lo_zero]; rfl
theorem size_run (w : World) : (sizeOf 161).run Try.prog w = .ok 4 w := by simp [go_sem]
theorem agg_run (w : World) : (isAgg 161).run Try.prog w = .ok true w := by simp [go_sem]
attribute [local go_sem] build_run0 build_run2 run_size oneCells_run cut_run0 cut_run2 paste_run run_ne size_run agg_run copyS_short

theorem plus1_any (x y : Nat) (hx : Gh.Ok x) (hy : Gh.Ok y) (w : World) : Calls Try.prog 108 #[.agg (wide x), .agg (wide y), .int .u64 1] w fun e w' => e = .returned (.agg (wide (x ^^^ y))) ∧ Below w.heap.size w w' := by
  have h := plus_any x y hx hy 1 true rfl w
  rw [show U 1 = 1 from rfl] at h
  simpa using h
theorem St.head1 {w0 a : World} {g : Nat} {c : Array Value} {L : List (Nat × Array Value)} (h : St w0 ((g, c) :: L) a) : rowAt a g = c ∧ freeRow a g = true ∧ isRow a g = true ∧ w0.heap.size ≤ g ∧ g < a.heap.size := h.at (by simp)
theorem St.head2 {w0 a : World} {g1 g2 : Nat} {c1 c2 : Array Value} {L : List (Nat × Array Value)} (h : St w0 ((g1, c1) :: (g2, c2) :: L) a) :
    (rowAt a g1 = c1 ∧ freeRow a g1 = true ∧ isRow a g1 = true ∧ w0.heap.size ≤ g1 ∧ g1 < a.heap.size) ∧ (rowAt a g2 = c2 ∧ freeRow a g2 = true ∧ isRow a g2 = true ∧ w0.heap.size ≤ g2 ∧ g2 < a.heap.size) ∧ ((g1 = g2) = False) ∧ ((g2 = g1) = False) := by
  have hn := h.ne
  simp only [List.map_cons, List.nodup_cons, List.mem_cons, not_or] at hn
  refine ⟨h.at (by simp), h.at (by simp), ?_, ?_⟩ <;> simp only [eq_iff_iff, iff_false] <;> omega

set_option maxRecDepth 100000 in
set_option maxHeartbeats 1000000 in
theorem feed_any (w0 : World) (L : List (Nat × Array Value)) (g s x : Nat) (hs : Gh.Ok s) (hx : Gh.Ok x) (t : ByteArray) (ht : t.size ≤ maxLen) (w : World) (H : Hid (St w0 ((g, run s x) :: L) w)) :
    Calls Try.prog 107 #[.pointer (some ⟨g, 0, none⟩), .string t] w fun e w' => e = .returned (.tuple #[]) ∧ St w0 ((g, run (Gh.fold x s (nums (txt t))) x) :: L) w' := by
  have hz := zero16
  unfold maxLen at ht
  go_enter Try.func107, Try.ntmps107
  go_wp2_with fail
  go_loopw [1] (fun a wr => ∃ u : ByteArray, a = .string u ∧ u.size ≤ 9223372036854775807 ∧ ∃ s', Hid (Gh.Ok s' ∧ Gh.fold x s' (nums (txt u)) = Gh.fold x s (nums (txt t))) ∧ Hid (St w0 ((g, run s' x) :: L) wr)) (fun a _ => match a with | .string u => u.size | _ => 0)
  case atStart => exact ⟨t, rfl, ht, s, Lib.hid ⟨hs, rfl⟩, H⟩
  case round =>
    clear H
    obtain ⟨u, rfl, hu, s', HF, HR⟩ := hrel
    have hsum := HF.out.1
    have hC := HR.out
    by_cases h0 : 0 < u.size
    · have t1 : decide ((0 : Int) < (u.size : Int)) = true := by simp; omega
      have hch := chunk_blk u
      obtain ⟨r1, f1, i1, b1, l1⟩ := St.head1 hC
      go_wp2_with fail
      have HC := Lib.hid (HR.out.push (blk 16 (ofText u)) 25)
      clear r1 f1 i1 b1 l1 hch
      refine St.region_tail 15 HC.out (by kernel_rfl) (by decide +kernel) ?_
      (simp only [List.take, List.drop])
      (first
         | (apply head_skip rfl)
         | (apply head_step_g rfl
            focus
              intro w0' hC
              have hC' := Lib.hid hC
              obtain ⟨⟨r1, f1, i1, b1, l1⟩, ⟨r2, f2, i2, b2, l2⟩, m12, m21⟩ := St.head2 hC
              clear hC
              go_simp
              have hC := hC'.out
              (first
                 | with_reducible rfl
                 | (skip
                    (first
                       | refine (load_any _ _).mono ?_
                       | refine (plus1_any _ _ hsum (num_lt _) _).mono ?_
                       | refine (times_any _ _ (Gh.xor_lt hsum (num_lt _)) hx _).mono ?_)
                    rintro e w' ⟨rfl, hw⟩
                    exact ⟨rfl, St.call (by assumption) hw⟩)))
       try simp only [Act.put, List.setIfInBounds_toArray, List.set])
      (first
         | (apply head_skip rfl)
         | (apply head_step_g rfl
            focus
              intro w0' hC
              have hC' := Lib.hid hC
              obtain ⟨⟨r1, f1, i1, b1, l1⟩, ⟨r2, f2, i2, b2, l2⟩, m12, m21⟩ := St.head2 hC
              clear hC
              go_simp
              have hC := hC'.out
              (first
                 | with_reducible rfl
                 | (skip
                    (first
                       | refine (load_any _ _).mono ?_
                       | refine (plus1_any _ _ hsum (num_lt _) _).mono ?_
                       | refine (times_any _ _ (Gh.xor_lt hsum (num_lt _)) hx _).mono ?_)
                    rintro e w' ⟨rfl, hw⟩
                    exact ⟨rfl, St.call (by assumption) hw⟩)))
       try simp only [Act.put, List.setIfInBounds_toArray, List.set])
      (first
         | (apply head_skip rfl)
         | (apply head_step_g rfl
            focus
              intro w0' hC
              have hC' := Lib.hid hC
              obtain ⟨⟨r1, f1, i1, b1, l1⟩, ⟨r2, f2, i2, b2, l2⟩, m12, m21⟩ := St.head2 hC
              clear hC
              go_simp
              have hC := hC'.out
              (first
                 | with_reducible rfl
                 | (skip
                    (first
                       | refine (load_any _ _).mono ?_
                       | refine (plus1_any _ _ hsum (num_lt _) _).mono ?_
                       | refine (times_any _ _ (Gh.xor_lt hsum (num_lt _)) hx _).mono ?_)
                    rintro e w' ⟨rfl, hw⟩
                    exact ⟨rfl, St.call (by assumption) hw⟩)))
       try simp only [Act.put, List.setIfInBounds_toArray, List.set])
      (first
         | (apply head_skip rfl)
         | (apply head_step_g rfl
            focus
              intro w0' hC
              have hC' := Lib.hid hC
              obtain ⟨⟨r1, f1, i1, b1, l1⟩, ⟨r2, f2, i2, b2, l2⟩, m12, m21⟩ := St.head2 hC
              clear hC
              go_simp
              have hC := hC'.out
              (first
                 | with_reducible rfl
                 | (skip
                    (first
                       | refine (load_any _ _).mono ?_
                       | refine (plus1_any _ _ hsum (num_lt _) _).mono ?_
                       | refine (times_any _ _ (Gh.xor_lt hsum (num_lt _)) hx _).mono ?_)
                    rintro e w' ⟨rfl, hw⟩
                    exact ⟨rfl, St.call (by assumption) hw⟩)))
       try simp only [Act.put, List.setIfInBounds_toArray, List.set])
      (first
         | (apply head_skip rfl)
         | (apply head_step_g rfl
            focus
              intro w0' hC
              have hC' := Lib.hid hC
              obtain ⟨⟨r1, f1, i1, b1, l1⟩, ⟨r2, f2, i2, b2, l2⟩, m12, m21⟩ := St.head2 hC
              clear hC
              go_simp
              have hC := hC'.out
              (first
                 | with_reducible rfl
                 | (skip
                    (first
                       | refine (load_any _ _).mono ?_
                       | refine (plus1_any _ _ hsum (num_lt _) _).mono ?_
                       | refine (times_any _ _ (Gh.xor_lt hsum (num_lt _)) hx _).mono ?_)
                    rintro e w' ⟨rfl, hw⟩
                    exact ⟨rfl, St.call (by assumption) hw⟩)))
       try simp only [Act.put, List.setIfInBounds_toArray, List.set])
      (first
         | (apply head_skip rfl)
         | (apply head_step_g rfl
            focus
              intro w0' hC
              have hC' := Lib.hid hC
              obtain ⟨⟨r1, f1, i1, b1, l1⟩, ⟨r2, f2, i2, b2, l2⟩, m12, m21⟩ := St.head2 hC
              clear hC
              go_simp
              have hC := hC'.out
              (first
                 | with_reducible rfl
                 | (skip
                    (first
                       | refine (load_any _ _).mono ?_
                       | refine (plus1_any _ _ hsum (num_lt _) _).mono ?_
                       | refine (times_any _ _ (Gh.xor_lt hsum (num_lt _)) hx _).mono ?_)
                    rintro e w' ⟨rfl, hw⟩
                    exact ⟨rfl, St.call (by assumption) hw⟩)))
       try simp only [Act.put, List.setIfInBounds_toArray, List.set])
      (first
         | (apply head_skip rfl)
         | (apply head_step_g rfl
            focus
              intro w0' hC
              have hC' := Lib.hid hC
              obtain ⟨⟨r1, f1, i1, b1, l1⟩, ⟨r2, f2, i2, b2, l2⟩, m12, m21⟩ := St.head2 hC
              clear hC
              go_simp
              have hC := hC'.out
              (first
                 | with_reducible rfl
                 | (skip
                    (first
                       | refine (load_any _ _).mono ?_
                       | refine (plus1_any _ _ hsum (num_lt _) _).mono ?_
                       | refine (times_any _ _ (Gh.xor_lt hsum (num_lt _)) hx _).mono ?_)
                    rintro e w' ⟨rfl, hw⟩
                    exact ⟨rfl, St.call (by assumption) hw⟩)))
       try simp only [Act.put, List.setIfInBounds_toArray, List.set])
      (first
         | (apply head_skip rfl)
         | (apply head_step_g rfl
            focus
              intro w0' hC
              have hC' := Lib.hid hC
              obtain ⟨⟨r1, f1, i1, b1, l1⟩, ⟨r2, f2, i2, b2, l2⟩, m12, m21⟩ := St.head2 hC
              clear hC
              go_simp
              have hC := hC'.out
              (first
                 | with_reducible rfl
                 | (skip
                    (first
                       | refine (load_any _ _).mono ?_
                       | refine (plus1_any _ _ hsum (num_lt _) _).mono ?_
                       | refine (times_any _ _ (Gh.xor_lt hsum (num_lt _)) hx _).mono ?_)
                    rintro e w' ⟨rfl, hw⟩
                    exact ⟨rfl, St.call (by assumption) hw⟩)))
       try simp only [Act.put, List.setIfInBounds_toArray, List.set])
      (first
         | (apply head_skip rfl)
         | (apply head_step_g rfl
            focus
              intro w0' hC
              have hC' := Lib.hid hC
              obtain ⟨⟨r1, f1, i1, b1, l1⟩, ⟨r2, f2, i2, b2, l2⟩, m12, m21⟩ := St.head2 hC
              clear hC
              go_simp
              have hC := hC'.out
              (first
                 | with_reducible rfl
                 | (skip
                    (first
                       | refine (load_any _ _).mono ?_
                       | refine (plus1_any _ _ hsum (num_lt _) _).mono ?_
                       | refine (times_any _ _ (Gh.xor_lt hsum (num_lt _)) hx _).mono ?_)
                    rintro e w' ⟨rfl, hw⟩
                    exact ⟨rfl, St.call (by assumption) hw⟩)))
       try simp only [Act.put, List.setIfInBounds_toArray, List.set])
      (first
         | (apply head_skip rfl)
         | (apply head_step_g rfl
            focus
              intro w0' hC
              have hC' := Lib.hid hC
              obtain ⟨⟨r1, f1, i1, b1, l1⟩, ⟨r2, f2, i2, b2, l2⟩, m12, m21⟩ := St.head2 hC
              clear hC
              go_simp
              have hC := hC'.out
              (first
                 | with_reducible rfl
                 | (skip
                    (first
                       | refine (load_any _ _).mono ?_
                       | refine (plus1_any _ _ hsum (num_lt _) _).mono ?_
                       | refine (times_any _ _ (Gh.xor_lt hsum (num_lt _)) hx _).mono ?_)
                    rintro e w' ⟨rfl, hw⟩
                    exact ⟨rfl, St.call (by assumption) hw⟩)))
       try simp only [Act.put, List.setIfInBounds_toArray, List.set])
      (first
         | (apply head_skip rfl)
         | (apply head_step_g rfl
            focus
              intro w0' hC
              have hC' := Lib.hid hC
              obtain ⟨⟨r1, f1, i1, b1, l1⟩, ⟨r2, f2, i2, b2, l2⟩, m12, m21⟩ := St.head2 hC
              clear hC
              go_simp
              have hC := hC'.out
              (first
                 | with_reducible rfl
                 | (skip
                    (first
                       | refine (load_any _ _).mono ?_
                       | refine (plus1_any _ _ hsum (num_lt _) _).mono ?_
                       | refine (times_any _ _ (Gh.xor_lt hsum (num_lt _)) hx _).mono ?_)
                    rintro e w' ⟨rfl, hw⟩
                    exact ⟨rfl, St.call (by assumption) hw⟩)))
       try simp only [Act.put, List.setIfInBounds_toArray, List.set])
      (first
         | (apply head_skip rfl)
         | (apply head_step_g rfl
            focus
              intro w0' hC
              have hC' := Lib.hid hC
              obtain ⟨⟨r1, f1, i1, b1, l1⟩, ⟨r2, f2, i2, b2, l2⟩, m12, m21⟩ := St.head2 hC
              clear hC
              go_simp
              have hC := hC'.out
              (first
                 | with_reducible rfl
                 | (skip
                    (first
                       | refine (load_any _ _).mono ?_
                       | refine (plus1_any _ _ hsum (num_lt _) _).mono ?_
                       | refine (times_any _ _ (Gh.xor_lt hsum (num_lt _)) hx _).mono ?_)
                    rintro e w' ⟨rfl, hw⟩
                    exact ⟨rfl, St.call (by assumption) hw⟩)))
       try simp only [Act.put, List.setIfInBounds_toArray, List.set])
      (first
         | (apply head_skip rfl)
         | (apply head_step_g rfl
            focus
              intro w0' hC
              have hC' := Lib.hid hC
              obtain ⟨⟨r1, f1, i1, b1, l1⟩, ⟨r2, f2, i2, b2, l2⟩, m12, m21⟩ := St.head2 hC
              clear hC
              go_simp
              have hC := hC'.out
              (first
                 | with_reducible rfl
                 | (skip
                    (first
                       | refine (load_any _ _).mono ?_
                       | refine (plus1_any _ _ hsum (num_lt _) _).mono ?_
                       | refine (times_any _ _ (Gh.xor_lt hsum (num_lt _)) hx _).mono ?_)
                    rintro e w' ⟨rfl, hw⟩
                    exact ⟨rfl, St.call (by assumption) hw⟩)))
       try simp only [Act.put, List.setIfInBounds_toArray, List.set])
      (first
         | (apply head_skip rfl)
         | (apply head_step_g rfl
            focus
              intro w0' hC
              have hC' := Lib.hid hC
              obtain ⟨⟨r1, f1, i1, b1, l1⟩, ⟨r2, f2, i2, b2, l2⟩, m12, m21⟩ := St.head2 hC
              clear hC
              go_simp
              have hC := hC'.out
              (first
                 | with_reducible rfl
                 | (skip
                    (first
                       | refine (load_any _ _).mono ?_
                       | refine (plus1_any _ _ hsum (num_lt _) _).mono ?_
                       | refine (times_any _ _ (Gh.xor_lt hsum (num_lt _)) hx _).mono ?_)
                    rintro e w' ⟨rfl, hw⟩
                    exact ⟨rfl, St.call (by assumption) hw⟩)))
       try simp only [Act.put, List.setIfInBounds_toArray, List.set])
      (first
         | (apply head_skip rfl)
         | (apply head_step_g rfl
            focus
              intro w0' hC
              have hC' := Lib.hid hC
              obtain ⟨⟨r1, f1, i1, b1, l1⟩, ⟨r2, f2, i2, b2, l2⟩, m12, m21⟩ := St.head2 hC
              clear hC
              go_simp
              have hC := hC'.out
              (first
                 | with_reducible rfl
                 | (skip
                    (first
                       | refine (load_any _ _).mono ?_
                       | refine (plus1_any _ _ hsum (num_lt _) _).mono ?_
                       | refine (times_any _ _ (Gh.xor_lt hsum (num_lt _)) hx _).mono ?_)
                    rintro e w' ⟨rfl, hw⟩
                    exact ⟨rfl, St.call (by assumption) hw⟩)))
       try simp only [Act.put, List.setIfInBounds_toArray, List.set])
      refine wpQuiet_nil ?_
      intro w1 hC
      obtain ⟨⟨r1, f1, i1, b1, l1⟩, ⟨r2, f2, i2, b2, l2⟩, m12, m21⟩ := St.head2 hC
      have HC := Lib.hid ((hC.swap.set_head (run (Gh.mul (s' ^^^ num (ofText u)) x) x)).swap.tail)
      clear hC
      go_wp2_with fail
      have e1 : txt (u.extract (min u.size 16) u.size) = (txt u).drop 16 := by
        rw [txt_drop]
        have := txt_size u
        by_cases h16 : u.size ≤ 16
        · rw [List.drop_of_length_le (by omega), List.drop_of_length_le (by omega)]
        · rw [show min u.size 16 = 16 by omega]
      have e2 : Gh.fold x (Gh.mul (s' ^^^ num (ofText u)) x) (nums (txt (u.extract (min u.size 16) u.size))) = Gh.fold x s (nums (txt t)) := by
        rw [← HF.out.2, nums_cons (txt u) (fun e => by have := txt_size u; rw [e] at this; simp at this; omega), e1, ofText_txt]
        rfl
      have e3 : (u.extract (min u.size 16) u.size).size = u.size - min u.size 16 := by rw [ByteArray.size_extract]; omega
      exact ⟨⟨_, rfl, by omega, _, Lib.hid ⟨Gh.mul_lt (Gh.xor_lt hsum (num_lt _)) x, e2⟩, HC⟩, by show (u.extract (min u.size 16) u.size).size < u.size; omega⟩
    · have t1 : decide ((0 : Int) < (u.size : Int)) = false := decide_eq_false (by omega)
      have e1 : txt u = [] := List.length_eq_zero_iff.1 (by rw [txt_size]; omega)
      have e2 := HF.out.2
      rw [e1] at e2
      have e3 : s' = Gh.fold x s (nums (txt t)) := e2
      go_wp2_with fail
      go_end0
      exact ⟨rfl, by rw [← e3]; exact HR.out⟩

theorem fold_ok (x s : Nat) (l : List UInt8) (hs : Gh.Ok s) : Gh.Ok (Gh.fold x s (nums l)) := Gh.fold_lt hs _ (nums_ok _ _)
/-- a text folded into a sum -/
def foldB (h sum : Nat → UInt8) (t : ByteArray) : Nat → UInt8 := unum (Gh.fold (num h) (num sum) (nums (txt t)))
end Go.Proofs.Ytgaecjhghpkcoaa
end

section
namespace Go.Proofs.Ytgaecjhghpkcoaa
open Go.RowKit
attribute [local go_sem] B_xor B_or B_and
attribute [local go_sem] blk_set blk_size blk_get blk_getE upd_same oneCells_blk paste_blk cut_blk szOf
attribute [local go_sem high] paste_all cut_head
attribute [local go_sem] rowAt_alloc rowAt_drew rowAt_drewN isRow_alloc isRow_drew isRow_drewN freeRow_alloc freeRow_end freeRow_drew freeRow_drewN
attribute [local go_sem] setRow_alloc setRow_drew setRow_drewN setCell_drewN alloc_drewN rowAt_put isRow_setRow freeRow_put
attribute [local go_sem ↓] loadS_in storeS_in indexS_in copyS_in
attribute [local go_sem] loadS_row loadS_one storeS_row storeS_one indexS_blk copyS_rows run_equalIn_blk same_refl arrayAt_row
attribute [local go_sem] cell_row frozen_row st_setCell st_blk_ne stepAt stepUpon
attribute [local go_sem high] run_eql_blk run_neq_blk
attribute [local go_sem] U_xor U_or U_and U_and1 U_tail U_neg U_half U_shr U_shl8 U_shl63 U_of U_to pr_size pr_get0 pr_get1 pr_getE0 pr_getE1 pr_set0 pr_set1 pr_ne oneCells_pr paste_pr cut_pr
attribute [local go_sem] wide_size wide_get0 wide_get1 wide_getE0 wide_getE1 wide_ne oneCells_wide paste_wide cut_wide
attribute [local go_sem] size_wide agg_wide wide_build build_run0 build_run2 run_size oneCells_run cut_run0 cut_run2 paste_run run_ne size_run agg_run

/-- the lengths of two texts, in bits, as a block -/
def lens (a b : ByteArray) : Nat := 8 * a.size * 2 ^ 64 + 8 * b.size
theorem lens_ok {a b : ByteArray} (ha : a.size < 2 ^ 40) (hb : b.size < 2 ^ 40) : Gh.Ok (lens a b) := by
  unfold Gh.Ok lens; omega
theorem lens_hi {a b : ByteArray} (ha : a.size < 2 ^ 40) (hb : b.size < 2 ^ 40) : IntKind.u64.wrap ((a.size : Int) * (8 : Int)) = U (hiU (lens a b)) := by
  rw [wrap64]
  unfold U
  rw [hi_nat (lens_ok ha hb), Nat.shiftRight_eq_div_pow]
  unfold lens
  omega
theorem lens_lo (a : ByteArray) {b : ByteArray} (_hb : b.size < 2 ^ 40) : IntKind.u64.wrap ((b.size : Int) * (8 : Int)) = U (loU (lens a b)) := by
  rw [wrap64]
  unfold U
  rw [lo_nat]
  unfold lens
  omega
def sumN (h : Nat) (a b : ByteArray) : Nat := Gh.fold h 0 (nums (txt a) ++ nums (txt b) ++ [lens a b])
def sumB (h : Nat → UInt8) (a b : ByteArray) : Nat → UInt8 := unum (sumN (num h) a b)
theorem sumN_eq (h : Nat) (a b : ByteArray) : Gh.mul (Gh.fold h (Gh.fold h 0 (nums (txt a))) (nums (txt b)) ^^^ lens a b) h = sumN h a b := by
  unfold sumN
  rw [Gh.fold_append, Gh.fold_append]; rfl
set_option maxRecDepth 100000 in
set_option maxHeartbeats 1000000 in
theorem ghSum_any (h : Nat → UInt8) (a b : ByteArray) (ha : a.size < 2 ^ 40) (hb : b.size < 2 ^ 40) (w : World) : Calls Try.prog 99 #[.agg (blk 16 h), .string a, .string b] w fun e w' => e = .returned (.agg (blk 16 (sumB h a b))) ∧ Below w.heap.size w w' := by
  have hz := zero16
  have hz2 := run_zero
  have hz3 := pr_zero
  have hlen := lens_ok ha hb
  have q1 := lens_hi ha hb
  have q2 := lens_lo a hb
  have a1 : (a.size : Int) ≤ 1099511627776 := by omega
  have a2 : (b.size : Int) ≤ 1099511627776 := by omega
  go_enter Try.func99, Try.ntmps99
  go_wp2_with fail
  have HC := Lib.hid (((St.nil w).pushA (blk 16 h) 25 rfl).pushA (blk 16 fun _ => 0) 25 (g := w.heap.size + 1) (by simp))
  refine (load_any _ _).mono ?_; rintro e w1 ⟨rfl, hw⟩
  have HC := Lib.hid (HC.out.call hw)
  clear hw
  have hC := HC.out
  (have HC := Lib.hid hC
   have sos := hC.below.os
   obtain ⟨⟨r1, f1, i1, b1, l1⟩, ⟨r2, f2, i2, b2, l2⟩, m12, m21⟩ := St.facts2 hC
   clear hC)
  go_wp2_with fail
  have HC := Lib.hid (HC.out.push (run 0 (num h)) 161)
  (clear r1 f1 i1 b1 l1 r2 f2 i2 b2 l2 m12 m21 sos)
  refine (feed_any w _ _ _ _ Gh.ok_zero (num_lt h) a (by unfold maxLen; omega) _ HC).mono ?_; rintro e w2 ⟨rfl, hC⟩
  have hok1 := fold_ok (num h) 0 (txt a) Gh.ok_zero
  clear HC
  have HC := Lib.hid hC
  have sos := hC.below.os
  clear hC
  go_wp2_with fail
  clear sos
  refine (feed_any w _ _ _ _ hok1 (num_lt h) b (by unfold maxLen; omega) _ HC).mono ?_; rintro e w3 ⟨rfl, hC⟩
  have hok2 := fold_ok (num h) _ (txt b) hok1
  clear HC
  (have HC := Lib.hid hC
   have sos := hC.below.os
   obtain ⟨⟨r1, f1, i1, b1, l1⟩, ⟨r2, f2, i2, b2, l2⟩, ⟨r3, f3, i3, b3, l3⟩, m12, m21, m13, m31, m23, m32⟩ := St.facts3 hC
   clear hC)
  go_wp2_with fail
  have HC := Lib.hid (HC.out.push (wide (lens a b)) 158)
  (clear r1 f1 i1 b1 l1 r2 f2 i2 b2 l2 r3 f3 i3 b3 l3 m12 m21 m13 m31 m23 m32 sos)
  refine St.region_tail 8 HC.out (by kernel_rfl) (by decide +kernel) ?_
  (simp only [List.take, List.drop])
  (first
     | (apply head_skip rfl)
     | (apply head_step_g rfl
        focus
          intro w0 hC
          (fail))
     | (apply head_step_g rfl
        focus
          intro w0 hC
          have hC' := Lib.hid hC
          obtain ⟨⟨r1, f1, i1, b1, l1⟩, ⟨r2, f2, i2, b2, l2⟩, ⟨r3, f3, i3, b3, l3⟩, ⟨r4, f4, i4, b4, l4⟩, m12, m21, m13, m31, m14, m41, m23, m32, m24, m42, m34, m43⟩ := St.facts4 hC
          clear hC
          go_simp
          have hC := hC'.out
          (first
             | with_reducible rfl
             | (skip
                (first
                   | refine (plus1_any _ _ hok2 hlen _).mono ?_
                   | refine (times_any _ _ (Gh.xor_lt hok2 hlen) (num_lt h) _).mono ?_)
                rintro e w' ⟨rfl, hw⟩
                exact ⟨rfl, St.call (by assumption) hw⟩)))
   try simp only [Act.put, List.setIfInBounds_toArray, List.set])
  (first
     | (apply head_skip rfl)
     | (apply head_step_g rfl
        focus
          intro w0 hC
          (fail))
     | (apply head_step_g rfl
        focus
          intro w0 hC
          have hC' := Lib.hid hC
          obtain ⟨⟨r1, f1, i1, b1, l1⟩, ⟨r2, f2, i2, b2, l2⟩, ⟨r3, f3, i3, b3, l3⟩, ⟨r4, f4, i4, b4, l4⟩, m12, m21, m13, m31, m14, m41, m23, m32, m24, m42, m34, m43⟩ := St.facts4 hC
          clear hC
          go_simp
          have hC := hC'.out
          (first
             | with_reducible rfl
             | (skip
                (first
                   | refine (plus1_any _ _ hok2 hlen _).mono ?_
                   | refine (times_any _ _ (Gh.xor_lt hok2 hlen) (num_lt h) _).mono ?_)
                rintro e w' ⟨rfl, hw⟩
                exact ⟨rfl, St.call (by assumption) hw⟩)))
   try simp only [Act.put, List.setIfInBounds_toArray, List.set])
  (first
     | (apply head_skip rfl)
     | (apply head_step_g rfl
        focus
          intro w0 hC
          (fail))
     | (apply head_step_g rfl
        focus
          intro w0 hC
          have hC' := Lib.hid hC
          obtain ⟨⟨r1, f1, i1, b1, l1⟩, ⟨r2, f2, i2, b2, l2⟩, ⟨r3, f3, i3, b3, l3⟩, ⟨r4, f4, i4, b4, l4⟩, m12, m21, m13, m31, m14, m41, m23, m32, m24, m42, m34, m43⟩ := St.facts4 hC
          clear hC
          go_simp
          have hC := hC'.out
          (first
             | with_reducible rfl
             | (skip
                (first
                   | refine (plus1_any _ _ hok2 hlen _).mono ?_
                   | refine (times_any _ _ (Gh.xor_lt hok2 hlen) (num_lt h) _).mono ?_)
                rintro e w' ⟨rfl, hw⟩
                exact ⟨rfl, St.call (by assumption) hw⟩)))
   try simp only [Act.put, List.setIfInBounds_toArray, List.set])
  (first
     | (apply head_skip rfl)
     | (apply head_step_g rfl
        focus
          intro w0 hC
          (fail))
     | (apply head_step_g rfl
        focus
          intro w0 hC
          have hC' := Lib.hid hC
          obtain ⟨⟨r1, f1, i1, b1, l1⟩, ⟨r2, f2, i2, b2, l2⟩, ⟨r3, f3, i3, b3, l3⟩, ⟨r4, f4, i4, b4, l4⟩, m12, m21, m13, m31, m14, m41, m23, m32, m24, m42, m34, m43⟩ := St.facts4 hC
          clear hC
          go_simp
          have hC := hC'.out
          (first
             | with_reducible rfl
             | (skip
                (first
                   | refine (plus1_any _ _ hok2 hlen _).mono ?_
                   | refine (times_any _ _ (Gh.xor_lt hok2 hlen) (num_lt h) _).mono ?_)
                rintro e w' ⟨rfl, hw⟩
                exact ⟨rfl, St.call (by assumption) hw⟩)))
   try simp only [Act.put, List.setIfInBounds_toArray, List.set])
  (first
     | (apply head_skip rfl)
     | (apply head_step_g rfl
        focus
          intro w0 hC
          (fail))
     | (apply head_step_g rfl
        focus
          intro w0 hC
          have hC' := Lib.hid hC
          obtain ⟨⟨r1, f1, i1, b1, l1⟩, ⟨r2, f2, i2, b2, l2⟩, ⟨r3, f3, i3, b3, l3⟩, ⟨r4, f4, i4, b4, l4⟩, m12, m21, m13, m31, m14, m41, m23, m32, m24, m42, m34, m43⟩ := St.facts4 hC
          clear hC
          go_simp
          have hC := hC'.out
          (first
             | with_reducible rfl
             | (skip
                (first
                   | refine (plus1_any _ _ hok2 hlen _).mono ?_
                   | refine (times_any _ _ (Gh.xor_lt hok2 hlen) (num_lt h) _).mono ?_)
                rintro e w' ⟨rfl, hw⟩
                exact ⟨rfl, St.call (by assumption) hw⟩)))
   try simp only [Act.put, List.setIfInBounds_toArray, List.set])
  (first
     | (apply head_skip rfl)
     | (apply head_step_g rfl
        focus
          intro w0 hC
          (fail))
     | (apply head_step_g rfl
        focus
          intro w0 hC
          have hC' := Lib.hid hC
          obtain ⟨⟨r1, f1, i1, b1, l1⟩, ⟨r2, f2, i2, b2, l2⟩, ⟨r3, f3, i3, b3, l3⟩, ⟨r4, f4, i4, b4, l4⟩, m12, m21, m13, m31, m14, m41, m23, m32, m24, m42, m34, m43⟩ := St.facts4 hC
          clear hC
          go_simp
          have hC := hC'.out
          (first
             | with_reducible rfl
             | (skip
                (first
                   | refine (plus1_any _ _ hok2 hlen _).mono ?_
                   | refine (times_any _ _ (Gh.xor_lt hok2 hlen) (num_lt h) _).mono ?_)
                rintro e w' ⟨rfl, hw⟩
                exact ⟨rfl, St.call (by assumption) hw⟩)))
   try simp only [Act.put, List.setIfInBounds_toArray, List.set])
  (first
     | (apply head_skip rfl)
     | (apply head_step_g rfl
        focus
          intro w0 hC
          (fail))
     | (apply head_step_g rfl
        focus
          intro w0 hC
          have hC' := Lib.hid hC
          obtain ⟨⟨r1, f1, i1, b1, l1⟩, ⟨r2, f2, i2, b2, l2⟩, ⟨r3, f3, i3, b3, l3⟩, ⟨r4, f4, i4, b4, l4⟩, m12, m21, m13, m31, m14, m41, m23, m32, m24, m42, m34, m43⟩ := St.facts4 hC
          clear hC
          go_simp
          have hC := hC'.out
          (first
             | with_reducible rfl
             | (skip
                (first
                   | refine (plus1_any _ _ hok2 hlen _).mono ?_
                   | refine (times_any _ _ (Gh.xor_lt hok2 hlen) (num_lt h) _).mono ?_)
                rintro e w' ⟨rfl, hw⟩
                exact ⟨rfl, St.call (by assumption) hw⟩)))
   try simp only [Act.put, List.setIfInBounds_toArray, List.set])
  (first
     | (apply head_skip rfl)
     | (apply head_step_g rfl
        focus
          intro w0 hC
          (fail))
     | (apply head_step_g rfl
        focus
          intro w0 hC
          have hC' := Lib.hid hC
          obtain ⟨⟨r1, f1, i1, b1, l1⟩, ⟨r2, f2, i2, b2, l2⟩, ⟨r3, f3, i3, b3, l3⟩, ⟨r4, f4, i4, b4, l4⟩, m12, m21, m13, m31, m14, m41, m23, m32, m24, m42, m34, m43⟩ := St.facts4 hC
          clear hC
          go_simp
          have hC := hC'.out
          (first
             | with_reducible rfl
             | (skip
                (first
                   | refine (plus1_any _ _ hok2 hlen _).mono ?_
                   | refine (times_any _ _ (Gh.xor_lt hok2 hlen) (num_lt h) _).mono ?_)
                rintro e w' ⟨rfl, hw⟩
                exact ⟨rfl, St.call (by assumption) hw⟩)))
   try simp only [Act.put, List.setIfInBounds_toArray, List.set])
  refine wpQuiet_nil ?_
  intro w4 hC
  have hs : Gh.Ok (sumN (num h) a b) := by rw [← sumN_eq]; exact Gh.mul_lt (Gh.xor_lt hok2 hlen) _
  have he := sumN_eq (num h) a b
  (have HC := Lib.hid hC
   have sos := hC.below.os
   obtain ⟨⟨r1, f1, i1, b1, l1⟩, ⟨r2, f2, i2, b2, l2⟩, ⟨r3, f3, i3, b3, l3⟩, ⟨r4, f4, i4, b4, l4⟩, m12, m21, m13, m31, m14, m41, m23, m32, m24, m42, m34, m43⟩ := St.facts4 hC
   clear hC)
  go_wp2_with fail
  have HC := Lib.hid ((HC.out.swap.set_head (run (sumN (num h) a b) (num h))).swap)
  (clear r1 f1 i1 b1 l1 r2 f2 i2 b2 l2 r3 f3 i3 b3 l3 r4 f4 i4 b4 l4 m12 m21 m13 m31 m14 m41 m23 m32 m24 m42 m34 m43 sos)
  refine (block_any _ hs _).mono ?_; rintro e w5 ⟨rfl, hw⟩
  have HC := Lib.hid (HC.out.call hw)
  clear hw
  have hC := HC.out
  (have HC := Lib.hid hC
   have sos := hC.below.os
   obtain ⟨⟨r1, f1, i1, b1, l1⟩, ⟨r2, f2, i2, b2, l2⟩, ⟨r3, f3, i3, b3, l3⟩, ⟨r4, f4, i4, b4, l4⟩, m12, m21, m13, m31, m14, m41, m23, m32, m24, m42, m34, m43⟩ := St.facts4 hC
   clear hC)
  go_wp2_with fail
  refine bodyPost_ret (results_row rfl _ (w.heap.size + 1) rfl (blk 16 (sumB h a b)) ?_ ?_ ?_ ?_) rfl ⟨rfl, ?_⟩
  · simp [go_sem, *]; rfl
  · simp [go_sem]
  · simp [go_sem]
  · simp [go_sem, *]
  · exact below_setRow' HC.out.below (by omega) _

/-! ### a coefficient -/
def bitB (b : Nat → UInt8) (i : Nat) : Bool := (num b).testBit (127 - i)
theorem byte_bit (b : Nat → UInt8) (q k : Nat) (hq : q < 16) (hk : k < 8) : (b q).toNat.testBit k = (num b).testBit (8 * (15 - q) + k) := by
  rw [← unum_num b q hq]
  unfold unum byteN
  rw [UInt8.toNat_ofNat', show 16 - 1 - q = 15 - q by omega, show (256 : Nat) = 2 ^ 8 from rfl, ← Nat.pow_mul, ← Nat.shiftRight_eq_div_pow, Nat.testBit_mod_two_pow, Nat.testBit_shiftRight]
  simp [hk]
theorem B_shr (x : UInt8) (k : Nat) (h : k < 8) : B x / (2 : Int) ^ k = B (x >>> UInt8.ofNat k) := by
  unfold B
  rw [UInt8.toNat_shiftRight, Nat.shiftRight_eq_div_pow, UInt8.toNat_ofNat_of_lt' (by have : UInt8.size = 256 := rfl; omega), Nat.mod_eq_of_lt h]
  simp
theorem B_and1 (x : UInt8) : bits BinOp.and IntKind.u8 (B x) 1 = B (x &&& 1) := B_and x 1
def quo8 (i : Nat) : Nat := i / 8
def rem8 (i : Nat) : Nat := i % 8
def sh7 (i : Nat) : Nat := 7 - i % 8
theorem bit_test (b : Nat → UInt8) (i : Nat) (hi : i < 128) : (B (b (quo8 i) >>> UInt8.ofNat (sh7 i) &&& 1) == 1) = bitB b i := by
  have h := byte_bit b (quo8 i) (sh7 i) (by unfold quo8; omega) (by unfold sh7; omega)
  rw [show 8 * (15 - quo8 i) + sh7 i = 127 - i by unfold quo8 sh7; omega] at h
  unfold bitB
  rw [← h]
  have e : B (b (quo8 i) >>> UInt8.ofNat (sh7 i) &&& 1) = (((b (quo8 i)).toNat / 2 ^ sh7 i % 2 : Nat) : Int) := by
    unfold B
    rw [UInt8.toNat_and, UInt8.toNat_shiftRight, UInt8.toNat_ofNat_of_lt' (by have : UInt8.size = 256 := rfl; unfold sh7; omega), show sh7 i % 8 = sh7 i by unfold sh7; omega, Nat.shiftRight_eq_div_pow]
    show ((_ &&& 1 : Nat) : Int) = _
    rw [Nat.and_one_is_mod]
  rw [e, Nat.testBit_eq_decide_div_mod_eq, Bool.eq_iff_iff]
  simp only [beq_iff_eq, decide_eq_true_eq]
  omega
attribute [local go_sem] B_shr B_and1
end Go.Proofs.Ytgaecjhghpkcoaa
end
