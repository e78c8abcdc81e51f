/- Rows made of texts ([]byte(s)), and parts of rows (b[i:], b[:i]), as rules for the walk. No condition beside those that each rule names. -/
import Derived.Test.YtepooocdpifcfaaStr
import Derived.Test.YtepooocdpifcfaaSt
import Derived.Laws.IdiomStrings
namespace Go.Proofs.Ytepooocdpifcfaa
open Go.RowKit

/-- the room of a row that is made of a text -/
def capS (w : World) (n : Nat) (e : TypeId) : Nat := grownCap w n 0 e
theorem capS_ge (w : World) (n : Nat) (e : TypeId) : n ≤ capS w n e := grownCap_ge w n 0 e
theorem capS_le (w : World) (n : Nat) (e : TypeId) (h : n ≤ maxLen) : capS w n e ≤ maxLen := grownCap_le_maxLen w n 0 e h
theorem ofText_out (s : ByteArray) (i : Nat) (h : s.size ≤ i) : ofText s i = 0 := by
  have hsz : s.data.size = s.size := rfl
  simp [ofText, Array.getElem?_eq_none (show s.data.size ≤ i by omega)]
theorem bytesRow_blk (s : ByteArray) (c : Nat) (h : s.size ≤ c) : bytesRow s c = blk c (ofText s) := by
  have hsz : s.data.size = s.size := rfl
  apply Array.ext_getElem?
  intro i
  unfold bytesRow
  by_cases hi : i < s.size
  · rw [blk_get _ _ _ (by omega), Array.getElem?_append_left (by simpa using hi)]
    simp [ofText, B, Array.getElem?_eq_getElem (show i < s.data.size by omega)]
  · rw [Array.getElem?_append_right (by simp; omega)]
    by_cases hc : i < c
    · rw [blk_get _ _ _ hc, ofText_out s i (by omega), Array.getElem?_replicate, if_pos (by simp; omega)]
      rfl
    · rw [Array.getElem?_replicate, if_neg (by simp; omega)]
      simp [blk_size, Nat.le_of_not_lt hc]
section
variable {P : Program} {w : World}
def convSB (src dst : TypeId) (x : Value) : Sem Value := convert src dst x
theorem convSB_row (src dst : TypeId) (s : ByteArray) (hs : P.underlying src = some .string) (hd : P.underlying dst = some (.slice (P.elem dst))) (he : P.underlying (P.elem dst) = some (.int .u8)) :
    (convSB src dst (.string s)).run P w = .ok (.slice (some ⟨w.heap.size, 0, none⟩) s.size (capS w s.size (P.elem dst)))
      (w.drew.alloc (.cells (blk (capS w s.size (P.elem dst)) (ofText s)) (P.elem dst) (capS w s.size (P.elem dst), capS w s.size (P.elem dst) + 1))) := by
  have h := run_bytes_of_string w src dst (P.elem dst) s hs hd he
  rw [bytesRow_blk s _ (grownCap_ge w s.size 0 _), blk_size] at h
  exact h
theorem freeRow_endB (n : Nat) (f : Nat → UInt8) (t : TypeId) (m k : Nat) : freeRow (w.alloc (.cells (blk n f) t (n, m))) k = if k = w.heap.size then true else freeRow w k := by
  rw [freeRow_mark, blk_size, unmarked_end]
end
theorem convSB_in (x : Value) : convert 9 33 x = convSB 9 33 x := rfl
theorem St.pushM {w0 a : World} {L : List (Nat × Array Value)} (h : St w0 L a) (n : Nat) (f : Nat → UInt8) (t : TypeId) (m : Nat) : St w0 ((a.heap.size, blk n f) :: L) (a.alloc (.cells (blk n f) t (n, m))) := by
  have h' := h.skip (.cells (blk n f) t (n, m))
  refine ⟨h'.below, ?_, ?_⟩
  · simp only [List.map_cons, List.nodup_cons]
    refine ⟨fun hm => ?_, h.ne⟩
    obtain ⟨x, hx, he⟩ := List.mem_map.1 hm
    have := (h.rows x hx).1.2
    omega
  · intro x hx
    rcases List.mem_cons.1 hx with rfl | hx
    · refine ⟨⟨h.below.size, by simp⟩, ?_, ?_, ?_⟩
      · simp [rowAt_alloc]
      · simp [freeRow_endB]
      · simp [isRow_alloc]
    · exact h'.rows x hx
theorem St.pushMA {w0 a : World} {L : List (Nat × Array Value)} (h : St w0 L a) (n : Nat) (f : Nat → UInt8) (t : TypeId) (m : Nat) {g : Nat} (hg : a.heap.size = g) : St w0 ((g, blk n f) :: L) (a.alloc (.cells (blk n f) t (n, m))) := hg ▸ h.pushM n f t m

/-! ### parts of rows -/
/-- where a part begins: at its end the machine keeps the elder address -/
def sOff (o m l : Nat) : Nat := if m = l then o else o + l
theorem sOff_zero (o m : Nat) : sOff o m 0 = o := by simp [sOff]
theorem sOff_in (o m l n : Nat) (h : l + n ≤ m) (hn : 0 < n) : sOff o m l = o + l := by unfold sOff; rw [if_neg (by omega)]
theorem sOff_le (m l n : Nat) (h : l + n ≤ m) : sOff 0 m l + n ≤ m := by unfold sOff; split <;> omega
theorem sliced_row (g o l h m : Nat) : sliced (some ⟨g, o, none⟩) l h m 1 = .slice (some ⟨g, sOff o m l, none⟩) (h - l) (m - l) := by
  unfold sliced sOff
  split
  · rfl
  · simp [add_mid]
section
variable {P : Program} {w : World}
theorem slice_from (t : TypeId) (g o n cap : Nat) (kd : IntKind) (k : Int) (h : P.underlying t = some (.slice (P.elem t))) (hs : (sizeOf (P.elem t)).run P w = .ok 1 w) (h0 : 0 ≤ k) (hk : k ≤ (n : Int)) :
    (Instr.slice t (.slice (some ⟨g, o, none⟩) n cap) (some (.int kd k)) none none).run P w = .ok (.slice (some ⟨g, sOff o cap k.toNat, none⟩) (n - k.toNat) (cap - k.toNat)) w := by
  rw [run_slice_l (P := P) w t (some ⟨g, o, none⟩) n cap h kd k h0 hk, hs]
  simp only [Result.andThen_ok, sliced_row]
theorem slice_to (t : TypeId) (g o n cap : Nat) (kd : IntKind) (k : Int) (h : P.underlying t = some (.slice (P.elem t))) (hs : (sizeOf (P.elem t)).run P w = .ok 1 w) (h0 : 0 ≤ k) (hk : k ≤ (cap : Int)) :
    (Instr.slice t (.slice (some ⟨g, o, none⟩) n cap) none (some (.int kd k)) none).run P w = .ok (.slice (some ⟨g, o, none⟩) k.toNat cap) w := by
  rw [run_slice_h (P := P) w t (some ⟨g, o, none⟩) n cap h kd k h0 hk, hs]
  simp only [Result.andThen_ok, sliced_row, sOff_zero, Nat.sub_zero]
end
theorem strOf_off (m l n : Nat) (f : Nat → UInt8) (h : l + n ≤ m) : strOf (sOff 0 m l + n - sOff 0 m l) (fun j => f (sOff 0 m l + j)) = strOf n fun j => f (l + j) := by
  rw [Nat.add_sub_cancel_left]
  by_cases hn : 0 < n
  · rw [sOff_in 0 m l n h hn, Nat.zero_add]
  · obtain rfl : n = 0 := by omega
    rfl
end Go.Proofs.Ytepooocdpifcfaa
