/- A key at work with an iv, as a row of 192 bytes; counter blocks; what is put together with secret blocks; tags; sealed texts. Plain. * The program's begin, pad, Hash: a key at work with an iv. Numbers of 32 bits. * Bytes put together with secret blocks, as the program does it. Texts no longer than the machine's ints. * The program's Stream, Tag, Seal, Open. Texts shorter than 2 to 40. * The program's Open. Texts shorter than 2 to 40. -/
import Derived.Test.YtinlcpenllfcpaaMGha
import Derived.Test.YtinlcpenllfcpaaMGhaRef
import Derived.Test.YtinlcpenllfcpaaMCipRef
section
namespace Go.Proofs.Ytinlcpenllfcpaa
open Go.RowKit

/-! ### values built of rows -/
theorem zipIdx_blk (n : Nat) (g : Nat → UInt8) : (blk n g).zipIdx = ((List.range n).map fun i => (Value.int .u8 (B (g i)), i)).toArray := by
  apply Array.ext_getElem?
  intro i
  by_cases h : i < n
  · simp [blk, h]
  · simp [blk, h]
theorem fold_blk (N : Nat) (f g : Nat → UInt8) (o : Nat) : ∀ n, o + n ≤ N → ((List.range n).map fun i => (Value.int .u8 (B (g i)), i)).foldl (fun (cs : Array Value) (x : Value × Nat) => cs.setIfInBounds (o + x.2) x.1) (blk N f) = blk N (cpy f o g 0 n)
  | 0, _ => blk_congr fun i _ => by simp [cpy]; omega
  | n + 1, h => by
    rw [List.range_succ, List.map_append, List.foldl_append, fold_blk N f g o n (by omega)]
    simp only [List.map_cons, List.map_nil, List.foldl_cons, List.foldl_nil, blk_set]
    refine blk_congr fun i _ => ?_
    unfold upd cpy
    by_cases h1 : i = o + n
    · subst h1
      rw [if_pos rfl, if_pos (by omega)]; congr 1; omega
    · rw [if_neg h1]
      by_cases h2 : o ≤ i ∧ i < o + n
      · rw [if_pos h2, if_pos (by omega)]
      · rw [if_neg h2, if_neg (by omega)]
theorem build_blk (N n : Nat) (f g : Nat → UInt8) (o : Nat) (h : o + n ≤ N) : Array.foldl (fun (cs : Array Value) (x : Value × Nat) => cs.setIfInBounds (o + x.snd) x.fst) (blk N f) (blk n g).zipIdx 0 n = blk N (cpy f o g 0 n) := by
  rw [zipIdx_blk, List.foldl_toArray' _ _ _ (by simp)]
  exact fold_blk N f g o n h
theorem build_blk0 (N n : Nat) (f g : Nat → UInt8) (h : n ≤ N) : Array.foldl (fun (cs : Array Value) (x : Value × Nat) => cs.setIfInBounds x.snd x.fst) (blk N f) (blk n g).zipIdx 0 n = blk N (cpy f 0 g 0 n) := by
  have := build_blk N n f g 0 (by omega)
  simpa only [Nat.zero_add] using this

/-! ### a key at work -/
/-- the rounds, and the iv -/
def wk (r v : Nat → UInt8) : Nat → UInt8 := fun j => if j < 176 then r j else v (j - 176)
theorem wk_head (r v : Nat → UInt8) : blk 176 (wk r v) = blk 176 r := blk_congr fun i hi => by simp [wk, hi]
theorem wk_tail (r v : Nat → UInt8) : blk 16 (fun j => wk r v (176 + j)) = blk 16 v := blk_congr fun i _ => by
  unfold wk; rw [if_neg (by omega), Nat.add_sub_cancel_left]
theorem wk_upd (r v : Nat → UInt8) (i : Nat) (x : UInt8) : blk 192 (upd (wk r v) (176 + i) x) = blk 192 (wk r (upd v i x)) := blk_congr fun j _ => by
  unfold wk
  by_cases h : j = 176 + i
  · subst h; rw [upd_same, if_neg (by omega), Nat.add_sub_cancel_left, upd_same]
  · rw [upd_other _ _ _ _ h]
    by_cases h2 : j < 176
    · rw [if_pos h2, if_pos h2]
    · rw [if_neg h2, if_neg h2, upd_other _ _ _ _ (by omega)]
theorem wk_begin (r : Nat → UInt8) : blk 192 (cpy (fun _ => 0) 0 r 0 176) = blk 192 (wk r fun _ => 0) := blk_congr fun j _ => by
  unfold cpy wk
  by_cases h : j < 176
  · rw [if_pos (by omega), if_pos h, Nat.zero_add, Nat.sub_zero]
  · rw [if_neg (by omega), if_neg h]
theorem wk_iv (r : Nat → UInt8) (s : ByteArray) (hs : s.size = 12) : blk 192 (cpy (wk r fun _ => 0) 176 (ofText s) 0 12) = blk 192 (wk r (ofText s)) := blk_congr fun j _ => by
  unfold cpy wk
  by_cases h : 176 ≤ j ∧ j < 176 + 12
  · rw [if_pos h, if_neg (by omega), Nat.zero_add]
  · rw [if_neg h]
    by_cases h2 : j < 176
    · rw [if_pos h2, if_pos h2]
    · rw [if_neg h2, if_neg h2, ofText_out s _ (by omega)]

/-- the number's bytes behind the iv, k of them -/
def ctrTo (v : Nat → UInt8) (n k : Nat) : Nat → UInt8 := fun j => if 16 - k ≤ j ∧ j < 16 then UInt8.ofNat (n / 256 ^ (15 - j)) else v j
def ctr (v : Nat → UInt8) (n : Nat) : Nat → UInt8 := ctrTo v n 4
theorem ctrTo_zero (v : Nat → UInt8) (n : Nat) : ctrTo v n 0 = v := by
  funext j; unfold ctrTo; rw [if_neg (by omega)]
theorem ctrTo_next (v : Nat → UInt8) (n k : Nat) (hk : k < 16) : upd (ctrTo v n k) (15 - k) (UInt8.ofNat (n / 256 ^ k)) = ctrTo v n (k + 1) := by
  funext j
  unfold upd ctrTo
  by_cases h : j = 15 - k
  · subst h
    rw [if_pos rfl, if_pos (by omega), show 15 - (15 - k) = k by omega]
  · rw [if_neg h]
    by_cases h2 : 16 - k ≤ j ∧ j < 16
    · rw [if_pos h2, if_pos (by omega)]
    · rw [if_neg h2, if_neg (by omega)]
/-- the secret block of a number -/
def padB (r v : Nat → UInt8) (n : Nat) : Nat → UInt8 := Ci.sealB r (ctr v n)
/-- numbers of 32 bits go round -/
def nx (n : Nat) : Nat := (n + 1) % 4294967296
def nxN (n k : Nat) : Nat := (n + k) % 4294967296
theorem nxN_zero {n : Nat} (h : n < 4294967296) : nxN n 0 = n := Nat.mod_eq_of_lt h
theorem nxN_next (n k : Nat) : nx (nxN n k) = nxN n (k + 1) := by unfold nx nxN; omega
theorem nxN_lt (n k : Nat) : nxN n k < 4294967296 := Nat.mod_lt _ (by omega)
/-- a text together with secret blocks, from a number on -/
def strB (r v : Nat → UInt8) (n : Nat) (f : Nat → UInt8) : Nat → UInt8 := fun j => f j ^^^ padB r v (nxN n (j / 16)) (j % 16)
def strS (r v : Nat → UInt8) (n : Nat) (s : ByteArray) : ByteArray := strOf s.size (strB r v n (ofText s))
/-- what sums are multiplied by -/
def hashB (r : Nat → UInt8) : Nat → UInt8 := Ci.sealB r fun _ => 0
def tagB (r v : Nat → UInt8) (a s : ByteArray) : Nat → UInt8 := Ci.xorB (sumB (hashB r) a s) (padB r v 1)
def tagS (r v : Nat → UInt8) (a s : ByteArray) : ByteArray := strOf 16 (tagB r v a s)
theorem strS_size (r v : Nat → UInt8) (n : Nat) (s : ByteArray) : (strS r v n s).size = s.size := strOf_size _ _
theorem tagS_size (r v : Nat → UInt8) (a s : ByteArray) : (tagS r v a s).size = 16 := strOf_size _ _
end Go.Proofs.Ytinlcpenllfcpaa
end

section
namespace Go.Proofs.Ytinlcpenllfcpaa
open Go.RowKit
attribute [local go_sem] B_xor B_or B_and
attribute [local go_sem] blk_set blk_size blk_get blk_getE upd_same oneCells_blk paste_blk cut_blk szOf
attribute [local go_sem high] paste_all cut_head
attribute [local go_sem] rowAt_alloc rowAt_drew rowAt_drewN isRow_alloc isRow_drew isRow_drewN freeRow_alloc freeRow_end freeRow_drew freeRow_drewN
attribute [local go_sem] setRow_alloc setRow_drew setRow_drewN setCell_drewN alloc_drewN rowAt_put isRow_setRow freeRow_put
attribute [local go_sem ↓] loadS_in storeS_in indexS_in copyS_in
attribute [local go_sem] loadS_row loadS_one storeS_row storeS_one indexS_blk copyS_rows run_equalIn_blk same_refl arrayAt_row
attribute [local go_sem] cell_row frozen_row st_setCell st_blk_ne stepAt stepUpon
attribute [local go_sem high] run_eql_blk run_neq_blk
attribute [local go_sem ↓] convBS_in
attribute [local go_sem] convBS_row convBS_nil allBytes_blk bytesOf_blk
attribute [local go_sem] build_blk build_blk0

/-- a text, into a part of a row -/
theorem copyS_at {P : Program} {w : World} (dT sT ty : TypeId) (g o n dCap m : Nat) (s : ByteArray) (hm : s.size = m) (hmn : m ≤ n) (hu : P.underlying dT = some (.slice (P.elem dT))) (hs : (sizeOf (P.elem dT)).run P w = .ok 1 w)
    (hr : freeRow w g = true) (hg : o + m ≤ (rowAt w g).size) :
    (copyS #[dT, sT] ty #[.slice (some ⟨g, o, none⟩) n dCap, .string s]).run P w = .ok (goInt (m : Int)) (w.setRow g (paste (rowAt w g) o (blk m (ofText s)))) := by
  subst hm
  have hst := run_storeCells_row (P := P) g o (blk s.size (ofText s)) hr (by rw [blk_size]; omega) (oneCells_blk _ _)
  have hc := text_cells s
  have hmm : Nat.min s.size n = s.size := Nat.min_eq_left hmn
  simp only [copyS, Builtin.copy_, List.getElem?_toArray, List.getElem?_cons_zero, List.getElem?_cons_succ, Sem.run_bind, run_underlying hu, Result.andThen_ok, Builtin.lenOf, Sem.run_pure, hs, Builtin.firstCells, hmm, hc, hst]

def dn15 (k : Nat) : Nat := 15 - k
def shN (n k : Nat) : Nat := n / 256 ^ k
theorem shN_next (n k : Nat) : shN n k / 256 = shN n (k + 1) := by unfold shN; rw [Nat.div_div_eq_div_mul, ← Nat.pow_succ]
theorem shN_lt {n : Nat} (h : n < 4294967296) (k : Nat) : shN n k < 4294967296 := Nat.lt_of_le_of_lt (Nat.div_le_self _ _) h
theorem byte_of (n : Nat) : IntKind.u8.wrap (n : Int) = B (UInt8.ofNat n) := by
  unfold B
  rw [UInt8.toNat_ofNat']
  simp [IntKind.wrap, IntKind.signed, IntKind.bits]
end Go.Proofs.Ytinlcpenllfcpaa
end

section
namespace Go.Proofs.Ytinlcpenllfcpaa
open Go.RowKit
attribute [local go_sem] B_xor B_or B_and
attribute [local go_sem] blk_set blk_size blk_get blk_getE upd_same oneCells_blk paste_blk cut_blk szOf
attribute [local go_sem high] paste_all cut_head
attribute [local go_sem] rowAt_alloc rowAt_drew rowAt_drewN isRow_alloc isRow_drew isRow_drewN freeRow_alloc freeRow_end freeRow_drew freeRow_drewN
attribute [local go_sem] setRow_alloc setRow_drew setRow_drewN setCell_drewN alloc_drewN rowAt_put isRow_setRow freeRow_put
attribute [local go_sem ↓] loadS_in storeS_in indexS_in copyS_in
attribute [local go_sem] loadS_row loadS_one storeS_row storeS_one indexS_blk copyS_rows run_equalIn_blk same_refl arrayAt_row
attribute [local go_sem] cell_row frozen_row st_setCell st_blk_ne stepAt stepUpon
attribute [local go_sem high] run_eql_blk run_neq_blk
attribute [local go_sem ↓] convBS_in
attribute [local go_sem] convBS_row convBS_nil allBytes_blk bytesOf_blk
attribute [local go_sem ↓] convSB_in
attribute [local go_sem] convSB_row freeRow_endB

def c32 (n : Nat) : Array Value := #[.int .u32 (n : Int)]
theorem c32_size (n : Nat) : (c32 n).size = 1 := rfl
theorem c32_get (n : Nat) : (c32 n)[0]? = some (.int .u32 (n : Int)) := rfl
theorem c32_set (n m : Nat) : (c32 n).setIfInBounds 0 (.int .u32 (m : Int)) = c32 m := rfl
theorem c32_of (n : Nat) : #[Value.int .u32 (n : Int)] = c32 n := rfl
theorem c32_wrap (n : Nat) : IntKind.u32.wrap ((n : Int) + 1) = (nx n : Int) := by
  unfold nx; simp [IntKind.wrap, IntKind.signed, IntKind.bits]
attribute [local go_sem] c32_size c32_get c32_set
def cl16 (k : Nat) : Nat := (k + 15) / 16
def q16 (k : Nat) : Nat := k / 16
def m16 (k : Nat) : Nat := k % 16
def padK (r v : Nat → UInt8) (n k : Nat) : Nat → UInt8 := if k = 0 then fun _ => 0 else padB r v (nxN n ((k - 1) / 16))
theorem strB_at (r v : Nat → UInt8) (n : Nat) (f : Nat → UInt8) (k : Nat) : f k ^^^ padB r v (nxN n (q16 k)) (m16 k) = strB r v n f k := rfl
theorem strOf_upTo (n : Nat) (f g : Nat → UInt8) : strOf n (upTo f g n) = strOf n g := strOf_congr fun i hi => by simp [upTo, hi]
end Go.Proofs.Ytinlcpenllfcpaa
end

section
namespace Go.Proofs.Ytinlcpenllfcpaa
open Go.RowKit
attribute [local go_sem] B_xor B_or B_and
attribute [local go_sem] blk_set blk_size blk_get blk_getE upd_same oneCells_blk paste_blk cut_blk szOf
attribute [local go_sem high] paste_all cut_head
attribute [local go_sem] rowAt_alloc rowAt_drew rowAt_drewN isRow_alloc isRow_drew isRow_drewN freeRow_alloc freeRow_end freeRow_drew freeRow_drewN
attribute [local go_sem] setRow_alloc setRow_drew setRow_drewN setCell_drewN alloc_drewN rowAt_put isRow_setRow freeRow_put
attribute [local go_sem ↓] loadS_in storeS_in indexS_in copyS_in
attribute [local go_sem] loadS_row loadS_one storeS_row storeS_one indexS_blk copyS_rows run_equalIn_blk same_refl arrayAt_row
attribute [local go_sem] cell_row frozen_row st_setCell st_blk_ne stepAt stepUpon
attribute [local go_sem high] run_eql_blk run_neq_blk
attribute [local go_sem ↓] convBS_in
attribute [local go_sem] convBS_row convBS_nil allBytes_blk bytesOf_blk
attribute [local go_sem ↓] convSB_in
attribute [local go_sem] convSB_row freeRow_endB indexS_text

/-- a sealed text -/
def sealS (r v : Nat → UInt8) (a s : ByteArray) : ByteArray := strS r v 2 s ++ tagS r v a (strS r v 2 s)
end Go.Proofs.Ytinlcpenllfcpaa
end

section
namespace Go.Proofs.Ytinlcpenllfcpaa
open Go.RowKit
attribute [local go_sem] B_xor B_or B_and
attribute [local go_sem] blk_set blk_size blk_get blk_getE upd_same oneCells_blk paste_blk cut_blk szOf
attribute [local go_sem high] paste_all cut_head
attribute [local go_sem] rowAt_alloc rowAt_drew rowAt_drewN isRow_alloc isRow_drew isRow_drewN freeRow_alloc freeRow_end freeRow_drew freeRow_drewN
attribute [local go_sem] setRow_alloc setRow_drew setRow_drewN setCell_drewN alloc_drewN rowAt_put isRow_setRow freeRow_put
attribute [local go_sem ↓] loadS_in storeS_in indexS_in copyS_in
attribute [local go_sem] loadS_row loadS_one storeS_row storeS_one indexS_blk copyS_rows run_equalIn_blk same_refl arrayAt_row
attribute [local go_sem] cell_row frozen_row st_setCell st_blk_ne stepAt stepUpon
attribute [local go_sem high] run_eql_blk run_neq_blk
attribute [local go_sem ↓] convBS_in
attribute [local go_sem] convBS_row convBS_nil allBytes_blk bytesOf_blk
attribute [local go_sem ↓] convSB_in
attribute [local go_sem] convSB_row freeRow_endB indexS_text

def cutS (s : ByteArray) : ByteArray := s.extract 0 (s.size - 16)
def endS (s : ByteArray) : ByteArray := s.extract (s.size - 16) s.size
/-- is its tag the one that it should be? -/
def tagged (r v : Nat → UInt8) (a s : ByteArray) : Bool := same 16 (tagB r v a (cutS s)) (ofText (endS s))
def orTo (f g : Nat → UInt8) : Nat → UInt8
  | 0 => 0
  | k + 1 => orTo f g k ||| (f k ^^^ g k)
theorem or_zero (a b : UInt8) : a ||| b = 0 ↔ a = 0 ∧ b = 0 := by
  rw [← UInt8.toNat_inj, ← UInt8.toNat_inj, ← UInt8.toNat_inj, UInt8.toNat_or]
  simp
theorem xor_zero (a b : UInt8) : a ^^^ b = 0 ↔ a = b := by
  constructor
  · intro h
    have : (a ^^^ b) ^^^ b = 0 ^^^ b := by rw [h]
    rwa [UInt8.xor_assoc, UInt8.xor_self, UInt8.xor_zero, UInt8.zero_xor] at this
  · rintro rfl; exact UInt8.xor_self
theorem orTo_zero (f g : Nat → UInt8) : ∀ k, orTo f g k = 0 ↔ ∀ i, i < k → f i = g i
  | 0 => by simp [orTo]
  | k + 1 => by
    rw [orTo, or_zero, xor_zero, orTo_zero f g k]
    constructor
    · rintro ⟨h1, h2⟩ i hi
      by_cases h : i < k
      · exact h1 i h
      · rw [show i = k by omega]; exact h2
    · intro h; exact ⟨fun i hi => h i (by omega), h k (by omega)⟩
theorem orTo_test (f g : Nat → UInt8) (k : Nat) : (B (orTo f g k) != 0) = !same k f g := by
  rw [Bool.eq_iff_iff, Bool.not_eq_true', bne_iff_ne]
  have h1 : B (orTo f g k) = 0 ↔ same k f g = true := by
    rw [same_iff, ← orTo_zero]
    exact ⟨fun h => B_inj (h.trans rfl), fun h => by rw [h]; rfl⟩
  constructor
  · intro h
    cases hs : same k f g with
    | false => rfl
    | true => exact (h (h1.2 hs)).elim
  · intro h e
    rw [h1.1 e] at h; cases h

end Go.Proofs.Ytinlcpenllfcpaa
end
