/- A key at work with an iv, as a row of 192 bytes; counter blocks; what is put together with secret blocks; tags; sealed texts. Plain. * The program's begin, pad, Hash: a key at work with an iv. Numbers of 32 bits. * Bytes put together with secret blocks, as the program does it. Texts no longer than the machine's ints. * The program's Stream, Tag, Seal, Open. Texts shorter than 2 to 40. * The program's Open. Texts shorter than 2 to 40. -/
import Derived.Test.YtgaecjhghpkcoaaMGha
import Derived.Test.YtgaecjhghpkcoaaMGhaRef
import Derived.Test.YtgaecjhghpkcoaaMCipRef
section
namespace Go.Proofs.Ytgaecjhghpkcoaa
open Go.RowKit

/-! ### values built of rows -/
theorem zipIdx_blk (n : Nat) (g : Nat → UInt8) : (blk n g).zipIdx = ((List.range n).map fun i => (Value.int .u8 (B (g i)), i)).toArray := by
  apply Array.ext_getElem?
  intro i
  by_cases h : i < n
  · simp [blk, h]
  · simp [blk, h]
theorem fold_blk (N : Nat) (f g : Nat → UInt8) (o : Nat) : ∀ n, o + n ≤ N → ((List.range n).map fun i => (Value.int .u8 (B (g i)), i)).foldl (fun (cs : Array Value) (x : Value × Nat) => cs.setIfInBounds (o + x.2) x.1) (blk N f) = blk N (cpy f o g 0 n)
  | 0, _ => blk_congr fun i _ => by simp [cpy]; omega
  | n + 1, h => by
    rw [List.range_succ, List.map_append, List.foldl_append, fold_blk N f g o n (by omega)]
    simp only [List.map_cons, List.map_nil, List.foldl_cons, List.foldl_nil, blk_set]
    refine blk_congr fun i _ => ?_
    unfold upd cpy
    by_cases h1 : i = o + n
    · subst h1
      rw [if_pos rfl, if_pos (by omega)]; congr 1; omega
    · rw [if_neg h1]
      by_cases h2 : o ≤ i ∧ i < o + n
      · rw [if_pos h2, if_pos (by omega)]
      · rw [if_neg h2, if_neg (by omega)]
theorem build_blk (N n : Nat) (f g : Nat → UInt8) (o : Nat) (h : o + n ≤ N) : Array.foldl (fun (cs : Array Value) (x : Value × Nat) => cs.setIfInBounds (o + x.snd) x.fst) (blk N f) (blk n g).zipIdx 0 n = blk N (cpy f o g 0 n) := by
  rw [zipIdx_blk, List.foldl_toArray' _ _ _ (by simp)]
  exact fold_blk N f g o n h
theorem build_blk0 (N n : Nat) (f g : Nat → UInt8) (h : n ≤ N) : Array.foldl (fun (cs : Array Value) (x : Value × Nat) => cs.setIfInBounds x.snd x.fst) (blk N f) (blk n g).zipIdx 0 n = blk N (cpy f 0 g 0 n) := by
  have := build_blk N n f g 0 (by omega)
  simpa only [Nat.zero_add] using this

/-! ### a key at work -/
/-- the rounds, and the iv -/
def wk (r v : Nat → UInt8) : Nat → UInt8 := fun j => if j < 176 then r j else v (j - 176)
theorem wk_head (r v : Nat → UInt8) : blk 176 (wk r v) = blk 176 r := blk_congr fun i hi => by simp [wk, hi]
theorem wk_tail (r v : Nat → UInt8) : blk 16 (fun j => wk r v (176 + j)) = blk 16 v := blk_congr fun i _ => by
  unfold wk; rw [if_neg (by omega), Nat.add_sub_cancel_left]
theorem wk_upd (r v : Nat → UInt8) (i : Nat) (x : UInt8) : blk 192 (upd (wk r v) (176 + i) x) = blk 192 (wk r (upd v i x)) := blk_congr fun j _ => by
  unfold wk
  by_cases h : j = 176 + i
  · subst h; rw [upd_same, if_neg (by omega), Nat.add_sub_cancel_left, upd_same]
  · rw [upd_other _ _ _ _ h]
    by_cases h2 : j < 176
    · rw [if_pos h2, if_pos h2]
    · rw [if_neg h2, if_neg h2, upd_other _ _ _ _ (by omega)]
theorem wk_begin (r : Nat → UInt8) : blk 192 (cpy (fun _ => 0) 0 r 0 176) = blk 192 (wk r fun _ => 0) := blk_congr fun j _ => by
  unfold cpy wk
  by_cases h : j < 176
  · rw [if_pos (by omega), if_pos h, Nat.zero_add, Nat.sub_zero]
  · rw [if_neg (by omega), if_neg h]
theorem wk_iv (r : Nat → UInt8) (s : ByteArray) (hs : s.size = 12) : blk 192 (cpy (wk r fun _ => 0) 176 (ofText s) 0 12) = blk 192 (wk r (ofText s)) := blk_congr fun j _ => by
  unfold cpy wk
  by_cases h : 176 ≤ j ∧ j < 176 + 12
  · rw [if_pos h, if_neg (by omega), Nat.zero_add]
  · rw [if_neg h]
    by_cases h2 : j < 176
    · rw [if_pos h2, if_pos h2]
    · rw [if_neg h2, if_neg h2, ofText_out s _ (by omega)]

/-- the number's bytes behind the iv, k of them -/
def ctrTo (v : Nat → UInt8) (n k : Nat) : Nat → UInt8 := fun j => if 16 - k ≤ j ∧ j < 16 then UInt8.ofNat (n / 256 ^ (15 - j)) else v j
def ctr (v : Nat → UInt8) (n : Nat) : Nat → UInt8 := ctrTo v n 4
theorem ctrTo_zero (v : Nat → UInt8) (n : Nat) : ctrTo v n 0 = v := by
  funext j; unfold ctrTo; rw [if_neg (by omega)]
theorem ctrTo_next (v : Nat → UInt8) (n k : Nat) (hk : k < 16) : upd (ctrTo v n k) (15 - k) (UInt8.ofNat (n / 256 ^ k)) = ctrTo v n (k + 1) := by
  funext j
  unfold upd ctrTo
  by_cases h : j = 15 - k
  · subst h
    rw [if_pos rfl, if_pos (by omega), show 15 - (15 - k) = k by omega]
  · rw [if_neg h]
    by_cases h2 : 16 - k ≤ j ∧ j < 16
    · rw [if_pos h2, if_pos (by omega)]
    · rw [if_neg h2, if_neg (by omega)]
/-- the secret block of a number -/
def padB (r v : Nat → UInt8) (n : Nat) : Nat → UInt8 := Ci.sealB r (ctr v n)
/-- numbers of 32 bits go round -/
def nx (n : Nat) : Nat := (n + 1) % 4294967296
def nxN (n k : Nat) : Nat := (n + k) % 4294967296
theorem nxN_zero {n : Nat} (h : n < 4294967296) : nxN n 0 = n := Nat.mod_eq_of_lt h
theorem nxN_next (n k : Nat) : nx (nxN n k) = nxN n (k + 1) := by unfold nx nxN; omega
theorem nxN_lt (n k : Nat) : nxN n k < 4294967296 := Nat.mod_lt _ (by omega)
/-- a text together with secret blocks, from a number on -/
def strB (r v : Nat → UInt8) (n : Nat) (f : Nat → UInt8) : Nat → UInt8 := fun j => f j ^^^ padB r v (nxN n (j / 16)) (j % 16)
def strS (r v : Nat → UInt8) (n : Nat) (s : ByteArray) : ByteArray := strOf s.size (strB r v n (ofText s))
/-- what sums are multiplied by -/
def hashB (r : Nat → UInt8) : Nat → UInt8 := Ci.sealB r fun _ => 0
def tagB (r v : Nat → UInt8) (a s : ByteArray) : Nat → UInt8 := Ci.xorB (sumB (hashB r) a s) (padB r v 1)
def tagS (r v : Nat → UInt8) (a s : ByteArray) : ByteArray := strOf 16 (tagB r v a s)
theorem strS_size (r v : Nat → UInt8) (n : Nat) (s : ByteArray) : (strS r v n s).size = s.size := strOf_size _ _
theorem tagS_size (r v : Nat → UInt8) (a s : ByteArray) : (tagS r v a s).size = 16 := strOf_size _ _
end Go.Proofs.Ytgaecjhghpkcoaa
end

section
namespace Go.Proofs.Ytgaecjhghpkcoaa
open Go.RowKit
attribute [local go_sem] B_xor B_or B_and
attribute [local go_sem] blk_set blk_size blk_get blk_getE upd_same oneCells_blk paste_blk cut_blk szOf
attribute [local go_sem high] paste_all cut_head
attribute [local go_sem] rowAt_alloc rowAt_drew rowAt_drewN isRow_alloc isRow_drew isRow_drewN freeRow_alloc freeRow_end freeRow_drew freeRow_drewN
attribute [local go_sem] setRow_alloc setRow_drew setRow_drewN setCell_drewN alloc_drewN rowAt_put isRow_setRow freeRow_put
attribute [local go_sem ↓] loadS_in storeS_in indexS_in copyS_in
attribute [local go_sem] loadS_row loadS_one storeS_row storeS_one indexS_blk copyS_rows run_equalIn_blk same_refl arrayAt_row
attribute [local go_sem] cell_row frozen_row st_setCell st_blk_ne stepAt stepUpon
attribute [local go_sem high] run_eql_blk run_neq_blk
attribute [local go_sem ↓] convBS_in
attribute [local go_sem] convBS_row convBS_nil allBytes_blk bytesOf_blk
attribute [local go_sem] build_blk build_blk0

theorem zero192 : Try.zeroCells128 = blk 192 (fun _ => 0) := by kernel_rfl
/-- a text, into a part of a row -/
theorem copyS_at {P : Program} {w : World} (dT sT ty : TypeId) (g o n dCap m : Nat) (s : ByteArray) (hm : s.size = m) (hmn : m ≤ n) (hu : P.underlying dT = some (.slice (P.elem dT))) (hs : (sizeOf (P.elem dT)).run P w = .ok 1 w)
    (hr : freeRow w g = true) (hg : o + m ≤ (rowAt w g).size) :
    (copyS #[dT, sT] ty #[.slice (some ⟨g, o, none⟩) n dCap, .string s]).run P w = .ok (goInt (m : Int)) (w.setRow g (paste (rowAt w g) o (blk m (ofText s)))) := by
  subst hm
  have hst := run_storeCells_row (P := P) g o (blk s.size (ofText s)) hr (by rw [blk_size]; omega) (oneCells_blk _ _)
  have hc := text_cells s
  have hmm : Nat.min s.size n = s.size := Nat.min_eq_left hmn
  simp only [copyS, Builtin.copy_, List.getElem?_toArray, List.getElem?_cons_zero, List.getElem?_cons_succ, Sem.run_bind, run_underlying hu, Result.andThen_ok, Builtin.lenOf, Sem.run_pure, hs, Builtin.firstCells, hmm, hc, hst]

set_option maxRecDepth 100000 in
set_option maxHeartbeats 1000000 in
theorem begin_short (k : Nat → UInt8) (s : ByteArray) (h : s.size ≠ 12) (w : World) : Calls Try.prog 80 #[.agg (blk 16 k), .string s] w fun e w' => e = .returned (.tuple #[.agg (blk 192 fun _ => 0), .int .i64 2]) ∧ Below w.heap.size w w' := by
  have hz := zero192
  have ht : ((s.size : Int) != 12) = true := by simp; omega
  go_enter Try.func80, Try.ntmps80
  go_wp2_with fail
  refine bodyPost_ret (results_pair rfl _ (w.heap.size + 1) rfl (blk 192 fun _ => 0) (by simp [go_sem]) (by simp [go_sem]) (by simp [go_sem]) (by simp [go_sem]) (.int .i64 2) rfl) rfl ⟨rfl, ?_⟩
  exact ((Below.refl _ _).alloc (Nat.le_refl _) _).alloc (by simp) _

set_option maxRecDepth 100000 in
set_option maxHeartbeats 1000000 in
theorem begin_any (k : Nat → UInt8) (s : ByteArray) (h : s.size = 12) (w : World) : Calls Try.prog 80 #[.agg (blk 16 k), .string s] w fun e w' => e = .returned (.tuple #[.agg (blk 192 (wk (Ci.rounds k) (ofText s))), .int .i64 0]) ∧ Below w.heap.size w w' := by
  have hz := zero192
  have ht : ((s.size : Int) != 12) = false := by simp; omega
  have hcp := fun (P : Program) (w : World) (dT sT ty : TypeId) (g : Nat) => copyS_at (P := P) (w := w) dT sT ty g 176 16 16 12 s h (by omega)
  have hb := wk_begin (Ci.rounds k)
  have hv := wk_iv (Ci.rounds k) s h
  have HC := Lib.hid (((St.nil w).pushA (blk 16 k) 25 rfl).pushA (blk 192 fun _ => 0) 128 (g := w.heap.size + 1) (by simp))
  go_enter Try.func80, Try.ntmps80
  go_wp2_with fail
  refine (expand_any _ _).mono ?_; rintro e w1 ⟨rfl, hw⟩
  have HC := Lib.hid (HC.out.call hw)
  clear hw
  have hC := HC.out
  (have HC := Lib.hid hC
   have sos := hC.below.os
   obtain ⟨⟨r1, f1, i1, b1, l1⟩, ⟨r2, f2, i2, b2, l2⟩, m12, m21⟩ := St.facts2 hC
   clear hC)
  go_wp2_with fail
  refine bodyPost_ret (results_pair rfl _ (w.heap.size + 1) rfl (blk 192 (wk (Ci.rounds k) (ofText s))) ?_ ?_ ?_ ?_ (.int .i64 0) rfl) rfl ⟨rfl, ?_⟩
  · simp [go_sem, *]
  · simp [go_sem]
  · simp [go_sem]
  · simp [go_sem, *]
  · exact (below_setRow' HC.out.below (by omega) _).alloc (by have := HC.out.below.size; simpa using this) _

def dn15 (k : Nat) : Nat := 15 - k
def shN (n k : Nat) : Nat := n / 256 ^ k
theorem shN_next (n k : Nat) : shN n k / 256 = shN n (k + 1) := by unfold shN; rw [Nat.div_div_eq_div_mul, ← Nat.pow_succ]
theorem shN_lt {n : Nat} (h : n < 4294967296) (k : Nat) : shN n k < 4294967296 := Nat.lt_of_le_of_lt (Nat.div_le_self _ _) h
theorem byte_of (n : Nat) : IntKind.u8.wrap (n : Int) = B (UInt8.ofNat n) := by
  unfold B
  rw [UInt8.toNat_ofNat']
  simp [IntKind.wrap, IntKind.signed, IntKind.bits]
set_option maxRecDepth 100000 in
set_option maxHeartbeats 1000000 in
theorem pad_any (r v : Nat → UInt8) (n : Nat) (hn : n < 4294967296) (w : World) : Calls Try.prog 98 #[.agg (blk 192 (wk r v)), .int .u32 (n : Int)] w fun e w' => e = .returned (.agg (blk 16 (padB r v n))) ∧ Below w.heap.size w w' := by
  have hz := zero16
  have HC := Lib.hid (((St.nil w).pushA (blk 192 (wk r v)) 128 rfl).pushA (blk 16 fun _ => 0) 25 (g := w.heap.size + 1) (by simp))
  go_enter Try.func98, Try.ntmps98
  go_wp2_with fail
  go_loopw [1, 5] (fun a i wr => ∃ k : Nat, k ≤ 4 ∧ a = .int .u32 (shN n k : Int) ∧ i = .int .i64 (dn15 k : Int) ∧ Hid (St w [(w.heap.size + 1, blk 16 fun _ => 0), (w.heap.size, blk 192 (wk r (ctrTo v n k)))] wr)) (fun _ i _ => (intOf i).toNat)
  case atStart => exact ⟨0, by omega, by simp [shN], rfl, by rw [ctrTo_zero]; exact HC⟩
  case round =>
    clear HC
    obtain ⟨k, hk, rfl, rfl, HR⟩ := hrel
    have hC := HR.out
    have hs := shN_lt hn k
    by_cases hlt : k < 4
    · have d1 : (12 : Int) ≤ (dn15 k : Int) := by unfold dn15; omega
      have d2 : (dn15 k : Int) < 16 := by unfold dn15; omega
      have d3 : 176 + dn15 k < 192 := by unfold dn15; omega
      have d4 : dn15 k < 16 := by unfold dn15; omega
      have v1 : IntKind.i64.wrap ((dn15 k : Int) - 1) = (dn15 (k + 1) : Int) := by unfold dn15; rw [IntWalk.i64_in _ (by omega)]; omega
      have v2 : (dn15 k : Int) - 1 = (dn15 (k + 1) : Int) := by unfold dn15; omega
      have v3 := byte_of (shN n k)
      have v4 : (shN n k : Int) / 256 = (shN n (k + 1) : Int) := by rw [← shN_next]; omega
      have e1 : blk 192 (upd (wk r (ctrTo v n k)) (176 + dn15 k) (UInt8.ofNat (shN n k))) = blk 192 (wk r (ctrTo v n (k + 1))) := by
        rw [wk_upd]; unfold dn15 shN; rw [ctrTo_next _ _ _ (by omega)]
      have hms : dn15 (k + 1) < dn15 k := by unfold dn15; omega
      (have HC := Lib.hid hC
       have sos := hC.below.os
       obtain ⟨⟨r1, f1, i1, b1, l1⟩, ⟨r2, f2, i2, b2, l2⟩, m12, m21⟩ := St.facts2 hC
       clear hC)
      go_wp2_with fail
      have HC := Lib.hid ((HR.out.swap.set_head (blk 192 (wk r (ctrTo v n (k + 1))))).swap)
      exact ⟨⟨k + 1, by omega, rfl, rfl, HC⟩, by simp [intOf]; omega⟩
    · obtain rfl : k = 4 := by omega
      have d1 : decide ((12 : Int) ≤ (dn15 4 : Int)) = false := by unfold dn15; rfl
      have e1 := wk_head r (ctrTo v n 4)
      have e2 := wk_tail r (ctrTo v n 4)
      (have HC := Lib.hid hC
       have sos := hC.below.os
       obtain ⟨⟨r1, f1, i1, b1, l1⟩, ⟨r2, f2, i2, b2, l2⟩, m12, m21⟩ := St.facts2 hC
       clear hC)
      go_wp2_with fail
      refine (seal_any _ _ _).mono ?_; rintro e w2 ⟨rfl, hw⟩
      have HC := Lib.hid (HR.out.call hw)
      clear hw e1 e2
      (clear r1 f1 i1 b1 l1 r2 f2 i2 b2 l2 m12 m21 sos)
      have hC := HC.out
      (have HC := Lib.hid hC
       have sos := hC.below.os
       obtain ⟨⟨r1, f1, i1, b1, l1⟩, ⟨r2, f2, i2, b2, l2⟩, m12, m21⟩ := St.facts2 hC
       clear hC)
      go_wp2_with fail
      refine bodyPost_ret (results_row rfl _ (w.heap.size + 1) rfl (blk 16 (padB r v n)) ?_ ?_ ?_ ?_) rfl ⟨rfl, ?_⟩
      · simp [go_sem, *]; rfl
      · simp [go_sem]
      · simp [go_sem]
      · simp [go_sem, *]
      · exact below_setRow' HC.out.below (by omega) _

set_option maxRecDepth 100000 in
set_option maxHeartbeats 1000000 in
theorem hash_any (k : Nat → UInt8) (w : World) : Calls Try.prog 30 #[.agg (blk 16 k)] w fun e w' => e = .returned (.agg (blk 16 (hashB (Ci.rounds k)))) ∧ Below w.heap.size w w' := by
  have hz := zero16
  have HC := Lib.hid (((St.nil w).pushA (blk 16 k) 25 rfl).pushA (blk 16 fun _ => 0) 25 (g := w.heap.size + 1) (by simp))
  go_enter Try.func30, Try.ntmps30
  go_wp2_with fail
  refine (expand_any _ _).mono ?_; rintro e w1 ⟨rfl, hw⟩
  have HC := Lib.hid (HC.out.call hw)
  clear hw
  have hC := HC.out
  (have HC := Lib.hid hC
   have sos := hC.below.os
   obtain ⟨⟨r1, f1, i1, b1, l1⟩, ⟨r2, f2, i2, b2, l2⟩, m12, m21⟩ := St.facts2 hC
   clear hC)
  go_wp2_with fail
  refine (seal_any _ _ _).mono ?_; rintro e w2 ⟨rfl, hw⟩
  have HC := Lib.hid (HC.out.call hw)
  clear hw
  (clear r1 f1 i1 b1 l1 r2 f2 i2 b2 l2 m12 m21 sos)
  have hC := HC.out
  (have HC := Lib.hid hC
   have sos := hC.below.os
   obtain ⟨⟨r1, f1, i1, b1, l1⟩, ⟨r2, f2, i2, b2, l2⟩, m12, m21⟩ := St.facts2 hC
   clear hC)
  go_wp2_with fail
  refine bodyPost_ret (results_row rfl _ (w.heap.size + 1) rfl (blk 16 (hashB (Ci.rounds k))) ?_ ?_ ?_ ?_) rfl ⟨rfl, ?_⟩
  · simp [go_sem, *]; rfl
  · simp [go_sem]
  · simp [go_sem]
  · simp [go_sem, *]
  · exact below_setRow' HC.out.below (by omega) _

theorem pad1_any (r v : Nat → UInt8) (w : World) : Calls Try.prog 98 #[.agg (blk 192 (wk r v)), .int .u32 1] w fun e w' => e = .returned (.agg (blk 16 (padB r v 1))) ∧ Below w.heap.size w w' := pad_any r v 1 (by omega) w
set_option maxRecDepth 100000 in
set_option maxHeartbeats 1000000 in
theorem tag_any (r v : Nat → UInt8) (a s : ByteArray) (ha : a.size < 2 ^ 40) (hs : s.size < 2 ^ 40) (w : World) : Calls Try.prog 82 #[.agg (blk 192 (wk r v)), .string a, .string s] w fun e w' => e = .returned (.string (tagS r v a s)) ∧ Below w.heap.size w w' := by
  have hz := zero16
  have e1 := wk_head r v
  have HC := Lib.hid ((St.nil w).pushA (blk 192 (wk r v)) 128 rfl)
  go_enter Try.func82, Try.ntmps82
  go_wp2_with fail
  refine (seal_any _ _ _).mono ?_; rintro e w1 ⟨rfl, hw⟩
  have HC := Lib.hid (HC.out.call hw)
  clear hw e1
  have hC := HC.out
  (have HC := Lib.hid hC
   have sos := hC.below.os
   obtain ⟨r1, f1, i1, b1, l1⟩ := St.facts1 hC
   clear hC)
  go_wp2_with fail
  have HC := Lib.hid (HC.out.push (blk 16 (hashB r)) 25)
  (clear r1 f1 i1 b1 l1 sos)
  generalize w1.heap.size = gh at HC ⊢
  refine St.region_float (w0 := w) 7 8 (blk 16 fun _ => 0) 25 HC.out _ (by kernel_rfl) (by decide +kernel) rfl (fun w a => by simp [go_sem, ptrTo, hz]) ?_
  (simp only [List.take])
  (apply walkB_step
   focus
     intro w0 hC
     have hC' := Lib.hid hC
     obtain ⟨⟨r1, f1, i1, b1, l1⟩, ⟨r2, f2, i2, b2, l2⟩, m12, m21⟩ := St.facts2 hC
     clear hC
     go_simp
     (first
        | with_reducible rfl
        | exact ghSum_any _ _ _ ha hs _
        | exact pad1_any _ _ _
        | exact xor_any _ _ _)
   try simp only [Act.put, List.setIfInBounds_toArray, List.set])
  (apply walkB_step
   focus
     intro w0 hC
     have hC' := Lib.hid hC
     obtain ⟨⟨r1, f1, i1, b1, l1⟩, ⟨r2, f2, i2, b2, l2⟩, m12, m21⟩ := St.facts2 hC
     clear hC
     go_simp
     (first
        | with_reducible rfl
        | exact ghSum_any _ _ _ ha hs _
        | exact pad1_any _ _ _
        | exact xor_any _ _ _)
   try simp only [Act.put, List.setIfInBounds_toArray, List.set])
  (apply walkB_step
   focus
     intro w0 hC
     have hC' := Lib.hid hC
     obtain ⟨⟨r1, f1, i1, b1, l1⟩, ⟨r2, f2, i2, b2, l2⟩, m12, m21⟩ := St.facts2 hC
     clear hC
     go_simp
     (first
        | with_reducible rfl
        | exact ghSum_any _ _ _ ha hs _
        | exact pad1_any _ _ _
        | exact xor_any _ _ _)
   try simp only [Act.put, List.setIfInBounds_toArray, List.set])
  (apply walkB_step
   focus
     intro w0 hC
     have hC' := Lib.hid hC
     obtain ⟨⟨r1, f1, i1, b1, l1⟩, ⟨r2, f2, i2, b2, l2⟩, m12, m21⟩ := St.facts2 hC
     clear hC
     go_simp
     (first
        | with_reducible rfl
        | exact ghSum_any _ _ _ ha hs _
        | exact pad1_any _ _ _
        | exact xor_any _ _ _)
   try simp only [Act.put, List.setIfInBounds_toArray, List.set])
  (apply walkB_step
   focus
     intro w0 hC
     have hC' := Lib.hid hC
     obtain ⟨⟨r1, f1, i1, b1, l1⟩, ⟨r2, f2, i2, b2, l2⟩, m12, m21⟩ := St.facts2 hC
     clear hC
     go_simp
     (first
        | with_reducible rfl
        | exact ghSum_any _ _ _ ha hs _
        | exact pad1_any _ _ _
        | exact xor_any _ _ _)
   try simp only [Act.put, List.setIfInBounds_toArray, List.set])
  (apply walkB_step
   focus
     intro w0 hC
     have hC' := Lib.hid hC
     obtain ⟨⟨r1, f1, i1, b1, l1⟩, ⟨r2, f2, i2, b2, l2⟩, m12, m21⟩ := St.facts2 hC
     clear hC
     go_simp
     (first
        | with_reducible rfl
        | exact ghSum_any _ _ _ ha hs _
        | exact pad1_any _ _ _
        | exact xor_any _ _ _)
   try simp only [Act.put, List.setIfInBounds_toArray, List.set])
  (apply walkB_step
   focus
     intro w0 hC
     have hC' := Lib.hid hC
     obtain ⟨⟨r1, f1, i1, b1, l1⟩, ⟨r2, f2, i2, b2, l2⟩, m12, m21⟩ := St.facts2 hC
     clear hC
     go_simp
     (first
        | with_reducible rfl
        | exact ghSum_any _ _ _ ha hs _
        | exact pad1_any _ _ _
        | exact xor_any _ _ _)
   try simp only [Act.put, List.setIfInBounds_toArray, List.set])
  refine walkB_nil ?_
  intro w2 g hC
  unfold ptrTo
  (have HC := Lib.hid hC
   have sos := hC.below.os
   obtain ⟨⟨r1, f1, i1, b1, l1⟩, ⟨r2, f2, i2, b2, l2⟩, ⟨r3, f3, i3, b3, l3⟩, m12, m21, m13, m31, m23, m32⟩ := St.facts3 hC
   clear hC)
  (simp only [List.drop, List.setIfInBounds_toArray, List.set])
  go_wp2_with fail
  have HC := Lib.hid (HC.out.set_head (blk 16 (tagB r v a s)))
  go_ret
  exact ⟨rfl, HC.out.below⟩
end Go.Proofs.Ytgaecjhghpkcoaa
end

section
namespace Go.Proofs.Ytgaecjhghpkcoaa
open Go.RowKit
attribute [local go_sem] B_xor B_or B_and
attribute [local go_sem] blk_set blk_size blk_get blk_getE upd_same oneCells_blk paste_blk cut_blk szOf
attribute [local go_sem high] paste_all cut_head
attribute [local go_sem] rowAt_alloc rowAt_drew rowAt_drewN isRow_alloc isRow_drew isRow_drewN freeRow_alloc freeRow_end freeRow_drew freeRow_drewN
attribute [local go_sem] setRow_alloc setRow_drew setRow_drewN setCell_drewN alloc_drewN rowAt_put isRow_setRow freeRow_put
attribute [local go_sem ↓] loadS_in storeS_in indexS_in copyS_in
attribute [local go_sem] loadS_row loadS_one storeS_row storeS_one indexS_blk copyS_rows run_equalIn_blk same_refl arrayAt_row
attribute [local go_sem] cell_row frozen_row st_setCell st_blk_ne stepAt stepUpon
attribute [local go_sem high] run_eql_blk run_neq_blk
attribute [local go_sem ↓] convBS_in
attribute [local go_sem] convBS_row convBS_nil allBytes_blk bytesOf_blk
attribute [local go_sem ↓] convSB_in
attribute [local go_sem] convSB_row freeRow_endB

def c32 (n : Nat) : Array Value := #[.int .u32 (n : Int)]
theorem c32_size (n : Nat) : (c32 n).size = 1 := rfl
theorem c32_get (n : Nat) : (c32 n)[0]? = some (.int .u32 (n : Int)) := rfl
theorem c32_set (n m : Nat) : (c32 n).setIfInBounds 0 (.int .u32 (m : Int)) = c32 m := rfl
theorem c32_of (n : Nat) : #[Value.int .u32 (n : Int)] = c32 n := rfl
theorem c32_wrap (n : Nat) : IntKind.u32.wrap ((n : Int) + 1) = (nx n : Int) := by
  unfold nx; simp [IntKind.wrap, IntKind.signed, IntKind.bits]
attribute [local go_sem] c32_size c32_get c32_set
set_option maxRecDepth 100000 in
set_option maxHeartbeats 1000000 in
theorem snext_any (w0 : World) (L : List (Nat × Array Value)) (gp gf gw : Nat) (q r v : Nat → UInt8) (n : Nat) (hn : n < 4294967296) (w : World) (H : Hid (St w0 ((gp, blk 16 q) :: (gf, c32 n) :: (gw, blk 192 (wk r v)) :: L) w)) :
    Calls Try.prog 97 #[.pointer (some ⟨gw, 0, none⟩), .pointer (some ⟨gf, 0, none⟩), .pointer (some ⟨gp, 0, none⟩)] w fun e w' => e = .returned (.tuple #[]) ∧ St w0 ((gp, blk 16 (padB r v n)) :: (gf, c32 (nx n)) :: (gw, blk 192 (wk r v)) :: L) w' := by
  have hC := H.out
  have sos := hC.below.os
  (obtain ⟨⟨r1, f1, i1, b1, l1⟩, ⟨r2, f2, i2, b2, l2⟩, ⟨r3, f3, i3, b3, l3⟩, m12, m21, m13, m31, m23, m32⟩ := St.facts3 (hC.pick [0, 1, 2] (by decide) rfl))
  clear hC
  go_enter Try.func97, Try.ntmps97
  go_wp2_with fail
  refine (pad_any r v n hn _).mono ?_; rintro e w2 ⟨rfl, hw⟩
  have HC := Lib.hid (H.out.call hw)
  clear hw H r1 f1 i1 b1 l1 r2 f2 i2 b2 l2 r3 f3 i3 b3 l3 m12 m21 m13 m31 m23 m32 sos
  have hC := HC.out
  have sos := hC.below.os
  (obtain ⟨⟨r1, f1, i1, b1, l1⟩, ⟨r2, f2, i2, b2, l2⟩, ⟨r3, f3, i3, b3, l3⟩, m12, m21, m13, m31, m23, m32⟩ := St.facts3 (hC.pick [0, 1, 2] (by decide) rfl))
  clear hC
  have v1 := c32_wrap n
  go_wp2_with fail
  go_end0
  refine ⟨rfl, ?_⟩
  have h1 := HC.out.set_head (blk 16 (padB r v n))
  have h2 := h1.swap.set_head (c32 (nx n)) (by rw [c32_size, c32_size])
  exact h2.swap

def cl16 (k : Nat) : Nat := (k + 15) / 16
def q16 (k : Nat) : Nat := k / 16
def m16 (k : Nat) : Nat := k % 16
def padK (r v : Nat → UInt8) (n k : Nat) : Nat → UInt8 := if k = 0 then fun _ => 0 else padB r v (nxN n ((k - 1) / 16))
theorem strB_at (r v : Nat → UInt8) (n : Nat) (f : Nat → UInt8) (k : Nat) : f k ^^^ padB r v (nxN n (q16 k)) (m16 k) = strB r v n f k := rfl
theorem strOf_upTo (n : Nat) (f g : Nat → UInt8) : strOf n (upTo f g n) = strOf n g := strOf_congr fun i hi => by simp [upTo, hi]
set_option maxRecDepth 100000 in
set_option maxHeartbeats 2000000 in
theorem stream_any (r v : Nat → UInt8) (n : Nat) (hn : n < 4294967296) (s : ByteArray) (hs : s.size < 2 ^ 40) (w : World) : Calls Try.prog 81 #[.agg (blk 192 (wk r v)), .int .u32 (n : Int), .string s] w fun e w' => e = .returned (.string (strS r v n s)) ∧ Below w.heap.size w w' := by
  have hz := zero16
  have hcp := Lib.hid (capS_ge ((w.alloc (.cells (blk 192 (wk r v)) 128)).alloc (.cells #[.int .u32 (n : Int)] 132)) s.size 5)
  go_enter Try.func81, Try.ntmps81
  go_wp2_with fail
  generalize capS ((w.alloc (.cells (blk 192 (wk r v)) 128)).alloc (.cells #[.int .u32 (n : Int)] 132)) s.size 5 = cp at hcp ⊢
  have HC := Lib.hid ((((((St.nil w).pushA (blk 192 (wk r v)) 128 rfl).pushA (c32 n) 132 (g := w.heap.size + 1) (by simp)).pushMA cp (ofText s) 5 (cp + 1) (g := w.heap.size + 1 + 1) (by simp)).pushA (blk 16 fun _ => 0) 25 (g := w.heap.size + 1 + 1 + 1) (by simp)).drew.pick [0, 2, 3, 1] (by decide) rfl)
  go_loopw [16] (fun i wr => ∃ k : Nat, k ≤ s.size ∧ i = .int .i64 (k : Int) ∧ Hid (St w [(w.heap.size + 1 + 1 + 1, blk 16 (padK r v n k)), (w.heap.size + 1, c32 (nxN n (cl16 k))), (w.heap.size, blk 192 (wk r v)), (w.heap.size + 1 + 1, blk cp (upTo (ofText s) (strB r v n (ofText s)) k))] wr)) (fun i _ => s.size - (intOf i).toNat)
  case atStart =>
    refine ⟨0, by omega, rfl, ?_⟩
    rw [upTo_zero, show cl16 0 = 0 from rfl, nxN_zero hn]
    exact HC
  case round =>
    clear HC
    obtain ⟨k, hk, rfl, HR⟩ := hrel
    have hc := hcp.out
    by_cases hlt : k < s.size
    · have d1 : (k : Int) < (s.size : Int) := by omega
      have v1 : (k : Int) % 16 = (m16 k : Int) := by unfold m16; omega
      have v2 : (k : Int).tmod 16 = (m16 k : Int) := by rw [Int.tmod_eq_emod_of_nonneg (by omega)]; exact v1
      have v3 : IntKind.i64.wrap (m16 k : Int) = (m16 k : Int) := IntWalk.i64_in _ (by unfold m16; omega)
      have d2 : m16 k < 16 := by unfold m16; omega
      have d3 : (m16 k : Int) < 16 := by omega
      have d4 : k < cp := by omega
      have e1 := upTo_at (ofText s) (strB r v n (ofText s)) k
      have e2 : blk cp (upd (upTo (ofText s) (strB r v n (ofText s)) k) k (ofText s k ^^^ padB r v (nxN n (q16 k)) (m16 k))) = blk cp (upTo (ofText s) (strB r v n (ofText s)) (k + 1)) := by
        rw [strB_at]; exact upTo_next cp (ofText s) (strB r v n (ofText s)) k
      have HP : Hid (padK r v n (k + 1) = padB r v (nxN n (q16 k)) ∧ cl16 (k + 1) = q16 k + 1) := by
        refine ⟨?_, by unfold cl16 q16; omega⟩
        unfold padK q16; rw [if_neg (by omega), Nat.add_sub_cancel]
      by_cases h0 : m16 k = 0
      · have t1 : ((m16 k : Int) == 0) = true := by rw [h0]; rfl
        have HQ : Hid (cl16 k = q16 k) := by unfold cl16 q16; unfold m16 at h0; exact (by omega : (k + 15) / 16 = k / 16)
        clear h0
        go_wp2_with fail
        refine (snext_any w _ _ _ _ _ r v (nxN n (cl16 k)) (nxN_lt _ _) _ HR).mono ?_; rintro e w2 ⟨rfl, hC⟩
        rw [nxN_next, HQ.out] at hC
        have HC := Lib.hid hC
        clear hC HR
        go_wp2_with fail
        refine St.region_tail 10 HC.out (by kernel_rfl) (by decide +kernel) ?_
        (simp only [List.take, List.drop])
        (first
           | (apply head_skip rfl)
           | (apply head_step_g rfl
              focus
                intro w0' hC
                have hC' := Lib.hid hC
                obtain ⟨⟨r1, f1, i1, b1, l1⟩, ⟨r2, f2, i2, b2, l2⟩, m12, m21⟩ := St.facts2 (hC.pick [0, 3] (by decide) rfl)
                clear hC
                go_simp
                have hC := hC'.out
                (first
                   | with_reducible rfl
                   | (skip
                      (fail)
                      rintro e w' ⟨rfl, hw⟩
                      exact ⟨rfl, St.call (by assumption) hw⟩)))
         try simp only [Act.put, List.setIfInBounds_toArray, List.set])
        (first
           | (apply head_skip rfl)
           | (apply head_step_g rfl
              focus
                intro w0' hC
                have hC' := Lib.hid hC
                obtain ⟨⟨r1, f1, i1, b1, l1⟩, ⟨r2, f2, i2, b2, l2⟩, m12, m21⟩ := St.facts2 (hC.pick [0, 3] (by decide) rfl)
                clear hC
                go_simp
                have hC := hC'.out
                (first
                   | with_reducible rfl
                   | (skip
                      (fail)
                      rintro e w' ⟨rfl, hw⟩
                      exact ⟨rfl, St.call (by assumption) hw⟩)))
         try simp only [Act.put, List.setIfInBounds_toArray, List.set])
        (first
           | (apply head_skip rfl)
           | (apply head_step_g rfl
              focus
                intro w0' hC
                have hC' := Lib.hid hC
                obtain ⟨⟨r1, f1, i1, b1, l1⟩, ⟨r2, f2, i2, b2, l2⟩, m12, m21⟩ := St.facts2 (hC.pick [0, 3] (by decide) rfl)
                clear hC
                go_simp
                have hC := hC'.out
                (first
                   | with_reducible rfl
                   | (skip
                      (fail)
                      rintro e w' ⟨rfl, hw⟩
                      exact ⟨rfl, St.call (by assumption) hw⟩)))
         try simp only [Act.put, List.setIfInBounds_toArray, List.set])
        (first
           | (apply head_skip rfl)
           | (apply head_step_g rfl
              focus
                intro w0' hC
                have hC' := Lib.hid hC
                obtain ⟨⟨r1, f1, i1, b1, l1⟩, ⟨r2, f2, i2, b2, l2⟩, m12, m21⟩ := St.facts2 (hC.pick [0, 3] (by decide) rfl)
                clear hC
                go_simp
                have hC := hC'.out
                (first
                   | with_reducible rfl
                   | (skip
                      (fail)
                      rintro e w' ⟨rfl, hw⟩
                      exact ⟨rfl, St.call (by assumption) hw⟩)))
         try simp only [Act.put, List.setIfInBounds_toArray, List.set])
        (first
           | (apply head_skip rfl)
           | (apply head_step_g rfl
              focus
                intro w0' hC
                have hC' := Lib.hid hC
                obtain ⟨⟨r1, f1, i1, b1, l1⟩, ⟨r2, f2, i2, b2, l2⟩, m12, m21⟩ := St.facts2 (hC.pick [0, 3] (by decide) rfl)
                clear hC
                go_simp
                have hC := hC'.out
                (first
                   | with_reducible rfl
                   | (skip
                      (fail)
                      rintro e w' ⟨rfl, hw⟩
                      exact ⟨rfl, St.call (by assumption) hw⟩)))
         try simp only [Act.put, List.setIfInBounds_toArray, List.set])
        (first
           | (apply head_skip rfl)
           | (apply head_step_g rfl
              focus
                intro w0' hC
                have hC' := Lib.hid hC
                obtain ⟨⟨r1, f1, i1, b1, l1⟩, ⟨r2, f2, i2, b2, l2⟩, m12, m21⟩ := St.facts2 (hC.pick [0, 3] (by decide) rfl)
                clear hC
                go_simp
                have hC := hC'.out
                (first
                   | with_reducible rfl
                   | (skip
                      (fail)
                      rintro e w' ⟨rfl, hw⟩
                      exact ⟨rfl, St.call (by assumption) hw⟩)))
         try simp only [Act.put, List.setIfInBounds_toArray, List.set])
        (first
           | (apply head_skip rfl)
           | (apply head_step_g rfl
              focus
                intro w0' hC
                have hC' := Lib.hid hC
                obtain ⟨⟨r1, f1, i1, b1, l1⟩, ⟨r2, f2, i2, b2, l2⟩, m12, m21⟩ := St.facts2 (hC.pick [0, 3] (by decide) rfl)
                clear hC
                go_simp
                have hC := hC'.out
                (first
                   | with_reducible rfl
                   | (skip
                      (fail)
                      rintro e w' ⟨rfl, hw⟩
                      exact ⟨rfl, St.call (by assumption) hw⟩)))
         try simp only [Act.put, List.setIfInBounds_toArray, List.set])
        (first
           | (apply head_skip rfl)
           | (apply head_step_g rfl
              focus
                intro w0' hC
                have hC' := Lib.hid hC
                obtain ⟨⟨r1, f1, i1, b1, l1⟩, ⟨r2, f2, i2, b2, l2⟩, m12, m21⟩ := St.facts2 (hC.pick [0, 3] (by decide) rfl)
                clear hC
                go_simp
                have hC := hC'.out
                (first
                   | with_reducible rfl
                   | (skip
                      (fail)
                      rintro e w' ⟨rfl, hw⟩
                      exact ⟨rfl, St.call (by assumption) hw⟩)))
         try simp only [Act.put, List.setIfInBounds_toArray, List.set])
        (first
           | (apply head_skip rfl)
           | (apply head_step_g rfl
              focus
                intro w0' hC
                have hC' := Lib.hid hC
                obtain ⟨⟨r1, f1, i1, b1, l1⟩, ⟨r2, f2, i2, b2, l2⟩, m12, m21⟩ := St.facts2 (hC.pick [0, 3] (by decide) rfl)
                clear hC
                go_simp
                have hC := hC'.out
                (first
                   | with_reducible rfl
                   | (skip
                      (fail)
                      rintro e w' ⟨rfl, hw⟩
                      exact ⟨rfl, St.call (by assumption) hw⟩)))
         try simp only [Act.put, List.setIfInBounds_toArray, List.set])
        (first
           | (apply head_skip rfl)
           | (apply head_step_g rfl
              focus
                intro w0' hC
                have hC' := Lib.hid hC
                obtain ⟨⟨r1, f1, i1, b1, l1⟩, ⟨r2, f2, i2, b2, l2⟩, m12, m21⟩ := St.facts2 (hC.pick [0, 3] (by decide) rfl)
                clear hC
                go_simp
                have hC := hC'.out
                (first
                   | with_reducible rfl
                   | (skip
                      (fail)
                      rintro e w' ⟨rfl, hw⟩
                      exact ⟨rfl, St.call (by assumption) hw⟩)))
         try simp only [Act.put, List.setIfInBounds_toArray, List.set])
        refine wpQuiet_nil ?_
        intro w4 hC
        have HC := Lib.hid (hC.pick [3, 0, 1, 2] (by decide) rfl)
        obtain ⟨r1, f1, i1, b1, l1⟩ := St.head1 (HC.out)
        have sos := hC.below.os
        clear hC
        go_wp2_with fail
        have HC := Lib.hid ((HC.out.set_head (blk cp (upTo (ofText s) (strB r v n (ofText s)) (k + 1)))).pick [1, 2, 3, 0] (by decide) rfl)
        exact ⟨⟨k + 1, by omega, by go_num, by rw [HP.out.1, HP.out.2]; exact HC⟩, by simp [intOf]; omega⟩
      · have t1 : ((m16 k : Int) == 0) = false := by rw [beq_eq_false_iff_ne]; omega
        have HC : Hid (St w [(w.heap.size + 1 + 1 + 1, blk 16 (padB r v (nxN n (q16 k)))), (w.heap.size + 1, c32 (nxN n (q16 k + 1))), (w.heap.size, blk 192 (wk r v)), (w.heap.size + 1 + 1, blk cp (upTo (ofText s) (strB r v n (ofText s)) k))] wr) := by
          have h1 := HR.out
          rw [show cl16 k = q16 k + 1 by unfold cl16 q16; unfold m16 at h0; omega, show padK r v n k = padB r v (nxN n (q16 k)) by unfold padK q16; unfold m16 at h0; rw [if_neg (by omega), show (k - 1) / 16 = k / 16 by omega]] at h1
          exact h1
        clear h0 HR
        have sos := HC.out.os
        go_wp2_with fail
        clear sos
        refine St.region_tail 10 HC.out (by kernel_rfl) (by decide +kernel) ?_
        (simp only [List.take, List.drop])
        (first
           | (apply head_skip rfl)
           | (apply head_step_g rfl
              focus
                intro w0' hC
                have hC' := Lib.hid hC
                obtain ⟨⟨r1, f1, i1, b1, l1⟩, ⟨r2, f2, i2, b2, l2⟩, m12, m21⟩ := St.facts2 (hC.pick [0, 3] (by decide) rfl)
                clear hC
                go_simp
                have hC := hC'.out
                (first
                   | with_reducible rfl
                   | (skip
                      (fail)
                      rintro e w' ⟨rfl, hw⟩
                      exact ⟨rfl, St.call (by assumption) hw⟩)))
         try simp only [Act.put, List.setIfInBounds_toArray, List.set])
        (first
           | (apply head_skip rfl)
           | (apply head_step_g rfl
              focus
                intro w0' hC
                have hC' := Lib.hid hC
                obtain ⟨⟨r1, f1, i1, b1, l1⟩, ⟨r2, f2, i2, b2, l2⟩, m12, m21⟩ := St.facts2 (hC.pick [0, 3] (by decide) rfl)
                clear hC
                go_simp
                have hC := hC'.out
                (first
                   | with_reducible rfl
                   | (skip
                      (fail)
                      rintro e w' ⟨rfl, hw⟩
                      exact ⟨rfl, St.call (by assumption) hw⟩)))
         try simp only [Act.put, List.setIfInBounds_toArray, List.set])
        (first
           | (apply head_skip rfl)
           | (apply head_step_g rfl
              focus
                intro w0' hC
                have hC' := Lib.hid hC
                obtain ⟨⟨r1, f1, i1, b1, l1⟩, ⟨r2, f2, i2, b2, l2⟩, m12, m21⟩ := St.facts2 (hC.pick [0, 3] (by decide) rfl)
                clear hC
                go_simp
                have hC := hC'.out
                (first
                   | with_reducible rfl
                   | (skip
                      (fail)
                      rintro e w' ⟨rfl, hw⟩
                      exact ⟨rfl, St.call (by assumption) hw⟩)))
         try simp only [Act.put, List.setIfInBounds_toArray, List.set])
        (first
           | (apply head_skip rfl)
           | (apply head_step_g rfl
              focus
                intro w0' hC
                have hC' := Lib.hid hC
                obtain ⟨⟨r1, f1, i1, b1, l1⟩, ⟨r2, f2, i2, b2, l2⟩, m12, m21⟩ := St.facts2 (hC.pick [0, 3] (by decide) rfl)
                clear hC
                go_simp
                have hC := hC'.out
                (first
                   | with_reducible rfl
                   | (skip
                      (fail)
                      rintro e w' ⟨rfl, hw⟩
                      exact ⟨rfl, St.call (by assumption) hw⟩)))
         try simp only [Act.put, List.setIfInBounds_toArray, List.set])
        (first
           | (apply head_skip rfl)
           | (apply head_step_g rfl
              focus
                intro w0' hC
                have hC' := Lib.hid hC
                obtain ⟨⟨r1, f1, i1, b1, l1⟩, ⟨r2, f2, i2, b2, l2⟩, m12, m21⟩ := St.facts2 (hC.pick [0, 3] (by decide) rfl)
                clear hC
                go_simp
                have hC := hC'.out
                (first
                   | with_reducible rfl
                   | (skip
                      (fail)
                      rintro e w' ⟨rfl, hw⟩
                      exact ⟨rfl, St.call (by assumption) hw⟩)))
         try simp only [Act.put, List.setIfInBounds_toArray, List.set])
        (first
           | (apply head_skip rfl)
           | (apply head_step_g rfl
              focus
                intro w0' hC
                have hC' := Lib.hid hC
                obtain ⟨⟨r1, f1, i1, b1, l1⟩, ⟨r2, f2, i2, b2, l2⟩, m12, m21⟩ := St.facts2 (hC.pick [0, 3] (by decide) rfl)
                clear hC
                go_simp
                have hC := hC'.out
                (first
                   | with_reducible rfl
                   | (skip
                      (fail)
                      rintro e w' ⟨rfl, hw⟩
                      exact ⟨rfl, St.call (by assumption) hw⟩)))
         try simp only [Act.put, List.setIfInBounds_toArray, List.set])
        (first
           | (apply head_skip rfl)
           | (apply head_step_g rfl
              focus
                intro w0' hC
                have hC' := Lib.hid hC
                obtain ⟨⟨r1, f1, i1, b1, l1⟩, ⟨r2, f2, i2, b2, l2⟩, m12, m21⟩ := St.facts2 (hC.pick [0, 3] (by decide) rfl)
                clear hC
                go_simp
                have hC := hC'.out
                (first
                   | with_reducible rfl
                   | (skip
                      (fail)
                      rintro e w' ⟨rfl, hw⟩
                      exact ⟨rfl, St.call (by assumption) hw⟩)))
         try simp only [Act.put, List.setIfInBounds_toArray, List.set])
        (first
           | (apply head_skip rfl)
           | (apply head_step_g rfl
              focus
                intro w0' hC
                have hC' := Lib.hid hC
                obtain ⟨⟨r1, f1, i1, b1, l1⟩, ⟨r2, f2, i2, b2, l2⟩, m12, m21⟩ := St.facts2 (hC.pick [0, 3] (by decide) rfl)
                clear hC
                go_simp
                have hC := hC'.out
                (first
                   | with_reducible rfl
                   | (skip
                      (fail)
                      rintro e w' ⟨rfl, hw⟩
                      exact ⟨rfl, St.call (by assumption) hw⟩)))
         try simp only [Act.put, List.setIfInBounds_toArray, List.set])
        (first
           | (apply head_skip rfl)
           | (apply head_step_g rfl
              focus
                intro w0' hC
                have hC' := Lib.hid hC
                obtain ⟨⟨r1, f1, i1, b1, l1⟩, ⟨r2, f2, i2, b2, l2⟩, m12, m21⟩ := St.facts2 (hC.pick [0, 3] (by decide) rfl)
                clear hC
                go_simp
                have hC := hC'.out
                (first
                   | with_reducible rfl
                   | (skip
                      (fail)
                      rintro e w' ⟨rfl, hw⟩
                      exact ⟨rfl, St.call (by assumption) hw⟩)))
         try simp only [Act.put, List.setIfInBounds_toArray, List.set])
        (first
           | (apply head_skip rfl)
           | (apply head_step_g rfl
              focus
                intro w0' hC
                have hC' := Lib.hid hC
                obtain ⟨⟨r1, f1, i1, b1, l1⟩, ⟨r2, f2, i2, b2, l2⟩, m12, m21⟩ := St.facts2 (hC.pick [0, 3] (by decide) rfl)
                clear hC
                go_simp
                have hC := hC'.out
                (first
                   | with_reducible rfl
                   | (skip
                      (fail)
                      rintro e w' ⟨rfl, hw⟩
                      exact ⟨rfl, St.call (by assumption) hw⟩)))
         try simp only [Act.put, List.setIfInBounds_toArray, List.set])
        refine wpQuiet_nil ?_
        intro w4 hC
        have HC := Lib.hid (hC.pick [3, 0, 1, 2] (by decide) rfl)
        obtain ⟨r1, f1, i1, b1, l1⟩ := St.head1 (HC.out)
        have sos := hC.below.os
        clear hC
        go_wp2_with fail
        have HC := Lib.hid ((HC.out.set_head (blk cp (upTo (ofText s) (strB r v n (ofText s)) (k + 1)))).pick [1, 2, 3, 0] (by decide) rfl)
        exact ⟨⟨k + 1, by omega, by go_num, by rw [HP.out.1, HP.out.2]; exact HC⟩, by simp [intOf]; omega⟩
    · obtain rfl : k = s.size := by omega
      have hC := HR.out
      have e1 := strOf_upTo s.size (ofText s) (strB r v n (ofText s))
      (have HC := Lib.hid hC
       have sos := hC.below.os
       obtain ⟨⟨r1, f1, i1, b1, l1⟩, ⟨r2, f2, i2, b2, l2⟩, ⟨r3, f3, i3, b3, l3⟩, ⟨r4, f4, i4, b4, l4⟩, m12, m21, m13, m31, m14, m41, m23, m32, m24, m42, m34, m43⟩ := St.facts4 hC
       clear hC)
      go_wp2_with fail
      go_ret
      exact ⟨rfl, HR.out.below⟩
end Go.Proofs.Ytgaecjhghpkcoaa
end

section
namespace Go.Proofs.Ytgaecjhghpkcoaa
open Go.RowKit
attribute [local go_sem] B_xor B_or B_and
attribute [local go_sem] blk_set blk_size blk_get blk_getE upd_same oneCells_blk paste_blk cut_blk szOf
attribute [local go_sem high] paste_all cut_head
attribute [local go_sem] rowAt_alloc rowAt_drew rowAt_drewN isRow_alloc isRow_drew isRow_drewN freeRow_alloc freeRow_end freeRow_drew freeRow_drewN
attribute [local go_sem] setRow_alloc setRow_drew setRow_drewN setCell_drewN alloc_drewN rowAt_put isRow_setRow freeRow_put
attribute [local go_sem ↓] loadS_in storeS_in indexS_in copyS_in
attribute [local go_sem] loadS_row loadS_one storeS_row storeS_one indexS_blk copyS_rows run_equalIn_blk same_refl arrayAt_row
attribute [local go_sem] cell_row frozen_row st_setCell st_blk_ne stepAt stepUpon
attribute [local go_sem high] run_eql_blk run_neq_blk
attribute [local go_sem ↓] convBS_in
attribute [local go_sem] convBS_row convBS_nil allBytes_blk bytesOf_blk
attribute [local go_sem ↓] convSB_in
attribute [local go_sem] convSB_row freeRow_endB indexS_text

/-- a sealed text -/
def sealS (r v : Nat → UInt8) (a s : ByteArray) : ByteArray := strS r v 2 s ++ tagS r v a (strS r v 2 s)
set_option maxRecDepth 100000 in
set_option maxHeartbeats 1000000 in
theorem gcSeal_short (k : Nat → UInt8) (iv a s : ByteArray) (h : iv.size ≠ 12) (w : World) : Calls Try.prog 51 #[.agg (blk 16 k), .string iv, .string a, .string s] w fun e w' => e = .returned (.tuple #[.string ⟨#[]⟩, .int .i64 2]) ∧ Below w.heap.size w w' := by
  have hz := zero192
  have HC := Lib.hid ((St.nil w).pushA (blk 16 k) 25 rfl)
  go_enter Try.func51, Try.ntmps51
  go_wp2_with fail
  refine (begin_short k iv h _).mono ?_; rintro e w1 ⟨rfl, hw⟩
  have HC := Lib.hid (HC.out.call hw)
  clear hw
  have hC := HC.out
  (have HC := Lib.hid hC
   have sos := hC.below.os
   obtain ⟨r1, f1, i1, b1, l1⟩ := St.facts1 hC
   clear hC)
  go_wp2_with fail
  go_ret2
  exact ⟨rfl, HC.out.below.alloc HC.out.below.size _⟩
theorem stream2_any (r v : Nat → UInt8) (s : ByteArray) (hs : s.size < 2 ^ 40) (w : World) : Calls Try.prog 81 #[.agg (blk 192 (wk r v)), .int .u32 2, .string s] w fun e w' => e = .returned (.string (strS r v 2 s)) ∧ Below w.heap.size w w' := stream_any r v 2 (by omega) s hs w
set_option maxRecDepth 100000 in
set_option maxHeartbeats 1000000 in
theorem gcSeal_any (k : Nat → UInt8) (iv a s : ByteArray) (ha : a.size < 2 ^ 40) (hs : s.size < 2 ^ 40) (h : iv.size = 12) (w : World) : Calls Try.prog 51 #[.agg (blk 16 k), .string iv, .string a, .string s] w fun e w' => e = .returned (.tuple #[.string (sealS (Ci.rounds k) (ofText iv) a s), .int .i64 0]) ∧ Below w.heap.size w w' := by
  have hz := zero192
  have HC := Lib.hid ((St.nil w).pushA (blk 16 k) 25 rfl)
  have H := Lib.hid h
  clear h
  go_enter Try.func51, Try.ntmps51
  go_wp2_with fail
  refine (begin_any k iv H.out _).mono ?_; rintro e w1 ⟨rfl, hw⟩
  have HC := Lib.hid (HC.out.call hw)
  clear hw
  have hC := HC.out
  (have HC := Lib.hid hC
   have sos := hC.below.os
   obtain ⟨r1, f1, i1, b1, l1⟩ := St.facts1 hC
   clear hC)
  go_wp2_with fail
  have HC := Lib.hid (HC.out.push (blk 192 (wk (Ci.rounds k) (ofText iv))) 128)
  (clear r1 f1 i1 b1 l1 sos)
  generalize w1.heap.size = g at HC ⊢
  refine (stream2_any _ _ s hs _).mono ?_; rintro e w2 ⟨rfl, hw⟩
  have HC := Lib.hid (HC.out.call hw)
  clear hw
  have hC := HC.out
  (have HC := Lib.hid hC
   have sos := hC.below.os
   obtain ⟨⟨r1, f1, i1, b1, l1⟩, ⟨r2, f2, i2, b2, l2⟩, m12, m21⟩ := St.facts2 hC
   clear hC)
  go_wp2_with fail
  (clear r1 f1 i1 b1 l1 r2 f2 i2 b2 l2 m12 m21 sos)
  refine (tag_any _ _ a (strS (Ci.rounds k) (ofText iv) 2 s) ha (by rw [strS_size]; exact hs) _).mono ?_; rintro e w3 ⟨rfl, hw⟩
  have HC := Lib.hid (HC.out.call hw)
  clear hw
  have sos := HC.out.os
  have t1 : (strS (Ci.rounds k) (ofText iv) 2 s).size ≤ 1099511627776 := by rw [strS_size]; omega
  have t2 : (tagS (Ci.rounds k) (ofText iv) a (strS (Ci.rounds k) (ofText iv) 2 s)).size = 16 := tagS_size _ _ _ _
  go_wp2_with fail
  go_ret2
  exact ⟨rfl, HC.out.below⟩
end Go.Proofs.Ytgaecjhghpkcoaa
end

section
namespace Go.Proofs.Ytgaecjhghpkcoaa
open Go.RowKit
attribute [local go_sem] B_xor B_or B_and
attribute [local go_sem] blk_set blk_size blk_get blk_getE upd_same oneCells_blk paste_blk cut_blk szOf
attribute [local go_sem high] paste_all cut_head
attribute [local go_sem] rowAt_alloc rowAt_drew rowAt_drewN isRow_alloc isRow_drew isRow_drewN freeRow_alloc freeRow_end freeRow_drew freeRow_drewN
attribute [local go_sem] setRow_alloc setRow_drew setRow_drewN setCell_drewN alloc_drewN rowAt_put isRow_setRow freeRow_put
attribute [local go_sem ↓] loadS_in storeS_in indexS_in copyS_in
attribute [local go_sem] loadS_row loadS_one storeS_row storeS_one indexS_blk copyS_rows run_equalIn_blk same_refl arrayAt_row
attribute [local go_sem] cell_row frozen_row st_setCell st_blk_ne stepAt stepUpon
attribute [local go_sem high] run_eql_blk run_neq_blk
attribute [local go_sem ↓] convBS_in
attribute [local go_sem] convBS_row convBS_nil allBytes_blk bytesOf_blk
attribute [local go_sem ↓] convSB_in
attribute [local go_sem] convSB_row freeRow_endB indexS_text

def cutS (s : ByteArray) : ByteArray := s.extract 0 (s.size - 16)
def endS (s : ByteArray) : ByteArray := s.extract (s.size - 16) s.size
/-- is its tag the one that it should be? -/
def tagged (r v : Nat → UInt8) (a s : ByteArray) : Bool := same 16 (tagB r v a (cutS s)) (ofText (endS s))
def orTo (f g : Nat → UInt8) : Nat → UInt8
  | 0 => 0
  | k + 1 => orTo f g k ||| (f k ^^^ g k)
theorem or_zero (a b : UInt8) : a ||| b = 0 ↔ a = 0 ∧ b = 0 := by
  rw [← UInt8.toNat_inj, ← UInt8.toNat_inj, ← UInt8.toNat_inj, UInt8.toNat_or]
  simp
theorem xor_zero (a b : UInt8) : a ^^^ b = 0 ↔ a = b := by
  constructor
  · intro h
    have : (a ^^^ b) ^^^ b = 0 ^^^ b := by rw [h]
    rwa [UInt8.xor_assoc, UInt8.xor_self, UInt8.xor_zero, UInt8.zero_xor] at this
  · rintro rfl; exact UInt8.xor_self
theorem orTo_zero (f g : Nat → UInt8) : ∀ k, orTo f g k = 0 ↔ ∀ i, i < k → f i = g i
  | 0 => by simp [orTo]
  | k + 1 => by
    rw [orTo, or_zero, xor_zero, orTo_zero f g k]
    constructor
    · rintro ⟨h1, h2⟩ i hi
      by_cases h : i < k
      · exact h1 i h
      · rw [show i = k by omega]; exact h2
    · intro h; exact ⟨fun i hi => h i (by omega), h k (by omega)⟩
theorem orTo_test (f g : Nat → UInt8) (k : Nat) : (B (orTo f g k) != 0) = !same k f g := by
  rw [Bool.eq_iff_iff, Bool.not_eq_true', bne_iff_ne]
  have h1 : B (orTo f g k) = 0 ↔ same k f g = true := by
    rw [same_iff, ← orTo_zero]
    exact ⟨fun h => B_inj (h.trans rfl), fun h => by rw [h]; rfl⟩
  constructor
  · intro h
    cases hs : same k f g with
    | false => rfl
    | true => exact (h (h1.2 hs)).elim
  · intro h e
    rw [h1.1 e] at h; cases h

set_option maxRecDepth 100000 in
set_option maxHeartbeats 1000000 in
theorem gcOpen_short (k : Nat → UInt8) (iv a s : ByteArray) (h : iv.size ≠ 12) (w : World) : Calls Try.prog 54 #[.agg (blk 16 k), .string iv, .string a, .string s] w fun e w' => e = .returned (.tuple #[.string ⟨#[]⟩, .int .i64 2]) ∧ Below w.heap.size w w' := by
  have hz := zero192
  have HC := Lib.hid ((St.nil w).pushA (blk 16 k) 25 rfl)
  go_enter Try.func54, Try.ntmps54
  go_wp2_with fail
  refine (begin_short k iv h _).mono ?_; rintro e w1 ⟨rfl, hw⟩
  have HC := Lib.hid (HC.out.call hw)
  clear hw
  have hC := HC.out
  (have HC := Lib.hid hC
   have sos := hC.below.os
   obtain ⟨r1, f1, i1, b1, l1⟩ := St.facts1 hC
   clear hC)
  go_wp2_with fail
  go_ret2
  exact ⟨rfl, HC.out.below.alloc HC.out.below.size _⟩
set_option maxRecDepth 100000 in
set_option maxHeartbeats 1000000 in
theorem gcOpen_less (k : Nat → UInt8) (iv a s : ByteArray) (h : iv.size = 12) (hl : s.size < 16) (w : World) : Calls Try.prog 54 #[.agg (blk 16 k), .string iv, .string a, .string s] w fun e w' => e = .returned (.tuple #[.string ⟨#[]⟩, .int .i64 3]) ∧ Below w.heap.size w w' := by
  have hz := zero192
  have HC := Lib.hid ((St.nil w).pushA (blk 16 k) 25 rfl)
  have H := Lib.hid h
  clear h
  have d1 : decide ((s.size : Int) - 16 < 0) = true := decide_eq_true (by omega)
  have d2 : (s.size : Int) < 16 := by omega
  have d3 : IntKind.i64.wrap ((s.size : Int) - 16) = (s.size : Int) - 16 := IntWalk.i64_in _ (by omega)
  go_enter Try.func54, Try.ntmps54
  go_wp2_with fail
  refine (begin_any k iv H.out _).mono ?_; rintro e w1 ⟨rfl, hw⟩
  have HC := Lib.hid (HC.out.call hw)
  clear hw
  have hC := HC.out
  (have HC := Lib.hid hC
   have sos := hC.below.os
   obtain ⟨r1, f1, i1, b1, l1⟩ := St.facts1 hC
   clear hC)
  go_wp2_with fail
  go_ret2
  exact ⟨rfl, HC.out.below.alloc HC.out.below.size _⟩
set_option maxRecDepth 100000 in
set_option maxHeartbeats 2000000 in
theorem gcOpen_full (k : Nat → UInt8) (iv a s : ByteArray) (ha : a.size < 2 ^ 40) (hs : s.size < 2 ^ 40) (h : iv.size = 12) (hl : 16 ≤ s.size) (ok : Bool) (hok : tagged (Ci.rounds k) (ofText iv) a s = ok) (R : ByteArray) (E : Int) (hR : (ok = true ∧ R = strS (Ci.rounds k) (ofText iv) 2 (cutS s) ∧ E = 0) ∨ (ok = false ∧ R = ⟨#[]⟩ ∧ E = 11)) (w : World) :
    Calls Try.prog 54 #[.agg (blk 16 k), .string iv, .string a, .string s] w fun e w' => e = .returned (.tuple #[.string R, .int .i64 E]) ∧ Below w.heap.size w w' := by
  have hz := zero192
  have HC := Lib.hid ((St.nil w).pushA (blk 16 k) 25 rfl)
  have H := Lib.hid h
  have HOK := Lib.hid hok
  have HR := Lib.hid hR
  clear h hok hR
  obtain ⟨m, hm⟩ : ∃ m, s.size - 16 = m := ⟨_, rfl⟩
  have d1 : (s.size : Int) - 16 = (m : Int) := by omega
  have d2 : IntKind.i64.wrap ((s.size : Int) - 16) = (m : Int) := by rw [IntWalk.i64_in _ (by omega)]; exact d1
  have d3 : (m : Int) ≤ (s.size : Int) := by omega
  have e1 : s.extract 0 m = cutS s := by unfold cutS; rw [hm]
  have e2 : s.extract m s.size = endS s := by unfold endS; rw [hm]
  have z1 : (cutS s).size < 2 ^ 40 := by unfold cutS; rw [ByteArray.size_extract]; omega
  have z2 : (endS s).size = 16 := by unfold endS; rw [ByteArray.size_extract]; omega
  have HM := Lib.hid hm
  clear hm
  have d4 : decide ((m : Int) < 0) = false := decide_eq_false (by omega)
  go_enter Try.func54, Try.ntmps54
  go_wp2_with fail
  refine (begin_any k iv H.out _).mono ?_; rintro e w1 ⟨rfl, hw⟩
  have HC := Lib.hid (HC.out.call hw)
  clear hw
  have hC := HC.out
  (have HC := Lib.hid hC
   have sos := hC.below.os
   obtain ⟨r1, f1, i1, b1, l1⟩ := St.facts1 hC
   clear hC)
  go_wp2_with fail
  have HC := Lib.hid (HC.out.push (blk 192 (wk (Ci.rounds k) (ofText iv))) 128)
  (clear r1 f1 i1 b1 l1 sos)
  generalize w1.heap.size = g at HC ⊢
  refine St.region HC.out (by kernel_rfl) (by kernel_rfl) ?_
  (first
     | (apply head_skip rfl)
     | (apply head_step_g rfl
        focus
          intro w0 hC
          (fail))
     | (apply head_step_g rfl
        focus
          intro w0 hC
          have hC' := Lib.hid hC
          obtain ⟨⟨r1, f1, i1, b1, l1⟩, ⟨r2, f2, i2, b2, l2⟩, m12, m21⟩ := St.facts2 hC
          clear hC
          go_simp
          have hC := hC'.out
          (first
             | with_reducible rfl
             | (skip
                (fail)
                rintro e w' ⟨rfl, hw⟩
                exact ⟨rfl, St.call (by assumption) hw⟩)))
   try simp only [Act.put, List.setIfInBounds_toArray, List.set])
  (first
     | (apply head_skip rfl)
     | (apply head_step_g rfl
        focus
          intro w0 hC
          (fail))
     | (apply head_step_g rfl
        focus
          intro w0 hC
          have hC' := Lib.hid hC
          obtain ⟨⟨r1, f1, i1, b1, l1⟩, ⟨r2, f2, i2, b2, l2⟩, m12, m21⟩ := St.facts2 hC
          clear hC
          go_simp
          have hC := hC'.out
          (first
             | with_reducible rfl
             | (skip
                (fail)
                rintro e w' ⟨rfl, hw⟩
                exact ⟨rfl, St.call (by assumption) hw⟩)))
   try simp only [Act.put, List.setIfInBounds_toArray, List.set])
  (first
     | (apply head_skip rfl)
     | (apply head_step_g rfl
        focus
          intro w0 hC
          (fail))
     | (apply head_step_g rfl
        focus
          intro w0 hC
          have hC' := Lib.hid hC
          obtain ⟨⟨r1, f1, i1, b1, l1⟩, ⟨r2, f2, i2, b2, l2⟩, m12, m21⟩ := St.facts2 hC
          clear hC
          go_simp
          have hC := hC'.out
          (first
             | with_reducible rfl
             | (skip
                (fail)
                rintro e w' ⟨rfl, hw⟩
                exact ⟨rfl, St.call (by assumption) hw⟩)))
   try simp only [Act.put, List.setIfInBounds_toArray, List.set])
  (first
     | (apply head_skip rfl)
     | (apply head_step_g rfl
        focus
          intro w0 hC
          (fail))
     | (apply head_step_g rfl
        focus
          intro w0 hC
          have hC' := Lib.hid hC
          obtain ⟨⟨r1, f1, i1, b1, l1⟩, ⟨r2, f2, i2, b2, l2⟩, m12, m21⟩ := St.facts2 hC
          clear hC
          go_simp
          have hC := hC'.out
          (first
             | with_reducible rfl
             | (skip
                (fail)
                rintro e w' ⟨rfl, hw⟩
                exact ⟨rfl, St.call (by assumption) hw⟩)))
   try simp only [Act.put, List.setIfInBounds_toArray, List.set])
  (first
     | (apply head_skip rfl)
     | (apply head_step_g rfl
        focus
          intro w0 hC
          (fail))
     | (apply head_step_g rfl
        focus
          intro w0 hC
          have hC' := Lib.hid hC
          obtain ⟨⟨r1, f1, i1, b1, l1⟩, ⟨r2, f2, i2, b2, l2⟩, m12, m21⟩ := St.facts2 hC
          clear hC
          go_simp
          have hC := hC'.out
          (first
             | with_reducible rfl
             | (skip
                (fail)
                rintro e w' ⟨rfl, hw⟩
                exact ⟨rfl, St.call (by assumption) hw⟩)))
   try simp only [Act.put, List.setIfInBounds_toArray, List.set])
  (first
     | (apply head_skip rfl)
     | (apply head_step_g rfl
        focus
          intro w0 hC
          (fail))
     | (apply head_step_g rfl
        focus
          intro w0 hC
          have hC' := Lib.hid hC
          obtain ⟨⟨r1, f1, i1, b1, l1⟩, ⟨r2, f2, i2, b2, l2⟩, m12, m21⟩ := St.facts2 hC
          clear hC
          go_simp
          have hC := hC'.out
          (first
             | with_reducible rfl
             | (skip
                (fail)
                rintro e w' ⟨rfl, hw⟩
                exact ⟨rfl, St.call (by assumption) hw⟩)))
   try simp only [Act.put, List.setIfInBounds_toArray, List.set])
  (first
     | (apply head_skip rfl)
     | (apply head_step_g rfl
        focus
          intro w0 hC
          (fail))
     | (apply head_step_g rfl
        focus
          intro w0 hC
          have hC' := Lib.hid hC
          obtain ⟨⟨r1, f1, i1, b1, l1⟩, ⟨r2, f2, i2, b2, l2⟩, m12, m21⟩ := St.facts2 hC
          clear hC
          go_simp
          have hC := hC'.out
          (first
             | with_reducible rfl
             | (skip
                (fail)
                rintro e w' ⟨rfl, hw⟩
                exact ⟨rfl, St.call (by assumption) hw⟩)))
   try simp only [Act.put, List.setIfInBounds_toArray, List.set])
  (first
     | (apply head_skip rfl)
     | (apply head_step_g rfl
        focus
          intro w0 hC
          (fail))
     | (apply head_step_g rfl
        focus
          intro w0 hC
          have hC' := Lib.hid hC
          obtain ⟨⟨r1, f1, i1, b1, l1⟩, ⟨r2, f2, i2, b2, l2⟩, m12, m21⟩ := St.facts2 hC
          clear hC
          go_simp
          have hC := hC'.out
          (first
             | with_reducible rfl
             | (skip
                (fail)
                rintro e w' ⟨rfl, hw⟩
                exact ⟨rfl, St.call (by assumption) hw⟩)))
   try simp only [Act.put, List.setIfInBounds_toArray, List.set])
  refine wpQuiet_nil ?_
  intro w2 hC
  clear HC d1 d2 d3 e1 e2
  (have HC := Lib.hid hC
   have sos := hC.below.os
   obtain ⟨⟨r1, f1, i1, b1, l1⟩, ⟨r2, f2, i2, b2, l2⟩, m12, m21⟩ := St.facts2 hC
   clear hC)
  go_wp2_with fail
  (clear r1 f1 i1 b1 l1 r2 f2 i2 b2 l2 m12 m21 sos)
  refine (tag_any _ _ a (cutS s) ha z1 _).mono ?_; rintro e w3 ⟨rfl, hw⟩
  have HC := Lib.hid (HC.out.call hw)
  clear hw
  have t2 := tagS_size (Ci.rounds k) (ofText iv) a (cutS s)
  have HT : Hid (same 16 (ofText (tagS (Ci.rounds k) (ofText iv) a (cutS s))) (ofText (endS s)) = tagged (Ci.rounds k) (ofText iv) a s) := by
    have : ∀ i, i < 16 → ofText (tagS (Ci.rounds k) (ofText iv) a (cutS s)) i = tagB (Ci.rounds k) (ofText iv) a (cutS s) i := fun i hi => ofText_strOf _ _ _ hi
    unfold tagged
    refine Eq.symm ?_
    unfold same
    exact decide_eq_decide.2 ⟨fun h i hi => by rw [this i hi]; exact h i hi, fun h i hi => by rw [← this i hi]; exact h i hi⟩
  generalize tagS (Ci.rounds k) (ofText iv) a (cutS s) = T at t2 HT ⊢
  have hC := HC.out
  have hcp := Lib.hid (capS_ge w3 16 5)
  (have HC := Lib.hid hC
   have sos := hC.below.os
   obtain ⟨⟨r1, f1, i1, b1, l1⟩, ⟨r2, f2, i2, b2, l2⟩, m12, m21⟩ := St.facts2 hC
   clear hC)
  go_wp2_with fail
  (clear r1 f1 i1 b1 l1 r2 f2 i2 b2 l2 m12 m21 sos)
  generalize capS w3 16 5 = cp at hcp ⊢
  have HC := Lib.hid (HC.out.pushM cp (ofText T) 5 (cp + 1)).drew
  generalize w3.heap.size = gt at HC ⊢
  go_loopw [15, 44] (fun d i wr => ∃ j : Nat, j ≤ 16 ∧ i = .int .i64 (j : Int) ∧ d = .int .u8 (B (orTo (ofText T) (ofText (endS s)) j)) ∧ Hid (St w [(gt, blk cp (ofText T)), (g, blk 192 (wk (Ci.rounds k) (ofText iv))), (w.heap.size, blk 16 k)] wr)) (fun _ i _ => 16 - (intOf i).toNat)
  case atStart => exact ⟨0, by omega, rfl, rfl, HC⟩
  case round =>
    clear HC
    obtain ⟨j, hj, rfl, rfl, HJ⟩ := hrel
    have hc := hcp.out
    have hC := HJ.out
    by_cases hlt : j < 16
    · have d1 : (j : Int) < 16 := by omega
      have d2 : j < cp := by omega
      have d3 : j < (endS s).size := by omega
      (have HC := Lib.hid hC
       have sos := hC.below.os
       obtain ⟨⟨r1, f1, i1, b1, l1⟩, ⟨r2, f2, i2, b2, l2⟩, ⟨r3, f3, i3, b3, l3⟩, m12, m21, m13, m31, m23, m32⟩ := St.facts3 hC
       clear hC)
      go_wp2_with fail
      exact ⟨⟨j + 1, by omega, by go_num, rfl, HJ⟩, by simp [intOf]; omega⟩
    · obtain rfl : j = 16 := by omega
      have e1 : (B (orTo (ofText T) (ofText (endS s)) 16) != 0) = !ok := by rw [orTo_test, HT.out, HOK.out]
      have HE := Lib.hid z1
      cases ok with
      | false =>
        obtain ⟨rfl, rfl⟩ : R = ⟨#[]⟩ ∧ E = 11 := by
          rcases HR.out with h | h
          · cases h.1
          · exact h.2
        have e2 : (B (orTo (ofText T) (ofText (endS s)) 16) != 0) = true := e1
        clear e1
        (have HC := Lib.hid hC
         have sos := hC.below.os
         obtain ⟨⟨r1, f1, i1, b1, l1⟩, ⟨r2, f2, i2, b2, l2⟩, ⟨r3, f3, i3, b3, l3⟩, m12, m21, m13, m31, m23, m32⟩ := St.facts3 hC
         clear hC)
        go_wp2_with fail
        go_ret2
        exact ⟨rfl, HJ.out.below⟩
      | true =>
        obtain ⟨rfl, rfl⟩ : R = strS (Ci.rounds k) (ofText iv) 2 (cutS s) ∧ E = 0 := by
          rcases HR.out with h | h
          · exact h.2
          · cases h.1
        have e2 : (B (orTo (ofText T) (ofText (endS s)) 16) != 0) = false := e1
        clear e1
        (have HC := Lib.hid hC
         have sos := hC.below.os
         obtain ⟨⟨r1, f1, i1, b1, l1⟩, ⟨r2, f2, i2, b2, l2⟩, ⟨r3, f3, i3, b3, l3⟩, m12, m21, m13, m31, m23, m32⟩ := St.facts3 hC
         clear hC)
        go_wp2_with fail
        refine (stream2_any _ _ (cutS s) HE.out _).mono ?_; rintro e w5 ⟨rfl, hw⟩
        have HC := Lib.hid (HJ.out.call hw)
        clear hw
        have sos := HC.out.os
        go_wp2_with fail
        go_ret2
        exact ⟨rfl, HC.out.below⟩
end Go.Proofs.Ytgaecjhghpkcoaa
end
