/- The program's Parse of a ring: the ring, or why there is none. Texts no longer than 2 to 40. -/
import Derived.Test.YtgaecjhghpkcoaaGreatRingText
namespace Go.Proofs.YtgaecjhghpkcoaaGreat
open Go.RowKit
attribute [local go_sem] B_xor B_or B_and
attribute [local go_sem] blk_set blk_size blk_get blk_getE upd_same oneCells_blk paste_blk cut_blk szOf
attribute [local go_sem high] paste_all cut_head
attribute [local go_sem] rowAt_alloc rowAt_drew rowAt_drewN isRow_alloc isRow_drew isRow_drewN freeRow_alloc freeRow_end freeRow_drew freeRow_drewN
attribute [local go_sem] setRow_alloc setRow_drew setRow_drewN setCell_drewN alloc_drewN rowAt_put isRow_setRow freeRow_put
attribute [local go_sem ↓] loadS_in storeS_in indexS_in copyS_in
attribute [local go_sem] loadS_row loadS_one storeS_row storeS_one indexS_blk copyS_rows run_equalIn_blk same_refl arrayAt_row
attribute [local go_sem] cell_row frozen_row st_setCell st_blk_ne stepAt stepUpon
attribute [local go_sem high] run_eql_blk run_neq_blk
attribute [local go_sem ↓] convBS_in
attribute [local go_sem] convBS_row convBS_nil allBytes_blk bytesOf_blk
attribute [local go_sem] rg_size rg_get0 rg_getE0 rg_ne rg_set0 rg_one rg_cut rg_key rg_put rg_paste part_rg0 part_rg1
attribute [local go_sem] size_sc agg_sc sc_size sc_get0 sc_get1 sc_get2 sc_getE0 sc_getE1 sc_getE2 sc_set1 sc_set2 sc_ne sc_one sc_cut sc_paste

theorem copyS_long {P : Program} {w : World} (dT sT ty : TypeId) (g o n dCap : Nat) (s : ByteArray) (hmn : n ≤ s.size) (hu : P.underlying dT = some (.slice (P.elem dT))) (hs : (sizeOf (P.elem dT)).run P w = .ok 1 w)
    (hr : freeRow w g = true) (hg : o + n ≤ (rowAt w g).size) :
    (copyS #[dT, sT] ty #[.slice (some ⟨g, o, none⟩) n dCap, .string s]).run P w = .ok (goInt (n : Int)) (w.setRow g (paste (rowAt w g) o (blk n (ofText s)))) := by
  have hst := run_storeCells_row (P := P) g o (blk n (ofText s)) hr (by rw [blk_size]; omega) (oneCells_blk _ _)
  have hc : ((s.extract 0 n).data.map fun b => Value.int .u8 (b.toNat : Int)) = blk n (ofText s) := by
    apply Array.ext
    · rw [blk_size]; simp; omega
    · intro i h1 h2
      have hi : i < n := by rw [blk_size] at h2; exact h2
      have hd : i < s.data.size := by have : s.data.size = s.size := rfl; omega
      have hb := blk_getE n (ofText s) i h2
      rw [hb]
      simp [ofText, B, Array.getElem?_eq_getElem hd]
  have hmm : Nat.min s.size n = n := Nat.min_eq_right hmn
  simp only [copyS, Builtin.copy_, List.getElem?_toArray, List.getElem?_cons_zero, List.getElem?_cons_succ, Sem.run_bind, run_underlying hu, Result.andThen_ok, Builtin.lenOf, Sem.run_pure, hs, Builtin.firstCells, hmm, hc, hst]
/-- the keys that have been taken off a text, k bytes -/
def parseB (R : ByteArray) (k : Nat) : Nat → UInt8 := fun x => if x < k then ofText R x else 0
theorem parseB_step (R : ByteArray) (i : Nat) (h : i * 16 + 16 ≤ R.size) : cpy (parseB R (i * 16)) (i * 16) (ofText (R.extract (i * 16) R.size)) 0 16 = parseB R ((i + 1) * 16) := by
  have hsz : R.data.size = R.size := rfl
  funext x
  unfold cpy parseB
  by_cases h1 : x < i * 16
  · rw [if_neg (by omega), if_pos h1, if_pos (by omega)]
  · by_cases h2 : x < i * 16 + 16
    · rw [if_pos (by omega), if_pos (by omega), Nat.zero_add]
      unfold ofText
      rw [ByteArray.data_extract, Array.getD_eq_getD_getElem?, Array.getD_eq_getD_getElem?, Array.getElem?_extract, if_pos (by omega)]
      congr 2; omega
    · rw [if_neg (by omega), if_neg h1, if_neg (by omega)]
theorem numAt_byte (s : ByteArray) (p : Nat) : numAt s p 1 = (ofText s p).toNat := by
  simp [numAt, numTo]
theorem scan_first (s : ByteArray) (N : Nat) (h : 0 < s.size) (hN : (ofText s 0).toNat = N) (hs : s.size < 2 ^ 40) (w : World) : Calls Tryz.prog 64 #[.agg (sc s 0 0), .int .i64 1] w fun e w' => e = .returned (.tuple #[.int .u64 (N : Int), .agg (sc s 1 0)]) ∧ Below w.heap.size w w' := by
  have := scanNum_ok s 0 1 (by omega) (by omega) (by omega) hs w
  rw [numAt_byte, hN, Nat.zero_add] at this
  exact this
theorem scan_none (s : ByteArray) (h : s.size = 0) (w : World) : Calls Tryz.prog 64 #[.agg (sc s 0 0), .int .i64 1] w fun e w' => e = .returned (.tuple #[.int .u64 0, .agg (sc s 0 3)]) ∧ Below w.heap.size w w' := scanNum_short s 0 1 (by omega) (by omega) (by omega) (by omega) (by omega) w
theorem sc_build (s : ByteArray) : #[Value.string s, .int .i64 0, .int .i64 0] = sc s 0 0 := rfl
theorem sc_set0 (t u : ByteArray) (p e : Nat) : (sc t p e).setIfInBounds 0 (.string u) = sc u p e := by simp [sc]
attribute [local go_sem] sc_build sc_set0 copyS_long
set_option maxRecDepth 100000 in
set_option maxHeartbeats 2000000 in
theorem parse_empty (s : ByteArray) (h : s.size = 0) (w : World) : Calls Tryz.prog 61 #[.string s] w fun e w' => e = .returned (.tuple #[.agg (rg 0 fun _ => 0), .int .i64 3]) ∧ Below w.heap.size w w' := by
  have hz2 := zero97
  have HS := Lib.hid h
  clear h
  have HC := Lib.hid ((St.nil w).pushA (rg 0 fun _ => 0) 44 rfl)
  go_enter Tryz.func61, Tryz.ntmps61
  go_wp2_with fail
  refine (scan_none s HS.out _).mono ?_; rintro e w1 ⟨rfl, hw⟩
  have HC := Lib.hid (HC.out.call hw)
  clear hw
  have hC := HC.out
  (have HC := Lib.hid hC
   have sos := hC.below.os
   obtain ⟨r1, f1, i1, b1, l1⟩ := St.facts1 hC
   clear hC)
  go_wp2_with fail
  (clear r1 f1 i1 b1 l1 sos)
  have HC := Lib.hid (HC.out.push (sc s 0 3) 120)
  generalize w1.alloc (Obj.cells (sc s 0 3) 120) = w2 at HC ⊢
  have hC := HC.out
  (have HC := Lib.hid hC
   have sos := hC.below.os
   obtain ⟨⟨r1, f1, i1, b1, l1⟩, ⟨r2, f2, i2, b2, l2⟩, m12, m21⟩ := St.facts2 hC
   clear hC)
  go_region
  all_goals
    go_wp2_with fail
    refine bodyPost_ret (results_pair rfl _ w.heap.size rfl (rg 0 fun _ => 0) ?_ ?_ ?_ ?_ (.int .i64 3) rfl) rfl ⟨rfl, ?_⟩
    · simp [go_sem, *]
    · simp [go_sem]
    · simp [go_sem]
    · simp [go_sem, *]
    · exact (below_setRow' HC.out.below (by omega) _).drew
/-- the ways that lead to no ring behind a first byte -/
def ParseNo (N L : Nat) (d : Nat) : Prop := ((N < 1 ∨ 6 < N) ∧ d = 4) ∨ ((1 ≤ N ∧ N ≤ 6) ∧ L < N * 16 ∧ d = 3) ∨ ((1 ≤ N ∧ N ≤ 6) ∧ N * 16 < L ∧ d = 4)
set_option maxRecDepth 100000 in
set_option maxHeartbeats 2000000 in
theorem parse_form (s : ByteArray) (N : Nat) (h : 0 < s.size) (hN : (ofText s 0).toNat = N) (hs : s.size < 2 ^ 40) (h1 : N < 1 ∨ 6 < N) (w : World) : Calls Tryz.prog 61 #[.string s] w fun e w' => e = .returned (.tuple #[.agg (rg 0 fun _ => 0), .int .i64 4]) ∧ Below w.heap.size w w' := by
  have hz2 := zero97
  have hN8 : N < 256 := by have := (ofText s 0).toNat_lt; omega
  have n8 : (N : Int) < 256 := by omega
  have HN := Lib.hid hN
  have HM := Lib.hid (show decide (1 ≤ (N : Int) ∧ (N : Int) ≤ 6) = false from decide_eq_false (by omega))
  clear hN h1
  have HC := Lib.hid ((St.nil w).pushA (rg 0 fun _ => 0) 44 rfl)
  go_enter Tryz.func61, Tryz.ntmps61
  go_wp2_with fail
  refine (scan_first s N h HN.out hs _).mono ?_; rintro e w1 ⟨rfl, hw⟩
  have HC := Lib.hid (HC.out.call hw)
  clear hw
  have hC := HC.out
  (have HC := Lib.hid hC
   have sos := hC.below.os
   obtain ⟨r1, f1, i1, b1, l1⟩ := St.facts1 hC
   clear hC)
  go_wp2_with fail
  (clear r1 f1 i1 b1 l1 sos)
  have HC := Lib.hid (HC.out.push (sc s 1 0) 120)
  refine (may_any _ false HM.out _).mono ?_; rintro e w2 ⟨rfl, hw⟩
  have HC := Lib.hid (HC.out.call hw)
  clear hw
  have hC := HC.out
  (have HC := Lib.hid hC
   have sos := hC.below.os
   obtain ⟨⟨r1, f1, i1, b1, l1⟩, ⟨r2, f2, i2, b2, l2⟩, m12, m21⟩ := St.facts2 hC
   clear hC)
  go_wp2_with fail
  refine bodyPost_ret (results_pair rfl _ w.heap.size rfl (rg 0 fun _ => 0) ?_ ?_ ?_ ?_ (.int .i64 4) rfl) rfl ⟨rfl, ?_⟩
  · simp [go_sem, *]
  · simp [go_sem]
  · simp [go_sem]
  · simp [go_sem, *]
  · exact below_setRow' HC.out.below (by omega) _
set_option maxRecDepth 100000 in
set_option maxHeartbeats 2000000 in
theorem parse_size (s : ByteArray) (N d : Nat) (h : 0 < s.size) (hN : (ofText s 0).toNat = N) (hs : s.size < 2 ^ 40) (h1 : 1 ≤ N) (h6 : N ≤ 6) (hd : (s.size < 1 + N * 16 ∧ d = 3) ∨ (1 + N * 16 < s.size ∧ d = 4)) (w : World) : Calls Tryz.prog 61 #[.string s] w fun e w' => e = .returned (.tuple #[.agg (rg 0 fun _ => 0), .int .i64 (d : Int)]) ∧ Below w.heap.size w w' := by
  have hz2 := zero97
  have n6 : (N : Int) ≤ 6 := by omega
  have HN := Lib.hid hN
  have HM := Lib.hid (show decide (1 ≤ (N : Int) ∧ (N : Int) ≤ 6) = true from decide_eq_true (by omega))
  clear hN
  obtain ⟨R, hR⟩ : ∃ R, s.extract 1 s.size = R := ⟨_, rfl⟩
  have hRs : R.size + 1 = s.size := by rw [← hR, ByteArray.size_extract]; omega
  have HR := Lib.hid hR
  have HRs := Lib.hid hRs
  clear hR
  have HC := Lib.hid ((St.nil w).pushA (rg 0 fun _ => 0) 44 rfl)
  rcases hd with ⟨hd, rfl⟩ | ⟨hd, rfl⟩
  · have d1 : decide ((R.size : Int) < (N : Int) * 16) = true := decide_eq_true (by omega)
    clear hRs hd
    go_enter Tryz.func61, Tryz.ntmps61
    go_wp2_with fail
    refine (scan_first s N h HN.out hs _).mono ?_; rintro e w1 ⟨rfl, hw⟩
    have HC := Lib.hid (HC.out.call hw)
    clear hw
    have hC := HC.out
    (have HC := Lib.hid hC
     have sos := hC.below.os
     obtain ⟨r1, f1, i1, b1, l1⟩ := St.facts1 hC
     clear hC)
    go_wp2_with fail
    (clear r1 f1 i1 b1 l1 sos)
    have HC := Lib.hid (HC.out.push (sc s 1 0) 120)
    refine (may_any _ true HM.out _).mono ?_; rintro e w2 ⟨rfl, hw⟩
    have HC := Lib.hid (HC.out.call hw)
    clear hw
    have hC := HC.out
    (have HC := Lib.hid hC
     have sos := hC.below.os
     obtain ⟨⟨r1, f1, i1, b1, l1⟩, ⟨r2, f2, i2, b2, l2⟩, m12, m21⟩ := St.facts2 hC
     clear hC)
    go_wp2_with fail
    (clear r1 f1 i1 b1 l1 r2 f2 i2 b2 l2 m12 m21 sos)
    refine (rest_any s 1 h _).mono ?_; rintro e w3 ⟨rfl, hw⟩
    rw [HR.out]
    have HC := Lib.hid (HC.out.call hw)
    clear hw
    have hC := HC.out
    (have HC := Lib.hid hC
     have sos := hC.below.os
     obtain ⟨⟨r1, f1, i1, b1, l1⟩, ⟨r2, f2, i2, b2, l2⟩, m12, m21⟩ := St.facts2 hC
     clear hC)
    go_wp2_with fail
    refine bodyPost_ret (results_pair rfl _ w.heap.size rfl (rg 0 fun _ => 0) ?_ ?_ ?_ ?_ (.int .i64 3) rfl) rfl ⟨rfl, ?_⟩
    · simp [go_sem, *]
    · simp [go_sem]
    · simp [go_sem]
    · simp [go_sem, *]
    · exact below_setRow' HC.out.below (by omega) _
  · have d1 : decide ((R.size : Int) < (N : Int) * 16) = false := decide_eq_false (by omega)
    have d2 : decide ((N : Int) * 16 < (R.size : Int)) = true := decide_eq_true (by omega)
    clear hRs hd
    go_enter Tryz.func61, Tryz.ntmps61
    go_wp2_with fail
    refine (scan_first s N h HN.out hs _).mono ?_; rintro e w1 ⟨rfl, hw⟩
    have HC := Lib.hid (HC.out.call hw)
    clear hw
    have hC := HC.out
    (have HC := Lib.hid hC
     have sos := hC.below.os
     obtain ⟨r1, f1, i1, b1, l1⟩ := St.facts1 hC
     clear hC)
    go_wp2_with fail
    (clear r1 f1 i1 b1 l1 sos)
    have HC := Lib.hid (HC.out.push (sc s 1 0) 120)
    refine (may_any _ true HM.out _).mono ?_; rintro e w2 ⟨rfl, hw⟩
    have HC := Lib.hid (HC.out.call hw)
    clear hw
    have hC := HC.out
    (have HC := Lib.hid hC
     have sos := hC.below.os
     obtain ⟨⟨r1, f1, i1, b1, l1⟩, ⟨r2, f2, i2, b2, l2⟩, m12, m21⟩ := St.facts2 hC
     clear hC)
    go_wp2_with fail
    (clear r1 f1 i1 b1 l1 r2 f2 i2 b2 l2 m12 m21 sos)
    refine (rest_any s 1 h _).mono ?_; rintro e w3 ⟨rfl, hw⟩
    rw [HR.out]
    have HC := Lib.hid (HC.out.call hw)
    clear hw
    have hC := HC.out
    (have HC := Lib.hid hC
     have sos := hC.below.os
     obtain ⟨⟨r1, f1, i1, b1, l1⟩, ⟨r2, f2, i2, b2, l2⟩, m12, m21⟩ := St.facts2 hC
     clear hC)
    go_wp2_with fail
    refine bodyPost_ret (results_pair rfl _ w.heap.size rfl (rg 0 fun _ => 0) ?_ ?_ ?_ ?_ (.int .i64 4) rfl) rfl ⟨rfl, ?_⟩
    · simp [go_sem, *]
    · simp [go_sem]
    · simp [go_sem]
    · simp [go_sem, *]
    · exact below_setRow' HC.out.below (by omega) _
set_option maxRecDepth 100000 in
set_option maxHeartbeats 2000000 in
theorem parse_ok (s R : ByteArray) (N : Nat) (h : 0 < s.size) (hN : (ofText s 0).toNat = N) (h1 : 1 ≤ N) (h6 : N ≤ 6) (hd : s.size = 1 + N * 16) (hR : s.extract 1 s.size = R) (w : World) : Calls Tryz.prog 61 #[.string s] w fun e w' => e = .returned (.tuple #[.agg (rg N (parseB R (N * 16))), .int .i64 0]) ∧ Below w.heap.size w w' := by
  have hz2 := zero97
  have hs : s.size < 2 ^ 40 := by omega
  have n6 : (N : Int) ≤ 6 := by omega
  have HN := Lib.hid hN
  have HM := Lib.hid (show decide (1 ≤ (N : Int) ∧ (N : Int) ≤ 6) = true from decide_eq_true (by omega))
  have hRs : R.size = N * 16 := by rw [← hR, ByteArray.size_extract]; omega
  have HR := Lib.hid hR
  have HRs := Lib.hid hRs
  have d1 : decide ((R.size : Int) < (N : Int) * 16) = false := decide_eq_false (by omega)
  have d2 : decide ((N : Int) * 16 < (R.size : Int)) = false := decide_eq_false (by omega)
  clear hR hN hd hRs
  have HC := Lib.hid ((St.nil w).pushA (rg 0 fun _ => 0) 44 rfl)
  go_enter Tryz.func61, Tryz.ntmps61
  go_wp2_with fail
  refine (scan_first s N h HN.out hs _).mono ?_; rintro e w1 ⟨rfl, hw⟩
  have HC := Lib.hid (HC.out.call hw)
  clear hw
  have hC := HC.out
  (have HC := Lib.hid hC
   have sos := hC.below.os
   obtain ⟨r1, f1, i1, b1, l1⟩ := St.facts1 hC
   clear hC)
  go_wp2_with fail
  (clear r1 f1 i1 b1 l1 sos)
  have HC := Lib.hid (HC.out.push (sc s 1 0) 120)
  refine (may_any _ true HM.out _).mono ?_; rintro e w2 ⟨rfl, hw⟩
  have HC := Lib.hid (HC.out.call hw)
  clear hw
  have hC := HC.out
  (have HC := Lib.hid hC
   have sos := hC.below.os
   obtain ⟨⟨r1, f1, i1, b1, l1⟩, ⟨r2, f2, i2, b2, l2⟩, m12, m21⟩ := St.facts2 hC
   clear hC)
  go_wp2_with fail
  (clear r1 f1 i1 b1 l1 r2 f2 i2 b2 l2 m12 m21 sos)
  refine (rest_any s 1 h _).mono ?_; rintro e w3 ⟨rfl, hw⟩
  rw [HR.out]
  have HC := Lib.hid (HC.out.call hw)
  clear hw
  have hC := HC.out
  (have HC := Lib.hid hC
   have sos := hC.below.os
   obtain ⟨⟨r1, f1, i1, b1, l1⟩, ⟨r2, f2, i2, b2, l2⟩, m12, m21⟩ := St.facts2 hC
   clear hC)
  go_wp2_with fail
  (clear r1 f1 i1 b1 l1 r2 f2 i2 b2 l2 m12 m21 sos)
  have HC := Lib.hid ((HC.out.push (rg N fun _ => 0) 44).pick (L' := [(w3.heap.size, rg N fun _ => 0), (w.heap.size, rg 0 fun _ => 0)]) [0, 2] (by decide) rfl)
  generalize w3.heap.size = q at HC ⊢
  go_loopw [49] (fun i wr => ∃ j : Nat, j ≤ N ∧ i = .int .i64 (j : Int) ∧ Hid (St w [(q, rg N (parseB R (j * 16))), (w.heap.size, rg 0 fun _ => 0)] wr)) (fun i _ => N - (intOf i).toNat)
  case atStart => exact ⟨0, by omega, rfl, HC⟩
  case round =>
    clear HC
    obtain ⟨j, hj, rfl, HJ⟩ := hrel
    have hC := HJ.out
    by_cases hlt : j < N
    · have d3 : (j : Int) < (N : Int) := by omega
      have hRs := HRs.out
      have b1 : j * 16 + 16 ≤ 96 := by omega
      have b2 : 1 + j * 16 + 16 ≤ 97 := by omega
      have b3 : (j : Int) * 16 ≤ (R.size : Int) := by omega
      have v1 : IntKind.i64.wrap ((j : Int) * 16) = (j : Int) * 16 := by rw [IntWalk.i64_in _ (by omega)]
      have x1 : 16 ≤ R.size - j * 16 := by omega
      have x4 : 16 ≤ (R.extract (j * 16) R.size).size := by rw [ByteArray.size_extract]; omega
      have HX := Lib.hid (parseB_step R j (by omega))
      have x2 : (j : Int) < 6 := by omega
      have x3 : (0 : Int) ≤ (j : Int) * 16 := by omega
      clear hRs
      (have HC := Lib.hid hC
       have sos := hC.below.os
       obtain ⟨⟨r1, f1, i1, b1, l1⟩, ⟨r2, f2, i2, b2, l2⟩, m12, m21⟩ := St.facts2 hC
       clear hC)
      go_wp2_with fail
      (clear r1 f1 i1 b1 l1 r2 f2 i2 b2 l2 m12 m21 sos)
      refine St.region_tail 8 HC.out (by kernel_rfl) (by decide +kernel) ?_
      (simp only [List.take, List.drop])
      (first
         | (apply head_skip rfl)
         | (apply head_step_g rfl
            focus
              intro w0 hC
              (fail))
         | (apply head_step_g rfl
            focus
              intro w0 hC
              have hC' := Lib.hid hC
              obtain ⟨⟨r1, f1, i1, b1, l1⟩, ⟨r2, f2, i2, b2, l2⟩, m12, m21⟩ := St.facts2 hC
              clear hC
              go_simp
              have hC := hC'.out
              (first
                 | with_reducible rfl
                 | (skip
                    (fail)
                    rintro e w' ⟨rfl, hw⟩
                    exact ⟨rfl, St.call (by assumption) hw⟩)))
       try simp only [Act.put, List.setIfInBounds_toArray, List.set])
      (first
         | (apply head_skip rfl)
         | (apply head_step_g rfl
            focus
              intro w0 hC
              (fail))
         | (apply head_step_g rfl
            focus
              intro w0 hC
              have hC' := Lib.hid hC
              obtain ⟨⟨r1, f1, i1, b1, l1⟩, ⟨r2, f2, i2, b2, l2⟩, m12, m21⟩ := St.facts2 hC
              clear hC
              go_simp
              have hC := hC'.out
              (first
                 | with_reducible rfl
                 | (skip
                    (fail)
                    rintro e w' ⟨rfl, hw⟩
                    exact ⟨rfl, St.call (by assumption) hw⟩)))
       try simp only [Act.put, List.setIfInBounds_toArray, List.set])
      (first
         | (apply head_skip rfl)
         | (apply head_step_g rfl
            focus
              intro w0 hC
              (fail))
         | (apply head_step_g rfl
            focus
              intro w0 hC
              have hC' := Lib.hid hC
              obtain ⟨⟨r1, f1, i1, b1, l1⟩, ⟨r2, f2, i2, b2, l2⟩, m12, m21⟩ := St.facts2 hC
              clear hC
              go_simp
              have hC := hC'.out
              (first
                 | with_reducible rfl
                 | (skip
                    (fail)
                    rintro e w' ⟨rfl, hw⟩
                    exact ⟨rfl, St.call (by assumption) hw⟩)))
       try simp only [Act.put, List.setIfInBounds_toArray, List.set])
      (first
         | (apply head_skip rfl)
         | (apply head_step_g rfl
            focus
              intro w0 hC
              (fail))
         | (apply head_step_g rfl
            focus
              intro w0 hC
              have hC' := Lib.hid hC
              obtain ⟨⟨r1, f1, i1, b1, l1⟩, ⟨r2, f2, i2, b2, l2⟩, m12, m21⟩ := St.facts2 hC
              clear hC
              go_simp
              have hC := hC'.out
              (first
                 | with_reducible rfl
                 | (skip
                    (fail)
                    rintro e w' ⟨rfl, hw⟩
                    exact ⟨rfl, St.call (by assumption) hw⟩)))
       try simp only [Act.put, List.setIfInBounds_toArray, List.set])
      (first
         | (apply head_skip rfl)
         | (apply head_step_g rfl
            focus
              intro w0 hC
              (fail))
         | (apply head_step_g rfl
            focus
              intro w0 hC
              have hC' := Lib.hid hC
              obtain ⟨⟨r1, f1, i1, b1, l1⟩, ⟨r2, f2, i2, b2, l2⟩, m12, m21⟩ := St.facts2 hC
              clear hC
              go_simp
              have hC := hC'.out
              (first
                 | with_reducible rfl
                 | (skip
                    (fail)
                    rintro e w' ⟨rfl, hw⟩
                    exact ⟨rfl, St.call (by assumption) hw⟩)))
       try simp only [Act.put, List.setIfInBounds_toArray, List.set])
      (first
         | (apply head_skip rfl)
         | (apply head_step_g rfl
            focus
              intro w0 hC
              (fail))
         | (apply head_step_g rfl
            focus
              intro w0 hC
              have hC' := Lib.hid hC
              obtain ⟨⟨r1, f1, i1, b1, l1⟩, ⟨r2, f2, i2, b2, l2⟩, m12, m21⟩ := St.facts2 hC
              clear hC
              go_simp
              have hC := hC'.out
              (first
                 | with_reducible rfl
                 | (skip
                    (fail)
                    rintro e w' ⟨rfl, hw⟩
                    exact ⟨rfl, St.call (by assumption) hw⟩)))
       try simp only [Act.put, List.setIfInBounds_toArray, List.set])
      (first
         | (apply head_skip rfl)
         | (apply head_step_g rfl
            focus
              intro w0 hC
              (fail))
         | (apply head_step_g rfl
            focus
              intro w0 hC
              have hC' := Lib.hid hC
              obtain ⟨⟨r1, f1, i1, b1, l1⟩, ⟨r2, f2, i2, b2, l2⟩, m12, m21⟩ := St.facts2 hC
              clear hC
              go_simp
              have hC := hC'.out
              (first
                 | with_reducible rfl
                 | (skip
                    (fail)
                    rintro e w' ⟨rfl, hw⟩
                    exact ⟨rfl, St.call (by assumption) hw⟩)))
       try simp only [Act.put, List.setIfInBounds_toArray, List.set])
      (first
         | (apply head_skip rfl)
         | (apply head_step_g rfl
            focus
              intro w0 hC
              (fail))
         | (apply head_step_g rfl
            focus
              intro w0 hC
              have hC' := Lib.hid hC
              obtain ⟨⟨r1, f1, i1, b1, l1⟩, ⟨r2, f2, i2, b2, l2⟩, m12, m21⟩ := St.facts2 hC
              clear hC
              go_simp
              have hC := hC'.out
              (first
                 | with_reducible rfl
                 | (skip
                    (fail)
                    rintro e w' ⟨rfl, hw⟩
                    exact ⟨rfl, St.call (by assumption) hw⟩)))
       try simp only [Act.put, List.setIfInBounds_toArray, List.set])
      refine wpQuiet_nil ?_
      intro w5 hC
      (have HC := Lib.hid hC
       have sos := hC.below.os
       obtain ⟨⟨r1, f1, i1, b1, l1⟩, ⟨r2, f2, i2, b2, l2⟩, m12, m21⟩ := St.facts2 hC
       clear hC)
      have hcp := copyS_long (P := Tryz.prog) (w := w5) 134 9 3 q (1 + j * 16) 16 16 (R.extract (j * 16) R.size) x4 (by simp [go_sem]) (by simp [go_sem]) f1 (by rw [r1, rg_size]; omega)
      rw [r1, rg_put N _ _ _ (by omega), HX.out] at hcp
      go_wp2_with fail
      (clear r1 f1 i1 b1 l1 r2 f2 i2 b2 l2 m12 m21 sos)
      have HC := Lib.hid (HC.out.set_head (rg N (parseB R ((j + 1) * 16))) (by rw [rg_size, rg_size]))
      rw [hcp]
      clear hcp
      go_wp2_with fail
      go_roundw
      case rel => exact ⟨j + 1, by omega, by go_num, HC⟩
      case measure => simp [intOf]; omega
    · obtain rfl : j = N := by omega
      (have HC := Lib.hid hC
       have sos := hC.below.os
       obtain ⟨⟨r1, f1, i1, b1, l1⟩, ⟨r2, f2, i2, b2, l2⟩, m12, m21⟩ := St.facts2 hC
       clear hC)
      go_wp2_with fail
      refine bodyPost_ret (results_pair rfl _ w.heap.size rfl (rg j (parseB R (j * 16))) ?_ ?_ ?_ ?_ (.int .i64 0) rfl) rfl ⟨rfl, ?_⟩
      · simp [go_sem, *]
      · simp [go_sem]
      · simp [go_sem]
      · simp [go_sem, *]
      · exact below_setRow' HC.out.below (by omega) _
end Go.Proofs.YtgaecjhghpkcoaaGreat
