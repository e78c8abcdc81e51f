/- The program's Scan.Num: a number off a text, or why there is none. Texts no longer than 2 to 40. -/
import Derived.Test.YtgaecjhghpkcoaaGreatScan
namespace Go.Proofs.YtgaecjhghpkcoaaGreat
open Go.RowKit
attribute [local go_sem] B_xor B_or B_and
attribute [local go_sem] blk_set blk_size blk_get blk_getE upd_same oneCells_blk paste_blk cut_blk szOf
attribute [local go_sem high] paste_all cut_head
attribute [local go_sem] rowAt_alloc rowAt_drew rowAt_drewN isRow_alloc isRow_drew isRow_drewN freeRow_alloc freeRow_end freeRow_drew freeRow_drewN
attribute [local go_sem] setRow_alloc setRow_drew setRow_drewN setCell_drewN alloc_drewN rowAt_put isRow_setRow freeRow_put
attribute [local go_sem ↓] loadS_in storeS_in indexS_in copyS_in
attribute [local go_sem] loadS_row loadS_one storeS_row storeS_one indexS_blk copyS_rows run_equalIn_blk same_refl arrayAt_row
attribute [local go_sem] cell_row frozen_row st_setCell st_blk_ne stepAt stepUpon
attribute [local go_sem high] run_eql_blk run_neq_blk
attribute [local go_sem ↓] convBS_in
attribute [local go_sem] convBS_row convBS_nil allBytes_blk bytesOf_blk
attribute [local go_sem ↓] convSB_in
attribute [local go_sem] convSB_row freeRow_endB
attribute [local go_sem] size_sc agg_sc sc_size sc_get0 sc_get1 sc_get2 sc_getE0 sc_getE1 sc_getE2 sc_set1 sc_set2 sc_ne sc_one sc_cut sc_paste

/-- the results of a function: a slot, and one that lies in a row -/
theorem results_qp {P : Program} {w : World} {fn : Func} {p q : Tmp} {ty : TypeId} (h : fn.results = #[.tmp q, .cell p ty]) (tmps : Array Value) (g : Nat) (hp : tmps.getD p undef = .pointer (some ⟨g, 0, none⟩)) (cs : Array Value) (hc : rowAt w g = cs)
    (ha : (isAgg ty).run P w = .ok true w) (hs : (sizeOf ty).run P w = .ok cs.size w) (hr : isRow w g = true) (v : Value) (hq : tmps.getD q undef = v) :
    (results fn tmps).run P w = .ok (.tuple #[v, .agg cs]) w := by
  have hp' : tmps[p]?.getD undef = .pointer (some ⟨g, 0, none⟩) := by simpa using hp
  have hq' : tmps[q]?.getD undef = v := by simpa using hq
  have hl := run_loadCells_row (P := P) g 0 cs.size hr (by rw [hc]; omega)
  rw [hc] at hl
  simp only [Nat.zero_add, Array.extract_size] at hl
  simp [results, h, hp', hq', asAddr, loadVar, Sem.run_bind, ha, hs, hl]
theorem scan_zero : #[Value.string ⟨#[]⟩, .int .i64 0, .int .i64 0] = sc ⟨#[]⟩ 0 0 := rfl
set_option maxRecDepth 100000 in
set_option maxHeartbeats 1000000 in
theorem scanNum_short (t : ByteArray) (p k : Nat) (h1 : 1 ≤ k) (h8 : k ≤ 8) (hp : p ≤ t.size) (hl : t.size < p + k) (hs : t.size < 2 ^ 40) (w : World) : Calls Tryz.prog 64 #[.agg (sc t p 0), .int .i64 (k : Int)] w fun e w' => e = .returned (.tuple #[.int .u64 0, .agg (sc t p 3)]) ∧ Below w.heap.size w w' := by
  have hz := scan_zero
  obtain ⟨l, hl2⟩ : ∃ l, p + l = t.size := ⟨t.size - p, by omega⟩
  have d1 : (l : Int) < (k : Int) := by omega
  have d2 : l < k := by omega
  have H2 := Lib.hid hl2
  clear hl2
  have HC := Lib.hid (((St.nil w).pushA (sc t p 0) 120 rfl).pushA (sc ⟨#[]⟩ 0 0) 120 (g := w.heap.size + 1) (by simp))
  go_enter Tryz.func64, Tryz.ntmps64
  go_wp2_with fail
  refine (stands_any t p 0 hp _).mono ?_; rintro e w1 ⟨rfl, hw⟩
  have HC := Lib.hid (HC.out.call hw)
  clear hw
  have hC := HC.out
  (have HC := Lib.hid hC
   have sos := hC.below.os
   obtain ⟨⟨r1, f1, i1, b1, l1⟩, ⟨r2, f2, i2, b2, l2⟩, m12, m21⟩ := St.facts2 hC
   clear hC)
  go_wp2_with fail
  (clear r1 f1 i1 b1 l1 r2 f2 i2 b2 l2 m12 m21 sos)
  refine (sized_any k h1 h8 _).mono ?_; rintro e w2 ⟨rfl, hw⟩
  have HC := Lib.hid (HC.out.call hw)
  clear hw
  have hC := HC.out
  (have HC := Lib.hid hC
   have sos := hC.below.os
   obtain ⟨⟨r1, f1, i1, b1, l1⟩, ⟨r2, f2, i2, b2, l2⟩, m12, m21⟩ := St.facts2 hC
   clear hC)
  go_wp2_with fail
  (clear r1 f1 i1 b1 l1 r2 f2 i2 b2 l2 m12 m21 sos)
  refine (left_any t p 0 l H2.out hs _).mono ?_; rintro e w3 ⟨rfl, hw⟩
  have HC := Lib.hid (HC.out.call hw)
  clear hw
  have hC := HC.out
  (have HC := Lib.hid hC
   have sos := hC.below.os
   obtain ⟨⟨r1, f1, i1, b1, l1⟩, ⟨r2, f2, i2, b2, l2⟩, m12, m21⟩ := St.facts2 hC
   clear hC)
  go_wp2_with fail
  (clear r1 f1 i1 b1 l1 r2 f2 i2 b2 l2 m12 m21 sos)
  refine (fails_any t p 0 3 _).mono ?_; rintro e w4 ⟨rfl, hw⟩
  have HC := Lib.hid (HC.out.call hw)
  clear hw
  have hC := HC.out
  (have HC := Lib.hid hC
   have sos := hC.below.os
   obtain ⟨⟨r1, f1, i1, b1, l1⟩, ⟨r2, f2, i2, b2, l2⟩, m12, m21⟩ := St.facts2 hC
   clear hC)
  go_wp2_with fail
  refine bodyPost_ret (results_qp rfl _ (w.heap.size + 1) rfl (sc t p 3) ?_ ?_ ?_ ?_ (.int .u64 0) rfl) rfl ⟨rfl, ?_⟩
  · simp [go_sem, *]
  · simp [go_sem]
  · simp [go_sem]
  · simp [go_sem, *]
  · exact below_setRow' HC.out.below (by omega) _
attribute [local go_sem] U_xor U_or U_and U_and1 U_tail U_neg U_half U_shr U_shl8 U_shl63 U_of U_to pr_size pr_get0 pr_get1 pr_getE0 pr_getE1 pr_set0 pr_set1 pr_ne oneCells_pr paste_pr cut_pr
attribute [local go_sem] wide_size wide_get0 wide_get1 wide_getE0 wide_getE1 wide_ne oneCells_wide paste_wide cut_wide
/-- the number of k bytes of a text, from place p on -/
def numAt (t : ByteArray) (p k : Nat) : Nat := numTo (fun i => ofText t (p + i)) k
theorem pack_extract (t : ByteArray) (p k : Nat) (h8 : k ≤ 8) (h : p + k ≤ t.size) : U (packU (ofText (t.extract p (p + k))) k) = ((numAt t p k : Nat) : Int) := by
  unfold U numAt
  rw [packU_nat _ k h8]
  have hsz : t.data.size = t.size := rfl
  have e : ∀ i, i < k → ofText (t.extract p (p + k)) i = ofText t (p + i) := fun i hi => by
    unfold ofText
    rw [ByteArray.data_extract, Array.getD_eq_getD_getElem?, Array.getD_eq_getD_getElem?, Array.getElem?_extract, if_pos (by omega)]
  rw [numTo_congr e]
set_option maxRecDepth 100000 in
set_option maxHeartbeats 2000000 in
theorem scanNum_ok (t : ByteArray) (p k : Nat) (h1 : 1 ≤ k) (h8 : k ≤ 8) (hl : p + k ≤ t.size) (hs : t.size < 2 ^ 40) (w : World) : Calls Tryz.prog 64 #[.agg (sc t p 0), .int .i64 (k : Int)] w fun e w' => e = .returned (.tuple #[.int .u64 ((numAt t p k : Nat) : Int), .agg (sc t (p + k) 0)]) ∧ Below w.heap.size w w' := by
  have hz := scan_zero
  have HN := Lib.hid (pack_extract t p k h8 hl)
  obtain ⟨l, hl2⟩ : ∃ l, p + l = t.size := ⟨t.size - p, by omega⟩
  obtain ⟨q, hq⟩ : ∃ q, p + k = q := ⟨_, rfl⟩
  obtain ⟨T, hT⟩ : ∃ T, t.extract p q = T := ⟨_, rfl⟩
  have hTs : T.size = k := by rw [← hT, ByteArray.size_extract]; omega
  rw [hq, hT] at HN
  rw [hq]
  have hpt : p ≤ t.size := by omega
  have d2 : decide (l < k) = false := decide_eq_false (by omega)
  have q1 : (p : Int) + (k : Int) = (q : Int) := by omega
  have q2 : IntKind.i64.wrap ((p : Int) + (k : Int)) = (q : Int) := by rw [IntWalk.i64_in _ (by omega)]; exact q1
  have q3 : (p : Int) ≤ (q : Int) := by omega
  have q4 : (q : Int) ≤ (t.size : Int) := by omega
  have q5 : p ≤ q := by omega
  have q6 : q ≤ t.size := by omega
  have k8 : (k : Int) ≤ 8 := by omega
  have H2 := Lib.hid hl2
  clear hl2 hq
  have HC := Lib.hid (((St.nil w).pushA (sc t p 0) 120 rfl).pushA (sc ⟨#[]⟩ 0 0) 120 (g := w.heap.size + 1) (by simp))
  go_enter Tryz.func64, Tryz.ntmps64
  go_wp2_with fail
  refine (stands_any t p 0 hpt _).mono ?_; rintro e w1 ⟨rfl, hw⟩
  have HC := Lib.hid (HC.out.call hw)
  clear hw
  have hC := HC.out
  (have HC := Lib.hid hC
   have sos := hC.below.os
   obtain ⟨⟨r1, f1, i1, b1, l1⟩, ⟨r2, f2, i2, b2, l2⟩, m12, m21⟩ := St.facts2 hC
   clear hC)
  go_wp2_with fail
  (clear r1 f1 i1 b1 l1 r2 f2 i2 b2 l2 m12 m21 sos)
  refine (sized_any k h1 h8 _).mono ?_; rintro e w2 ⟨rfl, hw⟩
  have HC := Lib.hid (HC.out.call hw)
  clear hw
  have hC := HC.out
  (have HC := Lib.hid hC
   have sos := hC.below.os
   obtain ⟨⟨r1, f1, i1, b1, l1⟩, ⟨r2, f2, i2, b2, l2⟩, m12, m21⟩ := St.facts2 hC
   clear hC)
  go_wp2_with fail
  (clear r1 f1 i1 b1 l1 r2 f2 i2 b2 l2 m12 m21 sos)
  refine (left_any t p 0 l H2.out hs _).mono ?_; rintro e w3 ⟨rfl, hw⟩
  have HC := Lib.hid (HC.out.call hw)
  clear hw
  have hC := HC.out
  have hcp := Lib.hid (capS_ge w3 k 5)
  (have HC := Lib.hid hC
   have sos := hC.below.os
   obtain ⟨⟨r1, f1, i1, b1, l1⟩, ⟨r2, f2, i2, b2, l2⟩, m12, m21⟩ := St.facts2 hC
   clear hC)
  go_wp2_with fail
  (clear r1 f1 i1 b1 l1 r2 f2 i2 b2 l2 m12 m21 sos)
  generalize capS w3 k 5 = cp at hcp ⊢
  have HC := Lib.hid (HC.out.pushM cp (ofText T) 5 (cp + 1)).drew
  generalize w3.heap.size = gt at HC ⊢
  go_loopw [6, 43] (fun n i wr => ∃ j : Nat, j ≤ k ∧ i = .int .i64 (j : Int) ∧ n = .int .u64 (U (packU (ofText T) j)) ∧ Hid (St w [(gt, blk cp (ofText T)), (w.heap.size + 1, sc ⟨#[]⟩ 0 0), (w.heap.size, sc t p 0)] wr)) (fun _ i _ => k - (intOf i).toNat)
  case atStart => exact ⟨0, by omega, rfl, rfl, HC⟩
  case round =>
    clear HC
    obtain ⟨j, hj, rfl, rfl, HJ⟩ := hrel
    have hc := hcp.out
    have hC := HJ.out
    by_cases hlt : j < k
    · have d1 : decide (j < k) = true := decide_eq_true hlt
      have d3 : j < cp := by omega
      have p1 : packU (ofText T) j <<< 8 ||| (ofText T j).toUInt64 = packU (ofText T) (j + 1) := rfl
      (have HC := Lib.hid hC
       have sos := hC.below.os
       obtain ⟨⟨r1, f1, i1, b1, l1⟩, ⟨r2, f2, i2, b2, l2⟩, ⟨r3, f3, i3, b3, l3⟩, m12, m21, m13, m31, m23, m32⟩ := St.facts3 hC
       clear hC)
      go_wp2_with fail
      exact ⟨⟨j + 1, by omega, by go_num, rfl, HJ⟩, by simp [intOf]; omega⟩
    · obtain rfl : j = k := by omega
      have d1 : decide (j < j) = false := by simp
      rw [HN.out]
      (have HC := Lib.hid hC
       have sos := hC.below.os
       obtain ⟨⟨r1, f1, i1, b1, l1⟩, ⟨r2, f2, i2, b2, l2⟩, ⟨r3, f3, i3, b3, l3⟩, m12, m21, m13, m31, m23, m32⟩ := St.facts3 hC
       clear hC)
      go_wp2_with fail
      have HC := Lib.hid ((HJ.out.pick (L' := [(w.heap.size, sc t p 0), (w.heap.size + 1, sc ⟨#[]⟩ 0 0)]) [2, 1] (by decide) rfl).set_head (sc t q 0) (by rw [sc_size, sc_size]))
      refine St.region_tail 3 HC.out (by kernel_rfl) (by decide +kernel) ?_
      (simp only [List.take, List.drop])
      (first
         | (apply head_skip rfl)
         | (apply head_step_g rfl
            focus
              intro w0 hC
              (fail))
         | (apply head_step_g rfl
            focus
              intro w0 hC
              have hC' := Lib.hid hC
              obtain ⟨⟨r1, f1, i1, b1, l1⟩, ⟨r2, f2, i2, b2, l2⟩, m12, m21⟩ := St.facts2 hC
              clear hC
              go_simp
              have hC := hC'.out
              (first
                 | with_reducible rfl
                 | (skip
                    (fail)
                    rintro e w' ⟨rfl, hw⟩
                    exact ⟨rfl, St.call (by assumption) hw⟩)))
       try simp only [Act.put, List.setIfInBounds_toArray, List.set])
      (first
         | (apply head_skip rfl)
         | (apply head_step_g rfl
            focus
              intro w0 hC
              (fail))
         | (apply head_step_g rfl
            focus
              intro w0 hC
              have hC' := Lib.hid hC
              obtain ⟨⟨r1, f1, i1, b1, l1⟩, ⟨r2, f2, i2, b2, l2⟩, m12, m21⟩ := St.facts2 hC
              clear hC
              go_simp
              have hC := hC'.out
              (first
                 | with_reducible rfl
                 | (skip
                    (fail)
                    rintro e w' ⟨rfl, hw⟩
                    exact ⟨rfl, St.call (by assumption) hw⟩)))
       try simp only [Act.put, List.setIfInBounds_toArray, List.set])
      (first
         | (apply head_skip rfl)
         | (apply head_step_g rfl
            focus
              intro w0 hC
              (fail))
         | (apply head_step_g rfl
            focus
              intro w0 hC
              have hC' := Lib.hid hC
              obtain ⟨⟨r1, f1, i1, b1, l1⟩, ⟨r2, f2, i2, b2, l2⟩, m12, m21⟩ := St.facts2 hC
              clear hC
              go_simp
              have hC := hC'.out
              (first
                 | with_reducible rfl
                 | (skip
                    (fail)
                    rintro e w' ⟨rfl, hw⟩
                    exact ⟨rfl, St.call (by assumption) hw⟩)))
       try simp only [Act.put, List.setIfInBounds_toArray, List.set])
      refine wpQuiet_nil ?_
      intro w5 hC
      have HC := Lib.hid hC
      (have HC := Lib.hid hC
       have sos := hC.below.os
       obtain ⟨⟨r1, f1, i1, b1, l1⟩, ⟨r2, f2, i2, b2, l2⟩, m12, m21⟩ := St.facts2 hC
       clear hC)
      go_wp2_with fail
      refine bodyPost_ret (results_qp rfl _ (w.heap.size + 1) rfl (sc t q 0) ?_ ?_ ?_ ?_ (.int .u64 ((numAt t p j : Nat) : Int)) rfl) rfl ⟨rfl, ?_⟩
      · simp [go_sem, *]
      · simp [go_sem]
      · simp [go_sem]
      · simp [go_sem, *]
      · exact below_setRow' HC.out.below (by omega) _
end Go.Proofs.YtgaecjhghpkcoaaGreat
