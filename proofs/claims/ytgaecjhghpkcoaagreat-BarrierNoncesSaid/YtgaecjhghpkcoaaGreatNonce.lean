/- The program's numbers that are used once: Check, lay, Text, Take. -/
import Derived.Test.YtgaecjhghpkcoaaGreatRingText
namespace Go.Proofs.YtgaecjhghpkcoaaGreat
open Go.RowKit
attribute [local go_sem] B_xor B_or B_and
attribute [local go_sem] blk_set blk_size blk_get blk_getE upd_same oneCells_blk paste_blk cut_blk szOf
attribute [local go_sem high] paste_all cut_head
attribute [local go_sem] rowAt_alloc rowAt_drew rowAt_drewN isRow_alloc isRow_drew isRow_drewN freeRow_alloc freeRow_end freeRow_drew freeRow_drewN
attribute [local go_sem] setRow_alloc setRow_drew setRow_drewN setCell_drewN alloc_drewN rowAt_put isRow_setRow freeRow_put
attribute [local go_sem ↓] loadS_in storeS_in indexS_in copyS_in
attribute [local go_sem] loadS_row loadS_one storeS_row storeS_one indexS_blk copyS_rows run_equalIn_blk same_refl arrayAt_row
attribute [local go_sem] cell_row frozen_row st_setCell st_blk_ne stepAt stepUpon
attribute [local go_sem high] run_eql_blk run_neq_blk
attribute [local go_sem ↓] convBS_in
attribute [local go_sem] convBS_row convBS_nil allBytes_blk bytesOf_blk

/-- where the numbers are -/
def cn (e n : Nat) : Array Value := #[.int .u64 (e : Int), .int .u64 (n : Int)]
theorem cn_size (e n : Nat) : (cn e n).size = 2 := by simp [cn]
theorem cn_get0 (e n : Nat) : (cn e n)[0]? = some (.int .u64 (e : Int)) := by simp [cn]
theorem cn_get1 (e n : Nat) : (cn e n)[1]? = some (.int .u64 (n : Int)) := by simp [cn]
theorem cn_getE0 (e n : Nat) (h : 0 < (cn e n).size) : (cn e n)[0]'h = .int .u64 (e : Int) := by simp [cn]
theorem cn_getE1 (e n : Nat) (h : 1 < (cn e n).size) : (cn e n)[1]'h = .int .u64 (n : Int) := by simp [cn]
theorem cn_set0 (e n d : Nat) : (cn e n).setIfInBounds 0 (.int .u64 (d : Int)) = cn d n := by simp [cn]
theorem cn_set1 (e n d : Nat) : (cn e n).setIfInBounds 1 (.int .u64 (d : Int)) = cn e d := by simp [cn]
theorem cn_ne (e n : Nat) : (cn e n = #[]) = False := by simp [cn]
theorem cn_one (e n : Nat) : oneCells (cn e n) = true := by simp [oneCells, cn, Value.oneCell']
theorem cn_cut (e n : Nat) : cut (cn e n) 0 2 = cn e n := by simp [cut, cn]
theorem cn_paste (e n d m : Nat) : paste (cn e n) 0 (cn d m) = cn d m := paste_whole _ _ (by rw [cn_size, cn_size])
theorem size_cn (w : World) : (sizeOf 52).run Tryz.prog w = .ok 2 w := by simp [go_sem]
theorem agg_cn (w : World) : (isAgg 52).run Tryz.prog w = .ok true w := by simp [go_sem]
theorem cn_zero : #[Value.int .u64 0, .int .u64 0] = cn 0 0 := rfl
attribute [local go_sem] size_cn agg_cn cn_size cn_get0 cn_get1 cn_getE0 cn_getE1 cn_set0 cn_set1 cn_ne cn_one cn_cut cn_paste

/-- may a count be? -/
def mayC (e n : Nat) : Prop := 1 ≤ e ∧ e ≤ 1099511627776 ∧ n ≤ 281474976710656
theorem nonceCheck_yes (e n : Nat) (h : mayC e n) (w : World) : Calls Tryz.prog 50 #[.agg (cn e n)] w fun r w' => r = .returned (.int .i64 0) ∧ Below w.heap.size w w' := by
  obtain ⟨h1, h2, h3⟩ := h
  have d1 : decide ((e : Int) < 1) = false := decide_eq_false (by omega)
  have d2 : decide (1099511627776 < (e : Int)) = false := decide_eq_false (by omega)
  have d3 : decide (281474976710656 < (n : Int)) = false := decide_eq_false (by omega)
  clear h1 h2 h3
  go_enter Tryz.func50, Tryz.ntmps50
  go_wp2_with fail
  go_ret
  exact ⟨rfl, (Below.refl _ _).alloc (Nat.le_refl _) _⟩
theorem nonceCheck_no (e n : Nat) (h : ¬ mayC e n) (w : World) : Calls Tryz.prog 50 #[.agg (cn e n)] w fun r w' => r = .returned (.int .i64 2) ∧ Below w.heap.size w w' := by
  unfold mayC at h
  by_cases h1 : e < 1
  · have d1 : decide ((e : Int) < 1) = true := decide_eq_true (by omega)
    clear h
    go_enter Tryz.func50, Tryz.ntmps50
    go_wp2_with fail
    go_ret
    exact ⟨rfl, (Below.refl _ _).alloc (Nat.le_refl _) _⟩
  · have d1 : decide ((e : Int) < 1) = false := decide_eq_false (by omega)
    by_cases h2 : 1099511627776 < e
    · have d2 : decide (1099511627776 < (e : Int)) = true := decide_eq_true (by omega)
      clear h
      go_enter Tryz.func50, Tryz.ntmps50
      go_wp2_with fail
      go_ret
      exact ⟨rfl, (Below.refl _ _).alloc (Nat.le_refl _) _⟩
    · have d2 : decide (1099511627776 < (e : Int)) = false := decide_eq_false (by omega)
      have d3 : decide (281474976710656 < (n : Int)) = true := decide_eq_true (by omega)
      clear h
      go_enter Tryz.func50, Tryz.ntmps50
      go_wp2_with fail
      go_ret
      exact ⟨rfl, (Below.refl _ _).alloc (Nat.le_refl _) _⟩
attribute [local go_sem] run_make_bytes
set_option maxRecDepth 100000 in
theorem grown_any (g m c k : Nat) (F : Nat → UInt8) (h8 : k ≤ 8) (hm : m ≤ c) (hb : m ≤ 2 ^ 30) (w0 w : World) (L : List (Nat × Array Value)) (hC : St w0 ((g, blk c F) :: L) w) : Calls Tryz.prog 108 #[.slice (some ⟨g, 0, none⟩) m c, .int .i64 (k : Int)] w (Laid w0 L m F) := by
  have HC := Lib.hid hC
  have d1 : m + k ≤ 2 ^ 40 := by omega
  have d2 : (m : Int) + (k : Int) ≤ 2000000000 := by omega
  have d3 : m ≤ m + k := by omega
  have d4 : (m : Int) + (k : Int) = ((m + k : Nat) : Int) := by push_cast; rfl
  have hmk : ∀ w : World, (Instr.makeSlice 134 (.int .i64 (m : Int)) (.int .i64 ((m : Int) + (k : Int)))).run Tryz.prog w = .ok (.slice (some ⟨w.heap.size, 0, none⟩) m (m + k)) (w.alloc (.cells (blk (m + k) fun _ => 0) 5)) := fun w => by
    rw [d4]; exact run_make_bytes .i64 .i64 m (m + k) d3 d1 w
  clear d4 hC
  have HP := Lib.hid (HC.out.push (blk (m + k) fun _ => 0) 5)
  go_enter Tryz.func108, Tryz.ntmps108
  go_wp2_with fail
  have hp := HP.out.get (List.mem_cons_self ..)
  have hg := HP.out.get (g := g) (cs := blk c F) (by simp)
  have hcp := copyS_rows (P := Tryz.prog) (w := w.alloc (.cells (blk (m + k) fun _ => 0) 5)) 134 134 3 w.heap.size 0 m (m + k) g 0 m c (by simp [go_sem]) (by simp [go_sem]) hp.2.2.1 hg.2.2.2 (by rw [hp.2.1, blk_size, Nat.min_self]; omega) (by rw [hg.2.1, blk_size, Nat.min_self]; omega) (by rw [hg.2.1, Nat.min_self, Nat.zero_add, cut_head _ _ _ hm]; exact oneCells_blk _ _)
  rw [hp.2.1, hg.2.1, Nat.min_self, Nat.zero_add, cut_head _ _ _ hm, paste_blk _ _ _ _ _ (by omega)] at hcp
  rw [hcp]
  have HP2 := Lib.hid (HC.out.tail.push (blk (m + k) (cpy (fun _ => 0) 0 F 0 m)) 5)
  clear hcp hp hg HP
  go_wp2_with fail
  go_ret
  refine Laid.mk _ _ _ rfl d3 (fun i hi => ?_) HP2.out
  unfold cpy
  rw [if_pos (by omega)]
  congr 1; omega
theorem num_own (g m c k N : Nat) (F : Nat → UInt8) (h1 : 1 ≤ k) (h8 : k ≤ 8) (hm : m ≤ c) (hb : m + k ≤ 2 ^ 30) (w0 w : World) (L : List (Nat × Array Value)) (hC : St w0 ((g, blk c F) :: L) w) :
    Calls Tryz.prog 80 #[.slice (some ⟨g, 0, none⟩) m c, .int .i64 (k : Int), .int .u64 (N : Int)] w (Laid w0 L (m + k) (glue m F (beB N k))) := by
  have HC := Lib.hid hC
  clear hC
  go_enter Tryz.func80, Tryz.ntmps80
  go_wp2_with fail
  refine (sized_any k h1 h8 _).mono ?_; rintro e w2 ⟨rfl, hw⟩
  have HC := Lib.hid (HC.out.call hw)
  clear hw
  go_wp2_with fail
  refine (grown_any g m c k F h8 hm (by omega) w0 _ L HC.out).mono ?_; rintro e w3 ⟨g1, c1, F1, rfl, x1, x2, hw⟩
  have HC := Lib.hid hw
  have X1 := Lib.hid x1
  have X2 := Lib.hid x2
  clear hw x1 x2
  go_wp2_with fail
  refine (lay_any g1 m c1 k N F1 h1 h8 X1.out hb w0 _ L HC.out).mono ?_; rintro e w4 ⟨g2, c2, F2, rfl, y1, y2, hw⟩
  have H1 := Lib.hid y1
  have H2 := Lib.hid y2
  have HC := Lib.hid hw
  clear y1 y2 hw
  go_wp2_with fail
  go_ret
  refine Laid.mk g2 c2 F2 rfl H1.out (fun i hi => ?_) HC.out
  rw [H2.out i hi]
  unfold glue
  split
  · exact X2.out i (by omega)
  · rfl
/-- a count's number -/
def nonceB (e n : Nat) : Nat → UInt8 := glue 6 (beB e 6) (beB n 6)
set_option maxRecDepth 100000 in
theorem nonceLay_any (e n : Nat) (w : World) : Calls Tryz.prog 134 #[.agg (cn e n)] w fun r w' => r = .returned (.string (strOf 12 (nonceB e n))) ∧ Below w.heap.size w w' := by
  have HC := Lib.hid ((St.nil w).pushA (cn e n) 52 rfl)
  go_enter Tryz.func134, Tryz.ntmps134
  go_wp2_with fail
  refine (num_nil 6 e (by omega) (by omega) w _ _ HC.out).mono ?_; rintro r w1 ⟨g, c, F, rfl, x1, x2, hw⟩
  have X1 := Lib.hid x1
  have X2 := Lib.hid x2
  have HC := Lib.hid hw
  clear x1 x2 hw
  have hC := HC.out
  (have HC := Lib.hid hC
   have sos := hC.below.os
   obtain ⟨⟨r1, f1, i1, b1, l1⟩, ⟨r2, f2, i2, b2, l2⟩, m12, m21⟩ := St.facts2 hC
   clear hC)
  go_wp2_with fail
  (clear r1 f1 i1 b1 l1 r2 f2 i2 b2 l2 m12 m21 sos)
  refine (num_own g 6 c 6 n F (by omega) (by omega) X1.out (by omega) w _ _ HC.out).mono ?_; rintro r w2 ⟨g2, c2, F2, rfl, y1, y2, hw⟩
  have Y2 := Lib.hid y2
  have Y1 := Lib.hid y1
  have HC := Lib.hid hw
  clear y2 hw
  have hcs : 12 ≤ c2 := y1
  clear y1
  have hC := HC.out
  (have HC := Lib.hid hC
   have sos := hC.below.os
   obtain ⟨⟨r1, f1, i1, b1, l1⟩, ⟨r2, f2, i2, b2, l2⟩, m12, m21⟩ := St.facts2 hC
   clear hC)
  go_wp2_with fail
  go_ret
  refine ⟨congrArg (fun x => Ending.returned (.string x)) (strOf_congr fun i hi => ?_), HC.out.below⟩
  rw [Y2.out i hi]
  unfold nonceB glue
  split
  · exact X2.out i (by omega)
  · rfl
set_option maxRecDepth 100000 in
theorem nonceText_yes (e n : Nat) (h : mayC e n) (hn : n ≠ 281474976710656) (w : World) : Calls Tryz.prog 107 #[.agg (cn e n)] w fun r w' => r = .returned (.tuple #[.string (strOf 12 (nonceB e n)), .int .i64 0]) ∧ Below w.heap.size w w' := by
  have d1 : ((n : Int) == 281474976710656) = false := by rw [beq_eq_false_iff_ne]; omega
  have HC := Lib.hid ((St.nil w).pushA (cn e n) 52 rfl)
  go_enter Tryz.func107, Tryz.ntmps107
  go_wp2_with fail
  refine (nonceCheck_yes e n h _).mono ?_; rintro e w1 ⟨rfl, hw⟩
  have HC := Lib.hid (HC.out.call hw)
  clear hw
  have hC := HC.out
  (have HC := Lib.hid hC
   have sos := hC.below.os
   obtain ⟨r1, f1, i1, b1, l1⟩ := St.facts1 hC
   clear hC)
  go_wp2_with fail
  (clear r1 f1 i1 b1 l1 sos)
  refine (nonceLay_any e n _).mono ?_; rintro e w2 ⟨rfl, hw⟩
  have HC := Lib.hid (HC.out.call hw)
  clear hw
  have hC := HC.out
  (have HC := Lib.hid hC
   have sos := hC.below.os
   obtain ⟨r1, f1, i1, b1, l1⟩ := St.facts1 hC
   clear hC)
  go_wp2_with fail
  go_ret2
  exact ⟨rfl, HC.out.below⟩
set_option maxRecDepth 100000 in
theorem nonceText_bad (e n : Nat) (h : ¬ mayC e n) (w : World) : Calls Tryz.prog 107 #[.agg (cn e n)] w fun r w' => r = .returned (.tuple #[.string ⟨#[]⟩, .int .i64 2]) ∧ Below w.heap.size w w' := by
  have HC := Lib.hid ((St.nil w).pushA (cn e n) 52 rfl)
  go_enter Tryz.func107, Tryz.ntmps107
  go_wp2_with fail
  refine (nonceCheck_no e n h _).mono ?_; rintro e w1 ⟨rfl, hw⟩
  have HC := Lib.hid (HC.out.call hw)
  clear hw
  have hC := HC.out
  (have HC := Lib.hid hC
   have sos := hC.below.os
   obtain ⟨r1, f1, i1, b1, l1⟩ := St.facts1 hC
   clear hC)
  go_wp2_with fail
  go_ret2
  exact ⟨rfl, HC.out.below⟩
set_option maxRecDepth 100000 in
theorem nonceText_end (e n : Nat) (h : mayC e n) (hn : n = 281474976710656) (w : World) : Calls Tryz.prog 107 #[.agg (cn e n)] w fun r w' => r = .returned (.tuple #[.string ⟨#[]⟩, .int .i64 19]) ∧ Below w.heap.size w w' := by
  have d1 : ((n : Int) == 281474976710656) = true := by rw [beq_iff_eq]; omega
  have HC := Lib.hid ((St.nil w).pushA (cn e n) 52 rfl)
  clear hn
  go_enter Tryz.func107, Tryz.ntmps107
  go_wp2_with fail
  refine (nonceCheck_yes e n h _).mono ?_; rintro e w1 ⟨rfl, hw⟩
  have HC := Lib.hid (HC.out.call hw)
  clear hw
  have hC := HC.out
  (have HC := Lib.hid hC
   have sos := hC.below.os
   obtain ⟨r1, f1, i1, b1, l1⟩ := St.facts1 hC
   clear hC)
  go_wp2_with fail
  go_ret2
  exact ⟨rfl, HC.out.below⟩
end Go.Proofs.YtgaecjhghpkcoaaGreat
