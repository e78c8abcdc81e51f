/- The program's numbers that are used once: Check, lay, Text, Take. * The program's numbers that are used once: Take. * A barrier as a row of cells; its state, Sealed, Ring, Count. * Maps from texts: what one holds, as a list; a look-up, a store, in the model's own operations. No condition. * The program's barrier: state of none, Sealed, Ring, Count. * The program's barrier: Seal, Open, take. * The program's barrier: parts, head. Texts no longer than 2 to 40. * The program's barrier: Open. * The program's barrier: Unlock. -/
import Derived.Test.YtgaecjhghpkcoaaGreatMKeys
import Derived.Test.YtgaecjhghpkcoaaGreatMGround
import Derived.MapKept
section
namespace Go.Proofs.YtgaecjhghpkcoaaGreat
open Go.RowKit
attribute [local go_sem] B_xor B_or B_and
attribute [local go_sem] blk_set blk_size blk_get blk_getE upd_same oneCells_blk paste_blk cut_blk szOf
attribute [local go_sem high] paste_all cut_head
attribute [local go_sem] rowAt_alloc rowAt_drew rowAt_drewN isRow_alloc isRow_drew isRow_drewN freeRow_alloc freeRow_end freeRow_drew freeRow_drewN
attribute [local go_sem] setRow_alloc setRow_drew setRow_drewN setCell_drewN alloc_drewN rowAt_put isRow_setRow freeRow_put
attribute [local go_sem ↓] loadS_in storeS_in indexS_in copyS_in
attribute [local go_sem] loadS_row loadS_one storeS_row storeS_one indexS_blk copyS_rows run_equalIn_blk same_refl arrayAt_row
attribute [local go_sem] cell_row frozen_row st_setCell st_blk_ne stepAt stepUpon
attribute [local go_sem high] run_eql_blk run_neq_blk
attribute [local go_sem ↓] convBS_in
attribute [local go_sem] convBS_row convBS_nil allBytes_blk bytesOf_blk

/-- where the numbers are -/
def cn (e n : Nat) : Array Value := #[.int .u64 (e : Int), .int .u64 (n : Int)]
theorem cn_size (e n : Nat) : (cn e n).size = 2 := by simp [cn]
theorem cn_get0 (e n : Nat) : (cn e n)[0]? = some (.int .u64 (e : Int)) := by simp [cn]
theorem cn_get1 (e n : Nat) : (cn e n)[1]? = some (.int .u64 (n : Int)) := by simp [cn]
theorem cn_getE0 (e n : Nat) (h : 0 < (cn e n).size) : (cn e n)[0]'h = .int .u64 (e : Int) := by simp [cn]
theorem cn_getE1 (e n : Nat) (h : 1 < (cn e n).size) : (cn e n)[1]'h = .int .u64 (n : Int) := by simp [cn]
theorem cn_set0 (e n d : Nat) : (cn e n).setIfInBounds 0 (.int .u64 (d : Int)) = cn d n := by simp [cn]
theorem cn_set1 (e n d : Nat) : (cn e n).setIfInBounds 1 (.int .u64 (d : Int)) = cn e d := by simp [cn]
theorem cn_ne (e n : Nat) : (cn e n = #[]) = False := by simp [cn]
theorem cn_one (e n : Nat) : oneCells (cn e n) = true := by simp [oneCells, cn, Value.oneCell']
theorem cn_cut (e n : Nat) : cut (cn e n) 0 2 = cn e n := by simp [cut, cn]
theorem cn_paste (e n d m : Nat) : paste (cn e n) 0 (cn d m) = cn d m := paste_whole _ _ (by rw [cn_size, cn_size])
theorem size_cn (w : World) : (sizeOf 52).run Tryz.prog w = .ok 2 w := by simp [go_sem]
theorem agg_cn (w : World) : (isAgg 52).run Tryz.prog w = .ok true w := by simp [go_sem]
theorem cn_zero : #[Value.int .u64 0, .int .u64 0] = cn 0 0 := rfl
attribute [local go_sem] size_cn agg_cn cn_size cn_get0 cn_get1 cn_getE0 cn_getE1 cn_set0 cn_set1 cn_ne cn_one cn_cut cn_paste

/-- may a count be? -/
def mayC (e n : Nat) : Prop := 1 ≤ e ∧ e ≤ 1099511627776 ∧ n ≤ 281474976710656
theorem nonceCheck_yes (e n : Nat) (h : mayC e n) (w : World) : Calls Tryz.prog 50 #[.agg (cn e n)] w fun r w' => r = .returned (.int .i64 0) ∧ Below w.heap.size w w' := by
  obtain ⟨h1, h2, h3⟩ := h
  have d1 : decide ((e : Int) < 1) = false := decide_eq_false (by omega)
  have d2 : decide (1099511627776 < (e : Int)) = false := decide_eq_false (by omega)
  have d3 : decide (281474976710656 < (n : Int)) = false := decide_eq_false (by omega)
  clear h1 h2 h3
  go_enter Tryz.func50, Tryz.ntmps50
  go_wp2_with fail
  go_ret
  exact ⟨rfl, (Below.refl _ _).alloc (Nat.le_refl _) _⟩
theorem nonceCheck_no (e n : Nat) (h : ¬ mayC e n) (w : World) : Calls Tryz.prog 50 #[.agg (cn e n)] w fun r w' => r = .returned (.int .i64 2) ∧ Below w.heap.size w w' := by
  unfold mayC at h
  by_cases h1 : e < 1
  · have d1 : decide ((e : Int) < 1) = true := decide_eq_true (by omega)
    clear h
    go_enter Tryz.func50, Tryz.ntmps50
    go_wp2_with fail
    go_ret
    exact ⟨rfl, (Below.refl _ _).alloc (Nat.le_refl _) _⟩
  · have d1 : decide ((e : Int) < 1) = false := decide_eq_false (by omega)
    by_cases h2 : 1099511627776 < e
    · have d2 : decide (1099511627776 < (e : Int)) = true := decide_eq_true (by omega)
      clear h
      go_enter Tryz.func50, Tryz.ntmps50
      go_wp2_with fail
      go_ret
      exact ⟨rfl, (Below.refl _ _).alloc (Nat.le_refl _) _⟩
    · have d2 : decide (1099511627776 < (e : Int)) = false := decide_eq_false (by omega)
      have d3 : decide (281474976710656 < (n : Int)) = true := decide_eq_true (by omega)
      clear h
      go_enter Tryz.func50, Tryz.ntmps50
      go_wp2_with fail
      go_ret
      exact ⟨rfl, (Below.refl _ _).alloc (Nat.le_refl _) _⟩
attribute [local go_sem] run_make_bytes
set_option maxRecDepth 100000 in
theorem grown_any (g m c k : Nat) (F : Nat → UInt8) (h8 : k ≤ 8) (hm : m ≤ c) (hb : m ≤ 2 ^ 30) (w0 w : World) (L : List (Nat × Array Value)) (hC : St w0 ((g, blk c F) :: L) w) : Calls Tryz.prog 108 #[.slice (some ⟨g, 0, none⟩) m c, .int .i64 (k : Int)] w (Laid w0 L m F) := by
  have HC := Lib.hid hC
  have d1 : m + k ≤ 2 ^ 40 := by omega
  have d2 : (m : Int) + (k : Int) ≤ 2000000000 := by omega
  have d3 : m ≤ m + k := by omega
  have d4 : (m : Int) + (k : Int) = ((m + k : Nat) : Int) := by push_cast; rfl
  have hmk : ∀ w : World, (Instr.makeSlice 134 (.int .i64 (m : Int)) (.int .i64 ((m : Int) + (k : Int)))).run Tryz.prog w = .ok (.slice (some ⟨w.heap.size, 0, none⟩) m (m + k)) (w.alloc (.cells (blk (m + k) fun _ => 0) 5)) := fun w => by
    rw [d4]; exact run_make_bytes .i64 .i64 m (m + k) d3 d1 w
  clear d4 hC
  have HP := Lib.hid (HC.out.push (blk (m + k) fun _ => 0) 5)
  go_enter Tryz.func108, Tryz.ntmps108
  go_wp2_with fail
  have hp := HP.out.get (List.mem_cons_self ..)
  have hg := HP.out.get (g := g) (cs := blk c F) (by simp)
  have hcp := copyS_rows (P := Tryz.prog) (w := w.alloc (.cells (blk (m + k) fun _ => 0) 5)) 134 134 3 w.heap.size 0 m (m + k) g 0 m c (by simp [go_sem]) (by simp [go_sem]) hp.2.2.1 hg.2.2.2 (by rw [hp.2.1, blk_size, Nat.min_self]; omega) (by rw [hg.2.1, blk_size, Nat.min_self]; omega) (by rw [hg.2.1, Nat.min_self, Nat.zero_add, cut_head _ _ _ hm]; exact oneCells_blk _ _)
  rw [hp.2.1, hg.2.1, Nat.min_self, Nat.zero_add, cut_head _ _ _ hm, paste_blk _ _ _ _ _ (by omega)] at hcp
  rw [hcp]
  have HP2 := Lib.hid (HC.out.tail.push (blk (m + k) (cpy (fun _ => 0) 0 F 0 m)) 5)
  clear hcp hp hg HP
  go_wp2_with fail
  go_ret
  refine Laid.mk _ _ _ rfl d3 (fun i hi => ?_) HP2.out
  unfold cpy
  rw [if_pos (by omega)]
  congr 1; omega
theorem num_own (g m c k N : Nat) (F : Nat → UInt8) (h1 : 1 ≤ k) (h8 : k ≤ 8) (hm : m ≤ c) (hb : m + k ≤ 2 ^ 30) (w0 w : World) (L : List (Nat × Array Value)) (hC : St w0 ((g, blk c F) :: L) w) :
    Calls Tryz.prog 80 #[.slice (some ⟨g, 0, none⟩) m c, .int .i64 (k : Int), .int .u64 (N : Int)] w (Laid w0 L (m + k) (glue m F (beB N k))) := by
  have HC := Lib.hid hC
  clear hC
  go_enter Tryz.func80, Tryz.ntmps80
  go_wp2_with fail
  refine (sized_any k h1 h8 _).mono ?_; rintro e w2 ⟨rfl, hw⟩
  have HC := Lib.hid (HC.out.call hw)
  clear hw
  go_wp2_with fail
  refine (grown_any g m c k F h8 hm (by omega) w0 _ L HC.out).mono ?_; rintro e w3 ⟨g1, c1, F1, rfl, x1, x2, hw⟩
  have HC := Lib.hid hw
  have X1 := Lib.hid x1
  have X2 := Lib.hid x2
  clear hw x1 x2
  go_wp2_with fail
  refine (lay_any g1 m c1 k N F1 h1 h8 X1.out hb w0 _ L HC.out).mono ?_; rintro e w4 ⟨g2, c2, F2, rfl, y1, y2, hw⟩
  have H1 := Lib.hid y1
  have H2 := Lib.hid y2
  have HC := Lib.hid hw
  clear y1 y2 hw
  go_wp2_with fail
  go_ret
  refine Laid.mk g2 c2 F2 rfl H1.out (fun i hi => ?_) HC.out
  rw [H2.out i hi]
  unfold glue
  split
  · exact X2.out i (by omega)
  · rfl
/-- a count's number -/
def nonceB (e n : Nat) : Nat → UInt8 := glue 6 (beB e 6) (beB n 6)
set_option maxRecDepth 100000 in
theorem nonceLay_any (e n : Nat) (w : World) : Calls Tryz.prog 134 #[.agg (cn e n)] w fun r w' => r = .returned (.string (strOf 12 (nonceB e n))) ∧ Below w.heap.size w w' := by
  have HC := Lib.hid ((St.nil w).pushA (cn e n) 52 rfl)
  go_enter Tryz.func134, Tryz.ntmps134
  go_wp2_with fail
  refine (num_nil 6 e (by omega) (by omega) w _ _ HC.out).mono ?_; rintro r w1 ⟨g, c, F, rfl, x1, x2, hw⟩
  have X1 := Lib.hid x1
  have X2 := Lib.hid x2
  have HC := Lib.hid hw
  clear x1 x2 hw
  have hC := HC.out
  (have HC := Lib.hid hC
   have sos := hC.below.os
   obtain ⟨⟨r1, f1, i1, b1, l1⟩, ⟨r2, f2, i2, b2, l2⟩, m12, m21⟩ := St.facts2 hC
   clear hC)
  go_wp2_with fail
  (clear r1 f1 i1 b1 l1 r2 f2 i2 b2 l2 m12 m21 sos)
  refine (num_own g 6 c 6 n F (by omega) (by omega) X1.out (by omega) w _ _ HC.out).mono ?_; rintro r w2 ⟨g2, c2, F2, rfl, y1, y2, hw⟩
  have Y2 := Lib.hid y2
  have Y1 := Lib.hid y1
  have HC := Lib.hid hw
  clear y2 hw
  have hcs : 12 ≤ c2 := y1
  clear y1
  have hC := HC.out
  (have HC := Lib.hid hC
   have sos := hC.below.os
   obtain ⟨⟨r1, f1, i1, b1, l1⟩, ⟨r2, f2, i2, b2, l2⟩, m12, m21⟩ := St.facts2 hC
   clear hC)
  go_wp2_with fail
  go_ret
  refine ⟨congrArg (fun x => Ending.returned (.string x)) (strOf_congr fun i hi => ?_), HC.out.below⟩
  rw [Y2.out i hi]
  unfold nonceB glue
  split
  · exact X2.out i (by omega)
  · rfl
set_option maxRecDepth 100000 in
theorem nonceText_yes (e n : Nat) (h : mayC e n) (hn : n ≠ 281474976710656) (w : World) : Calls Tryz.prog 107 #[.agg (cn e n)] w fun r w' => r = .returned (.tuple #[.string (strOf 12 (nonceB e n)), .int .i64 0]) ∧ Below w.heap.size w w' := by
  have d1 : ((n : Int) == 281474976710656) = false := by rw [beq_eq_false_iff_ne]; omega
  have HC := Lib.hid ((St.nil w).pushA (cn e n) 52 rfl)
  go_enter Tryz.func107, Tryz.ntmps107
  go_wp2_with fail
  refine (nonceCheck_yes e n h _).mono ?_; rintro e w1 ⟨rfl, hw⟩
  have HC := Lib.hid (HC.out.call hw)
  clear hw
  have hC := HC.out
  (have HC := Lib.hid hC
   have sos := hC.below.os
   obtain ⟨r1, f1, i1, b1, l1⟩ := St.facts1 hC
   clear hC)
  go_wp2_with fail
  (clear r1 f1 i1 b1 l1 sos)
  refine (nonceLay_any e n _).mono ?_; rintro e w2 ⟨rfl, hw⟩
  have HC := Lib.hid (HC.out.call hw)
  clear hw
  have hC := HC.out
  (have HC := Lib.hid hC
   have sos := hC.below.os
   obtain ⟨r1, f1, i1, b1, l1⟩ := St.facts1 hC
   clear hC)
  go_wp2_with fail
  go_ret2
  exact ⟨rfl, HC.out.below⟩
set_option maxRecDepth 100000 in
theorem nonceText_bad (e n : Nat) (h : ¬ mayC e n) (w : World) : Calls Tryz.prog 107 #[.agg (cn e n)] w fun r w' => r = .returned (.tuple #[.string ⟨#[]⟩, .int .i64 2]) ∧ Below w.heap.size w w' := by
  have HC := Lib.hid ((St.nil w).pushA (cn e n) 52 rfl)
  go_enter Tryz.func107, Tryz.ntmps107
  go_wp2_with fail
  refine (nonceCheck_no e n h _).mono ?_; rintro e w1 ⟨rfl, hw⟩
  have HC := Lib.hid (HC.out.call hw)
  clear hw
  have hC := HC.out
  (have HC := Lib.hid hC
   have sos := hC.below.os
   obtain ⟨r1, f1, i1, b1, l1⟩ := St.facts1 hC
   clear hC)
  go_wp2_with fail
  go_ret2
  exact ⟨rfl, HC.out.below⟩
set_option maxRecDepth 100000 in
theorem nonceText_end (e n : Nat) (h : mayC e n) (hn : n = 281474976710656) (w : World) : Calls Tryz.prog 107 #[.agg (cn e n)] w fun r w' => r = .returned (.tuple #[.string ⟨#[]⟩, .int .i64 19]) ∧ Below w.heap.size w w' := by
  have d1 : ((n : Int) == 281474976710656) = true := by rw [beq_iff_eq]; omega
  have HC := Lib.hid ((St.nil w).pushA (cn e n) 52 rfl)
  clear hn
  go_enter Tryz.func107, Tryz.ntmps107
  go_wp2_with fail
  refine (nonceCheck_yes e n h _).mono ?_; rintro e w1 ⟨rfl, hw⟩
  have HC := Lib.hid (HC.out.call hw)
  clear hw
  have hC := HC.out
  (have HC := Lib.hid hC
   have sos := hC.below.os
   obtain ⟨r1, f1, i1, b1, l1⟩ := St.facts1 hC
   clear hC)
  go_wp2_with fail
  go_ret2
  exact ⟨rfl, HC.out.below⟩
end Go.Proofs.YtgaecjhghpkcoaaGreat
end

section
namespace Go.Proofs.YtgaecjhghpkcoaaGreat
open Go.RowKit
attribute [local go_sem] B_xor B_or B_and
attribute [local go_sem] blk_set blk_size blk_get blk_getE upd_same oneCells_blk paste_blk cut_blk szOf
attribute [local go_sem high] paste_all cut_head
attribute [local go_sem] rowAt_alloc rowAt_drew rowAt_drewN isRow_alloc isRow_drew isRow_drewN freeRow_alloc freeRow_end freeRow_drew freeRow_drewN
attribute [local go_sem] setRow_alloc setRow_drew setRow_drewN setCell_drewN alloc_drewN rowAt_put isRow_setRow freeRow_put
attribute [local go_sem ↓] loadS_in storeS_in indexS_in copyS_in
attribute [local go_sem] loadS_row loadS_one storeS_row storeS_one indexS_blk copyS_rows run_equalIn_blk same_refl arrayAt_row
attribute [local go_sem] cell_row frozen_row st_setCell st_blk_ne stepAt stepUpon
attribute [local go_sem high] run_eql_blk run_neq_blk
attribute [local go_sem ↓] convBS_in
attribute [local go_sem] convBS_row convBS_nil allBytes_blk bytesOf_blk
attribute [local go_sem] size_cn agg_cn cn_size cn_get0 cn_get1 cn_getE0 cn_getE1 cn_set0 cn_set1 cn_ne cn_one cn_cut cn_paste

/-- the results of a function: a slot, one that lies in a row, a slot -/
theorem results_qpr {P : Program} {w : World} {fn : Func} {p q r : Tmp} {ty : TypeId} (h : fn.results = #[.tmp q, .cell p ty, .tmp r]) (tmps : Array Value) (g : Nat) (hp : tmps.getD p undef = .pointer (some ⟨g, 0, none⟩)) (cs : Array Value) (hc : rowAt w g = cs)
    (ha : (isAgg ty).run P w = .ok true w) (hs : (sizeOf ty).run P w = .ok cs.size w) (hr : isRow w g = true) (v u : Value) (hq : tmps.getD q undef = v) (hu : tmps.getD r undef = u) :
    (results fn tmps).run P w = .ok (.tuple #[v, .agg cs, u]) w := by
  have hp' : tmps[p]?.getD undef = .pointer (some ⟨g, 0, none⟩) := by simpa using hp
  have hq' : tmps[q]?.getD undef = v := by simpa using hq
  have hu' : tmps[r]?.getD undef = u := by simpa using hu
  have hl := run_loadCells_row (P := P) g 0 cs.size hr (by rw [hc]; omega)
  rw [hc] at hl
  simp only [Nat.zero_add, Array.extract_size] at hl
  simp [results, h, hp', hq', hu', asAddr, loadVar, Sem.run_bind, ha, hs, hl]
set_option maxRecDepth 100000 in
set_option maxHeartbeats 1000000 in
theorem nonceTake_yes (e n : Nat) (h : mayC e n) (hn : n ≠ 281474976710656) (w : World) : Calls Tryz.prog 79 #[.agg (cn e n)] w fun r w' => r = .returned (.tuple #[.string (strOf 12 (nonceB e n)), .agg (cn e (n + 1)), .int .i64 0]) ∧ Below w.heap.size w w' := by
  have hz := cn_zero
  have n1 : (n : Int) ≤ 281474976710656 := by have := h.2.2; omega
  have v1 : IntKind.u64.wrap ((n : Int) + 1) = (n : Int) + 1 := by
    simp [IntKind.wrap, IntKind.signed, IntKind.bits]; omega
  have hset : (cn e n).setIfInBounds 1 (.int .u64 ((n : Int) + 1)) = cn e (n + 1) := cn_set1 e n (n + 1)
  have HC := Lib.hid (((St.nil w).pushA (cn e n) 52 rfl).pushA (cn 0 0) 52 (g := w.heap.size + 1) (by simp))
  go_enter Tryz.func79, Tryz.ntmps79
  go_wp2_with fail
  refine (nonceText_yes e n h hn _).mono ?_; rintro e w1 ⟨rfl, hw⟩
  have HC := Lib.hid (HC.out.call hw)
  clear hw
  have hC := HC.out
  (have HC := Lib.hid hC
   have sos := hC.below.os
   obtain ⟨⟨r1, f1, i1, b1, l1⟩, ⟨r2, f2, i2, b2, l2⟩, m12, m21⟩ := St.facts2 hC
   clear hC)
  go_wp2_with fail
  (clear r1 f1 i1 b1 l1 r2 f2 i2 b2 l2 m12 m21 sos)
  have HC := Lib.hid (HC.out.swap.set_head (cn e (n + 1)) (by rw [cn_size, cn_size]))
  generalize w1.setRow w.heap.size (cn e (n + 1)) = w2 at HC ⊢
  have hC := HC.out
  (have HC := Lib.hid hC
   have sos := hC.below.os
   obtain ⟨⟨r1, f1, i1, b1, l1⟩, ⟨r2, f2, i2, b2, l2⟩, m12, m21⟩ := St.facts2 hC
   clear hC)
  go_region
  all_goals
    go_wp2_with fail
    refine bodyPost_ret (results_qpr rfl _ (w.heap.size + 1) rfl (cn e (n + 1)) ?_ ?_ ?_ ?_ (.string (strOf 12 (nonceB e n))) (.int .i64 0) rfl rfl) rfl ⟨rfl, ?_⟩
    · simp [go_sem, *]
    · simp [go_sem]
    · simp [go_sem]
    · simp [go_sem, *]
    · exact (below_setRow' HC.out.below (by omega) _).drew
set_option maxRecDepth 100000 in
set_option maxHeartbeats 1000000 in
theorem nonceTake_no (e n d : Nat) (h : (¬ mayC e n ∧ d = 2) ∨ (mayC e n ∧ n = 281474976710656 ∧ d = 19)) (w : World) : Calls Tryz.prog 79 #[.agg (cn e n)] w fun r w' => r = .returned (.tuple #[.string ⟨#[]⟩, .agg (cn e n), .int .i64 (d : Int)]) ∧ Below w.heap.size w w' := by
  have hz := cn_zero
  have hT : ∀ w, Calls Tryz.prog 107 #[.agg (cn e n)] w fun r w' => r = .returned (.tuple #[.string ⟨#[]⟩, .int .i64 (d : Int)]) ∧ Below w.heap.size w w' := fun w => by
    rcases h with ⟨h1, rfl⟩ | ⟨h1, h2, rfl⟩
    · exact nonceText_bad e n h1 w
    · exact nonceText_end e n h1 h2 w
  have hd : ((d : Int) != 0) = true := by rw [bne_iff_ne]; omega
  have HT := Lib.hid hT
  clear hT h
  have HC := Lib.hid (((St.nil w).pushA (cn e n) 52 rfl).pushA (cn 0 0) 52 (g := w.heap.size + 1) (by simp))
  go_enter Tryz.func79, Tryz.ntmps79
  go_wp2_with fail
  refine (HT.out _).mono ?_; rintro e w1 ⟨rfl, hw⟩
  have HC := Lib.hid (HC.out.call hw)
  clear hw
  have hC := HC.out
  (have HC := Lib.hid hC
   have sos := hC.below.os
   obtain ⟨⟨r1, f1, i1, b1, l1⟩, ⟨r2, f2, i2, b2, l2⟩, m12, m21⟩ := St.facts2 hC
   clear hC)
  go_wp2_with fail
  go_region
  all_goals
    go_wp2_with fail
    refine bodyPost_ret (results_qpr rfl _ (w.heap.size + 1) rfl (cn e n) ?_ ?_ ?_ ?_ (.string ⟨#[]⟩) (.int .i64 (d : Int)) rfl rfl) rfl ⟨rfl, ?_⟩
    · simp [go_sem, *]
    · simp [go_sem]
    · simp [go_sem]
    · simp [go_sem, *]
    · exact (below_setRow' HC.out.below (by omega) _).drew
end Go.Proofs.YtgaecjhghpkcoaaGreat
end

section
namespace Go.Proofs.YtgaecjhghpkcoaaGreat
open Go.RowKit
attribute [local go_sem] B_xor B_or B_and
attribute [local go_sem] blk_set blk_size blk_get blk_getE upd_same oneCells_blk paste_blk cut_blk szOf
attribute [local go_sem high] paste_all cut_head
attribute [local go_sem] rowAt_alloc rowAt_drew rowAt_drewN isRow_alloc isRow_drew isRow_drewN freeRow_alloc freeRow_end freeRow_drew freeRow_drewN
attribute [local go_sem] setRow_alloc setRow_drew setRow_drewN setCell_drewN alloc_drewN rowAt_put isRow_setRow freeRow_put
attribute [local go_sem ↓] loadS_in storeS_in indexS_in copyS_in
attribute [local go_sem] loadS_row loadS_one storeS_row storeS_one indexS_blk copyS_rows run_equalIn_blk same_refl arrayAt_row
attribute [local go_sem] cell_row frozen_row st_setCell st_blk_ne stepAt stepUpon
attribute [local go_sem high] run_eql_blk run_neq_blk
attribute [local go_sem ↓] convBS_in
attribute [local go_sem] convBS_row convBS_nil allBytes_blk bytesOf_blk
attribute [local go_sem] rg_size rg_get0 rg_getE0 rg_ne rg_set0 rg_one rg_cut rg_key rg_put rg_paste part_rg0 part_rg1
attribute [local go_sem] size_cn agg_cn cn_size cn_get0 cn_get1 cn_getE0 cn_getE1 cn_set0 cn_set1 cn_ne cn_one cn_cut cn_paste

/-- a barrier: was it made, its kind, its notes, its ring, its count -/
structure Br where
  md : Bool
  kd : Nat
  nt : Value
  n : Nat
  f : Nat → UInt8
  e : Nat
  c : Nat
def brAt (b : Br) (i : Nat) : Value :=
  if i = 0 then .bool b.md else if i = 1 then .int .u8 (b.kd : Int) else if i = 2 then b.nt else if i = 3 then .int .i64 (b.n : Int) else if i < 100 then .int .u8 (B (b.f (i - 4))) else if i = 100 then .int .u64 (b.e : Int) else .int .u64 (b.c : Int)
def br (b : Br) : Array Value := ((List.range 102).map (brAt b)).toArray
theorem br_size (b : Br) : (br b).size = 102 := by simp [br]
theorem br_at (b : Br) (i : Nat) (h : i < 102) : (br b)[i]? = some (brAt b i) := by simp [br, h]
theorem br_get0 (b : Br) : (br b)[0]? = some (.bool b.md) := br_at b 0 (by omega)
theorem br_get1 (b : Br) : (br b)[1]? = some (.int .u8 (b.kd : Int)) := br_at b 1 (by omega)
theorem br_get2 (b : Br) : (br b)[2]? = some b.nt := br_at b 2 (by omega)
theorem br_getE0 (b : Br) (h : 0 < (br b).size) : (br b)[0]'h = .bool b.md := by
  have := br_get0 b
  rw [Array.getElem?_eq_getElem h] at this
  exact Option.some.inj this
theorem br_getE1 (b : Br) (h : 1 < (br b).size) : (br b)[1]'h = .int .u8 (b.kd : Int) := by
  have := br_get1 b
  rw [Array.getElem?_eq_getElem h] at this
  exact Option.some.inj this
theorem br_getE2 (b : Br) (h : 2 < (br b).size) : (br b)[2]'h = b.nt := by
  have := br_get2 b
  rw [Array.getElem?_eq_getElem h] at this
  exact Option.some.inj this
theorem br_ne (b : Br) : (br b = #[]) = False := by
  simp only [eq_iff_iff, iff_false]
  intro h
  have := congrArg Array.size h
  rw [br_size] at this; cases this
theorem br_ext {b : Br} {xs : Array Value} (h0 : xs.size = 102) (h : ∀ i, i < 102 → xs[i]? = some (brAt b i)) : xs = br b := by
  apply Array.ext_getElem?
  intro i
  by_cases hi : i < 102
  · rw [h i hi, br_at b i hi]
  · rw [Array.getElem?_eq_none (by omega), Array.getElem?_eq_none (by rw [br_size]; omega)]
theorem br_ring (b : Br) : cut (br b) 3 100 = rg b.n b.f := by
  refine rg_ext (by simp [cut, br_size]) ?_ (fun i hi => ?_)
  · unfold cut
    rw [Array.getElem?_extract, if_pos (by rw [br_size]; omega), br_at b _ (by omega)]
    rfl
  · unfold cut
    rw [Array.getElem?_extract, if_pos (by rw [br_size]; omega), br_at b _ (by omega)]
    unfold brAt
    rw [if_neg (by omega), if_neg (by omega), if_neg (by omega), if_neg (by omega), if_pos (by omega)]
    congr 3; congr 1; omega
theorem br_count (b : Br) : cut (br b) 100 102 = cn b.e b.c := by
  apply Array.ext_getElem?
  intro i
  unfold cut
  rw [Array.getElem?_extract]
  match i with
  | 0 => rw [if_pos (by rw [br_size]; omega), br_at b _ (by omega), cn_get0]; rfl
  | 1 => rw [if_pos (by rw [br_size]; omega), br_at b _ (by omega), cn_get1]; rfl
  | i + 2 => rw [if_neg (by omega), Array.getElem?_eq_none (by rw [cn_size]; omega)]
theorem br_whole (b : Br) : cut (br b) 0 102 = br b := by
  unfold cut
  have := @Array.extract_size Value (br b)
  rwa [br_size] at this
theorem br_put_ring (b : Br) (n : Nat) (f : Nat → UInt8) : paste (br b) 3 (rg n f) = br { b with n := n, f := f } := by
  refine br_ext (by rw [paste_size _ _ _ (by rw [br_size, rg_size]; omega), br_size]) fun i hi => ?_
  rw [paste_get _ _ _ (by rw [br_size, rg_size]; omega), rg_size]
  by_cases h : 3 ≤ i ∧ i < 3 + 97
  · rw [if_pos h]
    by_cases h3 : i = 3
    · subst h3; rw [rg_get0]; rfl
    · rw [show i - 3 = 1 + (i - 4) by omega, rg_get, blk_get _ _ _ (by omega)]
      unfold brAt
      rw [if_neg (by omega), if_neg (by omega), if_neg (by omega), if_neg (by omega), if_pos (by omega)]
  · rw [if_neg h, br_at b i hi]
    unfold brAt
    by_cases h4 : i < 3
    · congr 1
      split
      · rfl
      · split
        · rfl
        · rw [if_pos (by omega), if_pos (by omega)]
    · have e0 : ¬ i = 0 := by omega
      have e1 : ¬ i = 1 := by omega
      have e2 : ¬ i = 2 := by omega
      have e3 : ¬ i = 3 := by omega
      have e4 : ¬ i < 100 := by omega
      simp only [e0, e1, e2, e3, e4, if_false]
theorem br_put_count (b : Br) (e c : Nat) : paste (br b) 100 (cn e c) = br { b with e := e, c := c } := by
  refine br_ext (by rw [paste_size _ _ _ (by rw [br_size, cn_size]; omega), br_size]) fun i hi => ?_
  rw [paste_get _ _ _ (by rw [br_size, cn_size]; omega), cn_size]
  by_cases h : 100 ≤ i ∧ i < 100 + 2
  · rw [if_pos h]
    by_cases h3 : i = 100
    · subst h3; rw [cn_get0]; rfl
    · obtain rfl : i = 101 := by omega
      rw [cn_get1]; rfl
  · rw [if_neg h, br_at b i hi]
    unfold brAt
    congr 1
    by_cases h4 : i < 4
    · split
      · rfl
      · split
        · rfl
        · split
          · rfl
          · rw [if_pos (by omega), if_pos (by omega)]
    · rw [if_neg (by omega), if_neg (by omega), if_neg (by omega), if_neg (by omega), if_pos (by omega), if_neg (by omega), if_neg (by omega), if_neg (by omega), if_neg (by omega), if_pos (by omega)]
theorem br_paste (a b : Br) : paste (br a) 0 (br b) = br b := paste_whole _ _ (by rw [br_size, br_size])
theorem br_one (b : Br) (h : b.nt.oneCell' = true) : oneCells (br b) = true := by
  unfold oneCells br
  simp only [List.all_toArray, List.all_map, List.all_eq_true]
  intro i _
  simp only [Function.comp]
  unfold brAt
  repeat (first | rfl | exact h | split)
theorem size_br (w : World) : (sizeOf 80).run Tryz.prog w = .ok 102 w := by simp [go_sem]
theorem agg_br (w : World) : (isAgg 80).run Tryz.prog w = .ok true w := by simp [go_sem]
attribute [local go_sem] br_size br_get0 br_get1 br_get2 br_getE0 br_getE1 br_getE2 br_ne br_ring br_count br_whole br_put_ring br_put_count br_paste br_one size_br agg_br

theorem state_made (b : Br) (hm : b.md = true) (g : Nat) (w0 w : World) (L : List (Nat × Array Value)) (hC : St w0 ((g, br b) :: L) w) (E : Nat) (hE : (b.n = 0 ∧ E = 12) ∨ (b.n ≠ 0 ∧ E = 0)) : Calls Tryz.prog 42 #[.pointer (some ⟨g, 0, none⟩)] w fun e w' => e = .returned (.int .i64 (E : Int)) ∧ Below w.heap.size w w' := by
  have HC := Lib.hid hC
  clear hC
  have HB := Lib.hid ((St.nil w))
  rcases hE with ⟨h, rfl⟩ | ⟨h, rfl⟩
  · have d1 : ((b.n : Int) == 0) = true := by rw [beq_iff_eq]; omega
    clear h
    (obtain ⟨r1, f1, i1, b1, l1⟩ := St.facts1 (HC.out.pick [0] (by decide) rfl))
    go_enter Tryz.func42, Tryz.ntmps42
    go_wp2_with fail
    refine (term_any b.n b.f _).mono ?_; rintro e w1 ⟨rfl, hw⟩
    have HB := Lib.hid (HB.out.call hw)
    clear hw
    go_wp2_with fail
    go_ret
    exact ⟨rfl, HB.out.below⟩
  · have d1 : ((b.n : Int) == 0) = false := by rw [beq_eq_false_iff_ne]; omega
    clear h
    (obtain ⟨r1, f1, i1, b1, l1⟩ := St.facts1 (HC.out.pick [0] (by decide) rfl))
    go_enter Tryz.func42, Tryz.ntmps42
    go_wp2_with fail
    refine (term_any b.n b.f _).mono ?_; rintro e w1 ⟨rfl, hw⟩
    have HB := Lib.hid (HB.out.call hw)
    clear hw
    go_wp2_with fail
    go_ret
    exact ⟨rfl, HB.out.below⟩
end Go.Proofs.YtgaecjhghpkcoaaGreat
end

section
namespace Go.Proofs.YtgaecjhghpkcoaaGreat
open Go.RowKit

def entOf (e : MapEntry) : Value × Value := (e.key, e.val)
section
variable {α : Type} (enc : α → Value)
/-- block m is a map that holds these -/
def Mp (w : World) (m : Nat) (N : List (ByteArray × α)) : Prop := ∃ es clock, w.heap[m]? = some (.map es clock) ∧ es.toList.map entOf = N.map fun x => (.string x.1, enc x.2)
/-- what is held by a key -/
def findN (k : ByteArray) : List (ByteArray × α) → Option α
  | [] => none
  | (k', v) :: l => if k' = k then some v else findN k l
/-- a key gets a value -/
def putN (k : ByteArray) (v : α) : List (ByteArray × α) → List (ByteArray × α)
  | [] => [(k, v)]
  | (k', v') :: l => if k' = k then (k', v) :: l else (k', v') :: putN k v l
theorem find_put (k j : ByteArray) (v : α) : ∀ l, findN j (putN k v l) = if j = k then some v else findN j l
  | [] => by
    simp only [putN, findN, eq_comm]
  | (k', v') :: l => by
    unfold putN
    by_cases h : k' = k
    · subst h
      rw [if_pos rfl]
      by_cases h2 : k' = j
      · subst h2; simp [findN]
      · simp [findN, h2, Ne.symm h2]
    · rw [if_neg h]
      by_cases h2 : k' = j
      · subst h2; simp [findN, h]
      · simp only [findN, if_neg h2, find_put k j v l]
/-- all but one block of those that were there are as they were -/
structure But (m : Nat) (w w' : World) : Prop where
  os : w'.os = w.os
  tape : w'.tape = w.tape
  output : w'.output = w.output
  size : w'.heap.size = w.heap.size
  block : ∀ k, k ≠ m → w'.heap[k]? = w.heap[k]?
theorem But.below {m : Nat} {w w' : World} (h : But m w w') {B : Nat} {a : World} (hb : Below B a w) (hm : B ≤ m) : Below B a w' :=
  ⟨h.os.trans hb.os, h.tape.trans hb.tape, h.output.trans hb.output, by rw [h.size]; exact hb.size, fun k hk => (h.block k (by omega)).trans (hb.block k hk)⟩
theorem Mp.lt {w : World} {m : Nat} {N : List (ByteArray × α)} (h : Mp enc w m N) : m < w.heap.size := by
  obtain ⟨es, c, h1, _⟩ := h
  exact (Array.getElem?_eq_some_iff.1 h1).1
theorem Mp.row {w : World} {m : Nat} {N : List (ByteArray × α)} (h : Mp enc w m N) : isRow w m = false := by
  obtain ⟨es, c, h1, _⟩ := h
  simp [isRow, h1]
theorem Mp.call {w w' : World} {m : Nat} {N : List (ByteArray × α)} (h : Mp enc w m N) (hb : Below w.heap.size w w') : Mp enc w' m N := by
  have hlt := h.lt
  obtain ⟨es, c, h1, h2⟩ := h
  exact ⟨es, c, (hb.block m hlt).trans h1, h2⟩
theorem Mp.but {w w' : World} {m q : Nat} {N : List (ByteArray × α)} (h : Mp enc w m N) (hb : But q w w') (hm : m ≠ q) : Mp enc w' m N := by
  obtain ⟨es, c, h1, h2⟩ := h
  exact ⟨es, c, (hb.block m hm).trans h1, h2⟩
/-- all maps are as they were -/
def Mk (w w' : World) : Prop := ∀ (m : Nat) (es : Array MapEntry) (c : Nat), w.heap[m]? = some (Obj.map es c) → w'.heap[m]? = some (Obj.map es c)
theorem Mk.refl (w : World) : Mk w w := fun _ _ _ h => h
theorem Mk.trans {a b c : World} (h : Mk a b) (k : Mk b c) : Mk a c := fun m es q hm => k m es q (h m es q hm)
theorem Mk.call {a b c : World} (hb : Below b.heap.size b c) (h : Mk a b) : Mk a c := fun m es q hm => by
  have h1 := h m es q hm
  exact (hb.block m (Array.getElem?_eq_some_iff.1 h1).1).trans h1
theorem Mk.alloc {a b : World} (h : Mk a b) (o : Obj) : Mk a (b.alloc o) := fun m es q hm => by
  have h1 := h m es q hm
  exact (Below.heap_alloc b o m (Array.getElem?_eq_some_iff.1 h1).1).trans h1
theorem Mk.drew {a b : World} (h : Mk a b) : Mk a b.drew := fun m es q hm => h m es q hm
theorem Mk.drewN {a b : World} (h : Mk a b) (n : Nat) : Mk a (b.drewN n) := fun m es q hm => h m es q hm
theorem Mk.setRow {a b : World} (h : Mk a b) (g : Nat) (cs : Array Value) : Mk a (b.setRow g cs) := fun m es q hm => by
  have h1 := h m es q hm
  show (b.heap.modify g _)[m]? = _
  rw [Array.getElem?_modify, h1]
  split <;> rfl
theorem Mp.mk {w w' : World} {m : Nat} {N : List (ByteArray × α)} (h : Mp enc w m N) (hb : Mk w w') : Mp enc w' m N := by
  obtain ⟨es, c, h1, h2⟩ := h
  exact ⟨es, c, hb m es c h1, h2⟩
theorem St.but {w0 w w' : World} {L : List (Nat × Array Value)} {m : Nat} (h : St w0 L w) (hb : But m w w') (hm : w0.heap.size ≤ m) (hr : isRow w m = false) : St w0 L w' := by
  refine ⟨hb.below h.below hm, h.ne, fun x hx => ?_⟩
  obtain ⟨⟨h1, h2⟩, h3, h4, h5⟩ := h.rows x hx
  have hne : x.1 ≠ m := fun e => by rw [e, hr] at h5; cases h5
  have hk := hb.block x.1 hne
  refine ⟨⟨h1, by rw [hb.size]; exact h2⟩, ?_, ?_, ?_⟩
  · unfold rowAt at h3 ⊢; rw [hk]; exact h3
  · unfold freeRow at h4 ⊢; rw [hk]; exact h4
  · unfold isRow at h5 ⊢; rw [hk]; exact h5

variable {P : Program}
theorem findNow_text (k : ByteArray) : ∀ (es : List MapEntry) (N : List (ByteArray × α)) (i : Nat), es.map entOf = N.map (fun x => (.string x.1, enc x.2)) →
    (Instr.findNow .string (.string k) es i = some none ∧ findN k N = none ∧ ∀ v, (es.map entOf) ++ [(.string k, enc v)] = (putN k v N).map fun x => (.string x.1, enc x.2)) ∨
    ∃ (j : Nat) (e : MapEntry) (v : α), Instr.findNow .string (.string k) es i = some (some (i + j, enc v)) ∧ findN k N = some v ∧ es[j]? = some e ∧ e.key = .string k ∧ ∀ v' e', e'.key = e.key → e'.val = enc v' → (es.set j e').map entOf = (putN k v' N).map fun x => (.string x.1, enc x.2)
  | [], [], i, _ => .inl ⟨rfl, rfl, fun v => rfl⟩
  | [], _ :: _, _, h => by simp at h
  | _ :: _, [], _, h => by simp at h
  | e :: es, (k', v') :: N, i, h => by
    simp only [List.map_cons, List.cons.injEq] at h
    obtain ⟨h1, h2⟩ := h
    have hk : e.key = .string k' := congrArg Prod.fst h1
    have hv : e.val = enc v' := congrArg Prod.snd h1
    by_cases hkk : k' = k
    · subst hkk
      refine .inr ⟨0, e, v', ?_, by simp [findN], rfl, hk, fun v'' e' g1 g2 => ?_⟩
      · have hb : (k' == k') = true := (MapKept.bytes_beq k' k').2 rfl
        simp [Instr.findNow, Instr.sameNow, hk, hv, hb]
      · simp [putN, entOf, g1, hk, g2, h2]
    · have hne : (k == k') = false := by
        cases hb : k == k'
        · rfl
        · exact (hkk ((MapKept.bytes_beq k k').1 hb).symm).elim
      have hs : Instr.findNow .string (.string k) (e :: es) i = Instr.findNow .string (.string k) es (i + 1) := by
        simp [Instr.findNow, Instr.sameNow, hk, hne]
      rcases findNow_text k es N (i + 1) h2 with ⟨a1, a2, a3⟩ | ⟨j, e0, v0, a1, a2, a3, a4, a5⟩
      · refine .inl ⟨by rw [hs, a1], by simp [findN, hkk, a2], fun v => ?_⟩
        simp only [List.map_cons, List.cons_append, putN, if_neg hkk, List.cons.injEq]
        exact ⟨h1, a3 v⟩
      · refine .inr ⟨j + 1, e0, v0, by rw [hs, a1]; congr 3; omega, by simp [findN, hkk, a2], by simpa using a3, a4, fun v'' e' g1 g2 => ?_⟩
        simp only [List.set_cons_succ, List.map_cons, putN, if_neg hkk, List.cons.injEq]
        exact ⟨h1, a5 v'' e' g1 g2⟩
theorem run_lookup_text (t kt et : TypeId) (ht : P.underlying t = some (.map kt et)) (hk : P.underlying kt = some .string) (z : Value) {w : World} (hz : (zeroValue et).run P w = .ok z w) {m : Nat} {N : List (ByteArray × α)} (hM : Mp enc w m N) (k : ByteArray) :
    (Instr.lookup t (.map (some m)) (.string k) true).run P w = .ok (.tuple #[((findN k N).map enc).getD z, .bool (findN k N).isSome]) w := by
  obtain ⟨es, c, h1, h2⟩ := hM
  have hc : ∀ e, (Instr.checkKey e 10000 kt (.string k)).run P w = .ok () w := fun e => MapKept.run_checkKey (k := .string k) hk (by simp [MapKept.IsKey]) e 9999
  rcases findNow_text enc k es.toList N 0 h2 with ⟨a1, a2, _⟩ | ⟨j, e0, v0, a1, a2, _⟩
  · simp [Instr.lookup, run_underlying ht, MapKept.run_getObj_map h1, hc, MapKept.run_findKey hk a1, hz, Result.andThen, a2]
  · simp [Instr.lookup, run_underlying ht, MapKept.run_getObj_map h1, hc, MapKept.run_findKey hk a1, Result.andThen, a2]
theorem run_update_text (t kt et : TypeId) (ht : P.underlying t = some (.map kt et)) (hk : P.underlying kt = some .string) {w : World} {m : Nat} {N : List (ByteArray × α)} (hM : Mp enc w m N) (k : ByteArray) (v : α) :
    ∃ w', (Instr.mapUpdate t (.map (some m)) (.string k) (enc v)).run P w = .ok () w' ∧ But m w w' ∧ Mp enc w' m (putN k v N) := by
  obtain ⟨es, c, h1, h2⟩ := hM
  have hlt := (Array.getElem?_eq_some_iff.1 h1).1
  have hc : ∀ e, (Instr.checkKey e 10000 kt (.string k)).run P w = .ok () w := fun e => MapKept.run_checkKey (k := .string k) hk (by simp [MapKept.IsKey]) e 9999
  have hB : ∀ o : Obj, But m w { w with heap := w.heap.setIfInBounds m o } := fun o => ⟨rfl, rfl, rfl, by simp, fun i hi => by
    show (w.heap.setIfInBounds m o)[i]? = _
    rw [Array.getElem?_setIfInBounds, if_neg (Ne.symm hi)]⟩
  have hO : ∀ o : Obj, ({ w with heap := w.heap.setIfInBounds m o } : World).heap[m]? = some o := fun o => by
    show (w.heap.setIfInBounds m o)[m]? = _
    rw [Array.getElem?_setIfInBounds, if_pos rfl, if_pos hlt]
  rcases findNow_text enc k es.toList N 0 h2 with ⟨a1, a2, a3⟩ | ⟨j, e0, v0, a1, a2, a3, a4, a5⟩
  · refine ⟨_, by simp [Instr.mapUpdate, run_underlying ht, MapKept.run_getObj_map h1, hc, MapKept.run_findKey hk a1, MapKept.run_setObj_map _ h1, Result.andThen]; rfl, hB _, _, _, hO _, ?_⟩
    rw [Array.toList_push, List.map_append, ← a3 v]
    rfl
  · have hj : es[j]? = some e0 := by simpa using a3
    rw [Nat.zero_add] at a1
    have hst : (Instr.keyThatStays e0.key (.string k)).run P w = .ok (.string k) w := by rw [a4]; exact MapKept.run_keyThatStays (d := .string) trivial
    refine ⟨_, by simp [Instr.mapUpdate, run_underlying ht, MapKept.run_getObj_map h1, hc, MapKept.run_findKey hk a1, hj, hst, MapKept.run_setObj_map _ h1, Result.andThen]; rfl, hB _, _, _, hO _, ?_⟩
    rw [Array.toList_modify, ← a5 v { e0 with key := .string k, val := enc v } a4.symm rfl]
    congr 1
    apply List.ext_getElem?
    intro i
    rw [List.getElem?_modify, List.getElem?_set]
    by_cases hi : j = i
    · subst hi
      have hjl := (List.getElem?_eq_some_iff.1 a3).1
      rw [if_pos rfl, if_pos hjl, a3]
      simp
    · simp [hi]
end
/-- the blocks of a call's own, as one fact; and all maps of v are as they were -/
structure Sk (v w0 : World) (L : List (Nat × Array Value)) (w : World) : Prop extends St w0 L w where
  kept : Mk v w
section
variable {v w0 a b : World} {L : List (Nat × Array Value)}
theorem St.sk (h : St w0 L a) : Sk a w0 L a := ⟨h, Mk.refl _⟩
theorem Sk.base (h : Sk v w0 L a) : Sk a w0 L a := ⟨h.toSt, Mk.refl _⟩
theorem Sk.nil (w : World) : Sk w w [] w := ⟨St.nil w, Mk.refl _⟩
theorem Sk.call (h : Sk v w0 L a) (hb : Below a.heap.size a b) : Sk v w0 L b := ⟨h.toSt.call hb, Mk.call hb h.kept⟩
theorem Sk.drew (h : Sk v w0 L a) : Sk v w0 L a.drew := ⟨h.toSt.drew, h.kept.drew⟩
theorem Sk.drewN (h : Sk v w0 L a) (n : Nat) : Sk v w0 L (a.drewN n) := ⟨h.toSt.drewN n, h.kept.drewN n⟩
theorem Sk.skip (h : Sk v w0 L a) (o : Obj) : Sk v w0 L (a.alloc o) := ⟨h.toSt.skip o, h.kept.alloc o⟩
theorem Sk.push (h : Sk v w0 L a) (cs : Array Value) (t : TypeId) : Sk v w0 ((a.heap.size, cs) :: L) (a.alloc (.cells cs t)) := ⟨h.toSt.push cs t, h.kept.alloc _⟩
theorem Sk.pushA (h : Sk v w0 L a) (cs : Array Value) (t : TypeId) {g : Nat} (hg : a.heap.size = g) : Sk v w0 ((g, cs) :: L) (a.alloc (.cells cs t)) := ⟨h.toSt.pushA cs t hg, h.kept.alloc _⟩
theorem Sk.tail {x : Nat × Array Value} (h : Sk v w0 (x :: L) a) : Sk v w0 L a := ⟨h.toSt.tail, h.kept⟩
theorem Sk.swap {x y : Nat × Array Value} (h : Sk v w0 (x :: y :: L) a) : Sk v w0 (y :: x :: L) a := ⟨h.toSt.swap, h.kept⟩
theorem Sk.set_head {g : Nat} {c : Array Value} (h : Sk v w0 ((g, c) :: L) a) (cs : Array Value) (hs : cs.size = c.size := by first | (simp only [blk_size]; done) | (simp [go_sem]; done) | rfl) : Sk v w0 ((g, cs) :: L) (a.setRow g cs) := ⟨h.toSt.set_head cs hs, h.kept.setRow g cs⟩
theorem Sk.order {L' : List (Nat × Array Value)} (h : Sk v w0 L a) (is : List Nat) (hn : is.Nodup) (hL : is.filterMap (fun i => L[i]?) = L') : Sk v w0 L' a := ⟨h.toSt.pick is hn hL, h.kept⟩
theorem Sk.next {L' : List (Nat × Array Value)} (h : Sk v w0 L a) (hc : St w0 L' b ∧ Mk a b) : Sk v w0 L' b := ⟨hc.1, h.kept.trans hc.2⟩
variable {P : Program} {id : Nat} {Q : Exit → Act → World → Prop} {t : Act} {l : List Oper}
theorem Sk.region (h : Sk v w0 L a) (hm : P.follows .mixedOrders = true) (hB : Region.lexB .any l.toArray = true)
    (k : wpQuiet P l.toArray (Sk v w0 L) (fun a' => ∀ w', Sk v w0 L w' → Q .normal a' w') l t) : (Code.region id l.toArray true).wp P Q t a := wp_region_quiet hm hB h.drew (by simpa using k)
end
end Go.Proofs.YtgaecjhghpkcoaaGreat
end

section
namespace Go.Proofs.YtgaecjhghpkcoaaGreat
open Go.RowKit
attribute [local go_sem] B_xor B_or B_and
attribute [local go_sem] blk_set blk_size blk_get blk_getE upd_same oneCells_blk paste_blk cut_blk szOf
attribute [local go_sem high] paste_all cut_head
attribute [local go_sem] rowAt_alloc rowAt_drew rowAt_drewN isRow_alloc isRow_drew isRow_drewN freeRow_alloc freeRow_end freeRow_drew freeRow_drewN
attribute [local go_sem] setRow_alloc setRow_drew setRow_drewN setCell_drewN alloc_drewN rowAt_put isRow_setRow freeRow_put
attribute [local go_sem ↓] loadS_in storeS_in indexS_in copyS_in
attribute [local go_sem] loadS_row loadS_one storeS_row storeS_one indexS_blk copyS_rows run_equalIn_blk same_refl arrayAt_row
attribute [local go_sem] cell_row frozen_row st_setCell st_blk_ne stepAt stepUpon
attribute [local go_sem high] run_eql_blk run_neq_blk
attribute [local go_sem ↓] convBS_in
attribute [local go_sem] convBS_row convBS_nil allBytes_blk bytesOf_blk
attribute [local go_sem] rg_size rg_get0 rg_getE0 rg_ne rg_set0 rg_one rg_cut rg_key rg_put rg_paste part_rg0 part_rg1
attribute [local go_sem] size_cn agg_cn cn_size cn_get0 cn_get1 cn_getE0 cn_getE1 cn_set0 cn_set1 cn_ne cn_one cn_cut cn_paste
attribute [local go_sem] br_size br_get0 br_get1 br_get2 br_getE0 br_getE1 br_getE2 br_ne br_ring br_count br_whole br_put_ring br_put_count br_paste br_one size_br agg_br

theorem state_nil (w : World) : Calls Tryz.prog 42 #[.pointer none] w fun e w' => e = .returned (.int .i64 1) ∧ Below w.heap.size w w' := by
  go_enter Tryz.func42, Tryz.ntmps42
  go_wp2_with fail
  go_ret
  exact ⟨rfl, Below.refl _ _⟩
theorem state_raw (b : Br) (hm : b.md = false) (g : Nat) (w0 w : World) (L : List (Nat × Array Value)) (hC : St w0 ((g, br b) :: L) w) : Calls Tryz.prog 42 #[.pointer (some ⟨g, 0, none⟩)] w fun e w' => e = .returned (.int .i64 1) ∧ Below w.heap.size w w' := by
  have HC := Lib.hid hC
  clear hC
  (obtain ⟨r1, f1, i1, b1, l1⟩ := St.facts1 (HC.out.pick [0] (by decide) rfl))
  go_enter Tryz.func42, Tryz.ntmps42
  go_wp2_with fail
  go_ret
  exact ⟨rfl, Below.refl _ _⟩
/-- of a barrier whose state is E -/
theorem sealed_any (p : Value) (E : Nat) (v : Bool) (hv : ((E : Int) != 0) = v) (w : World) (hS : Calls Tryz.prog 42 #[p] w fun e w' => e = .returned (.int .i64 (E : Int)) ∧ Below w.heap.size w w') : Calls Tryz.prog 36 #[p] w fun e w' => e = .returned (.bool v) ∧ Below w.heap.size w w' := by
  have HS := Lib.hid hS
  have HB := Lib.hid ((St.nil w))
  clear hS
  go_enter Tryz.func36, Tryz.ntmps36
  go_wp2_with fail
  refine HS.out.mono ?_; rintro e w1 ⟨rfl, hw⟩
  have HB := Lib.hid (HB.out.call hw)
  clear hw
  go_wp2_with fail
  go_ret
  exact ⟨rfl, HB.out.below⟩
theorem sealed_open (b : Br) (hm : b.md = true) (hn : b.n ≠ 0) (g : Nat) (w0 w : World) (L : List (Nat × Array Value)) (hC : St w0 ((g, br b) :: L) w) : Calls Tryz.prog 36 #[.pointer (some ⟨g, 0, none⟩)] w fun e w' => e = .returned (.bool false) ∧ Below w.heap.size w w' :=
  sealed_any _ 0 false rfl w (state_made b hm g w0 w L hC 0 (.inr ⟨hn, rfl⟩))
theorem sealed_shut (b : Br) (hm : b.md = true) (hn : b.n = 0) (g : Nat) (w0 w : World) (L : List (Nat × Array Value)) (hC : St w0 ((g, br b) :: L) w) : Calls Tryz.prog 36 #[.pointer (some ⟨g, 0, none⟩)] w fun e w' => e = .returned (.bool true) ∧ Below w.heap.size w w' :=
  sealed_any _ 12 true rfl w (state_made b hm g w0 w L hC 12 (.inl ⟨hn, rfl⟩))
theorem sealed_raw (b : Br) (hm : b.md = false) (g : Nat) (w0 w : World) (L : List (Nat × Array Value)) (hC : St w0 ((g, br b) :: L) w) : Calls Tryz.prog 36 #[.pointer (some ⟨g, 0, none⟩)] w fun e w' => e = .returned (.bool true) ∧ Below w.heap.size w w' :=
  sealed_any _ 1 true rfl w (state_raw b hm g w0 w L hC)
theorem sealed_nil (w : World) : Calls Tryz.prog 36 #[.pointer none] w fun e w' => e = .returned (.bool true) ∧ Below w.heap.size w w' :=
  sealed_any _ 1 true rfl w (state_nil w)
set_option maxRecDepth 100000 in
set_option maxHeartbeats 1000000 in
theorem ring_open (b : Br) (hm : b.md = true) (hn : b.n ≠ 0) (g : Nat) (w0 w : World) (L : List (Nat × Array Value)) (hC : St w0 ((g, br b) :: L) w) : Calls Tryz.prog 28 #[.pointer (some ⟨g, 0, none⟩)] w fun e w' => e = .returned (.agg (rg b.n b.f)) ∧ Below w.heap.size w w' := by
  have hz2 := zero97
  have HC := Lib.hid (hC.push (rg 0 fun _ => 0) 44)
  have HO := Lib.hid ((St.nil w).pushA (rg 0 fun _ => 0) 44 rfl)
  have HM := Lib.hid hm
  have HN := Lib.hid hn
  clear hC hm hn
  go_enter Tryz.func28, Tryz.ntmps28
  go_wp2_with fail
  refine (sealed_open b HM.out HN.out g w0 _ _ HC.out.swap).mono ?_; rintro e w1 ⟨rfl, hw⟩
  have HC := Lib.hid (HC.out.call hw)
  have HO := Lib.hid (HO.out.call hw)
  clear hw
  (obtain ⟨⟨r1, f1, i1, b1, l1⟩, ⟨r2, f2, i2, b2, l2⟩, m12, m21⟩ := St.facts2 (HC.out.pick [0, 1] (by decide) rfl))
  go_wp2_with fail
  refine bodyPost_ret (results_row rfl _ w.heap.size rfl (rg b.n b.f) ?_ ?_ ?_ ?_) rfl ⟨rfl, ?_⟩
  · simp [go_sem, *]
  · simp [go_sem]
  · simp [go_sem]
  · simp [go_sem, *]
  · exact below_setRow' HO.out.below (by omega) _
set_option maxRecDepth 100000 in
set_option maxHeartbeats 1000000 in
theorem ring_shut (b : Br) (hm : b.md = true) (hn : b.n = 0) (g : Nat) (w0 w : World) (L : List (Nat × Array Value)) (hC : St w0 ((g, br b) :: L) w) : Calls Tryz.prog 28 #[.pointer (some ⟨g, 0, none⟩)] w fun e w' => e = .returned (.agg (rg 0 fun _ => 0)) ∧ Below w.heap.size w w' := by
  have hz2 := zero97
  have HC := Lib.hid (hC.push (rg 0 fun _ => 0) 44)
  have HO := Lib.hid ((St.nil w).pushA (rg 0 fun _ => 0) 44 rfl)
  have HM := Lib.hid hm
  have HN := Lib.hid hn
  clear hC hm hn
  go_enter Tryz.func28, Tryz.ntmps28
  go_wp2_with fail
  refine (sealed_shut b HM.out HN.out g w0 _ _ HC.out.swap).mono ?_; rintro e w1 ⟨rfl, hw⟩
  have HC := Lib.hid (HC.out.call hw)
  have HO := Lib.hid (HO.out.call hw)
  clear hw
  (obtain ⟨⟨r1, f1, i1, b1, l1⟩, ⟨r2, f2, i2, b2, l2⟩, m12, m21⟩ := St.facts2 (HC.out.pick [0, 1] (by decide) rfl))
  go_wp2_with fail
  refine bodyPost_ret (results_row rfl _ w.heap.size rfl (rg 0 fun _ => 0) ?_ ?_ ?_ ?_) rfl ⟨rfl, ?_⟩
  · simp [go_sem, *]
  · simp [go_sem]
  · simp [go_sem]
  · simp [go_sem, *]
  · exact below_setRow' HO.out.below (by omega) _
set_option maxRecDepth 100000 in
set_option maxHeartbeats 1000000 in
theorem ring_raw (b : Br) (hm : b.md = false) (g : Nat) (w0 w : World) (L : List (Nat × Array Value)) (hC : St w0 ((g, br b) :: L) w) : Calls Tryz.prog 28 #[.pointer (some ⟨g, 0, none⟩)] w fun e w' => e = .returned (.agg (rg 0 fun _ => 0)) ∧ Below w.heap.size w w' := by
  have hz2 := zero97
  have HC := Lib.hid (hC.push (rg 0 fun _ => 0) 44)
  have HO := Lib.hid ((St.nil w).pushA (rg 0 fun _ => 0) 44 rfl)
  have HM := Lib.hid hm
  clear hC hm
  go_enter Tryz.func28, Tryz.ntmps28
  go_wp2_with fail
  refine (sealed_raw b HM.out g w0 _ _ HC.out.swap).mono ?_; rintro e w1 ⟨rfl, hw⟩
  have HC := Lib.hid (HC.out.call hw)
  have HO := Lib.hid (HO.out.call hw)
  clear hw
  (obtain ⟨⟨r1, f1, i1, b1, l1⟩, ⟨r2, f2, i2, b2, l2⟩, m12, m21⟩ := St.facts2 (HC.out.pick [0, 1] (by decide) rfl))
  go_wp2_with fail
  refine bodyPost_ret (results_row rfl _ w.heap.size rfl (rg 0 fun _ => 0) ?_ ?_ ?_ ?_) rfl ⟨rfl, ?_⟩
  · simp [go_sem, *]
  · simp [go_sem]
  · simp [go_sem]
  · simp [go_sem, *]
  · exact below_setRow' HO.out.below (by omega) _
set_option maxRecDepth 100000 in
theorem ring_nil (w : World) : Calls Tryz.prog 28 #[.pointer none] w fun e w' => e = .returned (.agg (rg 0 fun _ => 0)) ∧ Below w.heap.size w w' := by
  have hz2 := zero97
  have HC := Lib.hid ((St.nil w).pushA (rg 0 fun _ => 0) 44 rfl)
  go_enter Tryz.func28, Tryz.ntmps28
  go_wp2_with fail
  refine (sealed_nil _).mono ?_; rintro e w1 ⟨rfl, hw⟩
  have HC := Lib.hid (HC.out.call hw)
  clear hw
  have hC := HC.out
  (have HC := Lib.hid hC
   have sos := hC.below.os
   obtain ⟨r1, f1, i1, b1, l1⟩ := St.facts1 hC
   clear hC)
  go_wp2_with fail
  refine bodyPost_ret (results_row rfl _ w.heap.size rfl (rg 0 fun _ => 0) ?_ ?_ ?_ ?_) rfl ⟨rfl, ?_⟩
  · simp [go_sem, *]
  · simp [go_sem]
  · simp [go_sem]
  · simp [go_sem, *]
  · exact below_setRow' HC.out.below (by omega) _
set_option maxRecDepth 100000 in
set_option maxHeartbeats 1000000 in
theorem count_open (b : Br) (hm : b.md = true) (hn : b.n ≠ 0) (g : Nat) (w0 w : World) (L : List (Nat × Array Value)) (hC : St w0 ((g, br b) :: L) w) : Calls Tryz.prog 37 #[.pointer (some ⟨g, 0, none⟩)] w fun e w' => e = .returned (.agg (cn b.e b.c)) ∧ Below w.heap.size w w' := by
  have hz3 := cn_zero
  have HC := Lib.hid (hC.push (cn 0 0) 52)
  have HO := Lib.hid ((St.nil w).pushA (cn 0 0) 52 rfl)
  have HM := Lib.hid hm
  have HN := Lib.hid hn
  clear hC hm hn
  go_enter Tryz.func37, Tryz.ntmps37
  go_wp2_with fail
  refine (sealed_open b HM.out HN.out g w0 _ _ HC.out.swap).mono ?_; rintro e w1 ⟨rfl, hw⟩
  have HC := Lib.hid (HC.out.call hw)
  have HO := Lib.hid (HO.out.call hw)
  clear hw
  (obtain ⟨⟨r1, f1, i1, b1, l1⟩, ⟨r2, f2, i2, b2, l2⟩, m12, m21⟩ := St.facts2 (HC.out.pick [0, 1] (by decide) rfl))
  go_wp2_with fail
  refine bodyPost_ret (results_row rfl _ w.heap.size rfl (cn b.e b.c) ?_ ?_ ?_ ?_) rfl ⟨rfl, ?_⟩
  · simp [go_sem, *]
  · simp [go_sem]
  · simp [go_sem]
  · simp [go_sem, *]
  · exact below_setRow' HO.out.below (by omega) _
set_option maxRecDepth 100000 in
set_option maxHeartbeats 1000000 in
theorem count_shut (b : Br) (hm : b.md = true) (hn : b.n = 0) (g : Nat) (w0 w : World) (L : List (Nat × Array Value)) (hC : St w0 ((g, br b) :: L) w) : Calls Tryz.prog 37 #[.pointer (some ⟨g, 0, none⟩)] w fun e w' => e = .returned (.agg (cn 0 0)) ∧ Below w.heap.size w w' := by
  have hz3 := cn_zero
  have HC := Lib.hid (hC.push (cn 0 0) 52)
  have HO := Lib.hid ((St.nil w).pushA (cn 0 0) 52 rfl)
  have HM := Lib.hid hm
  have HN := Lib.hid hn
  clear hC hm hn
  go_enter Tryz.func37, Tryz.ntmps37
  go_wp2_with fail
  refine (sealed_shut b HM.out HN.out g w0 _ _ HC.out.swap).mono ?_; rintro e w1 ⟨rfl, hw⟩
  have HC := Lib.hid (HC.out.call hw)
  have HO := Lib.hid (HO.out.call hw)
  clear hw
  (obtain ⟨⟨r1, f1, i1, b1, l1⟩, ⟨r2, f2, i2, b2, l2⟩, m12, m21⟩ := St.facts2 (HC.out.pick [0, 1] (by decide) rfl))
  go_wp2_with fail
  refine bodyPost_ret (results_row rfl _ w.heap.size rfl (cn 0 0) ?_ ?_ ?_ ?_) rfl ⟨rfl, ?_⟩
  · simp [go_sem, *]
  · simp [go_sem]
  · simp [go_sem]
  · simp [go_sem, *]
  · exact below_setRow' HO.out.below (by omega) _
set_option maxRecDepth 100000 in
set_option maxHeartbeats 1000000 in
theorem count_raw (b : Br) (hm : b.md = false) (g : Nat) (w0 w : World) (L : List (Nat × Array Value)) (hC : St w0 ((g, br b) :: L) w) : Calls Tryz.prog 37 #[.pointer (some ⟨g, 0, none⟩)] w fun e w' => e = .returned (.agg (cn 0 0)) ∧ Below w.heap.size w w' := by
  have hz3 := cn_zero
  have HC := Lib.hid (hC.push (cn 0 0) 52)
  have HO := Lib.hid ((St.nil w).pushA (cn 0 0) 52 rfl)
  have HM := Lib.hid hm
  clear hC hm
  go_enter Tryz.func37, Tryz.ntmps37
  go_wp2_with fail
  refine (sealed_raw b HM.out g w0 _ _ HC.out.swap).mono ?_; rintro e w1 ⟨rfl, hw⟩
  have HC := Lib.hid (HC.out.call hw)
  have HO := Lib.hid (HO.out.call hw)
  clear hw
  (obtain ⟨⟨r1, f1, i1, b1, l1⟩, ⟨r2, f2, i2, b2, l2⟩, m12, m21⟩ := St.facts2 (HC.out.pick [0, 1] (by decide) rfl))
  go_wp2_with fail
  refine bodyPost_ret (results_row rfl _ w.heap.size rfl (cn 0 0) ?_ ?_ ?_ ?_) rfl ⟨rfl, ?_⟩
  · simp [go_sem, *]
  · simp [go_sem]
  · simp [go_sem]
  · simp [go_sem, *]
  · exact below_setRow' HO.out.below (by omega) _
set_option maxRecDepth 100000 in
theorem count_nil (w : World) : Calls Tryz.prog 37 #[.pointer none] w fun e w' => e = .returned (.agg (cn 0 0)) ∧ Below w.heap.size w w' := by
  have hz3 := cn_zero
  have HC := Lib.hid ((St.nil w).pushA (cn 0 0) 52 rfl)
  go_enter Tryz.func37, Tryz.ntmps37
  go_wp2_with fail
  refine (sealed_nil _).mono ?_; rintro e w1 ⟨rfl, hw⟩
  have HC := Lib.hid (HC.out.call hw)
  clear hw
  have hC := HC.out
  (have HC := Lib.hid hC
   have sos := hC.below.os
   obtain ⟨r1, f1, i1, b1, l1⟩ := St.facts1 hC
   clear hC)
  go_wp2_with fail
  refine bodyPost_ret (results_row rfl _ w.heap.size rfl (cn 0 0) ?_ ?_ ?_ ?_) rfl ⟨rfl, ?_⟩
  · simp [go_sem, *]
  · simp [go_sem]
  · simp [go_sem]
  · simp [go_sem, *]
  · exact below_setRow' HC.out.below (by omega) _
end Go.Proofs.YtgaecjhghpkcoaaGreat
end

section
namespace Go.Proofs.YtgaecjhghpkcoaaGreat
open Go.RowKit
attribute [local go_sem] B_xor B_or B_and
attribute [local go_sem] blk_set blk_size blk_get blk_getE upd_same oneCells_blk paste_blk cut_blk szOf
attribute [local go_sem high] paste_all cut_head
attribute [local go_sem] rowAt_alloc rowAt_drew rowAt_drewN isRow_alloc isRow_drew isRow_drewN freeRow_alloc freeRow_end freeRow_drew freeRow_drewN
attribute [local go_sem] setRow_alloc setRow_drew setRow_drewN setCell_drewN alloc_drewN rowAt_put isRow_setRow freeRow_put
attribute [local go_sem ↓] loadS_in storeS_in indexS_in copyS_in
attribute [local go_sem] loadS_row loadS_one storeS_row storeS_one indexS_blk copyS_rows run_equalIn_blk same_refl arrayAt_row
attribute [local go_sem] cell_row frozen_row st_setCell st_blk_ne stepAt stepUpon
attribute [local go_sem high] run_eql_blk run_neq_blk
attribute [local go_sem ↓] convBS_in
attribute [local go_sem] convBS_row convBS_nil allBytes_blk bytesOf_blk
attribute [local go_sem] rg_size rg_get0 rg_getE0 rg_ne rg_set0 rg_one rg_cut rg_key rg_put rg_paste part_rg0 part_rg1
attribute [local go_sem] size_cn agg_cn cn_size cn_get0 cn_get1 cn_getE0 cn_getE1 cn_set0 cn_set1 cn_ne cn_one cn_cut cn_paste
attribute [local go_sem] br_size br_get0 br_get1 br_get2 br_getE0 br_getE1 br_getE2 br_ne br_ring br_count br_whole br_put_ring br_put_count br_paste br_one size_br agg_br

/-- sealed -/
def Br.shut (b : Br) : Br := { b with n := 0, f := fun _ => 0, e := 0, c := 0 }
theorem seal_made (b : Br) (g : Nat) (w0 w : World) (L : List (Nat × Array Value)) (hC : St w0 ((g, br b) :: L) w) : Calls Tryz.prog 16 #[.pointer (some ⟨g, 0, none⟩)] w fun e w' => e = .returned (.tuple #[]) ∧ St w0 ((g, br b.shut) :: L) w' ∧ Mk w w' := by
  have hz2 := zero97
  have hz3 := cn_zero
  have HC := Lib.hid hC
  clear hC
  (obtain ⟨r1, f1, i1, b1, l1⟩ := St.facts1 (HC.out.pick [0] (by decide) rfl))
  go_enter Tryz.func16, Tryz.ntmps16
  go_wp2_with fail
  go_end0
  refine ⟨rfl, (HC.out.set_head (br { b with n := 0, f := fun _ => 0 }) (by rw [br_size, br_size])).set_head (br b.shut) (by rw [br_size, br_size]), ?_⟩
  (repeat
     first
       | (with_reducible exact Mk.refl _)
       | (with_reducible refine Mk.setRow ?_ _ _)
       | (with_reducible refine Mk.alloc ?_ _)
       | (with_reducible refine Mk.drew ?_)
       | (with_reducible refine Mk.drewN ?_ _)
       | (with_reducible refine Mk.call HW1.out ?_)
       | (with_reducible refine Mk.call HW2.out ?_)
       | (with_reducible refine Mk.call HW3.out ?_)
       | (with_reducible refine Mk.call HW4.out ?_)
       | (with_reducible refine Mk.call HW5.out ?_)
       | (with_reducible refine Mk.call HW6.out ?_))
set_option maxRecDepth 100000 in
set_option maxHeartbeats 1000000 in
theorem take_shut (b : Br) (hm : b.md = true) (hn : b.n = 0) (g : Nat) (w0 w : World) (L : List (Nat × Array Value)) (hC : St w0 ((g, br b) :: L) w) : Calls Tryz.prog 52 #[.pointer (some ⟨g, 0, none⟩)] w fun e w' => e = .returned (.tuple #[.string ⟨#[]⟩, .int .i64 12]) ∧ Below w.heap.size w w' := by
  have HC := Lib.hid hC
  have HB := Lib.hid (St.nil w)
  have HS := Lib.hid (state_made b hm g w0 w L hC 12 (.inl ⟨hn, rfl⟩))
  clear hC hm hn
  go_enter Tryz.func52, Tryz.ntmps52
  go_wp2_with fail
  refine HS.out.mono ?_; rintro e w1 ⟨rfl, hw⟩
  have HB := Lib.hid (HB.out.call hw)
  clear hw
  go_wp2_with fail
  go_ret2
  exact ⟨rfl, HB.out.below⟩
set_option maxRecDepth 100000 in
set_option maxHeartbeats 1000000 in
theorem take_open (b : Br) (hm : b.md = true) (hn : b.n ≠ 0) (hk : mayC b.e b.c) (hc : b.c ≠ 281474976710656) (g : Nat) (w0 w : World) (L : List (Nat × Array Value)) (hC : St w0 ((g, br b) :: L) w) : Calls Tryz.prog 52 #[.pointer (some ⟨g, 0, none⟩)] w fun e w' => e = .returned (.tuple #[.string (strOf 12 (nonceB b.e b.c)), .int .i64 0]) ∧ St w0 ((g, br { b with c := b.c + 1 }) :: L) w' ∧ Mk w w' := by
  have hz3 := cn_zero
  have HC := Lib.hid hC
  have HS := Lib.hid (state_made b hm g w0 w L hC 0 (.inr ⟨hn, rfl⟩))
  have HK := Lib.hid hk
  have HE := Lib.hid hc
  clear hC hm hn hk hc
  go_enter Tryz.func52, Tryz.ntmps52
  go_wp2_with fail
  refine HS.out.mono ?_; rintro e w1 ⟨rfl, hw⟩
  have HC := Lib.hid (HC.out.call hw)
  have HW1 := Lib.hid hw
  clear hw
  (obtain ⟨r1, f1, i1, b1, l1⟩ := St.facts1 (HC.out.pick [0] (by decide) rfl))
  go_wp2_with fail
  (clear r1 f1 i1 b1 l1)
  refine (nonceTake_yes b.e b.c HK.out HE.out _).mono ?_; rintro e w2 ⟨rfl, hw⟩
  have HC := Lib.hid (HC.out.call hw)
  have HW2 := Lib.hid hw
  clear hw
  (obtain ⟨r1, f1, i1, b1, l1⟩ := St.facts1 (HC.out.pick [0] (by decide) rfl))
  go_wp2_with fail
  go_ret2
  refine ⟨rfl, (HC.out.set_head (br { b with c := b.c + 1 }) (by rw [br_size, br_size])).skip _, ?_⟩
  (repeat
     first
       | (with_reducible exact Mk.refl _)
       | (with_reducible refine Mk.setRow ?_ _ _)
       | (with_reducible refine Mk.alloc ?_ _)
       | (with_reducible refine Mk.drew ?_)
       | (with_reducible refine Mk.drewN ?_ _)
       | (with_reducible refine Mk.call HW1.out ?_)
       | (with_reducible refine Mk.call HW2.out ?_)
       | (with_reducible refine Mk.call HW3.out ?_)
       | (with_reducible refine Mk.call HW4.out ?_)
       | (with_reducible refine Mk.call HW5.out ?_)
       | (with_reducible refine Mk.call HW6.out ?_))
set_option maxRecDepth 100000 in
set_option maxHeartbeats 1000000 in
theorem take_bad (b : Br) (hm : b.md = true) (hn : b.n ≠ 0) (d : Nat) (hd : (¬ mayC b.e b.c ∧ d = 2) ∨ (mayC b.e b.c ∧ b.c = 281474976710656 ∧ d = 19)) (g : Nat) (w0 w : World) (L : List (Nat × Array Value)) (hC : St w0 ((g, br b) :: L) w) : Calls Tryz.prog 52 #[.pointer (some ⟨g, 0, none⟩)] w fun e w' => e = .returned (.tuple #[.string ⟨#[]⟩, .int .i64 (d : Int)]) ∧ St w0 ((g, br b) :: L) w' ∧ Mk w w' := by
  have hz3 := cn_zero
  have HC := Lib.hid hC
  have HS := Lib.hid (state_made b hm g w0 w L hC 0 (.inr ⟨hn, rfl⟩))
  have HD := Lib.hid hd
  clear hC hm hn hd
  go_enter Tryz.func52, Tryz.ntmps52
  go_wp2_with fail
  refine HS.out.mono ?_; rintro e w1 ⟨rfl, hw⟩
  have HC := Lib.hid (HC.out.call hw)
  have HW1 := Lib.hid hw
  clear hw
  (obtain ⟨r1, f1, i1, b1, l1⟩ := St.facts1 (HC.out.pick [0] (by decide) rfl))
  go_wp2_with fail
  (clear r1 f1 i1 b1 l1)
  refine (nonceTake_no b.e b.c d HD.out _).mono ?_; rintro e w2 ⟨rfl, hw⟩
  have HC := Lib.hid (HC.out.call hw)
  have HW2 := Lib.hid hw
  clear hw
  (obtain ⟨r1, f1, i1, b1, l1⟩ := St.facts1 (HC.out.pick [0] (by decide) rfl))
  go_wp2_with fail
  go_ret2
  refine ⟨rfl, (HC.out.set_head (br b) rfl).skip _, ?_⟩
  (repeat
     first
       | (with_reducible exact Mk.refl _)
       | (with_reducible refine Mk.setRow ?_ _ _)
       | (with_reducible refine Mk.alloc ?_ _)
       | (with_reducible refine Mk.drew ?_)
       | (with_reducible refine Mk.drewN ?_ _)
       | (with_reducible refine Mk.call HW1.out ?_)
       | (with_reducible refine Mk.call HW2.out ?_)
       | (with_reducible refine Mk.call HW3.out ?_)
       | (with_reducible refine Mk.call HW4.out ?_)
       | (with_reducible refine Mk.call HW5.out ?_)
       | (with_reducible refine Mk.call HW6.out ?_))
/-! ### in one -/
instance (e n : Nat) : Decidable (mayC e n) := inferInstanceAs (Decidable (_ ∧ _ ∧ _))
/-- why no nonce is taken -/
def takeE (b : Br) : Nat := if b.n = 0 then 12 else if ¬ mayC b.e b.c then 2 else if b.c = 281474976710656 then 19 else 0
def nonceS (e c : Nat) : ByteArray := strOf 12 (nonceB e c)
def takeS (b : Br) : ByteArray := if takeE b = 0 then nonceS b.e b.c else ⟨#[]⟩
def Br.took (b : Br) : Br := if takeE b = 0 then { b with c := b.c + 1 } else b
theorem take_any (b : Br) (hm : b.md = true) (g : Nat) (w0 w : World) (L : List (Nat × Array Value)) (hC : St w0 ((g, br b) :: L) w) : Calls Tryz.prog 52 #[.pointer (some ⟨g, 0, none⟩)] w fun e w' => e = .returned (.tuple #[.string (takeS b), .int .i64 ((takeE b : Nat) : Int)]) ∧ St w0 ((g, br b.took) :: L) w' ∧ Mk w w' := by
  unfold takeS Br.took
  by_cases hn : b.n = 0
  · have hE : takeE b = 12 := by unfold takeE; rw [if_pos hn]
    rw [hE]
    refine (take_shut b hm hn g w0 w L hC).mono ?_
    rintro e w' ⟨rfl, hw⟩
    exact ⟨rfl, hC.call hw, Mk.call hw (Mk.refl _)⟩
  · by_cases hk : mayC b.e b.c
    · by_cases hc : b.c = 281474976710656
      · have hE : takeE b = 19 := by unfold takeE; rw [if_neg hn, if_neg (fun h => h hk), if_pos hc]
        rw [hE]
        exact take_bad b hm hn 19 (.inr ⟨hk, hc, rfl⟩) g w0 w L hC
      · have hE : takeE b = 0 := by unfold takeE; rw [if_neg hn, if_neg (fun h => h hk), if_neg hc]
        rw [hE]
        exact take_open b hm hn hk hc g w0 w L hC
    · have hE : takeE b = 2 := by unfold takeE; rw [if_neg hn, if_pos hk]
      rw [hE]
      exact take_bad b hm hn 2 (.inl ⟨hk, rfl⟩) g w0 w L hC
theorem take_sk (b : Br) (hm : b.md = true) (g : Nat) (v w0 w : World) (L : List (Nat × Array Value)) (hC : Sk v w0 ((g, br b) :: L) w) : Calls Tryz.prog 52 #[.pointer (some ⟨g, 0, none⟩)] w fun e w' => e = .returned (.tuple #[.string (takeS b), .int .i64 ((takeE b : Nat) : Int)]) ∧ Sk v w0 ((g, br b.took) :: L) w' :=
  (take_any b hm g w0 w L hC.toSt).mono fun _ _ ⟨h1, h2⟩ => ⟨h1, hC.next h2⟩
theorem seal_sk (b : Br) (g : Nat) (v w0 w : World) (L : List (Nat × Array Value)) (hC : Sk v w0 ((g, br b) :: L) w) : Calls Tryz.prog 16 #[.pointer (some ⟨g, 0, none⟩)] w fun e w' => e = .returned (.tuple #[]) ∧ Sk v w0 ((g, br b.shut) :: L) w' :=
  (seal_made b g w0 w L hC.toSt).mono fun _ _ ⟨h1, h2⟩ => ⟨h1, hC.next h2⟩
end Go.Proofs.YtgaecjhghpkcoaaGreat
end

section
namespace Go.Proofs.YtgaecjhghpkcoaaGreat
open Go.RowKit
attribute [local go_sem] B_xor B_or B_and
attribute [local go_sem] blk_set blk_size blk_get blk_getE upd_same oneCells_blk paste_blk cut_blk szOf
attribute [local go_sem high] paste_all cut_head
attribute [local go_sem] rowAt_alloc rowAt_drew rowAt_drewN isRow_alloc isRow_drew isRow_drewN freeRow_alloc freeRow_end freeRow_drew freeRow_drewN
attribute [local go_sem] setRow_alloc setRow_drew setRow_drewN setCell_drewN alloc_drewN rowAt_put isRow_setRow freeRow_put
attribute [local go_sem ↓] loadS_in storeS_in indexS_in copyS_in
attribute [local go_sem] loadS_row loadS_one storeS_row storeS_one indexS_blk copyS_rows run_equalIn_blk same_refl arrayAt_row
attribute [local go_sem] cell_row frozen_row st_setCell st_blk_ne stepAt stepUpon
attribute [local go_sem high] run_eql_blk run_neq_blk
attribute [local go_sem ↓] convBS_in
attribute [local go_sem] convBS_row convBS_nil allBytes_blk bytesOf_blk
attribute [local go_sem] size_sc agg_sc sc_size sc_get0 sc_get1 sc_get2 sc_getE0 sc_getE1 sc_getE2 sc_set1 sc_set2 sc_ne sc_one sc_cut sc_paste sc_build sc_set0

/-- the results of a function: four slots -/
theorem results_q4 {P : Program} {w : World} {fn : Func} {p q r s : Tmp} (h : fn.results = #[.tmp p, .tmp q, .tmp r, .tmp s]) (tmps : Array Value) (a b c d : Value) (h1 : tmps.getD p undef = a) (h2 : tmps.getD q undef = b) (h3 : tmps.getD r undef = c) (h4 : tmps.getD s undef = d) :
    (results fn tmps).run P w = .ok (.tuple #[a, b, c, d]) w := by
  have h1' : tmps[p]?.getD undef = a := by simpa using h1
  have h2' : tmps[q]?.getD undef = b := by simpa using h2
  have h3' : tmps[r]?.getD undef = c := by simpa using h3
  have h4' : tmps[s]?.getD undef = d := by simpa using h4
  simp [results, h, h1', h2', h3', h4']
set_option maxRecDepth 100000 in
theorem extract_in (s : ByteArray) (a b c d : Nat) (h : a + d ≤ b) : (s.extract a b).extract c d = s.extract (a + c) (a + d) := by
  apply ByteArray.ext
  rw [ByteArray.data_extract, ByteArray.data_extract, ByteArray.data_extract]
  apply Array.ext_getElem?
  intro i
  simp only [Array.getElem?_extract, Array.size_extract]
  by_cases h1 : i < min d (min b s.data.size - a) - c
  · rw [if_pos h1, if_pos (by omega), if_pos (by omega)]
    congr 1; omega
  · rw [if_neg h1]
    split
    · exfalso; omega
    · rfl
theorem parts_short (s : ByteArray) (h : s.size < 32) (w : World) : Calls Tryz.prog 43 #[.string s] w fun e w' => e = .returned (.tuple #[.int .i64 0, .string ⟨#[]⟩, .string ⟨#[]⟩, .int .i64 3]) ∧ Below w.heap.size w w' := by
  have d1 : decide ((s.size : Int) < 32) = true := decide_eq_true (by omega)
  go_enter Tryz.func43, Tryz.ntmps43
  go_wp2_with fail
  refine bodyPost_ret (results_q4 rfl _ (.int .i64 0) (.string ⟨#[]⟩) (.string ⟨#[]⟩) (.int .i64 3) rfl rfl rfl rfl) rfl ⟨rfl, Below.refl _ _⟩
set_option maxRecDepth 100000 in
set_option maxHeartbeats 1000000 in
theorem parts_any (s : ByteArray) (h : 32 ≤ s.size) (hs : s.size < 2 ^ 40) (w : World) : Calls Tryz.prog 43 #[.string s] w fun e w' => e = .returned (.tuple #[.int .i64 ((numAt s 0 4 : Nat) : Int), .string (s.extract 4 16), .string (s.extract 16 s.size), .int .i64 0]) ∧ Below w.heap.size w w' := by
  have d1 : decide ((s.size : Int) < 32) = false := decide_eq_false (by omega)
  have hn : numAt s 0 4 < 2 ^ 32 := numTo_lt _ 4
  have hscan := Lib.hid (fun w => scanNum_ok s 0 4 (by omega) (by omega) (by omega) hs w)
  obtain ⟨N, hN⟩ : ∃ N, numAt s 0 4 = N := ⟨_, rfl⟩
  rw [hN] at hscan hn ⊢
  have n1 : (N : Int) < 4294967296 := by omega
  have n2 : IntKind.i64.wrap (N : Int) = (N : Int) := IntWalk.i64_in _ (by omega)
  have HC := Lib.hid (St.nil w)
  clear hN
  go_enter Tryz.func43, Tryz.ntmps43
  go_wp2_with fail
  refine (hscan.out _).mono ?_; rintro e w1 ⟨rfl, hw⟩
  have HC := Lib.hid (HC.out.call hw)
  clear hw
  go_wp2_with fail
  have HC := Lib.hid (HC.out.push (sc s (0 + 4) 0) 120)
  have h4 : 4 ≤ s.size := by omega
  refine (rest_any s 4 h4 _).mono ?_; rintro e w2 ⟨rfl, hw⟩
  have HC := Lib.hid (HC.out.call hw)
  clear hw
  go_wp2_with fail
  have HP := Lib.hid (extract_in s 4 s.size 0 12 (by omega))
  have HQ := Lib.hid (extract_in s 4 s.size 12 (s.size - 4) (by omega))
  obtain ⟨R, hR⟩ : ∃ R, s.extract 4 s.size = R := ⟨_, rfl⟩
  have hRs : R.size = s.size - 4 := by rw [← hR, ByteArray.size_extract]; omega
  have hq : 4 + R.size = s.size := by omega
  have Hq := Lib.hid hq
  have r1 : 12 ≤ R.size := by omega
  have r2 : (12 : Int) ≤ (R.size : Int) := by omega
  rw [hR] at HP HQ ⊢
  rw [← hRs, hq] at HQ
  clear hR hRs hq Hq
  refine St.region HC.out (by kernel_rfl) (by decide +kernel) ?_
  (first
     | (apply head_skip rfl)
     | (apply head_step_g rfl
        focus
          intro w0 hC
          (fail))
     | (apply head_step_g rfl
        focus
          intro w0 hC
          have hC' := Lib.hid hC
          obtain ⟨r1, f1, i1, b1, l1⟩ := St.facts1 hC
          clear hC
          go_simp
          have hC := hC'.out
          (first
             | with_reducible rfl
             | (skip
                (fail)
                rintro e w' ⟨rfl, hw⟩
                exact ⟨rfl, St.call (by assumption) hw⟩)))
   try simp only [Act.put, List.setIfInBounds_toArray, List.set])
  (first
     | (apply head_skip rfl)
     | (apply head_step_g rfl
        focus
          intro w0 hC
          (fail))
     | (apply head_step_g rfl
        focus
          intro w0 hC
          have hC' := Lib.hid hC
          obtain ⟨r1, f1, i1, b1, l1⟩ := St.facts1 hC
          clear hC
          go_simp
          have hC := hC'.out
          (first
             | with_reducible rfl
             | (skip
                (fail)
                rintro e w' ⟨rfl, hw⟩
                exact ⟨rfl, St.call (by assumption) hw⟩)))
   try simp only [Act.put, List.setIfInBounds_toArray, List.set])
  (first
     | (apply head_skip rfl)
     | (apply head_step_g rfl
        focus
          intro w0 hC
          (fail))
     | (apply head_step_g rfl
        focus
          intro w0 hC
          have hC' := Lib.hid hC
          obtain ⟨r1, f1, i1, b1, l1⟩ := St.facts1 hC
          clear hC
          go_simp
          have hC := hC'.out
          (first
             | with_reducible rfl
             | (skip
                (fail)
                rintro e w' ⟨rfl, hw⟩
                exact ⟨rfl, St.call (by assumption) hw⟩)))
   try simp only [Act.put, List.setIfInBounds_toArray, List.set])
  (first
     | (apply head_skip rfl)
     | (apply head_step_g rfl
        focus
          intro w0 hC
          (fail))
     | (apply head_step_g rfl
        focus
          intro w0 hC
          have hC' := Lib.hid hC
          obtain ⟨r1, f1, i1, b1, l1⟩ := St.facts1 hC
          clear hC
          go_simp
          have hC := hC'.out
          (first
             | with_reducible rfl
             | (skip
                (fail)
                rintro e w' ⟨rfl, hw⟩
                exact ⟨rfl, St.call (by assumption) hw⟩)))
   try simp only [Act.put, List.setIfInBounds_toArray, List.set])
  (first
     | (apply head_skip rfl)
     | (apply head_step_g rfl
        focus
          intro w0 hC
          (fail))
     | (apply head_step_g rfl
        focus
          intro w0 hC
          have hC' := Lib.hid hC
          obtain ⟨r1, f1, i1, b1, l1⟩ := St.facts1 hC
          clear hC
          go_simp
          have hC := hC'.out
          (first
             | with_reducible rfl
             | (skip
                (fail)
                rintro e w' ⟨rfl, hw⟩
                exact ⟨rfl, St.call (by assumption) hw⟩)))
   try simp only [Act.put, List.setIfInBounds_toArray, List.set])
  (first
     | (apply head_skip rfl)
     | (apply head_step_g rfl
        focus
          intro w0 hC
          (fail))
     | (apply head_step_g rfl
        focus
          intro w0 hC
          have hC' := Lib.hid hC
          obtain ⟨r1, f1, i1, b1, l1⟩ := St.facts1 hC
          clear hC
          go_simp
          have hC := hC'.out
          (first
             | with_reducible rfl
             | (skip
                (fail)
                rintro e w' ⟨rfl, hw⟩
                exact ⟨rfl, St.call (by assumption) hw⟩)))
   try simp only [Act.put, List.setIfInBounds_toArray, List.set])
  (first
     | (apply head_skip rfl)
     | (apply head_step_g rfl
        focus
          intro w0 hC
          (fail))
     | (apply head_step_g rfl
        focus
          intro w0 hC
          have hC' := Lib.hid hC
          obtain ⟨r1, f1, i1, b1, l1⟩ := St.facts1 hC
          clear hC
          go_simp
          have hC := hC'.out
          (first
             | with_reducible rfl
             | (skip
                (fail)
                rintro e w' ⟨rfl, hw⟩
                exact ⟨rfl, St.call (by assumption) hw⟩)))
   try simp only [Act.put, List.setIfInBounds_toArray, List.set])
  (first
     | (apply head_skip rfl)
     | (apply head_step_g rfl
        focus
          intro w0 hC
          (fail))
     | (apply head_step_g rfl
        focus
          intro w0 hC
          have hC' := Lib.hid hC
          obtain ⟨r1, f1, i1, b1, l1⟩ := St.facts1 hC
          clear hC
          go_simp
          have hC := hC'.out
          (first
             | with_reducible rfl
             | (skip
                (fail)
                rintro e w' ⟨rfl, hw⟩
                exact ⟨rfl, St.call (by assumption) hw⟩)))
   try simp only [Act.put, List.setIfInBounds_toArray, List.set])
  (first
     | (apply head_skip rfl)
     | (apply head_step_g rfl
        focus
          intro w0 hC
          (fail))
     | (apply head_step_g rfl
        focus
          intro w0 hC
          have hC' := Lib.hid hC
          obtain ⟨r1, f1, i1, b1, l1⟩ := St.facts1 hC
          clear hC
          go_simp
          have hC := hC'.out
          (first
             | with_reducible rfl
             | (skip
                (fail)
                rintro e w' ⟨rfl, hw⟩
                exact ⟨rfl, St.call (by assumption) hw⟩)))
   try simp only [Act.put, List.setIfInBounds_toArray, List.set])
  (first
     | (apply head_skip rfl)
     | (apply head_step_g rfl
        focus
          intro w0 hC
          (fail))
     | (apply head_step_g rfl
        focus
          intro w0 hC
          have hC' := Lib.hid hC
          obtain ⟨r1, f1, i1, b1, l1⟩ := St.facts1 hC
          clear hC
          go_simp
          have hC := hC'.out
          (first
             | with_reducible rfl
             | (skip
                (fail)
                rintro e w' ⟨rfl, hw⟩
                exact ⟨rfl, St.call (by assumption) hw⟩)))
   try simp only [Act.put, List.setIfInBounds_toArray, List.set])
  refine wpQuiet_nil ?_
  intro w3 hC
  go_wp2_with fail
  rw [HP.out, HQ.out]
  exact bodyPost_ret (results_q4 rfl _ (.int .i64 (N : Int)) (.string (s.extract 4 16)) (.string (s.extract 16 s.size)) (.int .i64 0) rfl rfl rfl rfl) rfl ⟨rfl, hC.below⟩
/-- the first bytes of an entry -/
def headS (t : Nat) (n : ByteArray) : ByteArray := strOf 4 (beB t 4) ++ n
set_option maxRecDepth 100000 in
theorem head_any (t : Nat) (ht : t ≤ 6) (n : ByteArray) (hn : n.size < 2 ^ 40) (w : World) : Calls Tryz.prog 55 #[.int .i64 (t : Int), .string n] w fun e w' => e = .returned (.string (headS t n)) ∧ Below w.heap.size w w' := by
  have n6 : (t : Int) ≤ 6 := by omega
  have HC := Lib.hid (St.nil w)
  go_enter Tryz.func55, Tryz.ntmps55
  go_wp2_with fail
  refine (num_nil 4 t (by omega) (by omega) w _ _ HC.out).mono ?_; rintro e w1 ⟨g, c, F, rfl, x1, x2, hw⟩
  have X2 := Lib.hid x2
  have HC := Lib.hid hw
  clear x2 hw
  have hC := HC.out
  (have HC := Lib.hid hC
   have sos := hC.below.os
   obtain ⟨r1, f1, i1, b1, l1⟩ := St.facts1 hC
   clear hC)
  have q1 : (strOf 4 F).size + n.size ≤ 9223372036854775807 := by rw [strOf_size]; omega
  go_wp2_with fail
  go_ret
  refine ⟨congrArg (fun x => Ending.returned (.string x)) ?_, HC.out.below⟩
  unfold headS
  rw [strOf_congr X2.out]
end Go.Proofs.YtgaecjhghpkcoaaGreat
end

section
namespace Go.Proofs.YtgaecjhghpkcoaaGreat
open Go.RowKit
attribute [local go_sem] B_xor B_or B_and
attribute [local go_sem] blk_set blk_size blk_get blk_getE upd_same oneCells_blk paste_blk cut_blk szOf
attribute [local go_sem high] paste_all cut_head
attribute [local go_sem] rowAt_alloc rowAt_drew rowAt_drewN isRow_alloc isRow_drew isRow_drewN freeRow_alloc freeRow_end freeRow_drew freeRow_drewN
attribute [local go_sem] setRow_alloc setRow_drew setRow_drewN setCell_drewN alloc_drewN rowAt_put isRow_setRow freeRow_put
attribute [local go_sem ↓] loadS_in storeS_in indexS_in copyS_in
attribute [local go_sem] loadS_row loadS_one storeS_row storeS_one indexS_blk copyS_rows run_equalIn_blk same_refl arrayAt_row
attribute [local go_sem] cell_row frozen_row st_setCell st_blk_ne stepAt stepUpon
attribute [local go_sem high] run_eql_blk run_neq_blk
attribute [local go_sem ↓] convBS_in
attribute [local go_sem] convBS_row convBS_nil allBytes_blk bytesOf_blk
attribute [local go_sem] rg_size rg_get0 rg_getE0 rg_ne rg_set0 rg_one rg_cut rg_key rg_put rg_paste part_rg0 part_rg1
attribute [local go_sem] size_cn agg_cn cn_size cn_get0 cn_get1 cn_getE0 cn_getE1 cn_set0 cn_set1 cn_ne cn_one cn_cut cn_paste
attribute [local go_sem] br_size br_get0 br_get1 br_get2 br_getE0 br_getE1 br_getE2 br_ne br_ring br_count br_whole br_put_ring br_put_count br_paste br_one size_br agg_br

set_option maxRecDepth 100000 in
set_option maxHeartbeats 2000000 in
theorem open_yes (b : Br) (hm : b.md = true) (hn : b.n = 0) (n : Nat) (f : Nat → UInt8) (e c : Nat) (hr : n ≠ 0) (hk : mayC e c) (g : Nat) (w0 w : World) (L : List (Nat × Array Value)) (hC : St w0 ((g, br b) :: L) w) : Calls Tryz.prog 14 #[.pointer (some ⟨g, 0, none⟩), .agg (rg n f), .agg (cn e c)] w fun r w' => r = .returned (.int .i64 0) ∧ St w0 ((g, br { b with n := n, f := f, e := e, c := c }) :: L) w' ∧ Mk w w' := by
  have hr0 : ((n : Int) == 0) = false := by rw [beq_eq_false_iff_ne]; omega
  have HK := Lib.hid hk
  have HM := Lib.hid hm
  have HN := Lib.hid hn
  have HC := Lib.hid ((hC.push (rg n f) 44).pushA (cn e c) 52 (g := w.heap.size + 1) (by simp))
  clear hC hm hn hk hr
  go_enter Tryz.func14, Tryz.ntmps14
  go_wp2_with fail
  refine (state_made b HM.out g w0 _ _ HC.out.tail.tail 12 (.inl ⟨HN.out, rfl⟩)).mono ?_; rintro r w1 ⟨rfl, hw⟩
  have HC := Lib.hid (HC.out.call hw)
  have HW1 := Lib.hid hw
  clear hw
  (obtain ⟨⟨r1, f1, i1, b1, l1⟩, ⟨r2, f2, i2, b2, l2⟩, ⟨r3, f3, i3, b3, l3⟩, m12, m21, m13, m31, m23, m32⟩ := St.facts3 (HC.out.pick [0, 1, 2] (by decide) rfl))
  go_wp2_with fail
  (clear r1 f1 i1 b1 l1 r2 f2 i2 b2 l2 r3 f3 i3 b3 l3 m12 m21 m13 m31 m23 m32)
  refine (term_any n f _).mono ?_; rintro e w2 ⟨rfl, hw⟩
  have HC := Lib.hid (HC.out.call hw)
  have HW2 := Lib.hid hw
  clear hw
  (obtain ⟨⟨r1, f1, i1, b1, l1⟩, ⟨r2, f2, i2, b2, l2⟩, ⟨r3, f3, i3, b3, l3⟩, m12, m21, m13, m31, m23, m32⟩ := St.facts3 (HC.out.pick [0, 1, 2] (by decide) rfl))
  go_wp2_with fail
  (clear r1 f1 i1 b1 l1 r2 f2 i2 b2 l2 r3 f3 i3 b3 l3 m12 m21 m13 m31 m23 m32)
  refine (nonceCheck_yes e c HK.out _).mono ?_; rintro e w3 ⟨rfl, hw⟩
  have HC := Lib.hid (HC.out.call hw)
  have HW3 := Lib.hid hw
  clear hw
  (obtain ⟨⟨r1, f1, i1, b1, l1⟩, ⟨r2, f2, i2, b2, l2⟩, ⟨r3, f3, i3, b3, l3⟩, m12, m21, m13, m31, m23, m32⟩ := St.facts3 (HC.out.pick [0, 1, 2] (by decide) rfl))
  go_wp2_with fail
  (clear r1 f1 i1 b1 l1 r2 f2 i2 b2 l2 r3 f3 i3 b3 l3 m12 m21 m13 m31 m23 m32)
  generalize w.heap.size + 1 = q at HC ⊢
  generalize w.heap.size = p at HC ⊢
  (obtain ⟨⟨r1, f1, i1, b1, l1⟩, ⟨r2, f2, i2, b2, l2⟩, ⟨r3, f3, i3, b3, l3⟩, m12, m21, m13, m31, m23, m32⟩ := St.facts3 (HC.out.pick [0, 1, 2] (by decide) rfl))
  go_region
  all_goals
    go_wp2_with fail
    go_ret
    refine ⟨rfl, ?_, ?_⟩
    · first
        | exact ((HC.out.tail.tail.set_head (br { b with n := n, f := f }) (by rw [br_size, br_size])).set_head (br { b with n := n, f := f, e := e, c := c }) (by rw [br_size, br_size])).drew
        | exact ((HC.out.tail.tail.set_head (br { b with e := e, c := c }) (by rw [br_size, br_size])).set_head (br { b with n := n, f := f, e := e, c := c }) (by rw [br_size, br_size])).drew
    · (repeat
         first
           | (with_reducible exact Mk.refl _)
           | (with_reducible refine Mk.setRow ?_ _ _)
           | (with_reducible refine Mk.alloc ?_ _)
           | (with_reducible refine Mk.drew ?_)
           | (with_reducible refine Mk.drewN ?_ _)
           | (with_reducible refine Mk.call HW1.out ?_)
           | (with_reducible refine Mk.call HW2.out ?_)
           | (with_reducible refine Mk.call HW3.out ?_)
           | (with_reducible refine Mk.call HW4.out ?_)
           | (with_reducible refine Mk.call HW5.out ?_)
           | (with_reducible refine Mk.call HW6.out ?_))
set_option maxRecDepth 100000 in
theorem open_was (b : Br) (hm : b.md = true) (hn : b.n ≠ 0) (n : Nat) (f : Nat → UInt8) (e c : Nat) (g : Nat) (w0 w : World) (L : List (Nat × Array Value)) (hC : St w0 ((g, br b) :: L) w) : Calls Tryz.prog 14 #[.pointer (some ⟨g, 0, none⟩), .agg (rg n f), .agg (cn e c)] w fun r w' => r = .returned (.int .i64 9) ∧ Below w.heap.size w w' := by
  have HM := Lib.hid hm
  have HN := Lib.hid hn
  have HC := Lib.hid ((hC.push (rg n f) 44).pushA (cn e c) 52 (g := w.heap.size + 1) (by simp))
  have HO := Lib.hid (((St.nil w).skip (.cells (rg n f) 44)).skip (.cells (cn e c) 52))
  clear hC hm hn
  go_enter Tryz.func14, Tryz.ntmps14
  go_wp2_with fail
  refine (state_made b HM.out g w0 _ _ HC.out.tail.tail 0 (.inr ⟨HN.out, rfl⟩)).mono ?_; rintro r w1 ⟨rfl, hw⟩
  have HO := Lib.hid (HO.out.call hw)
  clear hw
  go_wp2_with fail
  go_ret
  exact ⟨rfl, HO.out.below⟩
set_option maxRecDepth 100000 in
theorem open_bad (b : Br) (hm : b.md = true) (hn : b.n = 0) (n : Nat) (f : Nat → UInt8) (e c : Nat) (h : n = 0 ∨ (n ≠ 0 ∧ ¬ mayC e c)) (g : Nat) (w0 w : World) (L : List (Nat × Array Value)) (hC : St w0 ((g, br b) :: L) w) : Calls Tryz.prog 14 #[.pointer (some ⟨g, 0, none⟩), .agg (rg n f), .agg (cn e c)] w fun r w' => r = .returned (.int .i64 2) ∧ Below w.heap.size w w' := by
  have HM := Lib.hid hm
  have HN := Lib.hid hn
  have HC := Lib.hid ((hC.push (rg n f) 44).pushA (cn e c) 52 (g := w.heap.size + 1) (by simp))
  have HO := Lib.hid (((St.nil w).pushA (rg n f) 44 rfl).pushA (cn e c) 52 (g := w.heap.size + 1) (by simp))
  clear hC hm hn
  rcases h with h | ⟨h, hk⟩
  · have d1 : ((n : Int) == 0) = true := by rw [beq_iff_eq]; omega
    clear h
    go_enter Tryz.func14, Tryz.ntmps14
    go_wp2_with fail
    refine (state_made b HM.out g w0 _ _ HC.out.tail.tail 12 (.inl ⟨HN.out, rfl⟩)).mono ?_; rintro r w1 ⟨rfl, hw⟩
    have HC := Lib.hid (HO.out.call hw)
    clear hw
    (obtain ⟨⟨r1, f1, i1, b1, l1⟩, ⟨r2, f2, i2, b2, l2⟩, m12, m21⟩ := St.facts2 (HC.out.pick [0, 1] (by decide) rfl))
    go_wp2_with fail
    (clear r1 f1 i1 b1 l1 r2 f2 i2 b2 l2 m12 m21)
    refine (term_any n f _).mono ?_; rintro e w2 ⟨rfl, hw⟩
    have HC := Lib.hid (HC.out.call hw)
    clear hw
    (obtain ⟨⟨r1, f1, i1, b1, l1⟩, ⟨r2, f2, i2, b2, l2⟩, m12, m21⟩ := St.facts2 (HC.out.pick [0, 1] (by decide) rfl))
    go_wp2_with fail
    go_ret
    exact ⟨rfl, HC.out.below⟩
  · have d1 : ((n : Int) == 0) = false := by rw [beq_eq_false_iff_ne]; omega
    have HK := Lib.hid hk
    clear h hk
    go_enter Tryz.func14, Tryz.ntmps14
    go_wp2_with fail
    refine (state_made b HM.out g w0 _ _ HC.out.tail.tail 12 (.inl ⟨HN.out, rfl⟩)).mono ?_; rintro r w1 ⟨rfl, hw⟩
    have HC := Lib.hid (HO.out.call hw)
    clear hw
    (obtain ⟨⟨r1, f1, i1, b1, l1⟩, ⟨r2, f2, i2, b2, l2⟩, m12, m21⟩ := St.facts2 (HC.out.pick [0, 1] (by decide) rfl))
    go_wp2_with fail
    (clear r1 f1 i1 b1 l1 r2 f2 i2 b2 l2 m12 m21)
    refine (term_any n f _).mono ?_; rintro e w2 ⟨rfl, hw⟩
    have HC := Lib.hid (HC.out.call hw)
    clear hw
    (obtain ⟨⟨r1, f1, i1, b1, l1⟩, ⟨r2, f2, i2, b2, l2⟩, m12, m21⟩ := St.facts2 (HC.out.pick [0, 1] (by decide) rfl))
    go_wp2_with fail
    (clear r1 f1 i1 b1 l1 r2 f2 i2 b2 l2 m12 m21)
    refine (nonceCheck_no e c HK.out _).mono ?_; rintro e w3 ⟨rfl, hw⟩
    have HC := Lib.hid (HC.out.call hw)
    clear hw
    (obtain ⟨⟨r1, f1, i1, b1, l1⟩, ⟨r2, f2, i2, b2, l2⟩, m12, m21⟩ := St.facts2 (HC.out.pick [0, 1] (by decide) rfl))
    go_wp2_with fail
    go_ret
    exact ⟨rfl, HC.out.below⟩
/-! ### in one -/
def openE (b : Br) (n e c : Nat) : Nat := if b.n ≠ 0 then 9 else if n = 0 ∨ ¬ mayC e c then 2 else 0
def Br.opened (b : Br) (n : Nat) (f : Nat → UInt8) (e c : Nat) : Br := if openE b n e c = 0 then { b with n := n, f := f, e := e, c := c } else b
theorem barOpen_any (b : Br) (hm : b.md = true) (n : Nat) (f : Nat → UInt8) (e c : Nat) (g : Nat) (w0 w : World) (L : List (Nat × Array Value)) (hC : St w0 ((g, br b) :: L) w) : Calls Tryz.prog 14 #[.pointer (some ⟨g, 0, none⟩), .agg (rg n f), .agg (cn e c)] w fun r w' => r = .returned (.int .i64 ((openE b n e c : Nat) : Int)) ∧ St w0 ((g, br (b.opened n f e c)) :: L) w' ∧ Mk w w' := by
  unfold Br.opened
  by_cases hn : b.n = 0
  · by_cases h : n = 0 ∨ ¬ mayC e c
    · have hE : openE b n e c = 2 := by unfold openE; rw [if_neg (by omega), if_pos h]
      rw [hE]
      refine (open_bad b hm hn n f e c (by rcases h with h | h; exact .inl h; by_cases h0 : n = 0; exact .inl h0; exact .inr ⟨h0, h⟩) g w0 w L hC).mono ?_
      rintro r w' ⟨rfl, hw⟩
      exact ⟨rfl, hC.call hw, Mk.call hw (Mk.refl _)⟩
    · have hE : openE b n e c = 0 := by unfold openE; rw [if_neg (by omega), if_neg h]
      rw [hE]
      have h1 : n ≠ 0 := fun e => h (.inl e)
      exact open_yes b hm hn n f e c h1 (Decidable.byContradiction fun k => h (.inr k)) g w0 w L hC
  · have hE : openE b n e c = 9 := by unfold openE; rw [if_pos hn]
    rw [hE]
    refine (open_was b hm hn n f e c g w0 w L hC).mono ?_
    rintro r w' ⟨rfl, hw⟩
    exact ⟨rfl, hC.call hw, Mk.call hw (Mk.refl _)⟩
theorem open_sk (b : Br) (hm : b.md = true) (n : Nat) (f : Nat → UInt8) (e c : Nat) (g : Nat) (v w0 w : World) (L : List (Nat × Array Value)) (hC : Sk v w0 ((g, br b) :: L) w) : Calls Tryz.prog 14 #[.pointer (some ⟨g, 0, none⟩), .agg (rg n f), .agg (cn e c)] w fun r w' => r = .returned (.int .i64 ((openE b n e c : Nat) : Int)) ∧ Sk v w0 ((g, br (b.opened n f e c)) :: L) w' :=
  (barOpen_any b hm n f e c g w0 w L hC.toSt).mono fun _ _ ⟨h1, h2⟩ => ⟨h1, hC.next h2⟩
end Go.Proofs.YtgaecjhghpkcoaaGreat
end

section
namespace Go.Proofs.YtgaecjhghpkcoaaGreat
open Go.RowKit
attribute [local go_sem] B_xor B_or B_and
attribute [local go_sem] blk_set blk_size blk_get blk_getE upd_same oneCells_blk paste_blk cut_blk szOf
attribute [local go_sem high] paste_all cut_head
attribute [local go_sem] rowAt_alloc rowAt_drew rowAt_drewN isRow_alloc isRow_drew isRow_drewN freeRow_alloc freeRow_end freeRow_drew freeRow_drewN
attribute [local go_sem] setRow_alloc setRow_drew setRow_drewN setCell_drewN alloc_drewN rowAt_put isRow_setRow freeRow_put
attribute [local go_sem ↓] loadS_in storeS_in indexS_in copyS_in
attribute [local go_sem] loadS_row loadS_one storeS_row storeS_one indexS_blk copyS_rows run_equalIn_blk same_refl arrayAt_row
attribute [local go_sem] cell_row frozen_row st_setCell st_blk_ne stepAt stepUpon
attribute [local go_sem high] run_eql_blk run_neq_blk
attribute [local go_sem ↓] convBS_in
attribute [local go_sem] convBS_row convBS_nil allBytes_blk bytesOf_blk
attribute [local go_sem] rg_size rg_get0 rg_getE0 rg_ne rg_set0 rg_one rg_cut rg_key rg_put rg_paste part_rg0 part_rg1

def ringS : ByteArray := ⟨#[114, 105, 110, 103]⟩
set_option maxRecDepth 100000 in
set_option maxHeartbeats 2000000 in
theorem unlock_short (m : Nat → UInt8) (s : ByteArray) (h : s.size < 32) (w : World) : Calls Tryz.prog 30 #[.agg (blk 16 m), .string s] w fun e w' => e = .returned (.tuple #[.agg (rg 0 fun _ => 0), .int .i64 3]) ∧ Below w.heap.size w w' := by
  have hz2 := zero97
  have HC := Lib.hid (((St.nil w).pushA (blk 16 m) 41 rfl).pushA (rg 0 fun _ => 0) 44 (g := w.heap.size + 1) (by simp))
  go_enter Tryz.func30, Tryz.ntmps30
  go_wp2_with fail
  refine (parts_short s h _).mono ?_; rintro e w1 ⟨rfl, hw⟩
  have HC := Lib.hid (HC.out.call hw)
  clear hw
  have hC := HC.out
  (have HC := Lib.hid hC
   have sos := hC.below.os
   obtain ⟨⟨r1, f1, i1, b1, l1⟩, ⟨r2, f2, i2, b2, l2⟩, m12, m21⟩ := St.facts2 hC
   clear hC)
  go_wp2_with fail
  refine bodyPost_ret (results_pair rfl _ (w.heap.size + 1) rfl (rg 0 fun _ => 0) ?_ ?_ ?_ ?_ (.int .i64 3) rfl) rfl ⟨rfl, ?_⟩
  · simp [go_sem, *]
  · simp [go_sem]
  · simp [go_sem]
  · simp [go_sem, *]
  · exact below_setRow' HC.out.below (by omega) _
set_option maxRecDepth 100000 in
set_option maxHeartbeats 2000000 in
theorem unlock_term (m : Nat → UInt8) (s : ByteArray) (h : 32 ≤ s.size) (hs : s.size < 2 ^ 40) (ht : numAt s 0 4 ≠ 0) (w : World) : Calls Tryz.prog 30 #[.agg (blk 16 m), .string s] w fun e w' => e = .returned (.tuple #[.agg (rg 0 fun _ => 0), .int .i64 4]) ∧ Below w.heap.size w w' := by
  have hz2 := zero97
  have hN := Lib.hid (fun w => parts_any s h hs w)
  obtain ⟨N, hN2⟩ : ∃ N, numAt s 0 4 = N := ⟨_, rfl⟩
  rw [hN2] at hN ht
  have d1 : ((N : Int) != 0) = true := by rw [bne_iff_ne]; omega
  clear hN2 ht
  have HC := Lib.hid (((St.nil w).pushA (blk 16 m) 41 rfl).pushA (rg 0 fun _ => 0) 44 (g := w.heap.size + 1) (by simp))
  go_enter Tryz.func30, Tryz.ntmps30
  go_wp2_with fail
  refine (hN.out _).mono ?_; rintro e w1 ⟨rfl, hw⟩
  have HC := Lib.hid (HC.out.call hw)
  clear hw
  have hC := HC.out
  (have HC := Lib.hid hC
   have sos := hC.below.os
   obtain ⟨⟨r1, f1, i1, b1, l1⟩, ⟨r2, f2, i2, b2, l2⟩, m12, m21⟩ := St.facts2 hC
   clear hC)
  go_wp2_with fail
  refine bodyPost_ret (results_pair rfl _ (w.heap.size + 1) rfl (rg 0 fun _ => 0) ?_ ?_ ?_ ?_ (.int .i64 4) rfl) rfl ⟨rfl, ?_⟩
  · simp [go_sem, *]
  · simp [go_sem]
  · simp [go_sem]
  · simp [go_sem, *]
  · exact below_setRow' HC.out.below (by omega) _
/-- what the text of an entry is opened to -/
def OpensTo (m : Nat → UInt8) (s R : ByteArray) (E : Nat) : Prop := ∀ w, Calls Tryz.prog 45 #[.agg (blk 16 m), .string (s.extract 4 16), .string ⟨#[114, 105, 110, 103]⟩, .string (s.extract 16 s.size)] w fun e w' => e = .returned (.tuple #[.string R, .int .i64 (E : Int)]) ∧ Below w.heap.size w w'
set_option maxRecDepth 100000 in
set_option maxHeartbeats 2000000 in
theorem unlock_key (m : Nat → UInt8) (s R : ByteArray) (E : Nat) (h : 32 ≤ s.size) (hs : s.size < 2 ^ 40) (ht : numAt s 0 4 = 0) (hE : E ≠ 0) (hO : OpensTo m s R E) (w : World) : Calls Tryz.prog 30 #[.agg (blk 16 m), .string s] w fun e w' => e = .returned (.tuple #[.agg (rg 0 fun _ => 0), .int .i64 (E : Int)]) ∧ Below w.heap.size w w' := by
  have hz2 := zero97
  have hN := Lib.hid (fun w => parts_any s h hs w)
  have d2 : ((E : Int) != 0) = true := by rw [bne_iff_ne]; omega
  have HO := Lib.hid hO
  rw [ht] at hN
  clear ht hE hO
  have HC := Lib.hid (((St.nil w).pushA (blk 16 m) 41 rfl).pushA (rg 0 fun _ => 0) 44 (g := w.heap.size + 1) (by simp))
  go_enter Tryz.func30, Tryz.ntmps30
  go_wp2_with fail
  refine (hN.out _).mono ?_; rintro e w1 ⟨rfl, hw⟩
  have HC := Lib.hid (HC.out.call hw)
  clear hw
  have hC := HC.out
  (have HC := Lib.hid hC
   have sos := hC.below.os
   obtain ⟨⟨r1, f1, i1, b1, l1⟩, ⟨r2, f2, i2, b2, l2⟩, m12, m21⟩ := St.facts2 hC
   clear hC)
  go_wp2_with fail
  (clear r1 f1 i1 b1 l1 r2 f2 i2 b2 l2 m12 m21 sos)
  refine (HO.out _).mono ?_; rintro e w2 ⟨rfl, hw⟩
  have HC := Lib.hid (HC.out.call hw)
  clear hw
  have hC := HC.out
  (have HC := Lib.hid hC
   have sos := hC.below.os
   obtain ⟨⟨r1, f1, i1, b1, l1⟩, ⟨r2, f2, i2, b2, l2⟩, m12, m21⟩ := St.facts2 hC
   clear hC)
  go_wp2_with fail
  refine bodyPost_ret (results_pair rfl _ (w.heap.size + 1) rfl (rg 0 fun _ => 0) ?_ ?_ ?_ ?_ (.int .i64 (E : Int)) rfl) rfl ⟨rfl, ?_⟩
  · simp [go_sem, *]
  · simp [go_sem]
  · simp [go_sem]
  · simp [go_sem, *]
  · exact below_setRow' HC.out.below (by omega) _
set_option maxRecDepth 100000 in
set_option maxHeartbeats 2000000 in
theorem unlock_ok (m : Nat → UInt8) (s R : ByteArray) (N : Nat) (f : Nat → UInt8) (h : 32 ≤ s.size) (hs : s.size < 2 ^ 40) (ht : numAt s 0 4 = 0) (hO : OpensTo m s R 0) (hP : ∀ w, Calls Tryz.prog 61 #[.string R] w fun e w' => e = .returned (.tuple #[.agg (rg N f), .int .i64 0]) ∧ Below w.heap.size w w') (w : World) : Calls Tryz.prog 30 #[.agg (blk 16 m), .string s] w fun e w' => e = .returned (.tuple #[.agg (rg N f), .int .i64 0]) ∧ Below w.heap.size w w' := by
  have hz2 := zero97
  have hN := Lib.hid (fun w => parts_any s h hs w)
  have HO := Lib.hid hO
  have HP := Lib.hid hP
  rw [ht] at hN
  clear ht hO hP
  have HC := Lib.hid (((St.nil w).pushA (blk 16 m) 41 rfl).pushA (rg 0 fun _ => 0) 44 (g := w.heap.size + 1) (by simp))
  go_enter Tryz.func30, Tryz.ntmps30
  go_wp2_with fail
  refine (hN.out _).mono ?_; rintro e w1 ⟨rfl, hw⟩
  have HC := Lib.hid (HC.out.call hw)
  clear hw
  have hC := HC.out
  (have HC := Lib.hid hC
   have sos := hC.below.os
   obtain ⟨⟨r1, f1, i1, b1, l1⟩, ⟨r2, f2, i2, b2, l2⟩, m12, m21⟩ := St.facts2 hC
   clear hC)
  go_wp2_with fail
  (clear r1 f1 i1 b1 l1 r2 f2 i2 b2 l2 m12 m21 sos)
  refine (HO.out _).mono ?_; rintro e w2 ⟨rfl, hw⟩
  have HC := Lib.hid (HC.out.call hw)
  clear hw
  have hC := HC.out
  (have HC := Lib.hid hC
   have sos := hC.below.os
   obtain ⟨⟨r1, f1, i1, b1, l1⟩, ⟨r2, f2, i2, b2, l2⟩, m12, m21⟩ := St.facts2 hC
   clear hC)
  go_wp2_with fail
  (clear r1 f1 i1 b1 l1 r2 f2 i2 b2 l2 m12 m21 sos)
  refine (HP.out _).mono ?_; rintro e w3 ⟨rfl, hw⟩
  have HC := Lib.hid (HC.out.call hw)
  clear hw
  have hC := HC.out
  (have HC := Lib.hid hC
   have sos := hC.below.os
   obtain ⟨⟨r1, f1, i1, b1, l1⟩, ⟨r2, f2, i2, b2, l2⟩, m12, m21⟩ := St.facts2 hC
   clear hC)
  go_wp2_with fail
  have ne1 : (w.heap.size + 1 = w3.heap.size) = False := by simp; omega
  refine bodyPost_ret (results_pair rfl _ (w.heap.size + 1) rfl (rg N f) ?_ ?_ ?_ ?_ (.int .i64 0) rfl) rfl ⟨rfl, ?_⟩
  · simp [go_sem, *]
  · simp [go_sem]
  · simp [go_sem]
  · simp [go_sem, *]
  · exact (below_setRow' HC.out.below (by omega) _).alloc (by have := HC.out.below.size; simpa using this) _
set_option maxRecDepth 100000 in
set_option maxHeartbeats 2000000 in
theorem unlock_form (m : Nat → UInt8) (s R : ByteArray) (d : Nat) (h : 32 ≤ s.size) (hs : s.size < 2 ^ 40) (ht : numAt s 0 4 = 0) (hO : OpensTo m s R 0) (hd : 1 ≤ d) (hP : ∀ w, Calls Tryz.prog 61 #[.string R] w fun e w' => e = .returned (.tuple #[.agg (rg 0 fun _ => 0), .int .i64 (d : Int)]) ∧ Below w.heap.size w w') (w : World) : Calls Tryz.prog 30 #[.agg (blk 16 m), .string s] w fun e w' => e = .returned (.tuple #[.agg (rg 0 fun _ => 0), .int .i64 4]) ∧ Below w.heap.size w w' := by
  have hz2 := zero97
  have hN := Lib.hid (fun w => parts_any s h hs w)
  have HO := Lib.hid hO
  have HP := Lib.hid hP
  have d2 : ((d : Int) != 0) = true := by rw [bne_iff_ne]; omega
  rw [ht] at hN
  clear ht hO hP hd
  have HC := Lib.hid (((St.nil w).pushA (blk 16 m) 41 rfl).pushA (rg 0 fun _ => 0) 44 (g := w.heap.size + 1) (by simp))
  go_enter Tryz.func30, Tryz.ntmps30
  go_wp2_with fail
  refine (hN.out _).mono ?_; rintro e w1 ⟨rfl, hw⟩
  have HC := Lib.hid (HC.out.call hw)
  clear hw
  have hC := HC.out
  (have HC := Lib.hid hC
   have sos := hC.below.os
   obtain ⟨⟨r1, f1, i1, b1, l1⟩, ⟨r2, f2, i2, b2, l2⟩, m12, m21⟩ := St.facts2 hC
   clear hC)
  go_wp2_with fail
  (clear r1 f1 i1 b1 l1 r2 f2 i2 b2 l2 m12 m21 sos)
  refine (HO.out _).mono ?_; rintro e w2 ⟨rfl, hw⟩
  have HC := Lib.hid (HC.out.call hw)
  clear hw
  have hC := HC.out
  (have HC := Lib.hid hC
   have sos := hC.below.os
   obtain ⟨⟨r1, f1, i1, b1, l1⟩, ⟨r2, f2, i2, b2, l2⟩, m12, m21⟩ := St.facts2 hC
   clear hC)
  go_wp2_with fail
  (clear r1 f1 i1 b1 l1 r2 f2 i2 b2 l2 m12 m21 sos)
  refine (HP.out _).mono ?_; rintro e w3 ⟨rfl, hw⟩
  have HC := Lib.hid (HC.out.call hw)
  clear hw
  have hC := HC.out
  (have HC := Lib.hid hC
   have sos := hC.below.os
   obtain ⟨⟨r1, f1, i1, b1, l1⟩, ⟨r2, f2, i2, b2, l2⟩, m12, m21⟩ := St.facts2 hC
   clear hC)
  go_wp2_with fail
  have ne1 : (w.heap.size + 1 = w3.heap.size) = False := by simp; omega
  refine bodyPost_ret (results_pair rfl _ (w.heap.size + 1) rfl (rg 0 fun _ => 0) ?_ ?_ ?_ ?_ (.int .i64 4) rfl) rfl ⟨rfl, ?_⟩
  · simp [go_sem, *]
  · simp [go_sem]
  · simp [go_sem]
  · simp [go_sem, *]
  · exact (below_setRow' HC.out.below (by omega) _).alloc (by have := HC.out.below.size; simpa using this) _
end Go.Proofs.YtgaecjhghpkcoaaGreat
end
