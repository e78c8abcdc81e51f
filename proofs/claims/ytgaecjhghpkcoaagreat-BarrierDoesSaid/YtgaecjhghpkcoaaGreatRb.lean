/- The reference's barrier as a row of cells: Open, Seal, Turn. -/
import Derived.Test.YtgaecjhghpkcoaaGreatRefNonce
namespace Go.Proofs.YtgaecjhghpkcoaaGreat
open Go.RowKit
attribute [local go_sem] B_xor B_or B_and
attribute [local go_sem] blk_set blk_size blk_get blk_getE upd_same oneCells_blk paste_blk cut_blk szOf
attribute [local go_sem high] paste_all cut_head
attribute [local go_sem] rowAt_alloc rowAt_drew rowAt_drewN isRow_alloc isRow_drew isRow_drewN freeRow_alloc freeRow_end freeRow_drew freeRow_drewN
attribute [local go_sem] setRow_alloc setRow_drew setRow_drewN setCell_drewN alloc_drewN rowAt_put isRow_setRow freeRow_put
attribute [local go_sem ↓] loadS_in storeS_in indexS_in copyS_in
attribute [local go_sem] loadS_row loadS_one storeS_row storeS_one indexS_blk copyS_rows run_equalIn_blk same_refl arrayAt_row
attribute [local go_sem] cell_row frozen_row st_setCell st_blk_ne stepAt stepUpon
attribute [local go_sem high] run_eql_blk run_neq_blk
attribute [local go_sem ↓] convBS_in
attribute [local go_sem] convBS_row convBS_nil allBytes_blk bytesOf_blk

/-- the document's barrier: its keys and its notes are slices -/
structure Rb where
  id : Bool
  ka : Option Addr
  kn : Nat
  kc : Nat
  e : Nat
  c : Nat
  na : Option Addr
  nn : Nat
  nc : Nat
def rbC (r : Rb) : Array Value := #[.bool r.id, .slice r.ka r.kn r.kc, .int .u64 (r.e : Int), .int .u64 (r.c : Int), .slice r.na r.nn r.nc]
theorem rb_size (r : Rb) : (rbC r).size = 5 := by simp [rbC]
theorem rb_get0 (r : Rb) : (rbC r)[0]? = some (.bool r.id) := by simp [rbC]
theorem rb_get1 (r : Rb) : (rbC r)[1]? = some (.slice r.ka r.kn r.kc) := by simp [rbC]
theorem rb_get2 (r : Rb) : (rbC r)[2]? = some (.int .u64 (r.e : Int)) := by simp [rbC]
theorem rb_get3 (r : Rb) : (rbC r)[3]? = some (.int .u64 (r.c : Int)) := by simp [rbC]
theorem rb_get4 (r : Rb) : (rbC r)[4]? = some (.slice r.na r.nn r.nc) := by simp [rbC]
theorem rb_getE0 (r : Rb) (h : 0 < (rbC r).size) : (rbC r)[0]'h = .bool r.id := by simp [rbC]
theorem rb_getE1 (r : Rb) (h : 1 < (rbC r).size) : (rbC r)[1]'h = .slice r.ka r.kn r.kc := by simp [rbC]
theorem rb_getE2 (r : Rb) (h : 2 < (rbC r).size) : (rbC r)[2]'h = .int .u64 (r.e : Int) := by simp [rbC]
theorem rb_getE3 (r : Rb) (h : 3 < (rbC r).size) : (rbC r)[3]'h = .int .u64 (r.c : Int) := by simp [rbC]
theorem rb_getE4 (r : Rb) (h : 4 < (rbC r).size) : (rbC r)[4]'h = .slice r.na r.nn r.nc := by simp [rbC]
theorem rb_ne (r : Rb) : (rbC r = #[]) = False := by simp [rbC]
theorem rb_one (r : Rb) : oneCells (rbC r) = true := by simp [oneCells, rbC, Value.oneCell']
theorem rb_cut (r : Rb) : cut (rbC r) 0 5 = rbC r := by simp [cut, rbC]
theorem rb_count (r : Rb) : cut (rbC r) 2 4 = cn r.e r.c := by simp [cut, rbC, cn]
theorem rb_paste (r s : Rb) : paste (rbC r) 0 (rbC s) = rbC s := paste_whole _ _ (by rw [rb_size, rb_size])
theorem rb_set3 (r : Rb) (d : Nat) : (rbC r).setIfInBounds 3 (.int .u64 (d : Int)) = rbC { r with c := d } := by simp [rbC]
theorem rb_set0 (r : Rb) (v : Bool) : (rbC r).setIfInBounds 0 (.bool v) = rbC { r with id := v } := by simp [rbC]
theorem rb_set1 (r : Rb) (a : Option Addr) (n c : Nat) : (rbC r).setIfInBounds 1 (.slice a n c) = rbC { r with ka := a, kn := n, kc := c } := by simp [rbC]
theorem rb_set4 (r : Rb) (a : Option Addr) (n c : Nat) : (rbC r).setIfInBounds 4 (.slice a n c) = rbC { r with na := a, nn := n, nc := c } := by simp [rbC]
theorem rb_build (r : Rb) (e c : Nat) : Array.foldl (fun (cs : Array Value) (x : Value × Nat) => cs.setIfInBounds (2 + x.snd) x.fst) (rbC r) (cn e c).zipIdx 0 2 = rbC { r with e := e, c := c } := by simp [rbC, cn]
theorem size_rb (w : World) : (sizeOf 38).run Tryz.prog w = .ok 5 w := by simp [go_sem]
theorem agg_rb (w : World) : (isAgg 38).run Tryz.prog w = .ok true w := by simp [go_sem]
def rbZero : Rb := ⟨false, none, 0, 0, 0, 0, none, 0, 0⟩
theorem rb_zero : #[Value.bool false, .slice none 0 0, .int .u64 0, .int .u64 0, .slice none 0 0] = rbC rbZero := rfl
attribute [local go_sem] size_c19 agg_c19 cn_size cn_get0 cn_get1 cn_getE0 cn_getE1 cn_set0 cn_set1 cn_ne cn_one cn_cut cn_paste
attribute [local go_sem] rb_size rb_get0 rb_get1 rb_get2 rb_get3 rb_get4 rb_getE0 rb_getE1 rb_getE2 rb_getE3 rb_getE4 rb_ne rb_one rb_cut rb_count rb_paste rb_set0 rb_set1 rb_set3 rb_set4 rb_build size_rb agg_rb

def Rb.shut (r : Rb) : Rb := { r with ka := none, kn := 0, kc := 0, e := 0, c := 0 }
set_option maxRecDepth 100000 in
theorem refSeal21 (r : Rb) (w : World) : Calls Tryz.prog 17 #[.agg (rbC r)] w fun e w' => e = .returned (.agg (rbC r.shut)) ∧ Below w.heap.size w w' := by
  have hz := rb_zero
  have hz3 := cn_zero
  have HC := Lib.hid (((St.nil w).pushA (rbC r) 38 rfl).pushA (rbC rbZero) 38 (g := w.heap.size + 1) (by simp))
  go_enter Tryz.func17, Tryz.ntmps17
  (obtain ⟨⟨r1, f1, i1, b1, l1⟩, ⟨r2, f2, i2, b2, l2⟩, m12, m21⟩ := St.facts2 (HC.out.pick [0, 1] (by decide) rfl))
  go_wp2_with fail
  refine bodyPost_ret (results_row rfl _ (w.heap.size + 1) rfl (rbC r.shut) ?_ ?_ ?_ ?_) rfl ⟨rfl, ?_⟩
  · first | (simp [go_sem, *]; done) | (simp [go_sem, *]; rfl)
  · simp [go_sem]
  · simp [go_sem]
  · simp [go_sem, *]
  · (first
       | exact below_setRow' HC.out.below (by omega) _
       | exact ((Below.refl _ _).alloc (Nat.le_refl _) _).alloc (by simp) _
       | exact (((Below.refl _ _).alloc (Nat.le_refl _) _).alloc (by simp) _).alloc (by simp; omega) _)
/-- why it isn't opened; what it is then -/
def openER (r : Rb) (n e c : Nat) : Nat := if 0 < r.kn then 9 else if n = 0 ∨ ¬ mayC e c then 2 else 0
def Rb.opened (r : Rb) (a : Option Addr) (n k e c : Nat) : Rb := if openER r n e c = 0 then { r with ka := a, kn := n, kc := k, e := e, c := c } else r
set_option maxRecDepth 100000 in
set_option maxHeartbeats 1000000 in
theorem refOpen21 (r : Rb) (a : Option Addr) (n k e c : Nat) (hr : r.kn ≤ 2 ^ 30) (w : World) : Calls Tryz.prog 15 #[.agg (rbC r), .slice a n k, .agg (cn e c)] w fun x w' => x = .returned (.tuple #[.agg (rbC (r.opened a n k e c)), .int .i64 ((openER r n e c : Nat) : Int)]) ∧ Below w.heap.size w w' := by
  have hz := rb_zero
  have HC := Lib.hid ((((St.nil w).pushA (rbC r) 38 rfl).pushA (cn e c) 35 (g := w.heap.size + 1) (by simp)).pushA (rbC rbZero) 38 (g := w.heap.size + 1 + 1) (by simp))
  unfold Rb.opened
  by_cases h0 : 0 < r.kn
  · have hE : openER r n e c = 9 := by unfold openER; rw [if_pos h0]
    have d1 : decide (0 < (r.kn : Int)) = true := decide_eq_true (by omega)
    have d2 : decide (0 < r.kn) = true := decide_eq_true h0
    rw [hE]
    clear hE h0
    go_enter Tryz.func15, Tryz.ntmps15
    (obtain ⟨⟨r1, f1, i1, b1, l1⟩, ⟨r2, f2, i2, b2, l2⟩, ⟨r3, f3, i3, b3, l3⟩, m12, m21, m13, m31, m23, m32⟩ := St.facts3 (HC.out.pick [0, 1, 2] (by decide) rfl))
    go_wp2_with fail
    refine bodyPost_ret (results_pair rfl _ (w.heap.size + 1 + 1) rfl (rbC r) ?_ ?_ ?_ ?_ (.int .i64 9) rfl) rfl ⟨rfl, ?_⟩
    (· simp [go_sem, *]
     · simp [go_sem]
     · simp [go_sem]
     · simp [go_sem, *]
     · (first
          | exact below_setRow' HC.out.below (by omega) _
          | exact ((Below.refl _ _).alloc (Nat.le_refl _) _).alloc (by simp) _
          | exact (((Below.refl _ _).alloc (Nat.le_refl _) _).alloc (by simp) _).alloc (by simp; omega) _))
  · have d1 : decide (0 < (r.kn : Int)) = false := decide_eq_false (by omega)
    have d2 : decide (0 < r.kn) = false := decide_eq_false h0
    by_cases hn0 : n = 0
    · have hE : openER r n e c = 2 := by unfold openER; rw [if_neg h0, if_pos (.inl hn0)]
      have d3 : ((n : Int) == 0) = true := by rw [beq_iff_eq]; omega
      rw [hE]
      clear hE h0 hn0
      go_enter Tryz.func15, Tryz.ntmps15
      (obtain ⟨⟨r1, f1, i1, b1, l1⟩, ⟨r2, f2, i2, b2, l2⟩, ⟨r3, f3, i3, b3, l3⟩, m12, m21, m13, m31, m23, m32⟩ := St.facts3 (HC.out.pick [0, 1, 2] (by decide) rfl))
      go_wp2_with fail
      refine bodyPost_ret (results_pair rfl _ (w.heap.size + 1 + 1) rfl (rbC r) ?_ ?_ ?_ ?_ (.int .i64 2) rfl) rfl ⟨rfl, ?_⟩
      (· simp [go_sem, *]
       · simp [go_sem]
       · simp [go_sem]
       · simp [go_sem, *]
       · (first
            | exact below_setRow' HC.out.below (by omega) _
            | exact ((Below.refl _ _).alloc (Nat.le_refl _) _).alloc (by simp) _
            | exact (((Below.refl _ _).alloc (Nat.le_refl _) _).alloc (by simp) _).alloc (by simp; omega) _))
    · have d3 : ((n : Int) == 0) = false := by rw [beq_eq_false_iff_ne]; omega
      by_cases hk : mayC e c
      · have hE : openER r n e c = 0 := by unfold openER; rw [if_neg h0, if_neg (fun h => h.elim hn0 (fun k => k hk))]
        rw [hE]
        have K := Lib.hid (refCheck_yes e c hk)
        clear hE h0 hn0 hk
        go_enter Tryz.func15, Tryz.ntmps15
        (obtain ⟨⟨r1, f1, i1, b1, l1⟩, ⟨r2, f2, i2, b2, l2⟩, ⟨r3, f3, i3, b3, l3⟩, m12, m21, m13, m31, m23, m32⟩ := St.facts3 (HC.out.pick [0, 1, 2] (by decide) rfl))
        go_wp2_with fail
        (clear r1 f1 i1 b1 l1 r2 f2 i2 b2 l2 r3 f3 i3 b3 l3 m12 m21 m13 m31 m23 m32)
        refine (K.out _).mono ?_; rintro e w1 ⟨rfl, hw⟩
        have HC := Lib.hid (HC.out.call hw)
        clear hw
        (obtain ⟨⟨r1, f1, i1, b1, l1⟩, ⟨r2, f2, i2, b2, l2⟩, ⟨r3, f3, i3, b3, l3⟩, m12, m21, m13, m31, m23, m32⟩ := St.facts3 (HC.out.pick [0, 1, 2] (by decide) rfl))
        go_wp2_with fail
        refine bodyPost_ret (results_pair rfl _ (w.heap.size + 1 + 1) rfl (rbC { r with ka := a, kn := n, kc := k, e := e, c := c }) ?_ ?_ ?_ ?_ (.int .i64 0) rfl) rfl ⟨rfl, ?_⟩
        · first | (simp [go_sem, *]; done) | (simp [go_sem, *]; rfl)
        · simp [go_sem]
        · simp [go_sem]
        · simp [go_sem, *]
        · (first
             | exact below_setRow' HC.out.below (by omega) _
             | exact ((Below.refl _ _).alloc (Nat.le_refl _) _).alloc (by simp) _
             | exact (((Below.refl _ _).alloc (Nat.le_refl _) _).alloc (by simp) _).alloc (by simp; omega) _)
      · have hE : openER r n e c = 2 := by unfold openER; rw [if_neg h0, if_pos (.inr hk)]
        rw [hE]
        have K := Lib.hid (refCheck_no e c hk)
        clear hE h0 hn0 hk
        go_enter Tryz.func15, Tryz.ntmps15
        (obtain ⟨⟨r1, f1, i1, b1, l1⟩, ⟨r2, f2, i2, b2, l2⟩, ⟨r3, f3, i3, b3, l3⟩, m12, m21, m13, m31, m23, m32⟩ := St.facts3 (HC.out.pick [0, 1, 2] (by decide) rfl))
        go_wp2_with fail
        (clear r1 f1 i1 b1 l1 r2 f2 i2 b2 l2 r3 f3 i3 b3 l3 m12 m21 m13 m31 m23 m32)
        refine (K.out _).mono ?_; rintro e w1 ⟨rfl, hw⟩
        have HC := Lib.hid (HC.out.call hw)
        clear hw
        (obtain ⟨⟨r1, f1, i1, b1, l1⟩, ⟨r2, f2, i2, b2, l2⟩, ⟨r3, f3, i3, b3, l3⟩, m12, m21, m13, m31, m23, m32⟩ := St.facts3 (HC.out.pick [0, 1, 2] (by decide) rfl))
        go_wp2_with fail
        refine bodyPost_ret (results_pair rfl _ (w.heap.size + 1 + 1) rfl (rbC r) ?_ ?_ ?_ ?_ (.int .i64 2) rfl) rfl ⟨rfl, ?_⟩
        (· simp [go_sem, *]
         · simp [go_sem]
         · simp [go_sem]
         · simp [go_sem, *]
         · (first
              | exact below_setRow' HC.out.below (by omega) _
              | exact ((Below.refl _ _).alloc (Nat.le_refl _) _).alloc (by simp) _
              | exact (((Below.refl _ _).alloc (Nat.le_refl _) _).alloc (by simp) _).alloc (by simp; omega) _))
def turnER (r : Rb) (n : Nat) : Nat := if r.kn = 0 then 12 else if n = 0 then 2 else 0
def Rb.turned (r : Rb) (a : Option Addr) (n k : Nat) : Rb := if turnER r n = 0 then { r with ka := a, kn := n, kc := k } else r
set_option maxRecDepth 100000 in
set_option maxHeartbeats 1000000 in
theorem refTurn21 (r : Rb) (a : Option Addr) (n k : Nat) (w : World) : Calls Tryz.prog 19 #[.agg (rbC r), .slice a n k] w fun x w' => x = .returned (.tuple #[.agg (rbC (r.turned a n k)), .int .i64 ((turnER r n : Nat) : Int)]) ∧ Below w.heap.size w w' := by
  have hz := rb_zero
  have HC := Lib.hid (((St.nil w).pushA (rbC r) 38 rfl).pushA (rbC rbZero) 38 (g := w.heap.size + 1) (by simp))
  unfold Rb.turned
  by_cases h0 : r.kn = 0
  · have hE : turnER r n = 12 := by unfold turnER; rw [if_pos h0]
    have d1 : ((r.kn : Int) == 0) = true := by rw [beq_iff_eq]; omega
    rw [hE]
    clear hE h0
    go_enter Tryz.func19, Tryz.ntmps19
    (obtain ⟨⟨r1, f1, i1, b1, l1⟩, ⟨r2, f2, i2, b2, l2⟩, m12, m21⟩ := St.facts2 (HC.out.pick [0, 1] (by decide) rfl))
    go_wp2_with fail
    refine bodyPost_ret (results_pair rfl _ (w.heap.size + 1) rfl (rbC r) ?_ ?_ ?_ ?_ (.int .i64 12) rfl) rfl ⟨rfl, ?_⟩
    (· simp [go_sem, *]
     · simp [go_sem]
     · simp [go_sem]
     · simp [go_sem, *]
     · (first
          | exact below_setRow' HC.out.below (by omega) _
          | exact ((Below.refl _ _).alloc (Nat.le_refl _) _).alloc (by simp) _
          | exact (((Below.refl _ _).alloc (Nat.le_refl _) _).alloc (by simp) _).alloc (by simp; omega) _))
  · have d1 : ((r.kn : Int) == 0) = false := by rw [beq_eq_false_iff_ne]; omega
    by_cases hn0 : n = 0
    · have hE : turnER r n = 2 := by unfold turnER; rw [if_neg h0, if_pos hn0]
      have d3 : ((n : Int) == 0) = true := by rw [beq_iff_eq]; omega
      rw [hE]
      clear hE h0 hn0
      go_enter Tryz.func19, Tryz.ntmps19
      (obtain ⟨⟨r1, f1, i1, b1, l1⟩, ⟨r2, f2, i2, b2, l2⟩, m12, m21⟩ := St.facts2 (HC.out.pick [0, 1] (by decide) rfl))
      go_wp2_with fail
      refine bodyPost_ret (results_pair rfl _ (w.heap.size + 1) rfl (rbC r) ?_ ?_ ?_ ?_ (.int .i64 2) rfl) rfl ⟨rfl, ?_⟩
      (· simp [go_sem, *]
       · simp [go_sem]
       · simp [go_sem]
       · simp [go_sem, *]
       · (first
            | exact below_setRow' HC.out.below (by omega) _
            | exact ((Below.refl _ _).alloc (Nat.le_refl _) _).alloc (by simp) _
            | exact (((Below.refl _ _).alloc (Nat.le_refl _) _).alloc (by simp) _).alloc (by simp; omega) _))
    · have d3 : ((n : Int) == 0) = false := by rw [beq_eq_false_iff_ne]; omega
      have hE : turnER r n = 0 := by unfold turnER; rw [if_neg h0, if_neg hn0]
      rw [hE]
      clear hE h0 hn0
      go_enter Tryz.func19, Tryz.ntmps19
      (obtain ⟨⟨r1, f1, i1, b1, l1⟩, ⟨r2, f2, i2, b2, l2⟩, m12, m21⟩ := St.facts2 (HC.out.pick [0, 1] (by decide) rfl))
      go_wp2_with fail
      refine bodyPost_ret (results_pair rfl _ (w.heap.size + 1) rfl (rbC { r with ka := a, kn := n, kc := k }) ?_ ?_ ?_ ?_ (.int .i64 0) rfl) rfl ⟨rfl, ?_⟩
      · first | (simp [go_sem, *]; done) | (simp [go_sem, *]; rfl)
      · simp [go_sem]
      · simp [go_sem]
      · simp [go_sem, *]
      · (first
           | exact below_setRow' HC.out.below (by omega) _
           | exact ((Below.refl _ _).alloc (Nat.le_refl _) _).alloc (by simp) _
           | exact (((Below.refl _ _).alloc (Nat.le_refl _) _).alloc (by simp) _).alloc (by simp; omega) _)
end Go.Proofs.YtgaecjhghpkcoaaGreat
