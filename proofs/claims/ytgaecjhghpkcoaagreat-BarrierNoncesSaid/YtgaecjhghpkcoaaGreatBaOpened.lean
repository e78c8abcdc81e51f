/- padlocklaw21's opened, early, over. -/
import Derived.Test.YtgaecjhghpkcoaaGreatBaRing
import Derived.Deep.Slices
namespace Go.Proofs.YtgaecjhghpkcoaaGreat
open Go.RowKit
attribute [local go_sem] B_xor B_or B_and
attribute [local go_sem] blk_set blk_size blk_get blk_getE upd_same oneCells_blk paste_blk cut_blk szOf
attribute [local go_sem high] paste_all cut_head
attribute [local go_sem] rowAt_alloc rowAt_drew rowAt_drewN isRow_alloc isRow_drew isRow_drewN freeRow_alloc freeRow_end freeRow_drew freeRow_drewN
attribute [local go_sem] setRow_alloc setRow_drew setRow_drewN setCell_drewN alloc_drewN rowAt_put isRow_setRow freeRow_put
attribute [local go_sem ↓] loadS_in storeS_in indexS_in copyS_in
attribute [local go_sem] loadS_row loadS_one storeS_row storeS_one indexS_blk copyS_rows run_equalIn_blk same_refl arrayAt_row
attribute [local go_sem] cell_row frozen_row st_setCell st_blk_ne stepAt stepUpon
attribute [local go_sem high] run_eql_blk run_neq_blk
attribute [local go_sem ↓] convBS_in
attribute [local go_sem] convBS_row convBS_nil allBytes_blk bytesOf_blk
attribute [local go_sem] rg_size rg_get0 rg_getE0 rg_ne rg_set0 rg_one rg_cut rg_key rg_put rg_paste part_rg0 part_rg1
attribute [local go_sem] size_cn agg_cn cn_size cn_get0 cn_get1 cn_getE0 cn_getE1 cn_set0 cn_set1 cn_ne cn_one cn_cut cn_paste

theorem fresh_open (kd : Nat) (nt : Value) (t : Nat) (f : Nat → UInt8) (e c : Nat) (ht : t ≠ 0) (hk : mayC e c) : openE (Br.fresh kd nt) t e c = 0 ∧ (Br.fresh kd nt).opened t f e c = ⟨true, kd, nt, t, f, e, c⟩ := by
  have h : openE (Br.fresh kd nt) t e c = 0 := by
    unfold openE
    rw [if_neg (fun h => h rfl), if_neg (fun h => h.elim ht (fun k => k hk))]
  refine ⟨h, ?_⟩
  unfold Br.opened
  rw [if_pos h]
  rfl
/-- a new barrier of a kind is made -/
def BarMakes (kd : Nat) (p nt : Value) (v w0 : World) (L : List (Nat × Array Value)) : Prop := ∀ (w : World) (L' : List (Nat × Array Value)), Sk v w0 (L' ++ L) w → Calls Tryz.prog 9 #[.int .u8 (kd : Int), p] w fun e w' => ∃ g, e = .returned (.tuple #[.pointer (some ⟨g, 0, none⟩), .int .i64 0]) ∧ Sk v w0 ((g, br (Br.fresh kd nt)) :: (L' ++ L)) w'
theorem barMakes_real (p : Value) (v w0 : World) (L : List (Nat × Array Value)) : BarMakes 0 p (.pointer none) v w0 L := fun w _ hC => new_real p v w0 w _ hC
theorem barMakes_ideal (q m : Nat) (v w0 : World) (L : List (Nat × Array Value)) (hq : (q, #[.map (some m)]) ∈ L) : BarMakes 1 (.pointer (some ⟨q, 0, none⟩)) (.pointer (some ⟨q, 0, none⟩)) v w0 L := fun w L' hC => by
  obtain ⟨h1, _, h3, _⟩ := hC.at (g := q) (c := #[.map (some m)]) (by simp [hq])
  exact new_ideal q m v w0 w _ h1 h3 hC
set_option maxRecDepth 100000 in
set_option maxHeartbeats 4000000 in
theorem opened_any (kd : Nat) (p nt : Value) (m : Nat → UInt8) (t : Nat) (h1 : 1 ≤ t) (h6 : t ≤ 6) (e c : Nat) (hk : mayC e c) (v w0 w : World) (L : List (Nat × Array Value)) (hN : BarMakes kd p nt v w0 L) (hC : Sk v w0 L w) :
    Calls Tryz.prog 26 #[.int .u8 (kd : Int), p, .agg (blk 16 m), .int .i64 (t : Int), .agg (cn e c)] w fun r w' => ∃ g L', r = .returned (.pointer (some ⟨g, 0, none⟩)) ∧ Sk v w0 ((g, br ⟨true, kd, nt, t, ringF m t, e, c⟩) :: (L' ++ L)) w' := by
  have hz2 := zero97
  have HC := Lib.hid ((hC.push (blk 16 m) 22).pushA (cn e c) 52 (g := w.heap.size + 1) (by simp))
  have HN := Lib.hid hN
  obtain ⟨fo1, fo2⟩ := fresh_open kd nt t (ringF m t) e c (by omega) hk
  obtain ⟨F, hF⟩ : ∃ F, ringF m t = F := ⟨_, rfl⟩
  have K1 := Lib.hid (ringLaw_any m t h6)
  have K2 := Lib.hid (fun g w L => open_sk (Br.fresh kd nt) rfl t F e c g v w0 w L)
  rw [hF] at K1 fo2 ⊢
  rw [fo1, fo2] at K2
  clear hC hN fo1 fo2 hk hF
  go_enter Tryz.func26, Tryz.ntmps26
  go_wp2_with fail
  refine (HN.out _ [_, _] HC.out).mono ?_; rintro r w1 ⟨g, rfl, hC⟩
  have HC := Lib.hid hC
  clear hC
  (obtain ⟨⟨r1, f1, i1, b1, l1⟩, ⟨r2, f2, i2, b2, l2⟩, ⟨r3, f3, i3, b3, l3⟩, m12, m21, m13, m31, m23, m32⟩ := St.facts3 (HC.out.pick [0, 1, 2] (by decide) rfl))
  go_wp2_with fail
  (clear r1 f1 i1 b1 l1 r2 f2 i2 b2 l2 r3 f3 i3 b3 l3 m12 m21 m13 m31 m23 m32)
  refine (K1.out _).mono ?_; rintro r w2 ⟨val, L', rfl, _, hw⟩
  have HC := Lib.hid ((HC.out.join hw).perm (L' := (g, br (Br.fresh kd nt)) :: (w.heap.size + 1, cn e c) :: (w.heap.size, blk 16 m) :: (L' ++ L)) (List.perm_append_comm_assoc [_, _, _] L' L))
  clear hw
  (obtain ⟨⟨r1, f1, i1, b1, l1⟩, ⟨r2, f2, i2, b2, l2⟩, ⟨r3, f3, i3, b3, l3⟩, m12, m21, m13, m31, m23, m32⟩ := St.facts3 (HC.out.pick [0, 1, 2] (by decide) rfl))
  go_wp2_with fail
  (clear r1 f1 i1 b1 l1 r2 f2 i2 b2 l2 r3 f3 i3 b3 l3 m12 m21 m13 m31 m23 m32)
  have HC := Lib.hid (HC.out.push (rg t F) 44).swap
  refine (K2.out g _ _ HC.out).mono ?_; rintro r w3 ⟨rfl, hC⟩
  have HC := Lib.hid hC
  clear hC
  go_wp2_with fail
  go_ret
  exact ⟨g, (w2.heap.size, rg t F) :: (w.heap.size + 1, cn e c) :: (w.heap.size, blk 16 m) :: L', rfl, HC.out⟩

/-! ### what is done -/
structure OpR where
  k : UInt8
  p : ByteArray
  t : ByteArray
  m : UInt8
  e : Nat
  n : Nat
def opC (o : OpR) : Array Value := #[.int .u8 (B o.k), .string o.p, .string o.t, .int .u8 (B o.m), .int .u64 (o.e : Int), .int .u64 (o.n : Int)]
theorem opC_size (o : OpR) : (opC o).size = 6 := by simp [opC]
theorem opC_get0 (o : OpR) : (opC o)[0]? = some (.int .u8 (B o.k)) := by simp [opC]
theorem opC_get1 (o : OpR) : (opC o)[1]? = some (.string o.p) := by simp [opC]
theorem opC_get2 (o : OpR) : (opC o)[2]? = some (.string o.t) := by simp [opC]
theorem opC_get3 (o : OpR) : (opC o)[3]? = some (.int .u8 (B o.m)) := by simp [opC]
theorem opC_get4 (o : OpR) : (opC o)[4]? = some (.int .u64 (o.e : Int)) := by simp [opC]
theorem opC_get5 (o : OpR) : (opC o)[5]? = some (.int .u64 (o.n : Int)) := by simp [opC]
theorem opC_getE0 (o : OpR) (h : 0 < (opC o).size) : (opC o)[0]'h = .int .u8 (B o.k) := by simp [opC]
theorem opC_getE1 (o : OpR) (h : 1 < (opC o).size) : (opC o)[1]'h = .string o.p := by simp [opC]
theorem opC_getE2 (o : OpR) (h : 2 < (opC o).size) : (opC o)[2]'h = .string o.t := by simp [opC]
theorem opC_getE3 (o : OpR) (h : 3 < (opC o).size) : (opC o)[3]'h = .int .u8 (B o.m) := by simp [opC]
theorem opC_getE4 (o : OpR) (h : 4 < (opC o).size) : (opC o)[4]'h = .int .u64 (o.e : Int) := by simp [opC]
theorem opC_getE5 (o : OpR) (h : 5 < (opC o).size) : (opC o)[5]'h = .int .u64 (o.n : Int) := by simp [opC]
theorem opC_ne (o : OpR) : (opC o = #[]) = False := by simp [opC]
theorem opC_one (o : OpR) : oneCells (opC o) = true := by simp [oneCells, opC, Value.oneCell']
theorem opC_cut (o : OpR) : cut (opC o) 0 6 = opC o := by simp [cut, opC]
theorem opC_count (o : OpR) : cut (opC o) 4 6 = cn o.e o.n := by simp [cut, opC, cn]
theorem size_op (w : World) : (sizeOf 40).run Tryz.prog w = .ok 6 w := by simp [go_sem]
theorem agg_op (w : World) : (isAgg 40).run Tryz.prog w = .ok true w := by simp [go_sem]
attribute [local go_sem] size_op agg_op opC_size opC_get0 opC_get1 opC_get2 opC_get3 opC_get4 opC_get5 opC_getE0 opC_getE1 opC_getE2 opC_getE3 opC_getE4 opC_getE5 opC_ne opC_one opC_cut opC_count
set_option maxRecDepth 100000 in
theorem early_any (o : OpR) (w : World) : Calls Tryz.prog 27 #[.agg (opC o)] w fun r w' => r = .returned (.agg (cn (1 + o.e % 1000) (o.n % 1000))) ∧ Below w.heap.size w w' := by
  have hz3 := cn_zero
  obtain ⟨E, hE⟩ : ∃ E, 1 + o.e % 1000 = E := ⟨_, rfl⟩
  obtain ⟨N, hN⟩ : ∃ N, o.n % 1000 = N := ⟨_, rfl⟩
  rw [hE, hN]
  have hs : ((cn 0 0).setIfInBounds 0 (.int .u64 (1 + (o.e : Int) % 1000))).setIfInBounds 1 (.int .u64 ((o.n : Int) % 1000)) = cn E N := by
    rw [show (1 : Int) + (o.e : Int) % 1000 = (E : Int) by omega, show (o.n : Int) % 1000 = (N : Int) by omega, cn_set0, cn_set1]
  clear hE hN
  have HC := Lib.hid (((St.nil w).pushA (opC o) 40 rfl).pushA (cn 0 0) 52 (g := w.heap.size + 1) (by simp))
  go_enter Tryz.func27, Tryz.ntmps27
  (obtain ⟨⟨r1, f1, i1, b1, l1⟩, ⟨r2, f2, i2, b2, l2⟩, m12, m21⟩ := St.facts2 (HC.out.pick [0, 1] (by decide) rfl))
  go_wp2_with fail
  refine bodyPost_ret (results_row rfl _ (w.heap.size + 1) rfl (cn E N) ?_ ?_ ?_ ?_) rfl ⟨rfl, ?_⟩
  · simp [go_sem, *]
  · simp [go_sem]
  · simp [go_sem]
  · simp [go_sem, *]
  · exact ((((St.nil w).pushA (opC o) 40 rfl).pushA (cn E N) 52 (g := w.heap.size + 1) (by simp))).below
/-- a list of what is done, that lies somewhere -/
def OpsAt (w : World) (v : Value) (M : Nat) (o : Nat → OpR) : Prop := ∃ a c, v = .slice a M c ∧ ∀ i, i < M → ∃ ad, a = some ad ∧ (ad.add (i * 6)).block < w.heap.size ∧ (ad.add (i * 6)).spot = none ∧ ∀ j, j < 6 → w.cell? ⟨(ad.add (i * 6)).block, (ad.add (i * 6)).off + j, none⟩ = (opC (o i))[j]?
theorem OpsAt.call {w w' : World} {v : Value} {M : Nat} {o : Nat → OpR} (h : OpsAt w v M o) (hb : Below w.heap.size w w') : OpsAt w' v M o := by
  obtain ⟨a, c, h1, h2⟩ := h
  refine ⟨a, c, h1, fun i hi => ?_⟩
  obtain ⟨ad, e1, e2, e4, e3⟩ := h2 i hi
  exact ⟨ad, e1, Nat.lt_of_lt_of_le e2 hb.size, e4, fun j hj => (hb.cell (p := ⟨(ad.add (i * 6)).block, (ad.add (i * 6)).off + j, none⟩) e2).trans (e3 j hj)⟩
def overP (M : Nat) (o : Nat → OpR) : Prop := 16 < M ∨ ∃ i, i < M ∧ (40 < (o i).p.size ∨ 80 < (o i).t.size)
set_option maxRecDepth 100000 in
theorem over21_any (v : Value) (M : Nat) (o : Nat → OpR) (b : Bool) (hb : b = true ↔ overP M o) (w : World) (hO : OpsAt w v M o) : Calls Tryz.prog 7 #[v] w fun r w' => r = .returned (.bool b) ∧ Below w.heap.size w w' := by
  obtain ⟨a, c, rfl, hO⟩ := hO
  by_cases h16 : 16 < M
  · obtain rfl : b = true := hb.2 (.inl h16)
    have d1 : decide (16 < (M : Int)) = true := decide_eq_true (by omega)
    clear hO hb
    go_enter Tryz.func7, Tryz.ntmps7
    go_wp2_with fail
    go_ret
    exact ⟨rfl, Below.refl _ _⟩
  · have d1 : decide (16 < (M : Int)) = false := decide_eq_false (by omega)
    have HO := Lib.hid hO
    have HB := Lib.hid hb
    have m16 : (M : Int) ≤ 16 := by omega
    clear hO hb
    go_enter Tryz.func7, Tryz.ntmps7
    go_wp2_with fail
    go_loopw [3] (fun i wr => ∃ j : Nat, j ≤ M ∧ i = .int .i64 (j : Int) ∧ Hid (wr = w) ∧ Hid (∀ i, i < j → ¬ (40 < (o i).p.size ∨ 80 < (o i).t.size))) (fun i _ => M - (intOf i).toNat)
    case atStart => exact ⟨0, by omega, rfl, Lib.hid rfl, Lib.hid fun i hi => absurd hi (by omega)⟩
    case round =>
      obtain ⟨j, hj, rfl, hw, HN⟩ := hrel
      obtain rfl := hw.out
      by_cases hlt : j < M
      · have d2 : (j : Int) < (M : Int) := by omega
        obtain ⟨ad, rfl, hbl, _, hc⟩ := HO.out j hlt
        have c1 := hc 1 (by omega)
        have c2 := hc 2 (by omega)
        rw [opC_get1] at c1
        rw [opC_get2] at c2
        clear hc hbl
        by_cases hp : 40 < (o j).p.size
        · have e1 : decide (40 < ((o j).p.size : Int)) = true := decide_eq_true (by omega)
          go_wp2_with fail
          go_ret
          exact ⟨congrArg (fun x => Ending.returned (.bool x)) (HB.out.2 (.inr ⟨j, hlt, .inl hp⟩)).symm, Below.refl _ _⟩
        · have e1 : decide (40 < ((o j).p.size : Int)) = false := decide_eq_false (by omega)
          by_cases ht : 80 < (o j).t.size
          · have e2 : decide (80 < ((o j).t.size : Int)) = true := decide_eq_true (by omega)
            go_wp2_with fail
            go_ret
            exact ⟨congrArg (fun x => Ending.returned (.bool x)) (HB.out.2 (.inr ⟨j, hlt, .inr ht⟩)).symm, Below.refl _ _⟩
          · have e2 : decide (80 < ((o j).t.size : Int)) = false := decide_eq_false (by omega)
            have HN := Lib.hid (show ∀ i, i < j + 1 → ¬ (40 < (o i).p.size ∨ 80 < (o i).t.size) from fun i hi => by
              rcases Nat.lt_succ_iff_lt_or_eq.1 hi with h | rfl
              · exact HN.out i h
              · omega)
            go_wp2_with fail
            go_roundw
            case rel => exact ⟨j + 1, by omega, by go_num, Lib.hid trivial, HN⟩
            case measure => simp [intOf]; omega
      · obtain rfl : j = M := by omega
        have hbf : b = false := by
          cases b
          · rfl
          · rcases HB.out.1 rfl with h | ⟨i, h1, h2⟩
            · exact absurd h h16
            · exact absurd h2 (HN.out i h1)
        subst hbf
        go_wp2_with fail
        go_ret
        exact ⟨rfl, Below.refl _ _⟩
end Go.Proofs.YtgaecjhghpkcoaaGreat
