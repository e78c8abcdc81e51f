/- The program's numbers that are used once: Parse of one that was taken, Less. -/
import Derived.Test.YtgaecjhghpkcoaaGreatMBar2
namespace Go.Proofs.YtgaecjhghpkcoaaGreat
open Go.RowKit
attribute [local go_sem] B_xor B_or B_and
attribute [local go_sem] blk_set blk_size blk_get blk_getE upd_same oneCells_blk paste_blk cut_blk szOf
attribute [local go_sem high] paste_all cut_head
attribute [local go_sem] rowAt_alloc rowAt_drew rowAt_drewN isRow_alloc isRow_drew isRow_drewN freeRow_alloc freeRow_end freeRow_drew freeRow_drewN
attribute [local go_sem] setRow_alloc setRow_drew setRow_drewN setCell_drewN alloc_drewN rowAt_put isRow_setRow freeRow_put
attribute [local go_sem ↓] loadS_in storeS_in indexS_in copyS_in
attribute [local go_sem] loadS_row loadS_one storeS_row storeS_one indexS_blk copyS_rows run_equalIn_blk same_refl arrayAt_row
attribute [local go_sem] cell_row frozen_row st_setCell st_blk_ne stepAt stepUpon
attribute [local go_sem high] run_eql_blk run_neq_blk
attribute [local go_sem ↓] convBS_in
attribute [local go_sem] convBS_row convBS_nil allBytes_blk bytesOf_blk
attribute [local go_sem] size_sc agg_sc sc_size sc_get0 sc_get1 sc_get2 sc_getE0 sc_getE1 sc_getE2 sc_set1 sc_set2 sc_ne sc_one sc_cut sc_paste sc_build sc_set0
attribute [local go_sem] size_cn agg_cn cn_size cn_get0 cn_get1 cn_getE0 cn_getE1 cn_set0 cn_set1 cn_ne cn_one cn_cut cn_paste

theorem end_ok (t : ByteArray) (hs : t.size < 2 ^ 40) (w : World) : Calls Tryz.prog 65 #[.agg (sc t t.size 0)] w fun e w' => e = .returned (.int .i64 0) ∧ Below w.heap.size w w' := by
  have HC := Lib.hid ((St.nil w).pushA (sc t t.size 0) 120 rfl)
  have T2 := Lib.hid (fun w => left_any t t.size 0 0 (by omega) hs w)
  clear hs
  go_enter Tryz.func65, Tryz.ntmps65
  (obtain ⟨r1, f1, i1, b1, l1⟩ := St.facts1 (HC.out.pick [0] (by decide) rfl))
  go_wp2_with fail
  (clear r1 f1 i1 b1 l1)
  refine (stands_any t t.size 0 (Nat.le_refl _) _).mono ?_; rintro e w1 ⟨rfl, hw⟩
  have HC := Lib.hid (HC.out.call hw)
  clear hw
  (obtain ⟨r1, f1, i1, b1, l1⟩ := St.facts1 (HC.out.pick [0] (by decide) rfl))
  go_wp2_with fail
  (clear r1 f1 i1 b1 l1)
  refine (T2.out _).mono ?_; rintro e w2 ⟨rfl, hw⟩
  have HC := Lib.hid (HC.out.call hw)
  clear hw
  (obtain ⟨r1, f1, i1, b1, l1⟩ := St.facts1 (HC.out.pick [0] (by decide) rfl))
  go_wp2_with fail
  go_ret
  exact ⟨rfl, HC.out.below⟩
theorem nonce_head (e c : Nat) (he : e < 281474976710656) : numAt (nonceS e c) 0 6 = e := by
  unfold numAt nonceS
  refine (numTo_congr (c := beB e 6) fun i hi => ?_).trans (be6 e he)
  rw [Nat.zero_add, ofText_strOf _ _ _ (by omega)]
  unfold nonceB glue
  rw [if_pos (by omega)]
theorem nonce_tail (e c : Nat) (hc : c < 281474976710656) : numAt (nonceS e c) 6 6 = c := by
  unfold numAt nonceS
  refine (numTo_congr (c := beB c 6) fun i hi => ?_).trans (be6 c hc)
  rw [ofText_strOf _ _ _ (by omega)]
  unfold nonceB glue
  rw [if_neg (by omega), Nat.add_sub_cancel_left]
set_option maxRecDepth 100000 in
set_option maxHeartbeats 1000000 in
theorem nonceParse_yes (e c : Nat) (hk : mayC e c) (hc : c ≠ 281474976710656) (w : World) : Calls Tryz.prog 38 #[.string (nonceS e c)] w fun r w' => r = .returned (.tuple #[.agg (cn e c), .int .i64 0]) ∧ Below w.heap.size w w' := by
  have hz3 := cn_zero
  have hsz := nonceS_size e c
  obtain ⟨h1, h2, h3⟩ := id hk
  have K1 := Lib.hid (fun w => scanNum_ok (nonceS e c) 0 6 (by omega) (by omega) (by omega) (by omega) w)
  have K2 := Lib.hid (fun w => scanNum_ok (nonceS e c) 6 6 (by omega) (by omega) (by omega) (by omega) w)
  have K3 := Lib.hid (fun w => end_ok (nonceS e c) (by omega) w)
  rw [nonce_head e c (by omega)] at K1
  rw [nonce_tail e c (by omega)] at K2
  rw [hsz] at K3
  have HK := Lib.hid hk
  obtain ⟨s, hs⟩ : ∃ s, nonceS e c = s := ⟨_, rfl⟩
  rw [hs] at K1 K2 K3 ⊢
  clear hs hsz h1 h2 h3 hk hc
  have HC := Lib.hid ((((St.nil w).pushA (cn 0 0) 52 rfl).pushA (cn 0 0) 52 (g := w.heap.size + 1) (by simp)).pushA (sc s 0 0) 120 (g := w.heap.size + 1 + 1) (by simp))
  go_enter Tryz.func38, Tryz.ntmps38
  go_wp2_with fail
  refine (K1.out _).mono ?_; rintro e w1 ⟨rfl, hw⟩
  have HC := Lib.hid (HC.out.call hw)
  clear hw
  (obtain ⟨⟨r1, f1, i1, b1, l1⟩, ⟨r2, f2, i2, b2, l2⟩, ⟨r3, f3, i3, b3, l3⟩, m12, m21, m13, m31, m23, m32⟩ := St.facts3 (HC.out.pick [0, 1, 2] (by decide) rfl))
  go_wp2_with fail
  (clear r1 f1 i1 b1 l1 r2 f2 i2 b2 l2 r3 f3 i3 b3 l3 m12 m21 m13 m31 m23 m32)
  have HC := Lib.hid ((HC.out.swap.set_head (cn e 0) (by rw [cn_size, cn_size])).swap.set_head (sc s 6 0) (by rw [sc_size, sc_size]))
  refine (K2.out _).mono ?_; rintro e w2 ⟨rfl, hw⟩
  have HC := Lib.hid (HC.out.call hw)
  clear hw
  (obtain ⟨⟨r1, f1, i1, b1, l1⟩, ⟨r2, f2, i2, b2, l2⟩, ⟨r3, f3, i3, b3, l3⟩, m12, m21, m13, m31, m23, m32⟩ := St.facts3 (HC.out.pick [0, 1, 2] (by decide) rfl))
  go_wp2_with fail
  (clear r1 f1 i1 b1 l1 r2 f2 i2 b2 l2 r3 f3 i3 b3 l3 m12 m21 m13 m31 m23 m32)
  have HC := Lib.hid ((HC.out.swap.set_head (cn e c) (by rw [cn_size, cn_size])).swap.set_head (sc s 12 0) (by rw [sc_size, sc_size]))
  refine (K3.out _).mono ?_; rintro e w3 ⟨rfl, hw⟩
  have HC := Lib.hid (HC.out.call hw)
  clear hw
  (obtain ⟨⟨r1, f1, i1, b1, l1⟩, ⟨r2, f2, i2, b2, l2⟩, ⟨r3, f3, i3, b3, l3⟩, m12, m21, m13, m31, m23, m32⟩ := St.facts3 (HC.out.pick [0, 1, 2] (by decide) rfl))
  go_wp2_with fail
  (clear r1 f1 i1 b1 l1 r2 f2 i2 b2 l2 r3 f3 i3 b3 l3 m12 m21 m13 m31 m23 m32)
  refine (nonceCheck_yes e c HK.out _).mono ?_; rintro e w4 ⟨rfl, hw⟩
  have HC := Lib.hid (HC.out.call hw)
  clear hw
  (obtain ⟨⟨r1, f1, i1, b1, l1⟩, ⟨r2, f2, i2, b2, l2⟩, ⟨r3, f3, i3, b3, l3⟩, m12, m21, m13, m31, m23, m32⟩ := St.facts3 (HC.out.pick [0, 1, 2] (by decide) rfl))
  go_wp2_with fail
  refine bodyPost_ret (results_pair rfl _ w.heap.size rfl (cn e c) ?_ ?_ ?_ ?_ (.int .i64 0) rfl) rfl ⟨rfl, ?_⟩
  · simp [go_sem, *]
  · simp [go_sem]
  · simp [go_sem]
  · simp [go_sem, *]
  · exact below_setRow' HC.out.below (by omega) _
/-! ### Less -/
theorem isNaN_u64 (a : Nat) (w : World) : Calls Tryz.prog 90 #[.int .u64 (a : Int)] w fun e w' => e = .returned (.bool false) ∧ Below w.heap.size w w' := by
  go_enter Tryz.func90, Tryz.ntmps90
  go_wp2_with fail
  go_ret
  exact ⟨rfl, Below.refl _ _⟩
def cmpR (a b : Nat) : Int := if a < b then -1 else if b < a then 1 else 0
theorem compare_u64 (a b : Nat) (w : World) : Calls Tryz.prog 67 #[.int .u64 (a : Int), .int .u64 (b : Int)] w fun e w' => e = .returned (.int .i64 (cmpR a b)) ∧ Below w.heap.size w w' := by
  have HC := Lib.hid (St.nil w)
  unfold cmpR
  by_cases h1 : a < b
  · have d1 : decide (a < b) = true := decide_eq_true (by omega)
    rw [if_pos h1]
    clear h1
    go_enter Tryz.func67, Tryz.ntmps67
    go_wp2_with fail
    refine (isNaN_u64 a _).mono ?_; rintro e w1 ⟨rfl, hw⟩
    have HC := Lib.hid (HC.out.call hw)
    clear hw
    go_wp2_with fail
    refine (isNaN_u64 b _).mono ?_; rintro e w2 ⟨rfl, hw⟩
    have HC := Lib.hid (HC.out.call hw)
    clear hw
    go_wp2_with fail
    go_ret
    exact ⟨rfl, HC.out.below⟩
  · have d1 : decide (a < b) = false := decide_eq_false (by omega)
    rw [if_neg h1]
    by_cases h2 : b < a
    · have d2 : decide (b < a) = true := decide_eq_true (by omega)
      rw [if_pos h2]
      clear h1 h2
      go_enter Tryz.func67, Tryz.ntmps67
      go_wp2_with fail
      refine (isNaN_u64 a _).mono ?_; rintro e w1 ⟨rfl, hw⟩
      have HC := Lib.hid (HC.out.call hw)
      clear hw
      go_wp2_with fail
      refine (isNaN_u64 b _).mono ?_; rintro e w2 ⟨rfl, hw⟩
      have HC := Lib.hid (HC.out.call hw)
      clear hw
      go_wp2_with fail
      go_ret
      exact ⟨rfl, HC.out.below⟩
    · have d2 : decide (b < a) = false := decide_eq_false (by omega)
      rw [if_neg h2]
      clear h1 h2
      go_enter Tryz.func67, Tryz.ntmps67
      go_wp2_with fail
      refine (isNaN_u64 a _).mono ?_; rintro e w1 ⟨rfl, hw⟩
      have HC := Lib.hid (HC.out.call hw)
      clear hw
      go_wp2_with fail
      refine (isNaN_u64 b _).mono ?_; rintro e w2 ⟨rfl, hw⟩
      have HC := Lib.hid (HC.out.call hw)
      clear hw
      go_wp2_with fail
      go_ret
      exact ⟨rfl, HC.out.below⟩
theorem or_two (g : Nat) (x y : Int) (w : World) (hr : rowAt w g = #[.int .i64 x, .int .i64 y]) (hi : isRow w g = true) : Calls Tryz.prog 66 #[.slice (some ⟨g, 0, none⟩) 2 2] w fun e w' => e = .returned (.int .i64 (if x ≠ 0 then x else y)) ∧ Below w.heap.size w w' := by
  by_cases hx : x = 0
  · rw [if_neg (fun h => h hx)]
    have d0 : (x != 0) = false := by rw [hx]; rfl
    by_cases hy : y = 0
    · have d1 : (y != 0) = false := by rw [hy]; rfl
      go_enter Tryz.func66, Tryz.ntmps66
      go_wp2_with fail
      refine wp_loop_rounds 3 ?_
      iterate 3
        rw [rounds_succ]
        go_wp2_with fail
      subst hy
      go_ret
      exact ⟨rfl, Below.refl _ _⟩
    · have d1 : (y != 0) = true := by rw [bne_iff_ne]; exact hy
      go_enter Tryz.func66, Tryz.ntmps66
      go_wp2_with fail
      refine wp_loop_rounds 3 ?_
      iterate 2
        rw [rounds_succ]
        go_wp2_with fail
      go_ret
      exact ⟨rfl, Below.refl _ _⟩
  · rw [if_pos hx]
    have d0 : (x != 0) = true := by rw [bne_iff_ne]; exact hx
    go_enter Tryz.func66, Tryz.ntmps66
    go_wp2_with fail
    refine wp_loop_rounds 3 ?_
    rw [rounds_succ]
    go_wp2_with fail
    go_ret
    exact ⟨rfl, Below.refl _ _⟩
/-- is one ahead of another one -/
def lessP (a b c d : Nat) : Prop := a < c ∨ (a = c ∧ b < d)
set_option maxRecDepth 100000 in
set_option maxHeartbeats 1000000 in
theorem less_any (a b c d : Nat) (v : Bool) (hv : v = true ↔ lessP a b c d) (w : World) : Calls Tryz.prog 39 #[.agg (cn a b), .agg (cn c d)] w fun e w' => e = .returned (.bool v) ∧ Below w.heap.size w w' := by
  have HV : decide ((if cmpR a c ≠ 0 then cmpR a c else cmpR b d) < 0) = v := by
    rw [Bool.eq_iff_iff, hv, decide_eq_true_eq]
    unfold cmpR lessP
    by_cases h1 : a < c
    · simp [h1]
    · by_cases h2 : c < a
      · simp [h1, h2]; omega
      · have h3 : a = c := by omega
        simp [h3]
        by_cases h4 : b < d
        · simp [h4]
        · by_cases h5 : d < b
          · simp [h4, h5]
          · simp [h4, h5]
  obtain ⟨Z, hZ⟩ : ∃ Z : Int, (if cmpR a c ≠ 0 then cmpR a c else cmpR b d) = Z := ⟨_, rfl⟩
  rw [hZ] at HV
  have K3 := Lib.hid (fun g w => or_two g (cmpR a c) (cmpR b d) w)
  rw [hZ] at K3
  clear hv hZ
  have HC := Lib.hid (((St.nil w).pushA (cn a b) 52 rfl).pushA (cn c d) 52 (g := w.heap.size + 1) (by simp))
  go_enter Tryz.func39, Tryz.ntmps39
  (obtain ⟨⟨r1, f1, i1, b1, l1⟩, ⟨r2, f2, i2, b2, l2⟩, m12, m21⟩ := St.facts2 (HC.out.pick [0, 1] (by decide) rfl))
  go_wp2_with fail
  (clear r1 f1 i1 b1 l1 r2 f2 i2 b2 l2 m12 m21)
  refine St.region_tail 10 HC.out (by kernel_rfl) (by decide +kernel) ?_
  (first
     | (apply head_skip rfl)
     | (apply head_step_g rfl
        focus
          intro w0 hC
          (fail))
     | (apply head_step_g rfl
        focus
          intro w0 hC
          have hC' := Lib.hid hC
          obtain ⟨⟨r1, f1, i1, b1, l1⟩, ⟨r2, f2, i2, b2, l2⟩, m12, m21⟩ := St.facts2 hC
          clear hC
          go_simp
          have hC := hC'.out
          (first
             | with_reducible rfl
             | (skip
                (first
                   | (go_at_call 67; refine (compare_u64 _ _ _).mono ?_))
                rintro e w' ⟨rfl, hw⟩
                exact ⟨rfl, St.call (by assumption) hw⟩)))
   try simp only [Act.put, List.setIfInBounds_toArray, List.set])
  (first
     | (apply head_skip rfl)
     | (apply head_step_g rfl
        focus
          intro w0 hC
          (fail))
     | (apply head_step_g rfl
        focus
          intro w0 hC
          have hC' := Lib.hid hC
          obtain ⟨⟨r1, f1, i1, b1, l1⟩, ⟨r2, f2, i2, b2, l2⟩, m12, m21⟩ := St.facts2 hC
          clear hC
          go_simp
          have hC := hC'.out
          (first
             | with_reducible rfl
             | (skip
                (first
                   | (go_at_call 67; refine (compare_u64 _ _ _).mono ?_))
                rintro e w' ⟨rfl, hw⟩
                exact ⟨rfl, St.call (by assumption) hw⟩)))
   try simp only [Act.put, List.setIfInBounds_toArray, List.set])
  (first
     | (apply head_skip rfl)
     | (apply head_step_g rfl
        focus
          intro w0 hC
          (fail))
     | (apply head_step_g rfl
        focus
          intro w0 hC
          have hC' := Lib.hid hC
          obtain ⟨⟨r1, f1, i1, b1, l1⟩, ⟨r2, f2, i2, b2, l2⟩, m12, m21⟩ := St.facts2 hC
          clear hC
          go_simp
          have hC := hC'.out
          (first
             | with_reducible rfl
             | (skip
                (first
                   | (go_at_call 67; refine (compare_u64 _ _ _).mono ?_))
                rintro e w' ⟨rfl, hw⟩
                exact ⟨rfl, St.call (by assumption) hw⟩)))
   try simp only [Act.put, List.setIfInBounds_toArray, List.set])
  (first
     | (apply head_skip rfl)
     | (apply head_step_g rfl
        focus
          intro w0 hC
          (fail))
     | (apply head_step_g rfl
        focus
          intro w0 hC
          have hC' := Lib.hid hC
          obtain ⟨⟨r1, f1, i1, b1, l1⟩, ⟨r2, f2, i2, b2, l2⟩, m12, m21⟩ := St.facts2 hC
          clear hC
          go_simp
          have hC := hC'.out
          (first
             | with_reducible rfl
             | (skip
                (first
                   | (go_at_call 67; refine (compare_u64 _ _ _).mono ?_))
                rintro e w' ⟨rfl, hw⟩
                exact ⟨rfl, St.call (by assumption) hw⟩)))
   try simp only [Act.put, List.setIfInBounds_toArray, List.set])
  (first
     | (apply head_skip rfl)
     | (apply head_step_g rfl
        focus
          intro w0 hC
          (fail))
     | (apply head_step_g rfl
        focus
          intro w0 hC
          have hC' := Lib.hid hC
          obtain ⟨⟨r1, f1, i1, b1, l1⟩, ⟨r2, f2, i2, b2, l2⟩, m12, m21⟩ := St.facts2 hC
          clear hC
          go_simp
          have hC := hC'.out
          (first
             | with_reducible rfl
             | (skip
                (first
                   | (go_at_call 67; refine (compare_u64 _ _ _).mono ?_))
                rintro e w' ⟨rfl, hw⟩
                exact ⟨rfl, St.call (by assumption) hw⟩)))
   try simp only [Act.put, List.setIfInBounds_toArray, List.set])
  (first
     | (apply head_skip rfl)
     | (apply head_step_g rfl
        focus
          intro w0 hC
          (fail))
     | (apply head_step_g rfl
        focus
          intro w0 hC
          have hC' := Lib.hid hC
          obtain ⟨⟨r1, f1, i1, b1, l1⟩, ⟨r2, f2, i2, b2, l2⟩, m12, m21⟩ := St.facts2 hC
          clear hC
          go_simp
          have hC := hC'.out
          (first
             | with_reducible rfl
             | (skip
                (first
                   | (go_at_call 67; refine (compare_u64 _ _ _).mono ?_))
                rintro e w' ⟨rfl, hw⟩
                exact ⟨rfl, St.call (by assumption) hw⟩)))
   try simp only [Act.put, List.setIfInBounds_toArray, List.set])
  (first
     | (apply head_skip rfl)
     | (apply head_step_g rfl
        focus
          intro w0 hC
          (fail))
     | (apply head_step_g rfl
        focus
          intro w0 hC
          have hC' := Lib.hid hC
          obtain ⟨⟨r1, f1, i1, b1, l1⟩, ⟨r2, f2, i2, b2, l2⟩, m12, m21⟩ := St.facts2 hC
          clear hC
          go_simp
          have hC := hC'.out
          (first
             | with_reducible rfl
             | (skip
                (first
                   | (go_at_call 67; refine (compare_u64 _ _ _).mono ?_))
                rintro e w' ⟨rfl, hw⟩
                exact ⟨rfl, St.call (by assumption) hw⟩)))
   try simp only [Act.put, List.setIfInBounds_toArray, List.set])
  (first
     | (apply head_skip rfl)
     | (apply head_step_g rfl
        focus
          intro w0 hC
          (fail))
     | (apply head_step_g rfl
        focus
          intro w0 hC
          have hC' := Lib.hid hC
          obtain ⟨⟨r1, f1, i1, b1, l1⟩, ⟨r2, f2, i2, b2, l2⟩, m12, m21⟩ := St.facts2 hC
          clear hC
          go_simp
          have hC := hC'.out
          (first
             | with_reducible rfl
             | (skip
                (first
                   | (go_at_call 67; refine (compare_u64 _ _ _).mono ?_))
                rintro e w' ⟨rfl, hw⟩
                exact ⟨rfl, St.call (by assumption) hw⟩)))
   try simp only [Act.put, List.setIfInBounds_toArray, List.set])
  (first
     | (apply head_skip rfl)
     | (apply head_step_g rfl
        focus
          intro w0 hC
          (fail))
     | (apply head_step_g rfl
        focus
          intro w0 hC
          have hC' := Lib.hid hC
          obtain ⟨⟨r1, f1, i1, b1, l1⟩, ⟨r2, f2, i2, b2, l2⟩, m12, m21⟩ := St.facts2 hC
          clear hC
          go_simp
          have hC := hC'.out
          (first
             | with_reducible rfl
             | (skip
                (first
                   | (go_at_call 67; refine (compare_u64 _ _ _).mono ?_))
                rintro e w' ⟨rfl, hw⟩
                exact ⟨rfl, St.call (by assumption) hw⟩)))
   try simp only [Act.put, List.setIfInBounds_toArray, List.set])
  (first
     | (apply head_skip rfl)
     | (apply head_step_g rfl
        focus
          intro w0 hC
          (fail))
     | (apply head_step_g rfl
        focus
          intro w0 hC
          have hC' := Lib.hid hC
          obtain ⟨⟨r1, f1, i1, b1, l1⟩, ⟨r2, f2, i2, b2, l2⟩, m12, m21⟩ := St.facts2 hC
          clear hC
          go_simp
          have hC := hC'.out
          (first
             | with_reducible rfl
             | (skip
                (first
                   | (go_at_call 67; refine (compare_u64 _ _ _).mono ?_))
                rintro e w' ⟨rfl, hw⟩
                exact ⟨rfl, St.call (by assumption) hw⟩)))
   try simp only [Act.put, List.setIfInBounds_toArray, List.set])
  refine wpQuiet_nil ?_
  intro w1 hC
  have HC := Lib.hid hC
  clear hC
  go_wp2_with fail
  have HC := Lib.hid (HC.out.push #[.int .i64 (cmpR a c), .int .i64 (cmpR b d)] 3)
  have hr := HC.out.at (.head _)
  refine (K3.out _ _ hr.1 hr.2.2.1).mono ?_
  rintro e w2 ⟨rfl, hw⟩
  have HC := Lib.hid (HC.out.call hw)
  clear hw hr
  go_wp2_with fail
  go_ret
  exact ⟨rfl, HC.out.below⟩
end Go.Proofs.YtgaecjhghpkcoaaGreat
