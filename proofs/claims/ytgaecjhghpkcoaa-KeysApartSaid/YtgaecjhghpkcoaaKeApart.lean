/- The statement KeysApart's function returns true. -/
import Derived.Test.YtgaecjhghpkcoaaKeParse
import Derived.Test.YtgaecjhghpkcoaaPerm
import Derived.Test.YtgaecjhghpkcoaaQw
import Derived.Deep.CutRange
namespace Go.Proofs.Ytgaecjhghpkcoaa
open Go.RowKit
attribute [local go_sem] B_xor B_or B_and
attribute [local go_sem] blk_set blk_size blk_get blk_getE upd_same oneCells_blk paste_blk cut_blk szOf
attribute [local go_sem high] paste_all cut_head
attribute [local go_sem] rowAt_alloc rowAt_drew rowAt_drewN isRow_alloc isRow_drew isRow_drewN freeRow_alloc freeRow_end freeRow_drew freeRow_drewN
attribute [local go_sem] setRow_alloc setRow_drew setRow_drewN setCell_drewN alloc_drewN rowAt_put isRow_setRow freeRow_put
attribute [local go_sem ↓] loadS_in storeS_in indexS_in copyS_in
attribute [local go_sem] loadS_row loadS_one storeS_row storeS_one indexS_blk copyS_rows run_equalIn_blk same_refl arrayAt_row
attribute [local go_sem] cell_row frozen_row st_setCell st_blk_ne stepAt stepUpon
attribute [local go_sem high] run_eql_blk run_neq_blk
attribute [local go_sem ↓] convBS_in
attribute [local go_sem] convBS_row convBS_nil allBytes_blk bytesOf_blk
attribute [local go_sem] rg_size rg_get0 rg_getE0 rg_ne rg_set0 rg_one rg_cut rg_key rg_put rg_paste part_rg0 part_rg1

/-- a ring of k keys of one master -/
def ringM (m : Nat → UInt8) (k : Nat) : Nat → UInt8 := fun x => if x < k * 16 then deriveB m (x / 16 + 1) (x % 16) else 0
theorem ringM_one (m : Nat → UInt8) : newB m = ringM m 1 := by
  funext x
  unfold newB addB cpy ringM
  by_cases h : x < 16
  · rw [if_pos (by omega), if_pos (by omega), Nat.div_eq_of_lt h, Nat.mod_eq_of_lt h]
    congr 1; omega
  · rw [if_neg (by omega), if_neg (by omega)]
theorem ringM_add (m : Nat → UInt8) (k : Nat) : addB (ringM m k) k (deriveB m (k + 1)) = ringM m (k + 1) := by
  funext x
  unfold addB cpy ringM
  by_cases h : k * 16 ≤ x ∧ x < k * 16 + 16
  · have e1 : x / 16 = k := by omega
    have e2 : x % 16 = x - k * 16 := by omega
    rw [if_pos h, if_pos (by omega), e1, e2, Nat.zero_add]
  · rw [if_neg h]
    by_cases h2 : x < k * 16
    · rw [if_pos h2, if_pos (by omega)]
    · rw [if_neg h2, if_neg (by omega)]
theorem ringM_key (m : Nat → UInt8) (k u : Nat) (h : u < k) : blk 16 (keyB (ringM m k) u) = blk 16 (deriveB m (u + 1)) := blk_congr fun j hj => by
  have e1 : (u * 16 + j) / 16 = u := by omega
  have e2 : (u * 16 + j) % 16 = j := by omega
  unfold keyB ringM
  rw [if_pos (by omega), e1, e2]
theorem ringM_neat (m : Nat → UInt8) (k : Nat) : Neat k (ringM m k) := fun i h _ => by
  unfold ringM
  rw [if_neg (by omega)]
theorem derive_same (m : Nat → UInt8) (a b : Nat) (ha : a ≤ 6) (hb : b ≤ 6) : same 16 (deriveB m a) (deriveB m b) = decide (a = b) := by
  rw [Bool.eq_iff_iff, same_iff, decide_eq_true_eq]
  constructor
  · intro h
    have h1 : Ci.EqB (upd (fun _ => 0) 15 (UInt8.ofNat a)) (upd (fun _ => 0) 15 (UInt8.ofNat b)) := Ci.seal_inj h
    have h2 := h1 15 (by omega)
    unfold upd at h2
    rw [if_pos rfl, if_pos rfl] at h2
    have h3 := congrArg UInt8.toNat h2
    rw [UInt8.toNat_ofNat_of_lt' (by have : UInt8.size = 256 := rfl; omega), UInt8.toNat_ofNat_of_lt' (by have : UInt8.size = 256 := rfl; omega)] at h3
    exact h3
  · rintro rfl; exact fun _ _ => rfl
/-- a term's key, or why there is none -/
theorem derive_cases (m : Nat → UInt8) (t : Int) : ∃ (A : Nat → UInt8) (E : Nat) (b : Bool), ((E : Int) == 0) = b ∧ (b = true → ∃ T : Nat, t = (T : Int) ∧ T ≤ 6 ∧ A = deriveB m T) ∧ (∀ w, Calls Try.prog 9 #[.agg (blk 16 m), .int .i64 t] w fun e w' => e = .returned (.tuple #[.agg (blk 16 A), .int .i64 (E : Int)]) ∧ Below w.heap.size w w') := by
  by_cases h : 1 ≤ t ∧ t ≤ 6
  · obtain ⟨T, rfl⟩ : ∃ T : Nat, t = (T : Int) := ⟨t.toNat, by omega⟩
    exact ⟨deriveB m T, 0, true, rfl, fun _ => ⟨T, rfl, by omega, rfl⟩, fun w => derive_yes m T (by omega) (by omega) w⟩
  · exact ⟨fun _ => 0, 2, false, rfl, (fun h => by cases h), fun w => derive_no m t (by omega) w⟩
theorem key_at (m : Nat → UInt8) (K T : Nat) (h1 : 1 ≤ T) (hT : T ≤ K) (h6 : K ≤ 6) (w : World) : Calls Try.prog 20 #[.agg (rg K (ringM m K)), .int .i64 (T : Int)] w fun e w' => e = .returned (.tuple #[.agg (blk 16 (deriveB m T)), .int .i64 0]) ∧ Below w.heap.size w w' := by
  obtain ⟨u, rfl⟩ : ∃ u, T = u + 1 := ⟨T - 1, by omega⟩
  have := key_yes K (ringM m K) (u + 1) u rfl hT h6 w
  rw [ringM_key m K u (by omega)] at this
  exact this
theorem rotate_at (m : Nat → UInt8) (K K1 : Nat) (h : K1 = K + 1) (h6 : K1 ≤ 6) (w : World) : Calls Try.prog 14 #[.agg (rg K (ringM m K)), .agg (blk 16 m)] w fun e w' => e = .returned (.tuple #[.agg (rg K1 (ringM m K1)), .int .i64 0]) ∧ Below w.heap.size w w' := by
  subst h
  have := rotate_yes K (ringM m K) m (by omega) w
  rw [ringM_add] at this
  exact this
theorem mod7 (x : UInt8) : ∃ Y : Nat, Y < 7 ∧ B x % 7 = (Y : Int) ∧ (B x).tmod 7 = (Y : Int) := by
  refine ⟨x.toNat % 7, Nat.mod_lt _ (by omega), ?_, ?_⟩
  · unfold B; omega
  · have h : (0 : Int) ≤ B x := by unfold B; omega
    rw [Int.tmod_eq_emod_of_nonneg h]
    unfold B; omega
set_option maxRecDepth 100000 in
set_option maxHeartbeats 8000000 in
theorem keysApart_walk (m : Nat → UInt8) (x : UInt8) (t0 t1 : Int) (w : World) : Calls Try.prog 5 #[.agg (blk 16 m), .int .u8 (B x), .agg #[.int .i64 t0, .int .i64 t1]] w fun e w' => e = .returned (.bool true) ∧ Below w.heap.size w w' := by
  have hz := zero16
  have hz2 := zero97
  obtain ⟨A0, E0, b0, e0, k0, c0⟩ := derive_cases m t0
  obtain ⟨A1, E1, b1, e1, k1, c1⟩ := derive_cases m t1
  have C0 := Lib.hid c0
  have C1 := Lib.hid c1
  have HB : Hid (b0 = true → b1 = true → ∃ v, same 16 A0 A1 = v ∧ (t0 == t1) = v) := Lib.hid fun h0 h1 => by
    obtain ⟨T, rfl, h2, rfl⟩ := k0 h0
    obtain ⟨U, rfl, h3, rfl⟩ := k1 h1
    refine ⟨_, rfl, ?_⟩
    rw [derive_same m T U h2 h3, Bool.eq_iff_iff, beq_iff_eq, decide_eq_true_eq]
    omega
  have E0' := Lib.hid e0
  have E1' := Lib.hid e1
  clear c0 c1 k0 k1 e0 e1
  have HC := Lib.hid (((St.nil w).pushA (blk 16 m) 22 rfl).pushA #[.int .i64 t0, .int .i64 t1] 47 (g := w.heap.size + 1) (by simp))
  go_enter Try.func5, Try.ntmps5
  go_wp2_with fail
  have HC := Lib.hid (HC.out.pushA (blk 16 m) 25 (g := w.heap.size + 1 + 1) (by simp))
  refine (C0.out _).mono ?_; rintro e w1 ⟨rfl, hw⟩
  have HC := Lib.hid (HC.out.call hw)
  clear hw
  have hC := HC.out
  (have HC := Lib.hid hC
   have sos := hC.below.os
   obtain ⟨⟨r1, f1, i1, b1, l1⟩, ⟨r2, f2, i2, b2, l2⟩, ⟨r3, f3, i3, b3, l3⟩, m12, m21, m13, m31, m23, m32⟩ := St.facts3 hC
   clear hC)
  go_wp2_with fail
  (clear r1 f1 i1 b1 l1 r2 f2 i2 b2 l2 r3 f3 i3 b3 l3 m12 m21 m13 m31 m23 m32 sos)
  have HC := Lib.hid (HC.out.push (blk 16 A0) 25)
  refine (C1.out _).mono ?_; rintro e w2 ⟨rfl, hw⟩
  have HC := Lib.hid (HC.out.call hw)
  clear hw
  have hC := HC.out
  (have HC := Lib.hid hC
   have sos := hC.below.os
   obtain ⟨⟨r1, f1, i1, b1, l1⟩, ⟨r2, f2, i2, b2, l2⟩, ⟨r3, f3, i3, b3, l3⟩, ⟨r4, f4, i4, b4, l4⟩, m12, m21, m13, m31, m14, m41, m23, m32, m24, m42, m34, m43⟩ := St.facts4 hC
   clear hC)
  go_upto_region 4 with fail
  (clear r1 f1 i1 b1 l1 r2 f2 i2 b2 l2 r3 f3 i3 b3 l3 r4 f4 i4 b4 l4 m12 m21 m13 m31 m14 m41 m23 m32 m24 m42 m34 m43 sos)
  have HC := Lib.hid (HC.out.push (blk 16 A1) 25)
  generalize w2.alloc (Obj.cells (blk 16 A1) 25) = w3 at HC ⊢
  generalize w2.heap.size = p10 at HC ⊢
  generalize w1.heap.size = p8 at HC ⊢
  go_cut [56] from 40 to 56 (fun v wx => v = .bool false ∧ Hid (St w [(p10, blk 16 A1), (p8, blk 16 A0), (w.heap.size + 1 + 1, blk 16 m), (w.heap.size + 1, #[.int .i64 t0, .int .i64 t1]), (w.heap.size, blk 16 m)] wx))
  case first =>
    cases b0
    · have e0 := E0'.out
      refine St.qregion HC.out (by kernel_rfl) (by decide +kernel) ?_
      (first
         | (apply qw_skip rfl)
         | (apply qw_step rfl
            focus
              intro w0 hC
              (first
                 | exact eql_quiet 25 rfl rfl rfl Try.eqGuardType25 Try.underlying25 (by simp [go_sem]) (by simp [go_sem]) (by with_reducible assumption)
                 | exact neq_quiet 25 rfl rfl rfl Try.eqGuardType25 Try.underlying25 (by simp [go_sem]) (by simp [go_sem]) (by with_reducible assumption)))
         | (apply qw_step rfl
            focus
              intro w0 hC
              have hC' := Lib.hid hC
              obtain ⟨⟨r1, f1, i1, b1, l1⟩, ⟨r2, f2, i2, b2, l2⟩, ⟨r3, f3, i3, b3, l3⟩, ⟨r4, f4, i4, b4, l4⟩, ⟨r5, f5, i5, b5, l5⟩, m12, m21, m13, m31, m14, m41, m15, m51, m23, m32, m24, m42, m25, m52, m34, m43, m35, m53, m45, m54⟩ := St.facts5 hC
              clear hC
              go_simp
              have hC := hC'.out
              (first
                 | with_reducible rfl
                 | (skip
                    (first
                       | (go_at_call 17; refine (term_any _ _ _).mono ?_)
                       | (go_at_call 21; refine (text_any _ _ (by assumption) _).mono ?_)
                       | (go_at_call 18; refine (same_yes _ _ _ true (same_refl _ _) _).mono ?_)
                       | (go_at_call 19; refine (length_yes _ (by assumption) (by assumption) _).mono ?_)
                       | (go_at_call 8; refine (awake20_any _).mono ?_))
                    rintro e w' ⟨rfl, hw⟩
                    exact ⟨rfl, St.call (by assumption) hw⟩)))
       try simp only [Act.put, List.setIfInBounds_toArray, List.set])
      (first
         | (apply qw_skip rfl)
         | (apply qw_step rfl
            focus
              intro w0 hC
              (first
                 | exact eql_quiet 25 rfl rfl rfl Try.eqGuardType25 Try.underlying25 (by simp [go_sem]) (by simp [go_sem]) (by with_reducible assumption)
                 | exact neq_quiet 25 rfl rfl rfl Try.eqGuardType25 Try.underlying25 (by simp [go_sem]) (by simp [go_sem]) (by with_reducible assumption)))
         | (apply qw_step rfl
            focus
              intro w0 hC
              have hC' := Lib.hid hC
              obtain ⟨⟨r1, f1, i1, b1, l1⟩, ⟨r2, f2, i2, b2, l2⟩, ⟨r3, f3, i3, b3, l3⟩, ⟨r4, f4, i4, b4, l4⟩, ⟨r5, f5, i5, b5, l5⟩, m12, m21, m13, m31, m14, m41, m15, m51, m23, m32, m24, m42, m25, m52, m34, m43, m35, m53, m45, m54⟩ := St.facts5 hC
              clear hC
              go_simp
              have hC := hC'.out
              (first
                 | with_reducible rfl
                 | (skip
                    (first
                       | (go_at_call 17; refine (term_any _ _ _).mono ?_)
                       | (go_at_call 21; refine (text_any _ _ (by assumption) _).mono ?_)
                       | (go_at_call 18; refine (same_yes _ _ _ true (same_refl _ _) _).mono ?_)
                       | (go_at_call 19; refine (length_yes _ (by assumption) (by assumption) _).mono ?_)
                       | (go_at_call 8; refine (awake20_any _).mono ?_))
                    rintro e w' ⟨rfl, hw⟩
                    exact ⟨rfl, St.call (by assumption) hw⟩)))
       try simp only [Act.put, List.setIfInBounds_toArray, List.set])
      (first
         | (apply qw_skip rfl)
         | (apply qw_step rfl
            focus
              intro w0 hC
              (first
                 | exact eql_quiet 25 rfl rfl rfl Try.eqGuardType25 Try.underlying25 (by simp [go_sem]) (by simp [go_sem]) (by with_reducible assumption)
                 | exact neq_quiet 25 rfl rfl rfl Try.eqGuardType25 Try.underlying25 (by simp [go_sem]) (by simp [go_sem]) (by with_reducible assumption)))
         | (apply qw_step rfl
            focus
              intro w0 hC
              have hC' := Lib.hid hC
              obtain ⟨⟨r1, f1, i1, b1, l1⟩, ⟨r2, f2, i2, b2, l2⟩, ⟨r3, f3, i3, b3, l3⟩, ⟨r4, f4, i4, b4, l4⟩, ⟨r5, f5, i5, b5, l5⟩, m12, m21, m13, m31, m14, m41, m15, m51, m23, m32, m24, m42, m25, m52, m34, m43, m35, m53, m45, m54⟩ := St.facts5 hC
              clear hC
              go_simp
              have hC := hC'.out
              (first
                 | with_reducible rfl
                 | (skip
                    (first
                       | (go_at_call 17; refine (term_any _ _ _).mono ?_)
                       | (go_at_call 21; refine (text_any _ _ (by assumption) _).mono ?_)
                       | (go_at_call 18; refine (same_yes _ _ _ true (same_refl _ _) _).mono ?_)
                       | (go_at_call 19; refine (length_yes _ (by assumption) (by assumption) _).mono ?_)
                       | (go_at_call 8; refine (awake20_any _).mono ?_))
                    rintro e w' ⟨rfl, hw⟩
                    exact ⟨rfl, St.call (by assumption) hw⟩)))
       try simp only [Act.put, List.setIfInBounds_toArray, List.set])
      (first
         | (apply qw_skip rfl)
         | (apply qw_step rfl
            focus
              intro w0 hC
              (first
                 | exact eql_quiet 25 rfl rfl rfl Try.eqGuardType25 Try.underlying25 (by simp [go_sem]) (by simp [go_sem]) (by with_reducible assumption)
                 | exact neq_quiet 25 rfl rfl rfl Try.eqGuardType25 Try.underlying25 (by simp [go_sem]) (by simp [go_sem]) (by with_reducible assumption)))
         | (apply qw_step rfl
            focus
              intro w0 hC
              have hC' := Lib.hid hC
              obtain ⟨⟨r1, f1, i1, b1, l1⟩, ⟨r2, f2, i2, b2, l2⟩, ⟨r3, f3, i3, b3, l3⟩, ⟨r4, f4, i4, b4, l4⟩, ⟨r5, f5, i5, b5, l5⟩, m12, m21, m13, m31, m14, m41, m15, m51, m23, m32, m24, m42, m25, m52, m34, m43, m35, m53, m45, m54⟩ := St.facts5 hC
              clear hC
              go_simp
              have hC := hC'.out
              (first
                 | with_reducible rfl
                 | (skip
                    (first
                       | (go_at_call 17; refine (term_any _ _ _).mono ?_)
                       | (go_at_call 21; refine (text_any _ _ (by assumption) _).mono ?_)
                       | (go_at_call 18; refine (same_yes _ _ _ true (same_refl _ _) _).mono ?_)
                       | (go_at_call 19; refine (length_yes _ (by assumption) (by assumption) _).mono ?_)
                       | (go_at_call 8; refine (awake20_any _).mono ?_))
                    rintro e w' ⟨rfl, hw⟩
                    exact ⟨rfl, St.call (by assumption) hw⟩)))
       try simp only [Act.put, List.setIfInBounds_toArray, List.set])
      (first
         | (apply qw_skip rfl)
         | (apply qw_step rfl
            focus
              intro w0 hC
              (first
                 | exact eql_quiet 25 rfl rfl rfl Try.eqGuardType25 Try.underlying25 (by simp [go_sem]) (by simp [go_sem]) (by with_reducible assumption)
                 | exact neq_quiet 25 rfl rfl rfl Try.eqGuardType25 Try.underlying25 (by simp [go_sem]) (by simp [go_sem]) (by with_reducible assumption)))
         | (apply qw_step rfl
            focus
              intro w0 hC
              have hC' := Lib.hid hC
              obtain ⟨⟨r1, f1, i1, b1, l1⟩, ⟨r2, f2, i2, b2, l2⟩, ⟨r3, f3, i3, b3, l3⟩, ⟨r4, f4, i4, b4, l4⟩, ⟨r5, f5, i5, b5, l5⟩, m12, m21, m13, m31, m14, m41, m15, m51, m23, m32, m24, m42, m25, m52, m34, m43, m35, m53, m45, m54⟩ := St.facts5 hC
              clear hC
              go_simp
              have hC := hC'.out
              (first
                 | with_reducible rfl
                 | (skip
                    (first
                       | (go_at_call 17; refine (term_any _ _ _).mono ?_)
                       | (go_at_call 21; refine (text_any _ _ (by assumption) _).mono ?_)
                       | (go_at_call 18; refine (same_yes _ _ _ true (same_refl _ _) _).mono ?_)
                       | (go_at_call 19; refine (length_yes _ (by assumption) (by assumption) _).mono ?_)
                       | (go_at_call 8; refine (awake20_any _).mono ?_))
                    rintro e w' ⟨rfl, hw⟩
                    exact ⟨rfl, St.call (by assumption) hw⟩)))
       try simp only [Act.put, List.setIfInBounds_toArray, List.set])
      (first
         | (apply qw_skip rfl)
         | (apply qw_step rfl
            focus
              intro w0 hC
              (first
                 | exact eql_quiet 25 rfl rfl rfl Try.eqGuardType25 Try.underlying25 (by simp [go_sem]) (by simp [go_sem]) (by with_reducible assumption)
                 | exact neq_quiet 25 rfl rfl rfl Try.eqGuardType25 Try.underlying25 (by simp [go_sem]) (by simp [go_sem]) (by with_reducible assumption)))
         | (apply qw_step rfl
            focus
              intro w0 hC
              have hC' := Lib.hid hC
              obtain ⟨⟨r1, f1, i1, b1, l1⟩, ⟨r2, f2, i2, b2, l2⟩, ⟨r3, f3, i3, b3, l3⟩, ⟨r4, f4, i4, b4, l4⟩, ⟨r5, f5, i5, b5, l5⟩, m12, m21, m13, m31, m14, m41, m15, m51, m23, m32, m24, m42, m25, m52, m34, m43, m35, m53, m45, m54⟩ := St.facts5 hC
              clear hC
              go_simp
              have hC := hC'.out
              (first
                 | with_reducible rfl
                 | (skip
                    (first
                       | (go_at_call 17; refine (term_any _ _ _).mono ?_)
                       | (go_at_call 21; refine (text_any _ _ (by assumption) _).mono ?_)
                       | (go_at_call 18; refine (same_yes _ _ _ true (same_refl _ _) _).mono ?_)
                       | (go_at_call 19; refine (length_yes _ (by assumption) (by assumption) _).mono ?_)
                       | (go_at_call 8; refine (awake20_any _).mono ?_))
                    rintro e w' ⟨rfl, hw⟩
                    exact ⟨rfl, St.call (by assumption) hw⟩)))
       try simp only [Act.put, List.setIfInBounds_toArray, List.set])
      (first
         | (apply qw_skip rfl)
         | (apply qw_step rfl
            focus
              intro w0 hC
              (first
                 | exact eql_quiet 25 rfl rfl rfl Try.eqGuardType25 Try.underlying25 (by simp [go_sem]) (by simp [go_sem]) (by with_reducible assumption)
                 | exact neq_quiet 25 rfl rfl rfl Try.eqGuardType25 Try.underlying25 (by simp [go_sem]) (by simp [go_sem]) (by with_reducible assumption)))
         | (apply qw_step rfl
            focus
              intro w0 hC
              have hC' := Lib.hid hC
              obtain ⟨⟨r1, f1, i1, b1, l1⟩, ⟨r2, f2, i2, b2, l2⟩, ⟨r3, f3, i3, b3, l3⟩, ⟨r4, f4, i4, b4, l4⟩, ⟨r5, f5, i5, b5, l5⟩, m12, m21, m13, m31, m14, m41, m15, m51, m23, m32, m24, m42, m25, m52, m34, m43, m35, m53, m45, m54⟩ := St.facts5 hC
              clear hC
              go_simp
              have hC := hC'.out
              (first
                 | with_reducible rfl
                 | (skip
                    (first
                       | (go_at_call 17; refine (term_any _ _ _).mono ?_)
                       | (go_at_call 21; refine (text_any _ _ (by assumption) _).mono ?_)
                       | (go_at_call 18; refine (same_yes _ _ _ true (same_refl _ _) _).mono ?_)
                       | (go_at_call 19; refine (length_yes _ (by assumption) (by assumption) _).mono ?_)
                       | (go_at_call 8; refine (awake20_any _).mono ?_))
                    rintro e w' ⟨rfl, hw⟩
                    exact ⟨rfl, St.call (by assumption) hw⟩)))
       try simp only [Act.put, List.setIfInBounds_toArray, List.set])
      (first
         | (apply qw_skip rfl)
         | (apply qw_step rfl
            focus
              intro w0 hC
              (first
                 | exact eql_quiet 25 rfl rfl rfl Try.eqGuardType25 Try.underlying25 (by simp [go_sem]) (by simp [go_sem]) (by with_reducible assumption)
                 | exact neq_quiet 25 rfl rfl rfl Try.eqGuardType25 Try.underlying25 (by simp [go_sem]) (by simp [go_sem]) (by with_reducible assumption)))
         | (apply qw_step rfl
            focus
              intro w0 hC
              have hC' := Lib.hid hC
              obtain ⟨⟨r1, f1, i1, b1, l1⟩, ⟨r2, f2, i2, b2, l2⟩, ⟨r3, f3, i3, b3, l3⟩, ⟨r4, f4, i4, b4, l4⟩, ⟨r5, f5, i5, b5, l5⟩, m12, m21, m13, m31, m14, m41, m15, m51, m23, m32, m24, m42, m25, m52, m34, m43, m35, m53, m45, m54⟩ := St.facts5 hC
              clear hC
              go_simp
              have hC := hC'.out
              (first
                 | with_reducible rfl
                 | (skip
                    (first
                       | (go_at_call 17; refine (term_any _ _ _).mono ?_)
                       | (go_at_call 21; refine (text_any _ _ (by assumption) _).mono ?_)
                       | (go_at_call 18; refine (same_yes _ _ _ true (same_refl _ _) _).mono ?_)
                       | (go_at_call 19; refine (length_yes _ (by assumption) (by assumption) _).mono ?_)
                       | (go_at_call 8; refine (awake20_any _).mono ?_))
                    rintro e w' ⟨rfl, hw⟩
                    exact ⟨rfl, St.call (by assumption) hw⟩)))
       try simp only [Act.put, List.setIfInBounds_toArray, List.set])
      (first
         | (apply qw_skip rfl)
         | (apply qw_step rfl
            focus
              intro w0 hC
              (first
                 | exact eql_quiet 25 rfl rfl rfl Try.eqGuardType25 Try.underlying25 (by simp [go_sem]) (by simp [go_sem]) (by with_reducible assumption)
                 | exact neq_quiet 25 rfl rfl rfl Try.eqGuardType25 Try.underlying25 (by simp [go_sem]) (by simp [go_sem]) (by with_reducible assumption)))
         | (apply qw_step rfl
            focus
              intro w0 hC
              have hC' := Lib.hid hC
              obtain ⟨⟨r1, f1, i1, b1, l1⟩, ⟨r2, f2, i2, b2, l2⟩, ⟨r3, f3, i3, b3, l3⟩, ⟨r4, f4, i4, b4, l4⟩, ⟨r5, f5, i5, b5, l5⟩, m12, m21, m13, m31, m14, m41, m15, m51, m23, m32, m24, m42, m25, m52, m34, m43, m35, m53, m45, m54⟩ := St.facts5 hC
              clear hC
              go_simp
              have hC := hC'.out
              (first
                 | with_reducible rfl
                 | (skip
                    (first
                       | (go_at_call 17; refine (term_any _ _ _).mono ?_)
                       | (go_at_call 21; refine (text_any _ _ (by assumption) _).mono ?_)
                       | (go_at_call 18; refine (same_yes _ _ _ true (same_refl _ _) _).mono ?_)
                       | (go_at_call 19; refine (length_yes _ (by assumption) (by assumption) _).mono ?_)
                       | (go_at_call 8; refine (awake20_any _).mono ?_))
                    rintro e w' ⟨rfl, hw⟩
                    exact ⟨rfl, St.call (by assumption) hw⟩)))
       try simp only [Act.put, List.setIfInBounds_toArray, List.set])
      (first
         | (apply qw_skip rfl)
         | (apply qw_step rfl
            focus
              intro w0 hC
              (first
                 | exact eql_quiet 25 rfl rfl rfl Try.eqGuardType25 Try.underlying25 (by simp [go_sem]) (by simp [go_sem]) (by with_reducible assumption)
                 | exact neq_quiet 25 rfl rfl rfl Try.eqGuardType25 Try.underlying25 (by simp [go_sem]) (by simp [go_sem]) (by with_reducible assumption)))
         | (apply qw_step rfl
            focus
              intro w0 hC
              have hC' := Lib.hid hC
              obtain ⟨⟨r1, f1, i1, b1, l1⟩, ⟨r2, f2, i2, b2, l2⟩, ⟨r3, f3, i3, b3, l3⟩, ⟨r4, f4, i4, b4, l4⟩, ⟨r5, f5, i5, b5, l5⟩, m12, m21, m13, m31, m14, m41, m15, m51, m23, m32, m24, m42, m25, m52, m34, m43, m35, m53, m45, m54⟩ := St.facts5 hC
              clear hC
              go_simp
              have hC := hC'.out
              (first
                 | with_reducible rfl
                 | (skip
                    (first
                       | (go_at_call 17; refine (term_any _ _ _).mono ?_)
                       | (go_at_call 21; refine (text_any _ _ (by assumption) _).mono ?_)
                       | (go_at_call 18; refine (same_yes _ _ _ true (same_refl _ _) _).mono ?_)
                       | (go_at_call 19; refine (length_yes _ (by assumption) (by assumption) _).mono ?_)
                       | (go_at_call 8; refine (awake20_any _).mono ?_))
                    rintro e w' ⟨rfl, hw⟩
                    exact ⟨rfl, St.call (by assumption) hw⟩)))
       try simp only [Act.put, List.setIfInBounds_toArray, List.set])
      (first
         | (apply qw_skip rfl)
         | (apply qw_step rfl
            focus
              intro w0 hC
              (first
                 | exact eql_quiet 25 rfl rfl rfl Try.eqGuardType25 Try.underlying25 (by simp [go_sem]) (by simp [go_sem]) (by with_reducible assumption)
                 | exact neq_quiet 25 rfl rfl rfl Try.eqGuardType25 Try.underlying25 (by simp [go_sem]) (by simp [go_sem]) (by with_reducible assumption)))
         | (apply qw_step rfl
            focus
              intro w0 hC
              have hC' := Lib.hid hC
              obtain ⟨⟨r1, f1, i1, b1, l1⟩, ⟨r2, f2, i2, b2, l2⟩, ⟨r3, f3, i3, b3, l3⟩, ⟨r4, f4, i4, b4, l4⟩, ⟨r5, f5, i5, b5, l5⟩, m12, m21, m13, m31, m14, m41, m15, m51, m23, m32, m24, m42, m25, m52, m34, m43, m35, m53, m45, m54⟩ := St.facts5 hC
              clear hC
              go_simp
              have hC := hC'.out
              (first
                 | with_reducible rfl
                 | (skip
                    (first
                       | (go_at_call 17; refine (term_any _ _ _).mono ?_)
                       | (go_at_call 21; refine (text_any _ _ (by assumption) _).mono ?_)
                       | (go_at_call 18; refine (same_yes _ _ _ true (same_refl _ _) _).mono ?_)
                       | (go_at_call 19; refine (length_yes _ (by assumption) (by assumption) _).mono ?_)
                       | (go_at_call 8; refine (awake20_any _).mono ?_))
                    rintro e w' ⟨rfl, hw⟩
                    exact ⟨rfl, St.call (by assumption) hw⟩)))
       try simp only [Act.put, List.setIfInBounds_toArray, List.set])
      (first
         | (apply qw_skip rfl)
         | (apply qw_step rfl
            focus
              intro w0 hC
              (first
                 | exact eql_quiet 25 rfl rfl rfl Try.eqGuardType25 Try.underlying25 (by simp [go_sem]) (by simp [go_sem]) (by with_reducible assumption)
                 | exact neq_quiet 25 rfl rfl rfl Try.eqGuardType25 Try.underlying25 (by simp [go_sem]) (by simp [go_sem]) (by with_reducible assumption)))
         | (apply qw_step rfl
            focus
              intro w0 hC
              have hC' := Lib.hid hC
              obtain ⟨⟨r1, f1, i1, b1, l1⟩, ⟨r2, f2, i2, b2, l2⟩, ⟨r3, f3, i3, b3, l3⟩, ⟨r4, f4, i4, b4, l4⟩, ⟨r5, f5, i5, b5, l5⟩, m12, m21, m13, m31, m14, m41, m15, m51, m23, m32, m24, m42, m25, m52, m34, m43, m35, m53, m45, m54⟩ := St.facts5 hC
              clear hC
              go_simp
              have hC := hC'.out
              (first
                 | with_reducible rfl
                 | (skip
                    (first
                       | (go_at_call 17; refine (term_any _ _ _).mono ?_)
                       | (go_at_call 21; refine (text_any _ _ (by assumption) _).mono ?_)
                       | (go_at_call 18; refine (same_yes _ _ _ true (same_refl _ _) _).mono ?_)
                       | (go_at_call 19; refine (length_yes _ (by assumption) (by assumption) _).mono ?_)
                       | (go_at_call 8; refine (awake20_any _).mono ?_))
                    rintro e w' ⟨rfl, hw⟩
                    exact ⟨rfl, St.call (by assumption) hw⟩)))
       try simp only [Act.put, List.setIfInBounds_toArray, List.set])
      (first
         | (apply qw_skip rfl)
         | (apply qw_step rfl
            focus
              intro w0 hC
              (first
                 | exact eql_quiet 25 rfl rfl rfl Try.eqGuardType25 Try.underlying25 (by simp [go_sem]) (by simp [go_sem]) (by with_reducible assumption)
                 | exact neq_quiet 25 rfl rfl rfl Try.eqGuardType25 Try.underlying25 (by simp [go_sem]) (by simp [go_sem]) (by with_reducible assumption)))
         | (apply qw_step rfl
            focus
              intro w0 hC
              have hC' := Lib.hid hC
              obtain ⟨⟨r1, f1, i1, b1, l1⟩, ⟨r2, f2, i2, b2, l2⟩, ⟨r3, f3, i3, b3, l3⟩, ⟨r4, f4, i4, b4, l4⟩, ⟨r5, f5, i5, b5, l5⟩, m12, m21, m13, m31, m14, m41, m15, m51, m23, m32, m24, m42, m25, m52, m34, m43, m35, m53, m45, m54⟩ := St.facts5 hC
              clear hC
              go_simp
              have hC := hC'.out
              (first
                 | with_reducible rfl
                 | (skip
                    (first
                       | (go_at_call 17; refine (term_any _ _ _).mono ?_)
                       | (go_at_call 21; refine (text_any _ _ (by assumption) _).mono ?_)
                       | (go_at_call 18; refine (same_yes _ _ _ true (same_refl _ _) _).mono ?_)
                       | (go_at_call 19; refine (length_yes _ (by assumption) (by assumption) _).mono ?_)
                       | (go_at_call 8; refine (awake20_any _).mono ?_))
                    rintro e w' ⟨rfl, hw⟩
                    exact ⟨rfl, St.call (by assumption) hw⟩)))
       try simp only [Act.put, List.setIfInBounds_toArray, List.set])
      (first
         | (apply qw_skip rfl)
         | (apply qw_step rfl
            focus
              intro w0 hC
              (first
                 | exact eql_quiet 25 rfl rfl rfl Try.eqGuardType25 Try.underlying25 (by simp [go_sem]) (by simp [go_sem]) (by with_reducible assumption)
                 | exact neq_quiet 25 rfl rfl rfl Try.eqGuardType25 Try.underlying25 (by simp [go_sem]) (by simp [go_sem]) (by with_reducible assumption)))
         | (apply qw_step rfl
            focus
              intro w0 hC
              have hC' := Lib.hid hC
              obtain ⟨⟨r1, f1, i1, b1, l1⟩, ⟨r2, f2, i2, b2, l2⟩, ⟨r3, f3, i3, b3, l3⟩, ⟨r4, f4, i4, b4, l4⟩, ⟨r5, f5, i5, b5, l5⟩, m12, m21, m13, m31, m14, m41, m15, m51, m23, m32, m24, m42, m25, m52, m34, m43, m35, m53, m45, m54⟩ := St.facts5 hC
              clear hC
              go_simp
              have hC := hC'.out
              (first
                 | with_reducible rfl
                 | (skip
                    (first
                       | (go_at_call 17; refine (term_any _ _ _).mono ?_)
                       | (go_at_call 21; refine (text_any _ _ (by assumption) _).mono ?_)
                       | (go_at_call 18; refine (same_yes _ _ _ true (same_refl _ _) _).mono ?_)
                       | (go_at_call 19; refine (length_yes _ (by assumption) (by assumption) _).mono ?_)
                       | (go_at_call 8; refine (awake20_any _).mono ?_))
                    rintro e w' ⟨rfl, hw⟩
                    exact ⟨rfl, St.call (by assumption) hw⟩)))
       try simp only [Act.put, List.setIfInBounds_toArray, List.set])
      (first
         | (apply qw_skip rfl)
         | (apply qw_step rfl
            focus
              intro w0 hC
              (first
                 | exact eql_quiet 25 rfl rfl rfl Try.eqGuardType25 Try.underlying25 (by simp [go_sem]) (by simp [go_sem]) (by with_reducible assumption)
                 | exact neq_quiet 25 rfl rfl rfl Try.eqGuardType25 Try.underlying25 (by simp [go_sem]) (by simp [go_sem]) (by with_reducible assumption)))
         | (apply qw_step rfl
            focus
              intro w0 hC
              have hC' := Lib.hid hC
              obtain ⟨⟨r1, f1, i1, b1, l1⟩, ⟨r2, f2, i2, b2, l2⟩, ⟨r3, f3, i3, b3, l3⟩, ⟨r4, f4, i4, b4, l4⟩, ⟨r5, f5, i5, b5, l5⟩, m12, m21, m13, m31, m14, m41, m15, m51, m23, m32, m24, m42, m25, m52, m34, m43, m35, m53, m45, m54⟩ := St.facts5 hC
              clear hC
              go_simp
              have hC := hC'.out
              (first
                 | with_reducible rfl
                 | (skip
                    (first
                       | (go_at_call 17; refine (term_any _ _ _).mono ?_)
                       | (go_at_call 21; refine (text_any _ _ (by assumption) _).mono ?_)
                       | (go_at_call 18; refine (same_yes _ _ _ true (same_refl _ _) _).mono ?_)
                       | (go_at_call 19; refine (length_yes _ (by assumption) (by assumption) _).mono ?_)
                       | (go_at_call 8; refine (awake20_any _).mono ?_))
                    rintro e w' ⟨rfl, hw⟩
                    exact ⟨rfl, St.call (by assumption) hw⟩)))
       try simp only [Act.put, List.setIfInBounds_toArray, List.set])
      (first
         | (apply qw_skip rfl)
         | (apply qw_step rfl
            focus
              intro w0 hC
              (first
                 | exact eql_quiet 25 rfl rfl rfl Try.eqGuardType25 Try.underlying25 (by simp [go_sem]) (by simp [go_sem]) (by with_reducible assumption)
                 | exact neq_quiet 25 rfl rfl rfl Try.eqGuardType25 Try.underlying25 (by simp [go_sem]) (by simp [go_sem]) (by with_reducible assumption)))
         | (apply qw_step rfl
            focus
              intro w0 hC
              have hC' := Lib.hid hC
              obtain ⟨⟨r1, f1, i1, b1, l1⟩, ⟨r2, f2, i2, b2, l2⟩, ⟨r3, f3, i3, b3, l3⟩, ⟨r4, f4, i4, b4, l4⟩, ⟨r5, f5, i5, b5, l5⟩, m12, m21, m13, m31, m14, m41, m15, m51, m23, m32, m24, m42, m25, m52, m34, m43, m35, m53, m45, m54⟩ := St.facts5 hC
              clear hC
              go_simp
              have hC := hC'.out
              (first
                 | with_reducible rfl
                 | (skip
                    (first
                       | (go_at_call 17; refine (term_any _ _ _).mono ?_)
                       | (go_at_call 21; refine (text_any _ _ (by assumption) _).mono ?_)
                       | (go_at_call 18; refine (same_yes _ _ _ true (same_refl _ _) _).mono ?_)
                       | (go_at_call 19; refine (length_yes _ (by assumption) (by assumption) _).mono ?_)
                       | (go_at_call 8; refine (awake20_any _).mono ?_))
                    rintro e w' ⟨rfl, hw⟩
                    exact ⟨rfl, St.call (by assumption) hw⟩)))
       try simp only [Act.put, List.setIfInBounds_toArray, List.set])
      (first
         | (apply qw_skip rfl)
         | (apply qw_step rfl
            focus
              intro w0 hC
              (first
                 | exact eql_quiet 25 rfl rfl rfl Try.eqGuardType25 Try.underlying25 (by simp [go_sem]) (by simp [go_sem]) (by with_reducible assumption)
                 | exact neq_quiet 25 rfl rfl rfl Try.eqGuardType25 Try.underlying25 (by simp [go_sem]) (by simp [go_sem]) (by with_reducible assumption)))
         | (apply qw_step rfl
            focus
              intro w0 hC
              have hC' := Lib.hid hC
              obtain ⟨⟨r1, f1, i1, b1, l1⟩, ⟨r2, f2, i2, b2, l2⟩, ⟨r3, f3, i3, b3, l3⟩, ⟨r4, f4, i4, b4, l4⟩, ⟨r5, f5, i5, b5, l5⟩, m12, m21, m13, m31, m14, m41, m15, m51, m23, m32, m24, m42, m25, m52, m34, m43, m35, m53, m45, m54⟩ := St.facts5 hC
              clear hC
              go_simp
              have hC := hC'.out
              (first
                 | with_reducible rfl
                 | (skip
                    (first
                       | (go_at_call 17; refine (term_any _ _ _).mono ?_)
                       | (go_at_call 21; refine (text_any _ _ (by assumption) _).mono ?_)
                       | (go_at_call 18; refine (same_yes _ _ _ true (same_refl _ _) _).mono ?_)
                       | (go_at_call 19; refine (length_yes _ (by assumption) (by assumption) _).mono ?_)
                       | (go_at_call 8; refine (awake20_any _).mono ?_))
                    rintro e w' ⟨rfl, hw⟩
                    exact ⟨rfl, St.call (by assumption) hw⟩)))
       try simp only [Act.put, List.setIfInBounds_toArray, List.set])
      refine qw_nil ?_
      intro w4 hC
      go_wp2_with fail
      go_meet
      exact ⟨rfl, Lib.hid hC⟩
    · cases b1
      · have e0 := E0'.out
        have e1 := E1'.out
        refine St.qregion HC.out (by kernel_rfl) (by decide +kernel) ?_
        (first
           | (apply qw_skip rfl)
           | (apply qw_step rfl
              focus
                intro w0 hC
                (first
                   | exact eql_quiet 25 rfl rfl rfl Try.eqGuardType25 Try.underlying25 (by simp [go_sem]) (by simp [go_sem]) (by with_reducible assumption)
                   | exact neq_quiet 25 rfl rfl rfl Try.eqGuardType25 Try.underlying25 (by simp [go_sem]) (by simp [go_sem]) (by with_reducible assumption)))
           | (apply qw_step rfl
              focus
                intro w0 hC
                have hC' := Lib.hid hC
                obtain ⟨⟨r1, f1, i1, b1, l1⟩, ⟨r2, f2, i2, b2, l2⟩, ⟨r3, f3, i3, b3, l3⟩, ⟨r4, f4, i4, b4, l4⟩, ⟨r5, f5, i5, b5, l5⟩, m12, m21, m13, m31, m14, m41, m15, m51, m23, m32, m24, m42, m25, m52, m34, m43, m35, m53, m45, m54⟩ := St.facts5 hC
                clear hC
                go_simp
                have hC := hC'.out
                (first
                   | with_reducible rfl
                   | (skip
                      (first
                         | (go_at_call 17; refine (term_any _ _ _).mono ?_)
                         | (go_at_call 21; refine (text_any _ _ (by assumption) _).mono ?_)
                         | (go_at_call 18; refine (same_yes _ _ _ true (same_refl _ _) _).mono ?_)
                         | (go_at_call 19; refine (length_yes _ (by assumption) (by assumption) _).mono ?_)
                         | (go_at_call 8; refine (awake20_any _).mono ?_))
                      rintro e w' ⟨rfl, hw⟩
                      exact ⟨rfl, St.call (by assumption) hw⟩)))
         try simp only [Act.put, List.setIfInBounds_toArray, List.set])
        (first
           | (apply qw_skip rfl)
           | (apply qw_step rfl
              focus
                intro w0 hC
                (first
                   | exact eql_quiet 25 rfl rfl rfl Try.eqGuardType25 Try.underlying25 (by simp [go_sem]) (by simp [go_sem]) (by with_reducible assumption)
                   | exact neq_quiet 25 rfl rfl rfl Try.eqGuardType25 Try.underlying25 (by simp [go_sem]) (by simp [go_sem]) (by with_reducible assumption)))
           | (apply qw_step rfl
              focus
                intro w0 hC
                have hC' := Lib.hid hC
                obtain ⟨⟨r1, f1, i1, b1, l1⟩, ⟨r2, f2, i2, b2, l2⟩, ⟨r3, f3, i3, b3, l3⟩, ⟨r4, f4, i4, b4, l4⟩, ⟨r5, f5, i5, b5, l5⟩, m12, m21, m13, m31, m14, m41, m15, m51, m23, m32, m24, m42, m25, m52, m34, m43, m35, m53, m45, m54⟩ := St.facts5 hC
                clear hC
                go_simp
                have hC := hC'.out
                (first
                   | with_reducible rfl
                   | (skip
                      (first
                         | (go_at_call 17; refine (term_any _ _ _).mono ?_)
                         | (go_at_call 21; refine (text_any _ _ (by assumption) _).mono ?_)
                         | (go_at_call 18; refine (same_yes _ _ _ true (same_refl _ _) _).mono ?_)
                         | (go_at_call 19; refine (length_yes _ (by assumption) (by assumption) _).mono ?_)
                         | (go_at_call 8; refine (awake20_any _).mono ?_))
                      rintro e w' ⟨rfl, hw⟩
                      exact ⟨rfl, St.call (by assumption) hw⟩)))
         try simp only [Act.put, List.setIfInBounds_toArray, List.set])
        (first
           | (apply qw_skip rfl)
           | (apply qw_step rfl
              focus
                intro w0 hC
                (first
                   | exact eql_quiet 25 rfl rfl rfl Try.eqGuardType25 Try.underlying25 (by simp [go_sem]) (by simp [go_sem]) (by with_reducible assumption)
                   | exact neq_quiet 25 rfl rfl rfl Try.eqGuardType25 Try.underlying25 (by simp [go_sem]) (by simp [go_sem]) (by with_reducible assumption)))
           | (apply qw_step rfl
              focus
                intro w0 hC
                have hC' := Lib.hid hC
                obtain ⟨⟨r1, f1, i1, b1, l1⟩, ⟨r2, f2, i2, b2, l2⟩, ⟨r3, f3, i3, b3, l3⟩, ⟨r4, f4, i4, b4, l4⟩, ⟨r5, f5, i5, b5, l5⟩, m12, m21, m13, m31, m14, m41, m15, m51, m23, m32, m24, m42, m25, m52, m34, m43, m35, m53, m45, m54⟩ := St.facts5 hC
                clear hC
                go_simp
                have hC := hC'.out
                (first
                   | with_reducible rfl
                   | (skip
                      (first
                         | (go_at_call 17; refine (term_any _ _ _).mono ?_)
                         | (go_at_call 21; refine (text_any _ _ (by assumption) _).mono ?_)
                         | (go_at_call 18; refine (same_yes _ _ _ true (same_refl _ _) _).mono ?_)
                         | (go_at_call 19; refine (length_yes _ (by assumption) (by assumption) _).mono ?_)
                         | (go_at_call 8; refine (awake20_any _).mono ?_))
                      rintro e w' ⟨rfl, hw⟩
                      exact ⟨rfl, St.call (by assumption) hw⟩)))
         try simp only [Act.put, List.setIfInBounds_toArray, List.set])
        (first
           | (apply qw_skip rfl)
           | (apply qw_step rfl
              focus
                intro w0 hC
                (first
                   | exact eql_quiet 25 rfl rfl rfl Try.eqGuardType25 Try.underlying25 (by simp [go_sem]) (by simp [go_sem]) (by with_reducible assumption)
                   | exact neq_quiet 25 rfl rfl rfl Try.eqGuardType25 Try.underlying25 (by simp [go_sem]) (by simp [go_sem]) (by with_reducible assumption)))
           | (apply qw_step rfl
              focus
                intro w0 hC
                have hC' := Lib.hid hC
                obtain ⟨⟨r1, f1, i1, b1, l1⟩, ⟨r2, f2, i2, b2, l2⟩, ⟨r3, f3, i3, b3, l3⟩, ⟨r4, f4, i4, b4, l4⟩, ⟨r5, f5, i5, b5, l5⟩, m12, m21, m13, m31, m14, m41, m15, m51, m23, m32, m24, m42, m25, m52, m34, m43, m35, m53, m45, m54⟩ := St.facts5 hC
                clear hC
                go_simp
                have hC := hC'.out
                (first
                   | with_reducible rfl
                   | (skip
                      (first
                         | (go_at_call 17; refine (term_any _ _ _).mono ?_)
                         | (go_at_call 21; refine (text_any _ _ (by assumption) _).mono ?_)
                         | (go_at_call 18; refine (same_yes _ _ _ true (same_refl _ _) _).mono ?_)
                         | (go_at_call 19; refine (length_yes _ (by assumption) (by assumption) _).mono ?_)
                         | (go_at_call 8; refine (awake20_any _).mono ?_))
                      rintro e w' ⟨rfl, hw⟩
                      exact ⟨rfl, St.call (by assumption) hw⟩)))
         try simp only [Act.put, List.setIfInBounds_toArray, List.set])
        (first
           | (apply qw_skip rfl)
           | (apply qw_step rfl
              focus
                intro w0 hC
                (first
                   | exact eql_quiet 25 rfl rfl rfl Try.eqGuardType25 Try.underlying25 (by simp [go_sem]) (by simp [go_sem]) (by with_reducible assumption)
                   | exact neq_quiet 25 rfl rfl rfl Try.eqGuardType25 Try.underlying25 (by simp [go_sem]) (by simp [go_sem]) (by with_reducible assumption)))
           | (apply qw_step rfl
              focus
                intro w0 hC
                have hC' := Lib.hid hC
                obtain ⟨⟨r1, f1, i1, b1, l1⟩, ⟨r2, f2, i2, b2, l2⟩, ⟨r3, f3, i3, b3, l3⟩, ⟨r4, f4, i4, b4, l4⟩, ⟨r5, f5, i5, b5, l5⟩, m12, m21, m13, m31, m14, m41, m15, m51, m23, m32, m24, m42, m25, m52, m34, m43, m35, m53, m45, m54⟩ := St.facts5 hC
                clear hC
                go_simp
                have hC := hC'.out
                (first
                   | with_reducible rfl
                   | (skip
                      (first
                         | (go_at_call 17; refine (term_any _ _ _).mono ?_)
                         | (go_at_call 21; refine (text_any _ _ (by assumption) _).mono ?_)
                         | (go_at_call 18; refine (same_yes _ _ _ true (same_refl _ _) _).mono ?_)
                         | (go_at_call 19; refine (length_yes _ (by assumption) (by assumption) _).mono ?_)
                         | (go_at_call 8; refine (awake20_any _).mono ?_))
                      rintro e w' ⟨rfl, hw⟩
                      exact ⟨rfl, St.call (by assumption) hw⟩)))
         try simp only [Act.put, List.setIfInBounds_toArray, List.set])
        (first
           | (apply qw_skip rfl)
           | (apply qw_step rfl
              focus
                intro w0 hC
                (first
                   | exact eql_quiet 25 rfl rfl rfl Try.eqGuardType25 Try.underlying25 (by simp [go_sem]) (by simp [go_sem]) (by with_reducible assumption)
                   | exact neq_quiet 25 rfl rfl rfl Try.eqGuardType25 Try.underlying25 (by simp [go_sem]) (by simp [go_sem]) (by with_reducible assumption)))
           | (apply qw_step rfl
              focus
                intro w0 hC
                have hC' := Lib.hid hC
                obtain ⟨⟨r1, f1, i1, b1, l1⟩, ⟨r2, f2, i2, b2, l2⟩, ⟨r3, f3, i3, b3, l3⟩, ⟨r4, f4, i4, b4, l4⟩, ⟨r5, f5, i5, b5, l5⟩, m12, m21, m13, m31, m14, m41, m15, m51, m23, m32, m24, m42, m25, m52, m34, m43, m35, m53, m45, m54⟩ := St.facts5 hC
                clear hC
                go_simp
                have hC := hC'.out
                (first
                   | with_reducible rfl
                   | (skip
                      (first
                         | (go_at_call 17; refine (term_any _ _ _).mono ?_)
                         | (go_at_call 21; refine (text_any _ _ (by assumption) _).mono ?_)
                         | (go_at_call 18; refine (same_yes _ _ _ true (same_refl _ _) _).mono ?_)
                         | (go_at_call 19; refine (length_yes _ (by assumption) (by assumption) _).mono ?_)
                         | (go_at_call 8; refine (awake20_any _).mono ?_))
                      rintro e w' ⟨rfl, hw⟩
                      exact ⟨rfl, St.call (by assumption) hw⟩)))
         try simp only [Act.put, List.setIfInBounds_toArray, List.set])
        (first
           | (apply qw_skip rfl)
           | (apply qw_step rfl
              focus
                intro w0 hC
                (first
                   | exact eql_quiet 25 rfl rfl rfl Try.eqGuardType25 Try.underlying25 (by simp [go_sem]) (by simp [go_sem]) (by with_reducible assumption)
                   | exact neq_quiet 25 rfl rfl rfl Try.eqGuardType25 Try.underlying25 (by simp [go_sem]) (by simp [go_sem]) (by with_reducible assumption)))
           | (apply qw_step rfl
              focus
                intro w0 hC
                have hC' := Lib.hid hC
                obtain ⟨⟨r1, f1, i1, b1, l1⟩, ⟨r2, f2, i2, b2, l2⟩, ⟨r3, f3, i3, b3, l3⟩, ⟨r4, f4, i4, b4, l4⟩, ⟨r5, f5, i5, b5, l5⟩, m12, m21, m13, m31, m14, m41, m15, m51, m23, m32, m24, m42, m25, m52, m34, m43, m35, m53, m45, m54⟩ := St.facts5 hC
                clear hC
                go_simp
                have hC := hC'.out
                (first
                   | with_reducible rfl
                   | (skip
                      (first
                         | (go_at_call 17; refine (term_any _ _ _).mono ?_)
                         | (go_at_call 21; refine (text_any _ _ (by assumption) _).mono ?_)
                         | (go_at_call 18; refine (same_yes _ _ _ true (same_refl _ _) _).mono ?_)
                         | (go_at_call 19; refine (length_yes _ (by assumption) (by assumption) _).mono ?_)
                         | (go_at_call 8; refine (awake20_any _).mono ?_))
                      rintro e w' ⟨rfl, hw⟩
                      exact ⟨rfl, St.call (by assumption) hw⟩)))
         try simp only [Act.put, List.setIfInBounds_toArray, List.set])
        (first
           | (apply qw_skip rfl)
           | (apply qw_step rfl
              focus
                intro w0 hC
                (first
                   | exact eql_quiet 25 rfl rfl rfl Try.eqGuardType25 Try.underlying25 (by simp [go_sem]) (by simp [go_sem]) (by with_reducible assumption)
                   | exact neq_quiet 25 rfl rfl rfl Try.eqGuardType25 Try.underlying25 (by simp [go_sem]) (by simp [go_sem]) (by with_reducible assumption)))
           | (apply qw_step rfl
              focus
                intro w0 hC
                have hC' := Lib.hid hC
                obtain ⟨⟨r1, f1, i1, b1, l1⟩, ⟨r2, f2, i2, b2, l2⟩, ⟨r3, f3, i3, b3, l3⟩, ⟨r4, f4, i4, b4, l4⟩, ⟨r5, f5, i5, b5, l5⟩, m12, m21, m13, m31, m14, m41, m15, m51, m23, m32, m24, m42, m25, m52, m34, m43, m35, m53, m45, m54⟩ := St.facts5 hC
                clear hC
                go_simp
                have hC := hC'.out
                (first
                   | with_reducible rfl
                   | (skip
                      (first
                         | (go_at_call 17; refine (term_any _ _ _).mono ?_)
                         | (go_at_call 21; refine (text_any _ _ (by assumption) _).mono ?_)
                         | (go_at_call 18; refine (same_yes _ _ _ true (same_refl _ _) _).mono ?_)
                         | (go_at_call 19; refine (length_yes _ (by assumption) (by assumption) _).mono ?_)
                         | (go_at_call 8; refine (awake20_any _).mono ?_))
                      rintro e w' ⟨rfl, hw⟩
                      exact ⟨rfl, St.call (by assumption) hw⟩)))
         try simp only [Act.put, List.setIfInBounds_toArray, List.set])
        (first
           | (apply qw_skip rfl)
           | (apply qw_step rfl
              focus
                intro w0 hC
                (first
                   | exact eql_quiet 25 rfl rfl rfl Try.eqGuardType25 Try.underlying25 (by simp [go_sem]) (by simp [go_sem]) (by with_reducible assumption)
                   | exact neq_quiet 25 rfl rfl rfl Try.eqGuardType25 Try.underlying25 (by simp [go_sem]) (by simp [go_sem]) (by with_reducible assumption)))
           | (apply qw_step rfl
              focus
                intro w0 hC
                have hC' := Lib.hid hC
                obtain ⟨⟨r1, f1, i1, b1, l1⟩, ⟨r2, f2, i2, b2, l2⟩, ⟨r3, f3, i3, b3, l3⟩, ⟨r4, f4, i4, b4, l4⟩, ⟨r5, f5, i5, b5, l5⟩, m12, m21, m13, m31, m14, m41, m15, m51, m23, m32, m24, m42, m25, m52, m34, m43, m35, m53, m45, m54⟩ := St.facts5 hC
                clear hC
                go_simp
                have hC := hC'.out
                (first
                   | with_reducible rfl
                   | (skip
                      (first
                         | (go_at_call 17; refine (term_any _ _ _).mono ?_)
                         | (go_at_call 21; refine (text_any _ _ (by assumption) _).mono ?_)
                         | (go_at_call 18; refine (same_yes _ _ _ true (same_refl _ _) _).mono ?_)
                         | (go_at_call 19; refine (length_yes _ (by assumption) (by assumption) _).mono ?_)
                         | (go_at_call 8; refine (awake20_any _).mono ?_))
                      rintro e w' ⟨rfl, hw⟩
                      exact ⟨rfl, St.call (by assumption) hw⟩)))
         try simp only [Act.put, List.setIfInBounds_toArray, List.set])
        (first
           | (apply qw_skip rfl)
           | (apply qw_step rfl
              focus
                intro w0 hC
                (first
                   | exact eql_quiet 25 rfl rfl rfl Try.eqGuardType25 Try.underlying25 (by simp [go_sem]) (by simp [go_sem]) (by with_reducible assumption)
                   | exact neq_quiet 25 rfl rfl rfl Try.eqGuardType25 Try.underlying25 (by simp [go_sem]) (by simp [go_sem]) (by with_reducible assumption)))
           | (apply qw_step rfl
              focus
                intro w0 hC
                have hC' := Lib.hid hC
                obtain ⟨⟨r1, f1, i1, b1, l1⟩, ⟨r2, f2, i2, b2, l2⟩, ⟨r3, f3, i3, b3, l3⟩, ⟨r4, f4, i4, b4, l4⟩, ⟨r5, f5, i5, b5, l5⟩, m12, m21, m13, m31, m14, m41, m15, m51, m23, m32, m24, m42, m25, m52, m34, m43, m35, m53, m45, m54⟩ := St.facts5 hC
                clear hC
                go_simp
                have hC := hC'.out
                (first
                   | with_reducible rfl
                   | (skip
                      (first
                         | (go_at_call 17; refine (term_any _ _ _).mono ?_)
                         | (go_at_call 21; refine (text_any _ _ (by assumption) _).mono ?_)
                         | (go_at_call 18; refine (same_yes _ _ _ true (same_refl _ _) _).mono ?_)
                         | (go_at_call 19; refine (length_yes _ (by assumption) (by assumption) _).mono ?_)
                         | (go_at_call 8; refine (awake20_any _).mono ?_))
                      rintro e w' ⟨rfl, hw⟩
                      exact ⟨rfl, St.call (by assumption) hw⟩)))
         try simp only [Act.put, List.setIfInBounds_toArray, List.set])
        (first
           | (apply qw_skip rfl)
           | (apply qw_step rfl
              focus
                intro w0 hC
                (first
                   | exact eql_quiet 25 rfl rfl rfl Try.eqGuardType25 Try.underlying25 (by simp [go_sem]) (by simp [go_sem]) (by with_reducible assumption)
                   | exact neq_quiet 25 rfl rfl rfl Try.eqGuardType25 Try.underlying25 (by simp [go_sem]) (by simp [go_sem]) (by with_reducible assumption)))
           | (apply qw_step rfl
              focus
                intro w0 hC
                have hC' := Lib.hid hC
                obtain ⟨⟨r1, f1, i1, b1, l1⟩, ⟨r2, f2, i2, b2, l2⟩, ⟨r3, f3, i3, b3, l3⟩, ⟨r4, f4, i4, b4, l4⟩, ⟨r5, f5, i5, b5, l5⟩, m12, m21, m13, m31, m14, m41, m15, m51, m23, m32, m24, m42, m25, m52, m34, m43, m35, m53, m45, m54⟩ := St.facts5 hC
                clear hC
                go_simp
                have hC := hC'.out
                (first
                   | with_reducible rfl
                   | (skip
                      (first
                         | (go_at_call 17; refine (term_any _ _ _).mono ?_)
                         | (go_at_call 21; refine (text_any _ _ (by assumption) _).mono ?_)
                         | (go_at_call 18; refine (same_yes _ _ _ true (same_refl _ _) _).mono ?_)
                         | (go_at_call 19; refine (length_yes _ (by assumption) (by assumption) _).mono ?_)
                         | (go_at_call 8; refine (awake20_any _).mono ?_))
                      rintro e w' ⟨rfl, hw⟩
                      exact ⟨rfl, St.call (by assumption) hw⟩)))
         try simp only [Act.put, List.setIfInBounds_toArray, List.set])
        (first
           | (apply qw_skip rfl)
           | (apply qw_step rfl
              focus
                intro w0 hC
                (first
                   | exact eql_quiet 25 rfl rfl rfl Try.eqGuardType25 Try.underlying25 (by simp [go_sem]) (by simp [go_sem]) (by with_reducible assumption)
                   | exact neq_quiet 25 rfl rfl rfl Try.eqGuardType25 Try.underlying25 (by simp [go_sem]) (by simp [go_sem]) (by with_reducible assumption)))
           | (apply qw_step rfl
              focus
                intro w0 hC
                have hC' := Lib.hid hC
                obtain ⟨⟨r1, f1, i1, b1, l1⟩, ⟨r2, f2, i2, b2, l2⟩, ⟨r3, f3, i3, b3, l3⟩, ⟨r4, f4, i4, b4, l4⟩, ⟨r5, f5, i5, b5, l5⟩, m12, m21, m13, m31, m14, m41, m15, m51, m23, m32, m24, m42, m25, m52, m34, m43, m35, m53, m45, m54⟩ := St.facts5 hC
                clear hC
                go_simp
                have hC := hC'.out
                (first
                   | with_reducible rfl
                   | (skip
                      (first
                         | (go_at_call 17; refine (term_any _ _ _).mono ?_)
                         | (go_at_call 21; refine (text_any _ _ (by assumption) _).mono ?_)
                         | (go_at_call 18; refine (same_yes _ _ _ true (same_refl _ _) _).mono ?_)
                         | (go_at_call 19; refine (length_yes _ (by assumption) (by assumption) _).mono ?_)
                         | (go_at_call 8; refine (awake20_any _).mono ?_))
                      rintro e w' ⟨rfl, hw⟩
                      exact ⟨rfl, St.call (by assumption) hw⟩)))
         try simp only [Act.put, List.setIfInBounds_toArray, List.set])
        (first
           | (apply qw_skip rfl)
           | (apply qw_step rfl
              focus
                intro w0 hC
                (first
                   | exact eql_quiet 25 rfl rfl rfl Try.eqGuardType25 Try.underlying25 (by simp [go_sem]) (by simp [go_sem]) (by with_reducible assumption)
                   | exact neq_quiet 25 rfl rfl rfl Try.eqGuardType25 Try.underlying25 (by simp [go_sem]) (by simp [go_sem]) (by with_reducible assumption)))
           | (apply qw_step rfl
              focus
                intro w0 hC
                have hC' := Lib.hid hC
                obtain ⟨⟨r1, f1, i1, b1, l1⟩, ⟨r2, f2, i2, b2, l2⟩, ⟨r3, f3, i3, b3, l3⟩, ⟨r4, f4, i4, b4, l4⟩, ⟨r5, f5, i5, b5, l5⟩, m12, m21, m13, m31, m14, m41, m15, m51, m23, m32, m24, m42, m25, m52, m34, m43, m35, m53, m45, m54⟩ := St.facts5 hC
                clear hC
                go_simp
                have hC := hC'.out
                (first
                   | with_reducible rfl
                   | (skip
                      (first
                         | (go_at_call 17; refine (term_any _ _ _).mono ?_)
                         | (go_at_call 21; refine (text_any _ _ (by assumption) _).mono ?_)
                         | (go_at_call 18; refine (same_yes _ _ _ true (same_refl _ _) _).mono ?_)
                         | (go_at_call 19; refine (length_yes _ (by assumption) (by assumption) _).mono ?_)
                         | (go_at_call 8; refine (awake20_any _).mono ?_))
                      rintro e w' ⟨rfl, hw⟩
                      exact ⟨rfl, St.call (by assumption) hw⟩)))
         try simp only [Act.put, List.setIfInBounds_toArray, List.set])
        (first
           | (apply qw_skip rfl)
           | (apply qw_step rfl
              focus
                intro w0 hC
                (first
                   | exact eql_quiet 25 rfl rfl rfl Try.eqGuardType25 Try.underlying25 (by simp [go_sem]) (by simp [go_sem]) (by with_reducible assumption)
                   | exact neq_quiet 25 rfl rfl rfl Try.eqGuardType25 Try.underlying25 (by simp [go_sem]) (by simp [go_sem]) (by with_reducible assumption)))
           | (apply qw_step rfl
              focus
                intro w0 hC
                have hC' := Lib.hid hC
                obtain ⟨⟨r1, f1, i1, b1, l1⟩, ⟨r2, f2, i2, b2, l2⟩, ⟨r3, f3, i3, b3, l3⟩, ⟨r4, f4, i4, b4, l4⟩, ⟨r5, f5, i5, b5, l5⟩, m12, m21, m13, m31, m14, m41, m15, m51, m23, m32, m24, m42, m25, m52, m34, m43, m35, m53, m45, m54⟩ := St.facts5 hC
                clear hC
                go_simp
                have hC := hC'.out
                (first
                   | with_reducible rfl
                   | (skip
                      (first
                         | (go_at_call 17; refine (term_any _ _ _).mono ?_)
                         | (go_at_call 21; refine (text_any _ _ (by assumption) _).mono ?_)
                         | (go_at_call 18; refine (same_yes _ _ _ true (same_refl _ _) _).mono ?_)
                         | (go_at_call 19; refine (length_yes _ (by assumption) (by assumption) _).mono ?_)
                         | (go_at_call 8; refine (awake20_any _).mono ?_))
                      rintro e w' ⟨rfl, hw⟩
                      exact ⟨rfl, St.call (by assumption) hw⟩)))
         try simp only [Act.put, List.setIfInBounds_toArray, List.set])
        (first
           | (apply qw_skip rfl)
           | (apply qw_step rfl
              focus
                intro w0 hC
                (first
                   | exact eql_quiet 25 rfl rfl rfl Try.eqGuardType25 Try.underlying25 (by simp [go_sem]) (by simp [go_sem]) (by with_reducible assumption)
                   | exact neq_quiet 25 rfl rfl rfl Try.eqGuardType25 Try.underlying25 (by simp [go_sem]) (by simp [go_sem]) (by with_reducible assumption)))
           | (apply qw_step rfl
              focus
                intro w0 hC
                have hC' := Lib.hid hC
                obtain ⟨⟨r1, f1, i1, b1, l1⟩, ⟨r2, f2, i2, b2, l2⟩, ⟨r3, f3, i3, b3, l3⟩, ⟨r4, f4, i4, b4, l4⟩, ⟨r5, f5, i5, b5, l5⟩, m12, m21, m13, m31, m14, m41, m15, m51, m23, m32, m24, m42, m25, m52, m34, m43, m35, m53, m45, m54⟩ := St.facts5 hC
                clear hC
                go_simp
                have hC := hC'.out
                (first
                   | with_reducible rfl
                   | (skip
                      (first
                         | (go_at_call 17; refine (term_any _ _ _).mono ?_)
                         | (go_at_call 21; refine (text_any _ _ (by assumption) _).mono ?_)
                         | (go_at_call 18; refine (same_yes _ _ _ true (same_refl _ _) _).mono ?_)
                         | (go_at_call 19; refine (length_yes _ (by assumption) (by assumption) _).mono ?_)
                         | (go_at_call 8; refine (awake20_any _).mono ?_))
                      rintro e w' ⟨rfl, hw⟩
                      exact ⟨rfl, St.call (by assumption) hw⟩)))
         try simp only [Act.put, List.setIfInBounds_toArray, List.set])
        (first
           | (apply qw_skip rfl)
           | (apply qw_step rfl
              focus
                intro w0 hC
                (first
                   | exact eql_quiet 25 rfl rfl rfl Try.eqGuardType25 Try.underlying25 (by simp [go_sem]) (by simp [go_sem]) (by with_reducible assumption)
                   | exact neq_quiet 25 rfl rfl rfl Try.eqGuardType25 Try.underlying25 (by simp [go_sem]) (by simp [go_sem]) (by with_reducible assumption)))
           | (apply qw_step rfl
              focus
                intro w0 hC
                have hC' := Lib.hid hC
                obtain ⟨⟨r1, f1, i1, b1, l1⟩, ⟨r2, f2, i2, b2, l2⟩, ⟨r3, f3, i3, b3, l3⟩, ⟨r4, f4, i4, b4, l4⟩, ⟨r5, f5, i5, b5, l5⟩, m12, m21, m13, m31, m14, m41, m15, m51, m23, m32, m24, m42, m25, m52, m34, m43, m35, m53, m45, m54⟩ := St.facts5 hC
                clear hC
                go_simp
                have hC := hC'.out
                (first
                   | with_reducible rfl
                   | (skip
                      (first
                         | (go_at_call 17; refine (term_any _ _ _).mono ?_)
                         | (go_at_call 21; refine (text_any _ _ (by assumption) _).mono ?_)
                         | (go_at_call 18; refine (same_yes _ _ _ true (same_refl _ _) _).mono ?_)
                         | (go_at_call 19; refine (length_yes _ (by assumption) (by assumption) _).mono ?_)
                         | (go_at_call 8; refine (awake20_any _).mono ?_))
                      rintro e w' ⟨rfl, hw⟩
                      exact ⟨rfl, St.call (by assumption) hw⟩)))
         try simp only [Act.put, List.setIfInBounds_toArray, List.set])
        (first
           | (apply qw_skip rfl)
           | (apply qw_step rfl
              focus
                intro w0 hC
                (first
                   | exact eql_quiet 25 rfl rfl rfl Try.eqGuardType25 Try.underlying25 (by simp [go_sem]) (by simp [go_sem]) (by with_reducible assumption)
                   | exact neq_quiet 25 rfl rfl rfl Try.eqGuardType25 Try.underlying25 (by simp [go_sem]) (by simp [go_sem]) (by with_reducible assumption)))
           | (apply qw_step rfl
              focus
                intro w0 hC
                have hC' := Lib.hid hC
                obtain ⟨⟨r1, f1, i1, b1, l1⟩, ⟨r2, f2, i2, b2, l2⟩, ⟨r3, f3, i3, b3, l3⟩, ⟨r4, f4, i4, b4, l4⟩, ⟨r5, f5, i5, b5, l5⟩, m12, m21, m13, m31, m14, m41, m15, m51, m23, m32, m24, m42, m25, m52, m34, m43, m35, m53, m45, m54⟩ := St.facts5 hC
                clear hC
                go_simp
                have hC := hC'.out
                (first
                   | with_reducible rfl
                   | (skip
                      (first
                         | (go_at_call 17; refine (term_any _ _ _).mono ?_)
                         | (go_at_call 21; refine (text_any _ _ (by assumption) _).mono ?_)
                         | (go_at_call 18; refine (same_yes _ _ _ true (same_refl _ _) _).mono ?_)
                         | (go_at_call 19; refine (length_yes _ (by assumption) (by assumption) _).mono ?_)
                         | (go_at_call 8; refine (awake20_any _).mono ?_))
                      rintro e w' ⟨rfl, hw⟩
                      exact ⟨rfl, St.call (by assumption) hw⟩)))
         try simp only [Act.put, List.setIfInBounds_toArray, List.set])
        refine qw_nil ?_
        intro w4 hC
        go_wp2_with fail
        go_meet
        exact ⟨rfl, Lib.hid hC⟩
      · have e0 := E0'.out
        have e1 := E1'.out
        obtain ⟨v, hs, ht⟩ := HB.out rfl rfl
        have hvv : (v != v) = false := by simp
        refine St.qregion HC.out (by kernel_rfl) (by decide +kernel) ?_
        (first
           | (apply qw_skip rfl)
           | (apply qw_step rfl
              focus
                intro w0 hC
                (first
                   | exact eql_quiet 25 rfl rfl rfl Try.eqGuardType25 Try.underlying25 (by simp [go_sem]) (by simp [go_sem]) (by with_reducible assumption)
                   | exact neq_quiet 25 rfl rfl rfl Try.eqGuardType25 Try.underlying25 (by simp [go_sem]) (by simp [go_sem]) (by with_reducible assumption)))
           | (apply qw_step rfl
              focus
                intro w0 hC
                have hC' := Lib.hid hC
                obtain ⟨⟨r1, f1, i1, b1, l1⟩, ⟨r2, f2, i2, b2, l2⟩, ⟨r3, f3, i3, b3, l3⟩, ⟨r4, f4, i4, b4, l4⟩, ⟨r5, f5, i5, b5, l5⟩, m12, m21, m13, m31, m14, m41, m15, m51, m23, m32, m24, m42, m25, m52, m34, m43, m35, m53, m45, m54⟩ := St.facts5 hC
                clear hC
                go_simp
                have hC := hC'.out
                (first
                   | with_reducible rfl
                   | (skip
                      (first
                         | (go_at_call 17; refine (term_any _ _ _).mono ?_)
                         | (go_at_call 21; refine (text_any _ _ (by assumption) _).mono ?_)
                         | (go_at_call 18; refine (same_yes _ _ _ true (same_refl _ _) _).mono ?_)
                         | (go_at_call 19; refine (length_yes _ (by assumption) (by assumption) _).mono ?_)
                         | (go_at_call 8; refine (awake20_any _).mono ?_))
                      rintro e w' ⟨rfl, hw⟩
                      exact ⟨rfl, St.call (by assumption) hw⟩)))
         try simp only [Act.put, List.setIfInBounds_toArray, List.set])
        (first
           | (apply qw_skip rfl)
           | (apply qw_step rfl
              focus
                intro w0 hC
                (first
                   | exact eql_quiet 25 rfl rfl rfl Try.eqGuardType25 Try.underlying25 (by simp [go_sem]) (by simp [go_sem]) (by with_reducible assumption)
                   | exact neq_quiet 25 rfl rfl rfl Try.eqGuardType25 Try.underlying25 (by simp [go_sem]) (by simp [go_sem]) (by with_reducible assumption)))
           | (apply qw_step rfl
              focus
                intro w0 hC
                have hC' := Lib.hid hC
                obtain ⟨⟨r1, f1, i1, b1, l1⟩, ⟨r2, f2, i2, b2, l2⟩, ⟨r3, f3, i3, b3, l3⟩, ⟨r4, f4, i4, b4, l4⟩, ⟨r5, f5, i5, b5, l5⟩, m12, m21, m13, m31, m14, m41, m15, m51, m23, m32, m24, m42, m25, m52, m34, m43, m35, m53, m45, m54⟩ := St.facts5 hC
                clear hC
                go_simp
                have hC := hC'.out
                (first
                   | with_reducible rfl
                   | (skip
                      (first
                         | (go_at_call 17; refine (term_any _ _ _).mono ?_)
                         | (go_at_call 21; refine (text_any _ _ (by assumption) _).mono ?_)
                         | (go_at_call 18; refine (same_yes _ _ _ true (same_refl _ _) _).mono ?_)
                         | (go_at_call 19; refine (length_yes _ (by assumption) (by assumption) _).mono ?_)
                         | (go_at_call 8; refine (awake20_any _).mono ?_))
                      rintro e w' ⟨rfl, hw⟩
                      exact ⟨rfl, St.call (by assumption) hw⟩)))
         try simp only [Act.put, List.setIfInBounds_toArray, List.set])
        (first
           | (apply qw_skip rfl)
           | (apply qw_step rfl
              focus
                intro w0 hC
                (first
                   | exact eql_quiet 25 rfl rfl rfl Try.eqGuardType25 Try.underlying25 (by simp [go_sem]) (by simp [go_sem]) (by with_reducible assumption)
                   | exact neq_quiet 25 rfl rfl rfl Try.eqGuardType25 Try.underlying25 (by simp [go_sem]) (by simp [go_sem]) (by with_reducible assumption)))
           | (apply qw_step rfl
              focus
                intro w0 hC
                have hC' := Lib.hid hC
                obtain ⟨⟨r1, f1, i1, b1, l1⟩, ⟨r2, f2, i2, b2, l2⟩, ⟨r3, f3, i3, b3, l3⟩, ⟨r4, f4, i4, b4, l4⟩, ⟨r5, f5, i5, b5, l5⟩, m12, m21, m13, m31, m14, m41, m15, m51, m23, m32, m24, m42, m25, m52, m34, m43, m35, m53, m45, m54⟩ := St.facts5 hC
                clear hC
                go_simp
                have hC := hC'.out
                (first
                   | with_reducible rfl
                   | (skip
                      (first
                         | (go_at_call 17; refine (term_any _ _ _).mono ?_)
                         | (go_at_call 21; refine (text_any _ _ (by assumption) _).mono ?_)
                         | (go_at_call 18; refine (same_yes _ _ _ true (same_refl _ _) _).mono ?_)
                         | (go_at_call 19; refine (length_yes _ (by assumption) (by assumption) _).mono ?_)
                         | (go_at_call 8; refine (awake20_any _).mono ?_))
                      rintro e w' ⟨rfl, hw⟩
                      exact ⟨rfl, St.call (by assumption) hw⟩)))
         try simp only [Act.put, List.setIfInBounds_toArray, List.set])
        (first
           | (apply qw_skip rfl)
           | (apply qw_step rfl
              focus
                intro w0 hC
                (first
                   | exact eql_quiet 25 rfl rfl rfl Try.eqGuardType25 Try.underlying25 (by simp [go_sem]) (by simp [go_sem]) (by with_reducible assumption)
                   | exact neq_quiet 25 rfl rfl rfl Try.eqGuardType25 Try.underlying25 (by simp [go_sem]) (by simp [go_sem]) (by with_reducible assumption)))
           | (apply qw_step rfl
              focus
                intro w0 hC
                have hC' := Lib.hid hC
                obtain ⟨⟨r1, f1, i1, b1, l1⟩, ⟨r2, f2, i2, b2, l2⟩, ⟨r3, f3, i3, b3, l3⟩, ⟨r4, f4, i4, b4, l4⟩, ⟨r5, f5, i5, b5, l5⟩, m12, m21, m13, m31, m14, m41, m15, m51, m23, m32, m24, m42, m25, m52, m34, m43, m35, m53, m45, m54⟩ := St.facts5 hC
                clear hC
                go_simp
                have hC := hC'.out
                (first
                   | with_reducible rfl
                   | (skip
                      (first
                         | (go_at_call 17; refine (term_any _ _ _).mono ?_)
                         | (go_at_call 21; refine (text_any _ _ (by assumption) _).mono ?_)
                         | (go_at_call 18; refine (same_yes _ _ _ true (same_refl _ _) _).mono ?_)
                         | (go_at_call 19; refine (length_yes _ (by assumption) (by assumption) _).mono ?_)
                         | (go_at_call 8; refine (awake20_any _).mono ?_))
                      rintro e w' ⟨rfl, hw⟩
                      exact ⟨rfl, St.call (by assumption) hw⟩)))
         try simp only [Act.put, List.setIfInBounds_toArray, List.set])
        (first
           | (apply qw_skip rfl)
           | (apply qw_step rfl
              focus
                intro w0 hC
                (first
                   | exact eql_quiet 25 rfl rfl rfl Try.eqGuardType25 Try.underlying25 (by simp [go_sem]) (by simp [go_sem]) (by with_reducible assumption)
                   | exact neq_quiet 25 rfl rfl rfl Try.eqGuardType25 Try.underlying25 (by simp [go_sem]) (by simp [go_sem]) (by with_reducible assumption)))
           | (apply qw_step rfl
              focus
                intro w0 hC
                have hC' := Lib.hid hC
                obtain ⟨⟨r1, f1, i1, b1, l1⟩, ⟨r2, f2, i2, b2, l2⟩, ⟨r3, f3, i3, b3, l3⟩, ⟨r4, f4, i4, b4, l4⟩, ⟨r5, f5, i5, b5, l5⟩, m12, m21, m13, m31, m14, m41, m15, m51, m23, m32, m24, m42, m25, m52, m34, m43, m35, m53, m45, m54⟩ := St.facts5 hC
                clear hC
                go_simp
                have hC := hC'.out
                (first
                   | with_reducible rfl
                   | (skip
                      (first
                         | (go_at_call 17; refine (term_any _ _ _).mono ?_)
                         | (go_at_call 21; refine (text_any _ _ (by assumption) _).mono ?_)
                         | (go_at_call 18; refine (same_yes _ _ _ true (same_refl _ _) _).mono ?_)
                         | (go_at_call 19; refine (length_yes _ (by assumption) (by assumption) _).mono ?_)
                         | (go_at_call 8; refine (awake20_any _).mono ?_))
                      rintro e w' ⟨rfl, hw⟩
                      exact ⟨rfl, St.call (by assumption) hw⟩)))
         try simp only [Act.put, List.setIfInBounds_toArray, List.set])
        (first
           | (apply qw_skip rfl)
           | (apply qw_step rfl
              focus
                intro w0 hC
                (first
                   | exact eql_quiet 25 rfl rfl rfl Try.eqGuardType25 Try.underlying25 (by simp [go_sem]) (by simp [go_sem]) (by with_reducible assumption)
                   | exact neq_quiet 25 rfl rfl rfl Try.eqGuardType25 Try.underlying25 (by simp [go_sem]) (by simp [go_sem]) (by with_reducible assumption)))
           | (apply qw_step rfl
              focus
                intro w0 hC
                have hC' := Lib.hid hC
                obtain ⟨⟨r1, f1, i1, b1, l1⟩, ⟨r2, f2, i2, b2, l2⟩, ⟨r3, f3, i3, b3, l3⟩, ⟨r4, f4, i4, b4, l4⟩, ⟨r5, f5, i5, b5, l5⟩, m12, m21, m13, m31, m14, m41, m15, m51, m23, m32, m24, m42, m25, m52, m34, m43, m35, m53, m45, m54⟩ := St.facts5 hC
                clear hC
                go_simp
                have hC := hC'.out
                (first
                   | with_reducible rfl
                   | (skip
                      (first
                         | (go_at_call 17; refine (term_any _ _ _).mono ?_)
                         | (go_at_call 21; refine (text_any _ _ (by assumption) _).mono ?_)
                         | (go_at_call 18; refine (same_yes _ _ _ true (same_refl _ _) _).mono ?_)
                         | (go_at_call 19; refine (length_yes _ (by assumption) (by assumption) _).mono ?_)
                         | (go_at_call 8; refine (awake20_any _).mono ?_))
                      rintro e w' ⟨rfl, hw⟩
                      exact ⟨rfl, St.call (by assumption) hw⟩)))
         try simp only [Act.put, List.setIfInBounds_toArray, List.set])
        (first
           | (apply qw_skip rfl)
           | (apply qw_step rfl
              focus
                intro w0 hC
                (first
                   | exact eql_quiet 25 rfl rfl rfl Try.eqGuardType25 Try.underlying25 (by simp [go_sem]) (by simp [go_sem]) (by with_reducible assumption)
                   | exact neq_quiet 25 rfl rfl rfl Try.eqGuardType25 Try.underlying25 (by simp [go_sem]) (by simp [go_sem]) (by with_reducible assumption)))
           | (apply qw_step rfl
              focus
                intro w0 hC
                have hC' := Lib.hid hC
                obtain ⟨⟨r1, f1, i1, b1, l1⟩, ⟨r2, f2, i2, b2, l2⟩, ⟨r3, f3, i3, b3, l3⟩, ⟨r4, f4, i4, b4, l4⟩, ⟨r5, f5, i5, b5, l5⟩, m12, m21, m13, m31, m14, m41, m15, m51, m23, m32, m24, m42, m25, m52, m34, m43, m35, m53, m45, m54⟩ := St.facts5 hC
                clear hC
                go_simp
                have hC := hC'.out
                (first
                   | with_reducible rfl
                   | (skip
                      (first
                         | (go_at_call 17; refine (term_any _ _ _).mono ?_)
                         | (go_at_call 21; refine (text_any _ _ (by assumption) _).mono ?_)
                         | (go_at_call 18; refine (same_yes _ _ _ true (same_refl _ _) _).mono ?_)
                         | (go_at_call 19; refine (length_yes _ (by assumption) (by assumption) _).mono ?_)
                         | (go_at_call 8; refine (awake20_any _).mono ?_))
                      rintro e w' ⟨rfl, hw⟩
                      exact ⟨rfl, St.call (by assumption) hw⟩)))
         try simp only [Act.put, List.setIfInBounds_toArray, List.set])
        (first
           | (apply qw_skip rfl)
           | (apply qw_step rfl
              focus
                intro w0 hC
                (first
                   | exact eql_quiet 25 rfl rfl rfl Try.eqGuardType25 Try.underlying25 (by simp [go_sem]) (by simp [go_sem]) (by with_reducible assumption)
                   | exact neq_quiet 25 rfl rfl rfl Try.eqGuardType25 Try.underlying25 (by simp [go_sem]) (by simp [go_sem]) (by with_reducible assumption)))
           | (apply qw_step rfl
              focus
                intro w0 hC
                have hC' := Lib.hid hC
                obtain ⟨⟨r1, f1, i1, b1, l1⟩, ⟨r2, f2, i2, b2, l2⟩, ⟨r3, f3, i3, b3, l3⟩, ⟨r4, f4, i4, b4, l4⟩, ⟨r5, f5, i5, b5, l5⟩, m12, m21, m13, m31, m14, m41, m15, m51, m23, m32, m24, m42, m25, m52, m34, m43, m35, m53, m45, m54⟩ := St.facts5 hC
                clear hC
                go_simp
                have hC := hC'.out
                (first
                   | with_reducible rfl
                   | (skip
                      (first
                         | (go_at_call 17; refine (term_any _ _ _).mono ?_)
                         | (go_at_call 21; refine (text_any _ _ (by assumption) _).mono ?_)
                         | (go_at_call 18; refine (same_yes _ _ _ true (same_refl _ _) _).mono ?_)
                         | (go_at_call 19; refine (length_yes _ (by assumption) (by assumption) _).mono ?_)
                         | (go_at_call 8; refine (awake20_any _).mono ?_))
                      rintro e w' ⟨rfl, hw⟩
                      exact ⟨rfl, St.call (by assumption) hw⟩)))
         try simp only [Act.put, List.setIfInBounds_toArray, List.set])
        (first
           | (apply qw_skip rfl)
           | (apply qw_step rfl
              focus
                intro w0 hC
                (first
                   | exact eql_quiet 25 rfl rfl rfl Try.eqGuardType25 Try.underlying25 (by simp [go_sem]) (by simp [go_sem]) (by with_reducible assumption)
                   | exact neq_quiet 25 rfl rfl rfl Try.eqGuardType25 Try.underlying25 (by simp [go_sem]) (by simp [go_sem]) (by with_reducible assumption)))
           | (apply qw_step rfl
              focus
                intro w0 hC
                have hC' := Lib.hid hC
                obtain ⟨⟨r1, f1, i1, b1, l1⟩, ⟨r2, f2, i2, b2, l2⟩, ⟨r3, f3, i3, b3, l3⟩, ⟨r4, f4, i4, b4, l4⟩, ⟨r5, f5, i5, b5, l5⟩, m12, m21, m13, m31, m14, m41, m15, m51, m23, m32, m24, m42, m25, m52, m34, m43, m35, m53, m45, m54⟩ := St.facts5 hC
                clear hC
                go_simp
                have hC := hC'.out
                (first
                   | with_reducible rfl
                   | (skip
                      (first
                         | (go_at_call 17; refine (term_any _ _ _).mono ?_)
                         | (go_at_call 21; refine (text_any _ _ (by assumption) _).mono ?_)
                         | (go_at_call 18; refine (same_yes _ _ _ true (same_refl _ _) _).mono ?_)
                         | (go_at_call 19; refine (length_yes _ (by assumption) (by assumption) _).mono ?_)
                         | (go_at_call 8; refine (awake20_any _).mono ?_))
                      rintro e w' ⟨rfl, hw⟩
                      exact ⟨rfl, St.call (by assumption) hw⟩)))
         try simp only [Act.put, List.setIfInBounds_toArray, List.set])
        (first
           | (apply qw_skip rfl)
           | (apply qw_step rfl
              focus
                intro w0 hC
                (first
                   | exact eql_quiet 25 rfl rfl rfl Try.eqGuardType25 Try.underlying25 (by simp [go_sem]) (by simp [go_sem]) (by with_reducible assumption)
                   | exact neq_quiet 25 rfl rfl rfl Try.eqGuardType25 Try.underlying25 (by simp [go_sem]) (by simp [go_sem]) (by with_reducible assumption)))
           | (apply qw_step rfl
              focus
                intro w0 hC
                have hC' := Lib.hid hC
                obtain ⟨⟨r1, f1, i1, b1, l1⟩, ⟨r2, f2, i2, b2, l2⟩, ⟨r3, f3, i3, b3, l3⟩, ⟨r4, f4, i4, b4, l4⟩, ⟨r5, f5, i5, b5, l5⟩, m12, m21, m13, m31, m14, m41, m15, m51, m23, m32, m24, m42, m25, m52, m34, m43, m35, m53, m45, m54⟩ := St.facts5 hC
                clear hC
                go_simp
                have hC := hC'.out
                (first
                   | with_reducible rfl
                   | (skip
                      (first
                         | (go_at_call 17; refine (term_any _ _ _).mono ?_)
                         | (go_at_call 21; refine (text_any _ _ (by assumption) _).mono ?_)
                         | (go_at_call 18; refine (same_yes _ _ _ true (same_refl _ _) _).mono ?_)
                         | (go_at_call 19; refine (length_yes _ (by assumption) (by assumption) _).mono ?_)
                         | (go_at_call 8; refine (awake20_any _).mono ?_))
                      rintro e w' ⟨rfl, hw⟩
                      exact ⟨rfl, St.call (by assumption) hw⟩)))
         try simp only [Act.put, List.setIfInBounds_toArray, List.set])
        (first
           | (apply qw_skip rfl)
           | (apply qw_step rfl
              focus
                intro w0 hC
                (first
                   | exact eql_quiet 25 rfl rfl rfl Try.eqGuardType25 Try.underlying25 (by simp [go_sem]) (by simp [go_sem]) (by with_reducible assumption)
                   | exact neq_quiet 25 rfl rfl rfl Try.eqGuardType25 Try.underlying25 (by simp [go_sem]) (by simp [go_sem]) (by with_reducible assumption)))
           | (apply qw_step rfl
              focus
                intro w0 hC
                have hC' := Lib.hid hC
                obtain ⟨⟨r1, f1, i1, b1, l1⟩, ⟨r2, f2, i2, b2, l2⟩, ⟨r3, f3, i3, b3, l3⟩, ⟨r4, f4, i4, b4, l4⟩, ⟨r5, f5, i5, b5, l5⟩, m12, m21, m13, m31, m14, m41, m15, m51, m23, m32, m24, m42, m25, m52, m34, m43, m35, m53, m45, m54⟩ := St.facts5 hC
                clear hC
                go_simp
                have hC := hC'.out
                (first
                   | with_reducible rfl
                   | (skip
                      (first
                         | (go_at_call 17; refine (term_any _ _ _).mono ?_)
                         | (go_at_call 21; refine (text_any _ _ (by assumption) _).mono ?_)
                         | (go_at_call 18; refine (same_yes _ _ _ true (same_refl _ _) _).mono ?_)
                         | (go_at_call 19; refine (length_yes _ (by assumption) (by assumption) _).mono ?_)
                         | (go_at_call 8; refine (awake20_any _).mono ?_))
                      rintro e w' ⟨rfl, hw⟩
                      exact ⟨rfl, St.call (by assumption) hw⟩)))
         try simp only [Act.put, List.setIfInBounds_toArray, List.set])
        (first
           | (apply qw_skip rfl)
           | (apply qw_step rfl
              focus
                intro w0 hC
                (first
                   | exact eql_quiet 25 rfl rfl rfl Try.eqGuardType25 Try.underlying25 (by simp [go_sem]) (by simp [go_sem]) (by with_reducible assumption)
                   | exact neq_quiet 25 rfl rfl rfl Try.eqGuardType25 Try.underlying25 (by simp [go_sem]) (by simp [go_sem]) (by with_reducible assumption)))
           | (apply qw_step rfl
              focus
                intro w0 hC
                have hC' := Lib.hid hC
                obtain ⟨⟨r1, f1, i1, b1, l1⟩, ⟨r2, f2, i2, b2, l2⟩, ⟨r3, f3, i3, b3, l3⟩, ⟨r4, f4, i4, b4, l4⟩, ⟨r5, f5, i5, b5, l5⟩, m12, m21, m13, m31, m14, m41, m15, m51, m23, m32, m24, m42, m25, m52, m34, m43, m35, m53, m45, m54⟩ := St.facts5 hC
                clear hC
                go_simp
                have hC := hC'.out
                (first
                   | with_reducible rfl
                   | (skip
                      (first
                         | (go_at_call 17; refine (term_any _ _ _).mono ?_)
                         | (go_at_call 21; refine (text_any _ _ (by assumption) _).mono ?_)
                         | (go_at_call 18; refine (same_yes _ _ _ true (same_refl _ _) _).mono ?_)
                         | (go_at_call 19; refine (length_yes _ (by assumption) (by assumption) _).mono ?_)
                         | (go_at_call 8; refine (awake20_any _).mono ?_))
                      rintro e w' ⟨rfl, hw⟩
                      exact ⟨rfl, St.call (by assumption) hw⟩)))
         try simp only [Act.put, List.setIfInBounds_toArray, List.set])
        (first
           | (apply qw_skip rfl)
           | (apply qw_step rfl
              focus
                intro w0 hC
                (first
                   | exact eql_quiet 25 rfl rfl rfl Try.eqGuardType25 Try.underlying25 (by simp [go_sem]) (by simp [go_sem]) (by with_reducible assumption)
                   | exact neq_quiet 25 rfl rfl rfl Try.eqGuardType25 Try.underlying25 (by simp [go_sem]) (by simp [go_sem]) (by with_reducible assumption)))
           | (apply qw_step rfl
              focus
                intro w0 hC
                have hC' := Lib.hid hC
                obtain ⟨⟨r1, f1, i1, b1, l1⟩, ⟨r2, f2, i2, b2, l2⟩, ⟨r3, f3, i3, b3, l3⟩, ⟨r4, f4, i4, b4, l4⟩, ⟨r5, f5, i5, b5, l5⟩, m12, m21, m13, m31, m14, m41, m15, m51, m23, m32, m24, m42, m25, m52, m34, m43, m35, m53, m45, m54⟩ := St.facts5 hC
                clear hC
                go_simp
                have hC := hC'.out
                (first
                   | with_reducible rfl
                   | (skip
                      (first
                         | (go_at_call 17; refine (term_any _ _ _).mono ?_)
                         | (go_at_call 21; refine (text_any _ _ (by assumption) _).mono ?_)
                         | (go_at_call 18; refine (same_yes _ _ _ true (same_refl _ _) _).mono ?_)
                         | (go_at_call 19; refine (length_yes _ (by assumption) (by assumption) _).mono ?_)
                         | (go_at_call 8; refine (awake20_any _).mono ?_))
                      rintro e w' ⟨rfl, hw⟩
                      exact ⟨rfl, St.call (by assumption) hw⟩)))
         try simp only [Act.put, List.setIfInBounds_toArray, List.set])
        (first
           | (apply qw_skip rfl)
           | (apply qw_step rfl
              focus
                intro w0 hC
                (first
                   | exact eql_quiet 25 rfl rfl rfl Try.eqGuardType25 Try.underlying25 (by simp [go_sem]) (by simp [go_sem]) (by with_reducible assumption)
                   | exact neq_quiet 25 rfl rfl rfl Try.eqGuardType25 Try.underlying25 (by simp [go_sem]) (by simp [go_sem]) (by with_reducible assumption)))
           | (apply qw_step rfl
              focus
                intro w0 hC
                have hC' := Lib.hid hC
                obtain ⟨⟨r1, f1, i1, b1, l1⟩, ⟨r2, f2, i2, b2, l2⟩, ⟨r3, f3, i3, b3, l3⟩, ⟨r4, f4, i4, b4, l4⟩, ⟨r5, f5, i5, b5, l5⟩, m12, m21, m13, m31, m14, m41, m15, m51, m23, m32, m24, m42, m25, m52, m34, m43, m35, m53, m45, m54⟩ := St.facts5 hC
                clear hC
                go_simp
                have hC := hC'.out
                (first
                   | with_reducible rfl
                   | (skip
                      (first
                         | (go_at_call 17; refine (term_any _ _ _).mono ?_)
                         | (go_at_call 21; refine (text_any _ _ (by assumption) _).mono ?_)
                         | (go_at_call 18; refine (same_yes _ _ _ true (same_refl _ _) _).mono ?_)
                         | (go_at_call 19; refine (length_yes _ (by assumption) (by assumption) _).mono ?_)
                         | (go_at_call 8; refine (awake20_any _).mono ?_))
                      rintro e w' ⟨rfl, hw⟩
                      exact ⟨rfl, St.call (by assumption) hw⟩)))
         try simp only [Act.put, List.setIfInBounds_toArray, List.set])
        (first
           | (apply qw_skip rfl)
           | (apply qw_step rfl
              focus
                intro w0 hC
                (first
                   | exact eql_quiet 25 rfl rfl rfl Try.eqGuardType25 Try.underlying25 (by simp [go_sem]) (by simp [go_sem]) (by with_reducible assumption)
                   | exact neq_quiet 25 rfl rfl rfl Try.eqGuardType25 Try.underlying25 (by simp [go_sem]) (by simp [go_sem]) (by with_reducible assumption)))
           | (apply qw_step rfl
              focus
                intro w0 hC
                have hC' := Lib.hid hC
                obtain ⟨⟨r1, f1, i1, b1, l1⟩, ⟨r2, f2, i2, b2, l2⟩, ⟨r3, f3, i3, b3, l3⟩, ⟨r4, f4, i4, b4, l4⟩, ⟨r5, f5, i5, b5, l5⟩, m12, m21, m13, m31, m14, m41, m15, m51, m23, m32, m24, m42, m25, m52, m34, m43, m35, m53, m45, m54⟩ := St.facts5 hC
                clear hC
                go_simp
                have hC := hC'.out
                (first
                   | with_reducible rfl
                   | (skip
                      (first
                         | (go_at_call 17; refine (term_any _ _ _).mono ?_)
                         | (go_at_call 21; refine (text_any _ _ (by assumption) _).mono ?_)
                         | (go_at_call 18; refine (same_yes _ _ _ true (same_refl _ _) _).mono ?_)
                         | (go_at_call 19; refine (length_yes _ (by assumption) (by assumption) _).mono ?_)
                         | (go_at_call 8; refine (awake20_any _).mono ?_))
                      rintro e w' ⟨rfl, hw⟩
                      exact ⟨rfl, St.call (by assumption) hw⟩)))
         try simp only [Act.put, List.setIfInBounds_toArray, List.set])
        (first
           | (apply qw_skip rfl)
           | (apply qw_step rfl
              focus
                intro w0 hC
                (first
                   | exact eql_quiet 25 rfl rfl rfl Try.eqGuardType25 Try.underlying25 (by simp [go_sem]) (by simp [go_sem]) (by with_reducible assumption)
                   | exact neq_quiet 25 rfl rfl rfl Try.eqGuardType25 Try.underlying25 (by simp [go_sem]) (by simp [go_sem]) (by with_reducible assumption)))
           | (apply qw_step rfl
              focus
                intro w0 hC
                have hC' := Lib.hid hC
                obtain ⟨⟨r1, f1, i1, b1, l1⟩, ⟨r2, f2, i2, b2, l2⟩, ⟨r3, f3, i3, b3, l3⟩, ⟨r4, f4, i4, b4, l4⟩, ⟨r5, f5, i5, b5, l5⟩, m12, m21, m13, m31, m14, m41, m15, m51, m23, m32, m24, m42, m25, m52, m34, m43, m35, m53, m45, m54⟩ := St.facts5 hC
                clear hC
                go_simp
                have hC := hC'.out
                (first
                   | with_reducible rfl
                   | (skip
                      (first
                         | (go_at_call 17; refine (term_any _ _ _).mono ?_)
                         | (go_at_call 21; refine (text_any _ _ (by assumption) _).mono ?_)
                         | (go_at_call 18; refine (same_yes _ _ _ true (same_refl _ _) _).mono ?_)
                         | (go_at_call 19; refine (length_yes _ (by assumption) (by assumption) _).mono ?_)
                         | (go_at_call 8; refine (awake20_any _).mono ?_))
                      rintro e w' ⟨rfl, hw⟩
                      exact ⟨rfl, St.call (by assumption) hw⟩)))
         try simp only [Act.put, List.setIfInBounds_toArray, List.set])
        (first
           | (apply qw_skip rfl)
           | (apply qw_step rfl
              focus
                intro w0 hC
                (first
                   | exact eql_quiet 25 rfl rfl rfl Try.eqGuardType25 Try.underlying25 (by simp [go_sem]) (by simp [go_sem]) (by with_reducible assumption)
                   | exact neq_quiet 25 rfl rfl rfl Try.eqGuardType25 Try.underlying25 (by simp [go_sem]) (by simp [go_sem]) (by with_reducible assumption)))
           | (apply qw_step rfl
              focus
                intro w0 hC
                have hC' := Lib.hid hC
                obtain ⟨⟨r1, f1, i1, b1, l1⟩, ⟨r2, f2, i2, b2, l2⟩, ⟨r3, f3, i3, b3, l3⟩, ⟨r4, f4, i4, b4, l4⟩, ⟨r5, f5, i5, b5, l5⟩, m12, m21, m13, m31, m14, m41, m15, m51, m23, m32, m24, m42, m25, m52, m34, m43, m35, m53, m45, m54⟩ := St.facts5 hC
                clear hC
                go_simp
                have hC := hC'.out
                (first
                   | with_reducible rfl
                   | (skip
                      (first
                         | (go_at_call 17; refine (term_any _ _ _).mono ?_)
                         | (go_at_call 21; refine (text_any _ _ (by assumption) _).mono ?_)
                         | (go_at_call 18; refine (same_yes _ _ _ true (same_refl _ _) _).mono ?_)
                         | (go_at_call 19; refine (length_yes _ (by assumption) (by assumption) _).mono ?_)
                         | (go_at_call 8; refine (awake20_any _).mono ?_))
                      rintro e w' ⟨rfl, hw⟩
                      exact ⟨rfl, St.call (by assumption) hw⟩)))
         try simp only [Act.put, List.setIfInBounds_toArray, List.set])
        refine qw_nil ?_
        intro w4 hC
        go_wp2_with fail
        go_meet
        exact ⟨rfl, Lib.hid hC⟩
  case rest =>
    obtain ⟨rfl, HR⟩ := hcut
    clear HC
    have HC := Lib.hid (HR.out.pick (L' := [(w.heap.size + 1 + 1, blk 16 m)]) [2] (by decide) rfl)
    clear HR
    have hC := HC.out
    (have HC := Lib.hid hC
     have sos := hC.below.os
     obtain ⟨r1, f1, i1, b1, l1⟩ := St.facts1 hC
     clear hC)
    go_wp2_with fail
    (clear r1 f1 i1 b1 l1 sos)
    refine (new_any m _).mono ?_; rintro e w4 ⟨rfl, hw⟩
    rw [ringM_one]
    have HC := Lib.hid (HC.out.call hw)
    clear hw
    go_wp2_with fail
    have HC := Lib.hid (HC.out.push (rg 1 (ringM m 1)) 33)
    generalize w4.alloc (Obj.cells (rg 1 (ringM m 1)) 33) = w5 at HC ⊢
    generalize w4.heap.size = R at HC ⊢
    obtain ⟨Y, y1, y2, y3⟩ := mod7 x
    have y4 : (Y : Int) < 7 := by omega
    have Y1 := Lib.hid y1
    clear y1
    go_loopw [13] (fun i wr => ∃ j : Nat, j ≤ Y ∧ i = .int .i64 (j : Int) ∧ ∃ K, Hid (1 ≤ K ∧ K ≤ 6) ∧ Hid (St w [(R, rg K (ringM m K)), (w.heap.size + 1 + 1, blk 16 m)] wr)) (fun i _ => 7 - (intOf i).toNat)
    case atStart => exact ⟨0, by omega, rfl, 1, Lib.hid (by omega), HC⟩
    case round =>
      clear HC
      obtain ⟨j, hj, rfl, K, HK, HJ⟩ := hrel
      have hK := HK.out
      have k1 := hK.1
      have k6 := hK.2
      clear hK
      have k7 : (K : Int) ≤ 6 := by omega
      have hC := HJ.out
      by_cases hlt : j < Y
      · have d1 : (j : Int) < (Y : Int) := by omega
        by_cases h6 : K = 6
        · subst h6
          (have HC := Lib.hid hC
           have sos := hC.below.os
           obtain ⟨⟨r1, f1, i1, b1, l1⟩, ⟨r2, f2, i2, b2, l2⟩, m12, m21⟩ := St.facts2 hC
           clear hC)
          go_wp2_with fail
          (clear r1 f1 i1 b1 l1 r2 f2 i2 b2 l2 m12 m21 sos)
          refine (rotate_no (ringM m 6) m _).mono ?_; rintro e w6 ⟨rfl, hw⟩
          have HC := Lib.hid (HC.out.call hw)
          clear hw
          have hC := HC.out
          (have HC := Lib.hid hC
           have sos := hC.below.os
           obtain ⟨⟨r1, f1, i1, b1, l1⟩, ⟨r2, f2, i2, b2, l2⟩, m12, m21⟩ := St.facts2 hC
           clear hC)
          go_wp2_with fail
          (clear r1 f1 i1 b1 l1 r2 f2 i2 b2 l2 m12 m21 sos)
          have HC := Lib.hid (HC.out.push (rg 6 (ringM m 6)) 33)
          refine (term_any 6 (ringM m 6) _).mono ?_; rintro e w7 ⟨rfl, hw⟩
          have HC := Lib.hid (HC.out.call hw)
          clear hw
          have hC := HC.out
          (have HC := Lib.hid hC
           have sos := hC.below.os
           obtain ⟨⟨r1, f1, i1, b1, l1⟩, ⟨r2, f2, i2, b2, l2⟩, ⟨r3, f3, i3, b3, l3⟩, m12, m21, m13, m31, m23, m32⟩ := St.facts3 hC
           clear hC)
          go_wp2_with fail
          (clear r1 f1 i1 b1 l1 r2 f2 i2 b2 l2 r3 f3 i3 b3 l3 m12 m21 m13 m31 m23 m32 sos)
          refine (same_yes 6 (ringM m 6) (ringM m 6) true (same_refl _ _) _).mono ?_; rintro e w8 ⟨rfl, hw⟩
          have HC := Lib.hid (HC.out.call hw)
          clear hw
          have hC := HC.out
          (have HC := Lib.hid hC
           have sos := hC.below.os
           obtain ⟨⟨r1, f1, i1, b1, l1⟩, ⟨r2, f2, i2, b2, l2⟩, ⟨r3, f3, i3, b3, l3⟩, m12, m21, m13, m31, m23, m32⟩ := St.facts3 hC
           clear hC)
          go_wp2_with fail
          (clear r1 f1 i1 b1 l1 r2 f2 i2 b2 l2 r3 f3 i3 b3 l3 m12 m21 m13 m31 m23 m32 sos)
          refine (awake20_any _).mono ?_; rintro e w9 ⟨rfl, hw⟩
          have HC := Lib.hid (HC.out.call hw)
          clear hw
          have hC := HC.out
          (have HC := Lib.hid hC
           have sos := hC.below.os
           obtain ⟨⟨r1, f1, i1, b1, l1⟩, ⟨r2, f2, i2, b2, l2⟩, ⟨r3, f3, i3, b3, l3⟩, m12, m21, m13, m31, m23, m32⟩ := St.facts3 hC
           clear hC)
          go_wp2_with fail
          go_ret
          exact ⟨rfl, HC.out.below⟩
        · obtain ⟨K1, hK1⟩ : ∃ K1, K1 = K + 1 := ⟨_, rfl⟩
          have k8 : K1 ≤ 6 := by omega
          have k9 : (K1 : Int) ≤ 6 := by omega
          have HK1 := Lib.hid hK1
          have kn : ((K1 : Int) != (K : Int) + 1) = false := by rw [hK1]; simp
          have kw : IntKind.i64.wrap ((K : Int) + 1) = (K : Int) + 1 := IntWalk.i64_in _ (by omega)
          clear hK1
          have KR := Lib.hid (rotate_at m K K1 HK1.out k8)
          have KL := Lib.hid (key_at m K1 K1 (by have := HK1.out; omega) (Nat.le_refl _) k8)
          (have HC := Lib.hid hC
           have sos := hC.below.os
           obtain ⟨⟨r1, f1, i1, b1, l1⟩, ⟨r2, f2, i2, b2, l2⟩, m12, m21⟩ := St.facts2 hC
           clear hC)
          go_wp2_with fail
          (clear r1 f1 i1 b1 l1 r2 f2 i2 b2 l2 m12 m21 sos)
          refine (KR.out _).mono ?_; rintro e w6 ⟨rfl, hw⟩
          have HC := Lib.hid (HC.out.call hw)
          clear hw
          have hC := HC.out
          (have HC := Lib.hid hC
           have sos := hC.below.os
           obtain ⟨⟨r1, f1, i1, b1, l1⟩, ⟨r2, f2, i2, b2, l2⟩, m12, m21⟩ := St.facts2 hC
           clear hC)
          go_wp2_with fail
          (clear r1 f1 i1 b1 l1 r2 f2 i2 b2 l2 m12 m21 sos)
          have HC := Lib.hid (HC.out.push (rg K1 (ringM m K1)) 33)
          generalize w6.alloc (Obj.cells (rg K1 (ringM m K1)) 33) = w7 at HC ⊢
          generalize w6.heap.size = Qb at HC ⊢
          refine St.qregion HC.out (by kernel_rfl) (by decide +kernel) ?_
          (first
             | (apply qw_skip rfl)
             | (apply qw_step rfl
                focus
                  intro w0 hC
                  (first
                     | exact eql_quiet 25 rfl rfl rfl Try.eqGuardType25 Try.underlying25 (by simp [go_sem]) (by simp [go_sem]) (by with_reducible assumption)
                     | exact neq_quiet 25 rfl rfl rfl Try.eqGuardType25 Try.underlying25 (by simp [go_sem]) (by simp [go_sem]) (by with_reducible assumption)))
             | (apply qw_step rfl
                focus
                  intro w0 hC
                  have hC' := Lib.hid hC
                  obtain ⟨⟨r1, f1, i1, b1, l1⟩, ⟨r2, f2, i2, b2, l2⟩, ⟨r3, f3, i3, b3, l3⟩, m12, m21, m13, m31, m23, m32⟩ := St.facts3 hC
                  clear hC
                  go_simp
                  have hC := hC'.out
                  (first
                     | with_reducible rfl
                     | (skip
                        (first
                           | (go_at_call 17; refine (term_any _ _ _).mono ?_)
                           | (go_at_call 21; refine (text_any _ _ (by assumption) _).mono ?_)
                           | (go_at_call 18; refine (same_yes _ _ _ true (same_refl _ _) _).mono ?_)
                           | (go_at_call 19; refine (length_yes _ (by assumption) (by assumption) _).mono ?_)
                           | (go_at_call 8; refine (awake20_any _).mono ?_))
                        rintro e w' ⟨rfl, hw⟩
                        exact ⟨rfl, St.call (by assumption) hw⟩)))
           try simp only [Act.put, List.setIfInBounds_toArray, List.set])
          (first
             | (apply qw_skip rfl)
             | (apply qw_step rfl
                focus
                  intro w0 hC
                  (first
                     | exact eql_quiet 25 rfl rfl rfl Try.eqGuardType25 Try.underlying25 (by simp [go_sem]) (by simp [go_sem]) (by with_reducible assumption)
                     | exact neq_quiet 25 rfl rfl rfl Try.eqGuardType25 Try.underlying25 (by simp [go_sem]) (by simp [go_sem]) (by with_reducible assumption)))
             | (apply qw_step rfl
                focus
                  intro w0 hC
                  have hC' := Lib.hid hC
                  obtain ⟨⟨r1, f1, i1, b1, l1⟩, ⟨r2, f2, i2, b2, l2⟩, ⟨r3, f3, i3, b3, l3⟩, m12, m21, m13, m31, m23, m32⟩ := St.facts3 hC
                  clear hC
                  go_simp
                  have hC := hC'.out
                  (first
                     | with_reducible rfl
                     | (skip
                        (first
                           | (go_at_call 17; refine (term_any _ _ _).mono ?_)
                           | (go_at_call 21; refine (text_any _ _ (by assumption) _).mono ?_)
                           | (go_at_call 18; refine (same_yes _ _ _ true (same_refl _ _) _).mono ?_)
                           | (go_at_call 19; refine (length_yes _ (by assumption) (by assumption) _).mono ?_)
                           | (go_at_call 8; refine (awake20_any _).mono ?_))
                        rintro e w' ⟨rfl, hw⟩
                        exact ⟨rfl, St.call (by assumption) hw⟩)))
           try simp only [Act.put, List.setIfInBounds_toArray, List.set])
          (first
             | (apply qw_skip rfl)
             | (apply qw_step rfl
                focus
                  intro w0 hC
                  (first
                     | exact eql_quiet 25 rfl rfl rfl Try.eqGuardType25 Try.underlying25 (by simp [go_sem]) (by simp [go_sem]) (by with_reducible assumption)
                     | exact neq_quiet 25 rfl rfl rfl Try.eqGuardType25 Try.underlying25 (by simp [go_sem]) (by simp [go_sem]) (by with_reducible assumption)))
             | (apply qw_step rfl
                focus
                  intro w0 hC
                  have hC' := Lib.hid hC
                  obtain ⟨⟨r1, f1, i1, b1, l1⟩, ⟨r2, f2, i2, b2, l2⟩, ⟨r3, f3, i3, b3, l3⟩, m12, m21, m13, m31, m23, m32⟩ := St.facts3 hC
                  clear hC
                  go_simp
                  have hC := hC'.out
                  (first
                     | with_reducible rfl
                     | (skip
                        (first
                           | (go_at_call 17; refine (term_any _ _ _).mono ?_)
                           | (go_at_call 21; refine (text_any _ _ (by assumption) _).mono ?_)
                           | (go_at_call 18; refine (same_yes _ _ _ true (same_refl _ _) _).mono ?_)
                           | (go_at_call 19; refine (length_yes _ (by assumption) (by assumption) _).mono ?_)
                           | (go_at_call 8; refine (awake20_any _).mono ?_))
                        rintro e w' ⟨rfl, hw⟩
                        exact ⟨rfl, St.call (by assumption) hw⟩)))
           try simp only [Act.put, List.setIfInBounds_toArray, List.set])
          (first
             | (apply qw_skip rfl)
             | (apply qw_step rfl
                focus
                  intro w0 hC
                  (first
                     | exact eql_quiet 25 rfl rfl rfl Try.eqGuardType25 Try.underlying25 (by simp [go_sem]) (by simp [go_sem]) (by with_reducible assumption)
                     | exact neq_quiet 25 rfl rfl rfl Try.eqGuardType25 Try.underlying25 (by simp [go_sem]) (by simp [go_sem]) (by with_reducible assumption)))
             | (apply qw_step rfl
                focus
                  intro w0 hC
                  have hC' := Lib.hid hC
                  obtain ⟨⟨r1, f1, i1, b1, l1⟩, ⟨r2, f2, i2, b2, l2⟩, ⟨r3, f3, i3, b3, l3⟩, m12, m21, m13, m31, m23, m32⟩ := St.facts3 hC
                  clear hC
                  go_simp
                  have hC := hC'.out
                  (first
                     | with_reducible rfl
                     | (skip
                        (first
                           | (go_at_call 17; refine (term_any _ _ _).mono ?_)
                           | (go_at_call 21; refine (text_any _ _ (by assumption) _).mono ?_)
                           | (go_at_call 18; refine (same_yes _ _ _ true (same_refl _ _) _).mono ?_)
                           | (go_at_call 19; refine (length_yes _ (by assumption) (by assumption) _).mono ?_)
                           | (go_at_call 8; refine (awake20_any _).mono ?_))
                        rintro e w' ⟨rfl, hw⟩
                        exact ⟨rfl, St.call (by assumption) hw⟩)))
           try simp only [Act.put, List.setIfInBounds_toArray, List.set])
          (first
             | (apply qw_skip rfl)
             | (apply qw_step rfl
                focus
                  intro w0 hC
                  (first
                     | exact eql_quiet 25 rfl rfl rfl Try.eqGuardType25 Try.underlying25 (by simp [go_sem]) (by simp [go_sem]) (by with_reducible assumption)
                     | exact neq_quiet 25 rfl rfl rfl Try.eqGuardType25 Try.underlying25 (by simp [go_sem]) (by simp [go_sem]) (by with_reducible assumption)))
             | (apply qw_step rfl
                focus
                  intro w0 hC
                  have hC' := Lib.hid hC
                  obtain ⟨⟨r1, f1, i1, b1, l1⟩, ⟨r2, f2, i2, b2, l2⟩, ⟨r3, f3, i3, b3, l3⟩, m12, m21, m13, m31, m23, m32⟩ := St.facts3 hC
                  clear hC
                  go_simp
                  have hC := hC'.out
                  (first
                     | with_reducible rfl
                     | (skip
                        (first
                           | (go_at_call 17; refine (term_any _ _ _).mono ?_)
                           | (go_at_call 21; refine (text_any _ _ (by assumption) _).mono ?_)
                           | (go_at_call 18; refine (same_yes _ _ _ true (same_refl _ _) _).mono ?_)
                           | (go_at_call 19; refine (length_yes _ (by assumption) (by assumption) _).mono ?_)
                           | (go_at_call 8; refine (awake20_any _).mono ?_))
                        rintro e w' ⟨rfl, hw⟩
                        exact ⟨rfl, St.call (by assumption) hw⟩)))
           try simp only [Act.put, List.setIfInBounds_toArray, List.set])
          (first
             | (apply qw_skip rfl)
             | (apply qw_step rfl
                focus
                  intro w0 hC
                  (first
                     | exact eql_quiet 25 rfl rfl rfl Try.eqGuardType25 Try.underlying25 (by simp [go_sem]) (by simp [go_sem]) (by with_reducible assumption)
                     | exact neq_quiet 25 rfl rfl rfl Try.eqGuardType25 Try.underlying25 (by simp [go_sem]) (by simp [go_sem]) (by with_reducible assumption)))
             | (apply qw_step rfl
                focus
                  intro w0 hC
                  have hC' := Lib.hid hC
                  obtain ⟨⟨r1, f1, i1, b1, l1⟩, ⟨r2, f2, i2, b2, l2⟩, ⟨r3, f3, i3, b3, l3⟩, m12, m21, m13, m31, m23, m32⟩ := St.facts3 hC
                  clear hC
                  go_simp
                  have hC := hC'.out
                  (first
                     | with_reducible rfl
                     | (skip
                        (first
                           | (go_at_call 17; refine (term_any _ _ _).mono ?_)
                           | (go_at_call 21; refine (text_any _ _ (by assumption) _).mono ?_)
                           | (go_at_call 18; refine (same_yes _ _ _ true (same_refl _ _) _).mono ?_)
                           | (go_at_call 19; refine (length_yes _ (by assumption) (by assumption) _).mono ?_)
                           | (go_at_call 8; refine (awake20_any _).mono ?_))
                        rintro e w' ⟨rfl, hw⟩
                        exact ⟨rfl, St.call (by assumption) hw⟩)))
           try simp only [Act.put, List.setIfInBounds_toArray, List.set])
          refine qw_nil ?_
          intro w8 hC
          have HC := Lib.hid hC
          clear hC
          have hC := HC.out
          (have HC := Lib.hid hC
           have sos := hC.below.os
           obtain ⟨⟨r1, f1, i1, b1, l1⟩, ⟨r2, f2, i2, b2, l2⟩, ⟨r3, f3, i3, b3, l3⟩, m12, m21, m13, m31, m23, m32⟩ := St.facts3 hC
           clear hC)
          go_wp2_with fail
          (clear r1 f1 i1 b1 l1 r2 f2 i2 b2 l2 r3 f3 i3 b3 l3 m12 m21 m13 m31 m23 m32 sos)
          refine St.region_store1_last (w0 := w) 7 16 96 (blk 16 fun _ => 0) (blk 16 (deriveB m K1)) (.agg (blk 16 (deriveB m K1))) 25 HC.out (by kernel_rfl) (by decide +kernel) (by decide +kernel) _ _ rfl rfl (fun w a => by simp [go_sem, ptrTo, hz]) (stores_whole 25 _ _ (by simp [blk_size]) (fun w => by simp [go_sem]) (oneCells_blk _ _) rfl) (by rw [blk_size, blk_size]) (by simp) ?_
          (simp only [List.take])
          (apply walkB_step
           focus
             intro w0 hC
             have hC' := Lib.hid hC
             obtain ⟨⟨r1, f1, i1, b1, l1⟩, ⟨r2, f2, i2, b2, l2⟩, ⟨r3, f3, i3, b3, l3⟩, m12, m21, m13, m31, m23, m32⟩ := St.facts3 hC
             clear hC
             go_simp
             (first
                | with_reducible rfl
                | exact term_any _ _ _
                | exact KL.out _)
           try simp only [Act.put, List.setIfInBounds_toArray, List.set])
          (apply walkB_step
           focus
             intro w0 hC
             have hC' := Lib.hid hC
             obtain ⟨⟨r1, f1, i1, b1, l1⟩, ⟨r2, f2, i2, b2, l2⟩, ⟨r3, f3, i3, b3, l3⟩, m12, m21, m13, m31, m23, m32⟩ := St.facts3 hC
             clear hC
             go_simp
             (first
                | with_reducible rfl
                | exact term_any _ _ _
                | exact KL.out _)
           try simp only [Act.put, List.setIfInBounds_toArray, List.set])
          (apply walkB_step
           focus
             intro w0 hC
             have hC' := Lib.hid hC
             obtain ⟨⟨r1, f1, i1, b1, l1⟩, ⟨r2, f2, i2, b2, l2⟩, ⟨r3, f3, i3, b3, l3⟩, m12, m21, m13, m31, m23, m32⟩ := St.facts3 hC
             clear hC
             go_simp
             (first
                | with_reducible rfl
                | exact term_any _ _ _
                | exact KL.out _)
           try simp only [Act.put, List.setIfInBounds_toArray, List.set])
          (apply walkB_step
           focus
             intro w0 hC
             have hC' := Lib.hid hC
             obtain ⟨⟨r1, f1, i1, b1, l1⟩, ⟨r2, f2, i2, b2, l2⟩, ⟨r3, f3, i3, b3, l3⟩, m12, m21, m13, m31, m23, m32⟩ := St.facts3 hC
             clear hC
             go_simp
             (first
                | with_reducible rfl
                | exact term_any _ _ _
                | exact KL.out _)
           try simp only [Act.put, List.setIfInBounds_toArray, List.set])
          (apply walkB_step
           focus
             intro w0 hC
             have hC' := Lib.hid hC
             obtain ⟨⟨r1, f1, i1, b1, l1⟩, ⟨r2, f2, i2, b2, l2⟩, ⟨r3, f3, i3, b3, l3⟩, m12, m21, m13, m31, m23, m32⟩ := St.facts3 hC
             clear hC
             go_simp
             (first
                | with_reducible rfl
                | exact term_any _ _ _
                | exact KL.out _)
           try simp only [Act.put, List.setIfInBounds_toArray, List.set])
          (apply walkB_step
           focus
             intro w0 hC
             have hC' := Lib.hid hC
             obtain ⟨⟨r1, f1, i1, b1, l1⟩, ⟨r2, f2, i2, b2, l2⟩, ⟨r3, f3, i3, b3, l3⟩, m12, m21, m13, m31, m23, m32⟩ := St.facts3 hC
             clear hC
             go_simp
             (first
                | with_reducible rfl
                | exact term_any _ _ _
                | exact KL.out _)
           try simp only [Act.put, List.setIfInBounds_toArray, List.set])
          (apply walkB_step
           focus
             intro w0 hC
             have hC' := Lib.hid hC
             obtain ⟨⟨r1, f1, i1, b1, l1⟩, ⟨r2, f2, i2, b2, l2⟩, ⟨r3, f3, i3, b3, l3⟩, m12, m21, m13, m31, m23, m32⟩ := St.facts3 hC
             clear hC
             go_simp
             (first
                | with_reducible rfl
                | exact term_any _ _ _
                | exact KL.out _)
           try simp only [Act.put, List.setIfInBounds_toArray, List.set])
          refine walkB_nil ⟨rfl, ?_⟩
          intro w9 q16 hC
          unfold ptrTo
          (have HC := Lib.hid hC
           have sos := hC.below.os
           obtain ⟨⟨r1, f1, i1, b1, l1⟩, ⟨r2, f2, i2, b2, l2⟩, ⟨r3, f3, i3, b3, l3⟩, ⟨r4, f4, i4, b4, l4⟩, m12, m21, m13, m31, m14, m41, m23, m32, m24, m42, m34, m43⟩ := St.facts4 hC
           clear hC)
          go_wp2_with fail
          (clear r1 f1 i1 b1 l1 r2 f2 i2 b2 l2 r3 f3 i3 b3 l3 r4 f4 i4 b4 l4 m12 m21 m13 m31 m14 m41 m23 m32 m24 m42 m34 m43 sos)
          obtain ⟨wo, hwo⟩ : ∃ wo : World, wo = wr := ⟨_, rfl⟩
          clear hwo
          go_loopw [18] (fun i wx => ∃ T : Nat, 1 ≤ T ∧ T ≤ K + 1 ∧ i = .int .i64 (T : Int) ∧ Hid (St w [(q16, blk 16 (deriveB m K1)), (Qb, rg K1 (ringM m K1)), (R, rg K (ringM m K)), (w.heap.size + 1 + 1, blk 16 m)] wx)) (fun i _ => K + 1 - (intOf i).toNat)
          case atStart => exact ⟨1, by omega, by omega, rfl, HC⟩
          case round =>
            clear HC
            obtain ⟨T, t1', t2', rfl, HI⟩ := hrel
            have hC := HI.out
            have HC := HI
            have t3 : (T : Int) ≤ 7 := by omega
            by_cases hT : T ≤ K
            · have d3 : (T : Int) ≤ (K : Int) := by omega
              have hs : same 16 (deriveB m T) (deriveB m K1) = false := by rw [derive_same m T K1 (by omega) k8]; exact decide_eq_false (by have := HK1.out; omega)
              have hs2 : same 16 (deriveB m T) (deriveB m T) = true := same_refl _ _
              (have HC := Lib.hid hC
               have sos := hC.below.os
               obtain ⟨⟨r1, f1, i1, b1, l1⟩, ⟨r2, f2, i2, b2, l2⟩, ⟨r3, f3, i3, b3, l3⟩, ⟨r4, f4, i4, b4, l4⟩, m12, m21, m13, m31, m14, m41, m23, m32, m24, m42, m34, m43⟩ := St.facts4 hC
               clear hC)
              go_wp2_with fail
              (clear r1 f1 i1 b1 l1 r2 f2 i2 b2 l2 r3 f3 i3 b3 l3 r4 f4 i4 b4 l4 m12 m21 m13 m31 m14 m41 m23 m32 m24 m42 m34 m43 sos)
              refine (term_any K (ringM m K) _).mono ?_; rintro e w10 ⟨rfl, hw⟩
              have HC := Lib.hid (HC.out.call hw)
              clear hw
              have hC := HC.out
              (have HC := Lib.hid hC
               have sos := hC.below.os
               obtain ⟨⟨r1, f1, i1, b1, l1⟩, ⟨r2, f2, i2, b2, l2⟩, ⟨r3, f3, i3, b3, l3⟩, ⟨r4, f4, i4, b4, l4⟩, m12, m21, m13, m31, m14, m41, m23, m32, m24, m42, m34, m43⟩ := St.facts4 hC
               clear hC)
              go_wp2_with fail
              (clear r1 f1 i1 b1 l1 r2 f2 i2 b2 l2 r3 f3 i3 b3 l3 r4 f4 i4 b4 l4 m12 m21 m13 m31 m14 m41 m23 m32 m24 m42 m34 m43 sos)
              refine (key_at m K T t1' hT k6 _).mono ?_; rintro e w11 ⟨rfl, hw⟩
              have HC := Lib.hid (HC.out.call hw)
              clear hw
              have hC := HC.out
              (have HC := Lib.hid hC
               have sos := hC.below.os
               obtain ⟨⟨r1, f1, i1, b1, l1⟩, ⟨r2, f2, i2, b2, l2⟩, ⟨r3, f3, i3, b3, l3⟩, ⟨r4, f4, i4, b4, l4⟩, m12, m21, m13, m31, m14, m41, m23, m32, m24, m42, m34, m43⟩ := St.facts4 hC
               clear hC)
              go_wp2_with fail
              (clear r1 f1 i1 b1 l1 r2 f2 i2 b2 l2 r3 f3 i3 b3 l3 r4 f4 i4 b4 l4 m12 m21 m13 m31 m14 m41 m23 m32 m24 m42 m34 m43 sos)
              have HC := Lib.hid (HC.out.push (blk 16 (deriveB m T)) 25)
              refine (key_at m K1 T t1' (by have := HK1.out; omega) k8 _).mono ?_; rintro e w12 ⟨rfl, hw⟩
              have HC := Lib.hid (HC.out.call hw)
              clear hw
              have hC := HC.out
              (have HC := Lib.hid hC
               have sos := hC.below.os
               obtain ⟨⟨r1, f1, i1, b1, l1⟩, ⟨r2, f2, i2, b2, l2⟩, ⟨r3, f3, i3, b3, l3⟩, ⟨r4, f4, i4, b4, l4⟩, ⟨r5, f5, i5, b5, l5⟩, m12, m21, m13, m31, m14, m41, m15, m51, m23, m32, m24, m42, m25, m52, m34, m43, m35, m53, m45, m54⟩ := St.facts5 hC
               clear hC)
              go_wp2_with fail
              (clear r1 f1 i1 b1 l1 r2 f2 i2 b2 l2 r3 f3 i3 b3 l3 r4 f4 i4 b4 l4 r5 f5 i5 b5 l5 m12 m21 m13 m31 m14 m41 m15 m51 m23 m32 m24 m42 m25 m52 m34 m43 m35 m53 m45 m54 sos)
              have HC := Lib.hid (HC.out.push (blk 16 (deriveB m T)) 25).tail.tail
              go_roundw
              case rel => exact ⟨T + 1, by omega, by omega, by go_num, HC⟩
              case measure => simp [intOf]; omega
            · have d3 : ¬ (T : Int) ≤ (K : Int) := by omega
              (have HC := Lib.hid hC
               have sos := hC.below.os
               obtain ⟨⟨r1, f1, i1, b1, l1⟩, ⟨r2, f2, i2, b2, l2⟩, ⟨r3, f3, i3, b3, l3⟩, ⟨r4, f4, i4, b4, l4⟩, m12, m21, m13, m31, m14, m41, m23, m32, m24, m42, m34, m43⟩ := St.facts4 hC
               clear hC)
              go_wp2_with fail
              (clear r1 f1 i1 b1 l1 r2 f2 i2 b2 l2 r3 f3 i3 b3 l3 r4 f4 i4 b4 l4 m12 m21 m13 m31 m14 m41 m23 m32 m24 m42 m34 m43 sos)
              refine (term_any K (ringM m K) _).mono ?_; rintro e w10 ⟨rfl, hw⟩
              have HC := Lib.hid (HC.out.call hw)
              clear hw
              have hC := HC.out
              (have HC := Lib.hid hC
               have sos := hC.below.os
               obtain ⟨⟨r1, f1, i1, b1, l1⟩, ⟨r2, f2, i2, b2, l2⟩, ⟨r3, f3, i3, b3, l3⟩, ⟨r4, f4, i4, b4, l4⟩, m12, m21, m13, m31, m14, m41, m23, m32, m24, m42, m34, m43⟩ := St.facts4 hC
               clear hC)
              go_wp2_with fail
              (clear r1 f1 i1 b1 l1 r2 f2 i2 b2 l2 r3 f3 i3 b3 l3 r4 f4 i4 b4 l4 m12 m21 m13 m31 m14 m41 m23 m32 m24 m42 m34 m43 sos)
              have HC := Lib.hid ((HC.out.pick (L' := [(R, rg K (ringM m K)), (w.heap.size + 1 + 1, blk 16 m)]) [2, 3] (by decide) rfl).set_head (rg K1 (ringM m K1)) (by rw [rg_size, rg_size]))
              go_roundw
              case rel => exact ⟨j + 1, by omega, by go_num, K1, Lib.hid ⟨by have := HK1.out; omega, k8⟩, HC⟩
              case measure => simp [intOf]; omega
      · have d1 : ¬ (j : Int) < (Y : Int) := by omega
        (have HC := Lib.hid hC
         have sos := hC.below.os
         obtain ⟨⟨r1, f1, i1, b1, l1⟩, ⟨r2, f2, i2, b2, l2⟩, m12, m21⟩ := St.facts2 hC
         clear hC)
        go_wp2_with fail
        (clear r1 f1 i1 b1 l1 r2 f2 i2 b2 l2 m12 m21 sos)
        refine (text_any K (ringM m K) k6 _).mono ?_; rintro e w6 ⟨rfl, hw⟩
        have HC := Lib.hid (HC.out.call hw)
        clear hw
        have hC := HC.out
        (have HC := Lib.hid hC
         have sos := hC.below.os
         obtain ⟨⟨r1, f1, i1, b1, l1⟩, ⟨r2, f2, i2, b2, l2⟩, m12, m21⟩ := St.facts2 hC
         clear hC)
        go_wp2_with fail
        (clear r1 f1 i1 b1 l1 r2 f2 i2 b2 l2 m12 m21 sos)
        refine (parse_back K (ringM m K) k1 k6 (ringM_neat m K) _).mono ?_; rintro e w7 ⟨rfl, hw⟩
        have HC := Lib.hid (HC.out.call hw)
        clear hw
        have hC := HC.out
        (have HC := Lib.hid hC
         have sos := hC.below.os
         obtain ⟨⟨r1, f1, i1, b1, l1⟩, ⟨r2, f2, i2, b2, l2⟩, m12, m21⟩ := St.facts2 hC
         clear hC)
        go_wp2_with fail
        (clear r1 f1 i1 b1 l1 r2 f2 i2 b2 l2 m12 m21 sos)
        have HC := Lib.hid (HC.out.push (rg K (ringM m K)) 33)
        generalize w7.alloc (Obj.cells (rg K (ringM m K)) 33) = w8 at HC ⊢
        generalize w7.heap.size = Pb at HC ⊢
        have hsz : (strOf (1 + K * 16) (ringB K (ringM m K))).size = 1 + K * 16 := strOf_size _ _
        refine St.qregion HC.out (by kernel_rfl) (by decide +kernel) ?_
        (first
           | (apply qw_skip rfl)
           | (apply qw_step rfl
              focus
                intro w0 hC
                (first
                   | exact eql_quiet 25 rfl rfl rfl Try.eqGuardType25 Try.underlying25 (by simp [go_sem]) (by simp [go_sem]) (by with_reducible assumption)
                   | exact neq_quiet 25 rfl rfl rfl Try.eqGuardType25 Try.underlying25 (by simp [go_sem]) (by simp [go_sem]) (by with_reducible assumption)))
           | (apply qw_step rfl
              focus
                intro w0 hC
                have hC' := Lib.hid hC
                obtain ⟨⟨r1, f1, i1, b1, l1⟩, ⟨r2, f2, i2, b2, l2⟩, ⟨r3, f3, i3, b3, l3⟩, m12, m21, m13, m31, m23, m32⟩ := St.facts3 hC
                clear hC
                go_simp
                have hC := hC'.out
                (first
                   | with_reducible rfl
                   | (skip
                      (first
                         | (go_at_call 17; refine (term_any _ _ _).mono ?_)
                         | (go_at_call 21; refine (text_any _ _ (by assumption) _).mono ?_)
                         | (go_at_call 18; refine (same_yes _ _ _ true (same_refl _ _) _).mono ?_)
                         | (go_at_call 19; refine (length_yes _ (by assumption) (by assumption) _).mono ?_)
                         | (go_at_call 8; refine (awake20_any _).mono ?_))
                      rintro e w' ⟨rfl, hw⟩
                      exact ⟨rfl, St.call (by assumption) hw⟩)))
         try simp only [Act.put, List.setIfInBounds_toArray, List.set])
        (first
           | (apply qw_skip rfl)
           | (apply qw_step rfl
              focus
                intro w0 hC
                (first
                   | exact eql_quiet 25 rfl rfl rfl Try.eqGuardType25 Try.underlying25 (by simp [go_sem]) (by simp [go_sem]) (by with_reducible assumption)
                   | exact neq_quiet 25 rfl rfl rfl Try.eqGuardType25 Try.underlying25 (by simp [go_sem]) (by simp [go_sem]) (by with_reducible assumption)))
           | (apply qw_step rfl
              focus
                intro w0 hC
                have hC' := Lib.hid hC
                obtain ⟨⟨r1, f1, i1, b1, l1⟩, ⟨r2, f2, i2, b2, l2⟩, ⟨r3, f3, i3, b3, l3⟩, m12, m21, m13, m31, m23, m32⟩ := St.facts3 hC
                clear hC
                go_simp
                have hC := hC'.out
                (first
                   | with_reducible rfl
                   | (skip
                      (first
                         | (go_at_call 17; refine (term_any _ _ _).mono ?_)
                         | (go_at_call 21; refine (text_any _ _ (by assumption) _).mono ?_)
                         | (go_at_call 18; refine (same_yes _ _ _ true (same_refl _ _) _).mono ?_)
                         | (go_at_call 19; refine (length_yes _ (by assumption) (by assumption) _).mono ?_)
                         | (go_at_call 8; refine (awake20_any _).mono ?_))
                      rintro e w' ⟨rfl, hw⟩
                      exact ⟨rfl, St.call (by assumption) hw⟩)))
         try simp only [Act.put, List.setIfInBounds_toArray, List.set])
        (first
           | (apply qw_skip rfl)
           | (apply qw_step rfl
              focus
                intro w0 hC
                (first
                   | exact eql_quiet 25 rfl rfl rfl Try.eqGuardType25 Try.underlying25 (by simp [go_sem]) (by simp [go_sem]) (by with_reducible assumption)
                   | exact neq_quiet 25 rfl rfl rfl Try.eqGuardType25 Try.underlying25 (by simp [go_sem]) (by simp [go_sem]) (by with_reducible assumption)))
           | (apply qw_step rfl
              focus
                intro w0 hC
                have hC' := Lib.hid hC
                obtain ⟨⟨r1, f1, i1, b1, l1⟩, ⟨r2, f2, i2, b2, l2⟩, ⟨r3, f3, i3, b3, l3⟩, m12, m21, m13, m31, m23, m32⟩ := St.facts3 hC
                clear hC
                go_simp
                have hC := hC'.out
                (first
                   | with_reducible rfl
                   | (skip
                      (first
                         | (go_at_call 17; refine (term_any _ _ _).mono ?_)
                         | (go_at_call 21; refine (text_any _ _ (by assumption) _).mono ?_)
                         | (go_at_call 18; refine (same_yes _ _ _ true (same_refl _ _) _).mono ?_)
                         | (go_at_call 19; refine (length_yes _ (by assumption) (by assumption) _).mono ?_)
                         | (go_at_call 8; refine (awake20_any _).mono ?_))
                      rintro e w' ⟨rfl, hw⟩
                      exact ⟨rfl, St.call (by assumption) hw⟩)))
         try simp only [Act.put, List.setIfInBounds_toArray, List.set])
        (first
           | (apply qw_skip rfl)
           | (apply qw_step rfl
              focus
                intro w0 hC
                (first
                   | exact eql_quiet 25 rfl rfl rfl Try.eqGuardType25 Try.underlying25 (by simp [go_sem]) (by simp [go_sem]) (by with_reducible assumption)
                   | exact neq_quiet 25 rfl rfl rfl Try.eqGuardType25 Try.underlying25 (by simp [go_sem]) (by simp [go_sem]) (by with_reducible assumption)))
           | (apply qw_step rfl
              focus
                intro w0 hC
                have hC' := Lib.hid hC
                obtain ⟨⟨r1, f1, i1, b1, l1⟩, ⟨r2, f2, i2, b2, l2⟩, ⟨r3, f3, i3, b3, l3⟩, m12, m21, m13, m31, m23, m32⟩ := St.facts3 hC
                clear hC
                go_simp
                have hC := hC'.out
                (first
                   | with_reducible rfl
                   | (skip
                      (first
                         | (go_at_call 17; refine (term_any _ _ _).mono ?_)
                         | (go_at_call 21; refine (text_any _ _ (by assumption) _).mono ?_)
                         | (go_at_call 18; refine (same_yes _ _ _ true (same_refl _ _) _).mono ?_)
                         | (go_at_call 19; refine (length_yes _ (by assumption) (by assumption) _).mono ?_)
                         | (go_at_call 8; refine (awake20_any _).mono ?_))
                      rintro e w' ⟨rfl, hw⟩
                      exact ⟨rfl, St.call (by assumption) hw⟩)))
         try simp only [Act.put, List.setIfInBounds_toArray, List.set])
        (first
           | (apply qw_skip rfl)
           | (apply qw_step rfl
              focus
                intro w0 hC
                (first
                   | exact eql_quiet 25 rfl rfl rfl Try.eqGuardType25 Try.underlying25 (by simp [go_sem]) (by simp [go_sem]) (by with_reducible assumption)
                   | exact neq_quiet 25 rfl rfl rfl Try.eqGuardType25 Try.underlying25 (by simp [go_sem]) (by simp [go_sem]) (by with_reducible assumption)))
           | (apply qw_step rfl
              focus
                intro w0 hC
                have hC' := Lib.hid hC
                obtain ⟨⟨r1, f1, i1, b1, l1⟩, ⟨r2, f2, i2, b2, l2⟩, ⟨r3, f3, i3, b3, l3⟩, m12, m21, m13, m31, m23, m32⟩ := St.facts3 hC
                clear hC
                go_simp
                have hC := hC'.out
                (first
                   | with_reducible rfl
                   | (skip
                      (first
                         | (go_at_call 17; refine (term_any _ _ _).mono ?_)
                         | (go_at_call 21; refine (text_any _ _ (by assumption) _).mono ?_)
                         | (go_at_call 18; refine (same_yes _ _ _ true (same_refl _ _) _).mono ?_)
                         | (go_at_call 19; refine (length_yes _ (by assumption) (by assumption) _).mono ?_)
                         | (go_at_call 8; refine (awake20_any _).mono ?_))
                      rintro e w' ⟨rfl, hw⟩
                      exact ⟨rfl, St.call (by assumption) hw⟩)))
         try simp only [Act.put, List.setIfInBounds_toArray, List.set])
        (first
           | (apply qw_skip rfl)
           | (apply qw_step rfl
              focus
                intro w0 hC
                (first
                   | exact eql_quiet 25 rfl rfl rfl Try.eqGuardType25 Try.underlying25 (by simp [go_sem]) (by simp [go_sem]) (by with_reducible assumption)
                   | exact neq_quiet 25 rfl rfl rfl Try.eqGuardType25 Try.underlying25 (by simp [go_sem]) (by simp [go_sem]) (by with_reducible assumption)))
           | (apply qw_step rfl
              focus
                intro w0 hC
                have hC' := Lib.hid hC
                obtain ⟨⟨r1, f1, i1, b1, l1⟩, ⟨r2, f2, i2, b2, l2⟩, ⟨r3, f3, i3, b3, l3⟩, m12, m21, m13, m31, m23, m32⟩ := St.facts3 hC
                clear hC
                go_simp
                have hC := hC'.out
                (first
                   | with_reducible rfl
                   | (skip
                      (first
                         | (go_at_call 17; refine (term_any _ _ _).mono ?_)
                         | (go_at_call 21; refine (text_any _ _ (by assumption) _).mono ?_)
                         | (go_at_call 18; refine (same_yes _ _ _ true (same_refl _ _) _).mono ?_)
                         | (go_at_call 19; refine (length_yes _ (by assumption) (by assumption) _).mono ?_)
                         | (go_at_call 8; refine (awake20_any _).mono ?_))
                      rintro e w' ⟨rfl, hw⟩
                      exact ⟨rfl, St.call (by assumption) hw⟩)))
         try simp only [Act.put, List.setIfInBounds_toArray, List.set])
        (first
           | (apply qw_skip rfl)
           | (apply qw_step rfl
              focus
                intro w0 hC
                (first
                   | exact eql_quiet 25 rfl rfl rfl Try.eqGuardType25 Try.underlying25 (by simp [go_sem]) (by simp [go_sem]) (by with_reducible assumption)
                   | exact neq_quiet 25 rfl rfl rfl Try.eqGuardType25 Try.underlying25 (by simp [go_sem]) (by simp [go_sem]) (by with_reducible assumption)))
           | (apply qw_step rfl
              focus
                intro w0 hC
                have hC' := Lib.hid hC
                obtain ⟨⟨r1, f1, i1, b1, l1⟩, ⟨r2, f2, i2, b2, l2⟩, ⟨r3, f3, i3, b3, l3⟩, m12, m21, m13, m31, m23, m32⟩ := St.facts3 hC
                clear hC
                go_simp
                have hC := hC'.out
                (first
                   | with_reducible rfl
                   | (skip
                      (first
                         | (go_at_call 17; refine (term_any _ _ _).mono ?_)
                         | (go_at_call 21; refine (text_any _ _ (by assumption) _).mono ?_)
                         | (go_at_call 18; refine (same_yes _ _ _ true (same_refl _ _) _).mono ?_)
                         | (go_at_call 19; refine (length_yes _ (by assumption) (by assumption) _).mono ?_)
                         | (go_at_call 8; refine (awake20_any _).mono ?_))
                      rintro e w' ⟨rfl, hw⟩
                      exact ⟨rfl, St.call (by assumption) hw⟩)))
         try simp only [Act.put, List.setIfInBounds_toArray, List.set])
        (first
           | (apply qw_skip rfl)
           | (apply qw_step rfl
              focus
                intro w0 hC
                (first
                   | exact eql_quiet 25 rfl rfl rfl Try.eqGuardType25 Try.underlying25 (by simp [go_sem]) (by simp [go_sem]) (by with_reducible assumption)
                   | exact neq_quiet 25 rfl rfl rfl Try.eqGuardType25 Try.underlying25 (by simp [go_sem]) (by simp [go_sem]) (by with_reducible assumption)))
           | (apply qw_step rfl
              focus
                intro w0 hC
                have hC' := Lib.hid hC
                obtain ⟨⟨r1, f1, i1, b1, l1⟩, ⟨r2, f2, i2, b2, l2⟩, ⟨r3, f3, i3, b3, l3⟩, m12, m21, m13, m31, m23, m32⟩ := St.facts3 hC
                clear hC
                go_simp
                have hC := hC'.out
                (first
                   | with_reducible rfl
                   | (skip
                      (first
                         | (go_at_call 17; refine (term_any _ _ _).mono ?_)
                         | (go_at_call 21; refine (text_any _ _ (by assumption) _).mono ?_)
                         | (go_at_call 18; refine (same_yes _ _ _ true (same_refl _ _) _).mono ?_)
                         | (go_at_call 19; refine (length_yes _ (by assumption) (by assumption) _).mono ?_)
                         | (go_at_call 8; refine (awake20_any _).mono ?_))
                      rintro e w' ⟨rfl, hw⟩
                      exact ⟨rfl, St.call (by assumption) hw⟩)))
         try simp only [Act.put, List.setIfInBounds_toArray, List.set])
        (first
           | (apply qw_skip rfl)
           | (apply qw_step rfl
              focus
                intro w0 hC
                (first
                   | exact eql_quiet 25 rfl rfl rfl Try.eqGuardType25 Try.underlying25 (by simp [go_sem]) (by simp [go_sem]) (by with_reducible assumption)
                   | exact neq_quiet 25 rfl rfl rfl Try.eqGuardType25 Try.underlying25 (by simp [go_sem]) (by simp [go_sem]) (by with_reducible assumption)))
           | (apply qw_step rfl
              focus
                intro w0 hC
                have hC' := Lib.hid hC
                obtain ⟨⟨r1, f1, i1, b1, l1⟩, ⟨r2, f2, i2, b2, l2⟩, ⟨r3, f3, i3, b3, l3⟩, m12, m21, m13, m31, m23, m32⟩ := St.facts3 hC
                clear hC
                go_simp
                have hC := hC'.out
                (first
                   | with_reducible rfl
                   | (skip
                      (first
                         | (go_at_call 17; refine (term_any _ _ _).mono ?_)
                         | (go_at_call 21; refine (text_any _ _ (by assumption) _).mono ?_)
                         | (go_at_call 18; refine (same_yes _ _ _ true (same_refl _ _) _).mono ?_)
                         | (go_at_call 19; refine (length_yes _ (by assumption) (by assumption) _).mono ?_)
                         | (go_at_call 8; refine (awake20_any _).mono ?_))
                      rintro e w' ⟨rfl, hw⟩
                      exact ⟨rfl, St.call (by assumption) hw⟩)))
         try simp only [Act.put, List.setIfInBounds_toArray, List.set])
        (first
           | (apply qw_skip rfl)
           | (apply qw_step rfl
              focus
                intro w0 hC
                (first
                   | exact eql_quiet 25 rfl rfl rfl Try.eqGuardType25 Try.underlying25 (by simp [go_sem]) (by simp [go_sem]) (by with_reducible assumption)
                   | exact neq_quiet 25 rfl rfl rfl Try.eqGuardType25 Try.underlying25 (by simp [go_sem]) (by simp [go_sem]) (by with_reducible assumption)))
           | (apply qw_step rfl
              focus
                intro w0 hC
                have hC' := Lib.hid hC
                obtain ⟨⟨r1, f1, i1, b1, l1⟩, ⟨r2, f2, i2, b2, l2⟩, ⟨r3, f3, i3, b3, l3⟩, m12, m21, m13, m31, m23, m32⟩ := St.facts3 hC
                clear hC
                go_simp
                have hC := hC'.out
                (first
                   | with_reducible rfl
                   | (skip
                      (first
                         | (go_at_call 17; refine (term_any _ _ _).mono ?_)
                         | (go_at_call 21; refine (text_any _ _ (by assumption) _).mono ?_)
                         | (go_at_call 18; refine (same_yes _ _ _ true (same_refl _ _) _).mono ?_)
                         | (go_at_call 19; refine (length_yes _ (by assumption) (by assumption) _).mono ?_)
                         | (go_at_call 8; refine (awake20_any _).mono ?_))
                      rintro e w' ⟨rfl, hw⟩
                      exact ⟨rfl, St.call (by assumption) hw⟩)))
         try simp only [Act.put, List.setIfInBounds_toArray, List.set])
        (first
           | (apply qw_skip rfl)
           | (apply qw_step rfl
              focus
                intro w0 hC
                (first
                   | exact eql_quiet 25 rfl rfl rfl Try.eqGuardType25 Try.underlying25 (by simp [go_sem]) (by simp [go_sem]) (by with_reducible assumption)
                   | exact neq_quiet 25 rfl rfl rfl Try.eqGuardType25 Try.underlying25 (by simp [go_sem]) (by simp [go_sem]) (by with_reducible assumption)))
           | (apply qw_step rfl
              focus
                intro w0 hC
                have hC' := Lib.hid hC
                obtain ⟨⟨r1, f1, i1, b1, l1⟩, ⟨r2, f2, i2, b2, l2⟩, ⟨r3, f3, i3, b3, l3⟩, m12, m21, m13, m31, m23, m32⟩ := St.facts3 hC
                clear hC
                go_simp
                have hC := hC'.out
                (first
                   | with_reducible rfl
                   | (skip
                      (first
                         | (go_at_call 17; refine (term_any _ _ _).mono ?_)
                         | (go_at_call 21; refine (text_any _ _ (by assumption) _).mono ?_)
                         | (go_at_call 18; refine (same_yes _ _ _ true (same_refl _ _) _).mono ?_)
                         | (go_at_call 19; refine (length_yes _ (by assumption) (by assumption) _).mono ?_)
                         | (go_at_call 8; refine (awake20_any _).mono ?_))
                      rintro e w' ⟨rfl, hw⟩
                      exact ⟨rfl, St.call (by assumption) hw⟩)))
         try simp only [Act.put, List.setIfInBounds_toArray, List.set])
        (first
           | (apply qw_skip rfl)
           | (apply qw_step rfl
              focus
                intro w0 hC
                (first
                   | exact eql_quiet 25 rfl rfl rfl Try.eqGuardType25 Try.underlying25 (by simp [go_sem]) (by simp [go_sem]) (by with_reducible assumption)
                   | exact neq_quiet 25 rfl rfl rfl Try.eqGuardType25 Try.underlying25 (by simp [go_sem]) (by simp [go_sem]) (by with_reducible assumption)))
           | (apply qw_step rfl
              focus
                intro w0 hC
                have hC' := Lib.hid hC
                obtain ⟨⟨r1, f1, i1, b1, l1⟩, ⟨r2, f2, i2, b2, l2⟩, ⟨r3, f3, i3, b3, l3⟩, m12, m21, m13, m31, m23, m32⟩ := St.facts3 hC
                clear hC
                go_simp
                have hC := hC'.out
                (first
                   | with_reducible rfl
                   | (skip
                      (first
                         | (go_at_call 17; refine (term_any _ _ _).mono ?_)
                         | (go_at_call 21; refine (text_any _ _ (by assumption) _).mono ?_)
                         | (go_at_call 18; refine (same_yes _ _ _ true (same_refl _ _) _).mono ?_)
                         | (go_at_call 19; refine (length_yes _ (by assumption) (by assumption) _).mono ?_)
                         | (go_at_call 8; refine (awake20_any _).mono ?_))
                      rintro e w' ⟨rfl, hw⟩
                      exact ⟨rfl, St.call (by assumption) hw⟩)))
         try simp only [Act.put, List.setIfInBounds_toArray, List.set])
        (first
           | (apply qw_skip rfl)
           | (apply qw_step rfl
              focus
                intro w0 hC
                (first
                   | exact eql_quiet 25 rfl rfl rfl Try.eqGuardType25 Try.underlying25 (by simp [go_sem]) (by simp [go_sem]) (by with_reducible assumption)
                   | exact neq_quiet 25 rfl rfl rfl Try.eqGuardType25 Try.underlying25 (by simp [go_sem]) (by simp [go_sem]) (by with_reducible assumption)))
           | (apply qw_step rfl
              focus
                intro w0 hC
                have hC' := Lib.hid hC
                obtain ⟨⟨r1, f1, i1, b1, l1⟩, ⟨r2, f2, i2, b2, l2⟩, ⟨r3, f3, i3, b3, l3⟩, m12, m21, m13, m31, m23, m32⟩ := St.facts3 hC
                clear hC
                go_simp
                have hC := hC'.out
                (first
                   | with_reducible rfl
                   | (skip
                      (first
                         | (go_at_call 17; refine (term_any _ _ _).mono ?_)
                         | (go_at_call 21; refine (text_any _ _ (by assumption) _).mono ?_)
                         | (go_at_call 18; refine (same_yes _ _ _ true (same_refl _ _) _).mono ?_)
                         | (go_at_call 19; refine (length_yes _ (by assumption) (by assumption) _).mono ?_)
                         | (go_at_call 8; refine (awake20_any _).mono ?_))
                      rintro e w' ⟨rfl, hw⟩
                      exact ⟨rfl, St.call (by assumption) hw⟩)))
         try simp only [Act.put, List.setIfInBounds_toArray, List.set])
        (first
           | (apply qw_skip rfl)
           | (apply qw_step rfl
              focus
                intro w0 hC
                (first
                   | exact eql_quiet 25 rfl rfl rfl Try.eqGuardType25 Try.underlying25 (by simp [go_sem]) (by simp [go_sem]) (by with_reducible assumption)
                   | exact neq_quiet 25 rfl rfl rfl Try.eqGuardType25 Try.underlying25 (by simp [go_sem]) (by simp [go_sem]) (by with_reducible assumption)))
           | (apply qw_step rfl
              focus
                intro w0 hC
                have hC' := Lib.hid hC
                obtain ⟨⟨r1, f1, i1, b1, l1⟩, ⟨r2, f2, i2, b2, l2⟩, ⟨r3, f3, i3, b3, l3⟩, m12, m21, m13, m31, m23, m32⟩ := St.facts3 hC
                clear hC
                go_simp
                have hC := hC'.out
                (first
                   | with_reducible rfl
                   | (skip
                      (first
                         | (go_at_call 17; refine (term_any _ _ _).mono ?_)
                         | (go_at_call 21; refine (text_any _ _ (by assumption) _).mono ?_)
                         | (go_at_call 18; refine (same_yes _ _ _ true (same_refl _ _) _).mono ?_)
                         | (go_at_call 19; refine (length_yes _ (by assumption) (by assumption) _).mono ?_)
                         | (go_at_call 8; refine (awake20_any _).mono ?_))
                      rintro e w' ⟨rfl, hw⟩
                      exact ⟨rfl, St.call (by assumption) hw⟩)))
         try simp only [Act.put, List.setIfInBounds_toArray, List.set])
        (first
           | (apply qw_skip rfl)
           | (apply qw_step rfl
              focus
                intro w0 hC
                (first
                   | exact eql_quiet 25 rfl rfl rfl Try.eqGuardType25 Try.underlying25 (by simp [go_sem]) (by simp [go_sem]) (by with_reducible assumption)
                   | exact neq_quiet 25 rfl rfl rfl Try.eqGuardType25 Try.underlying25 (by simp [go_sem]) (by simp [go_sem]) (by with_reducible assumption)))
           | (apply qw_step rfl
              focus
                intro w0 hC
                have hC' := Lib.hid hC
                obtain ⟨⟨r1, f1, i1, b1, l1⟩, ⟨r2, f2, i2, b2, l2⟩, ⟨r3, f3, i3, b3, l3⟩, m12, m21, m13, m31, m23, m32⟩ := St.facts3 hC
                clear hC
                go_simp
                have hC := hC'.out
                (first
                   | with_reducible rfl
                   | (skip
                      (first
                         | (go_at_call 17; refine (term_any _ _ _).mono ?_)
                         | (go_at_call 21; refine (text_any _ _ (by assumption) _).mono ?_)
                         | (go_at_call 18; refine (same_yes _ _ _ true (same_refl _ _) _).mono ?_)
                         | (go_at_call 19; refine (length_yes _ (by assumption) (by assumption) _).mono ?_)
                         | (go_at_call 8; refine (awake20_any _).mono ?_))
                      rintro e w' ⟨rfl, hw⟩
                      exact ⟨rfl, St.call (by assumption) hw⟩)))
         try simp only [Act.put, List.setIfInBounds_toArray, List.set])
        (first
           | (apply qw_skip rfl)
           | (apply qw_step rfl
              focus
                intro w0 hC
                (first
                   | exact eql_quiet 25 rfl rfl rfl Try.eqGuardType25 Try.underlying25 (by simp [go_sem]) (by simp [go_sem]) (by with_reducible assumption)
                   | exact neq_quiet 25 rfl rfl rfl Try.eqGuardType25 Try.underlying25 (by simp [go_sem]) (by simp [go_sem]) (by with_reducible assumption)))
           | (apply qw_step rfl
              focus
                intro w0 hC
                have hC' := Lib.hid hC
                obtain ⟨⟨r1, f1, i1, b1, l1⟩, ⟨r2, f2, i2, b2, l2⟩, ⟨r3, f3, i3, b3, l3⟩, m12, m21, m13, m31, m23, m32⟩ := St.facts3 hC
                clear hC
                go_simp
                have hC := hC'.out
                (first
                   | with_reducible rfl
                   | (skip
                      (first
                         | (go_at_call 17; refine (term_any _ _ _).mono ?_)
                         | (go_at_call 21; refine (text_any _ _ (by assumption) _).mono ?_)
                         | (go_at_call 18; refine (same_yes _ _ _ true (same_refl _ _) _).mono ?_)
                         | (go_at_call 19; refine (length_yes _ (by assumption) (by assumption) _).mono ?_)
                         | (go_at_call 8; refine (awake20_any _).mono ?_))
                      rintro e w' ⟨rfl, hw⟩
                      exact ⟨rfl, St.call (by assumption) hw⟩)))
         try simp only [Act.put, List.setIfInBounds_toArray, List.set])
        (first
           | (apply qw_skip rfl)
           | (apply qw_step rfl
              focus
                intro w0 hC
                (first
                   | exact eql_quiet 25 rfl rfl rfl Try.eqGuardType25 Try.underlying25 (by simp [go_sem]) (by simp [go_sem]) (by with_reducible assumption)
                   | exact neq_quiet 25 rfl rfl rfl Try.eqGuardType25 Try.underlying25 (by simp [go_sem]) (by simp [go_sem]) (by with_reducible assumption)))
           | (apply qw_step rfl
              focus
                intro w0 hC
                have hC' := Lib.hid hC
                obtain ⟨⟨r1, f1, i1, b1, l1⟩, ⟨r2, f2, i2, b2, l2⟩, ⟨r3, f3, i3, b3, l3⟩, m12, m21, m13, m31, m23, m32⟩ := St.facts3 hC
                clear hC
                go_simp
                have hC := hC'.out
                (first
                   | with_reducible rfl
                   | (skip
                      (first
                         | (go_at_call 17; refine (term_any _ _ _).mono ?_)
                         | (go_at_call 21; refine (text_any _ _ (by assumption) _).mono ?_)
                         | (go_at_call 18; refine (same_yes _ _ _ true (same_refl _ _) _).mono ?_)
                         | (go_at_call 19; refine (length_yes _ (by assumption) (by assumption) _).mono ?_)
                         | (go_at_call 8; refine (awake20_any _).mono ?_))
                      rintro e w' ⟨rfl, hw⟩
                      exact ⟨rfl, St.call (by assumption) hw⟩)))
         try simp only [Act.put, List.setIfInBounds_toArray, List.set])
        (first
           | (apply qw_skip rfl)
           | (apply qw_step rfl
              focus
                intro w0 hC
                (first
                   | exact eql_quiet 25 rfl rfl rfl Try.eqGuardType25 Try.underlying25 (by simp [go_sem]) (by simp [go_sem]) (by with_reducible assumption)
                   | exact neq_quiet 25 rfl rfl rfl Try.eqGuardType25 Try.underlying25 (by simp [go_sem]) (by simp [go_sem]) (by with_reducible assumption)))
           | (apply qw_step rfl
              focus
                intro w0 hC
                have hC' := Lib.hid hC
                obtain ⟨⟨r1, f1, i1, b1, l1⟩, ⟨r2, f2, i2, b2, l2⟩, ⟨r3, f3, i3, b3, l3⟩, m12, m21, m13, m31, m23, m32⟩ := St.facts3 hC
                clear hC
                go_simp
                have hC := hC'.out
                (first
                   | with_reducible rfl
                   | (skip
                      (first
                         | (go_at_call 17; refine (term_any _ _ _).mono ?_)
                         | (go_at_call 21; refine (text_any _ _ (by assumption) _).mono ?_)
                         | (go_at_call 18; refine (same_yes _ _ _ true (same_refl _ _) _).mono ?_)
                         | (go_at_call 19; refine (length_yes _ (by assumption) (by assumption) _).mono ?_)
                         | (go_at_call 8; refine (awake20_any _).mono ?_))
                      rintro e w' ⟨rfl, hw⟩
                      exact ⟨rfl, St.call (by assumption) hw⟩)))
         try simp only [Act.put, List.setIfInBounds_toArray, List.set])
        (first
           | (apply qw_skip rfl)
           | (apply qw_step rfl
              focus
                intro w0 hC
                (first
                   | exact eql_quiet 25 rfl rfl rfl Try.eqGuardType25 Try.underlying25 (by simp [go_sem]) (by simp [go_sem]) (by with_reducible assumption)
                   | exact neq_quiet 25 rfl rfl rfl Try.eqGuardType25 Try.underlying25 (by simp [go_sem]) (by simp [go_sem]) (by with_reducible assumption)))
           | (apply qw_step rfl
              focus
                intro w0 hC
                have hC' := Lib.hid hC
                obtain ⟨⟨r1, f1, i1, b1, l1⟩, ⟨r2, f2, i2, b2, l2⟩, ⟨r3, f3, i3, b3, l3⟩, m12, m21, m13, m31, m23, m32⟩ := St.facts3 hC
                clear hC
                go_simp
                have hC := hC'.out
                (first
                   | with_reducible rfl
                   | (skip
                      (first
                         | (go_at_call 17; refine (term_any _ _ _).mono ?_)
                         | (go_at_call 21; refine (text_any _ _ (by assumption) _).mono ?_)
                         | (go_at_call 18; refine (same_yes _ _ _ true (same_refl _ _) _).mono ?_)
                         | (go_at_call 19; refine (length_yes _ (by assumption) (by assumption) _).mono ?_)
                         | (go_at_call 8; refine (awake20_any _).mono ?_))
                      rintro e w' ⟨rfl, hw⟩
                      exact ⟨rfl, St.call (by assumption) hw⟩)))
         try simp only [Act.put, List.setIfInBounds_toArray, List.set])
        (first
           | (apply qw_skip rfl)
           | (apply qw_step rfl
              focus
                intro w0 hC
                (first
                   | exact eql_quiet 25 rfl rfl rfl Try.eqGuardType25 Try.underlying25 (by simp [go_sem]) (by simp [go_sem]) (by with_reducible assumption)
                   | exact neq_quiet 25 rfl rfl rfl Try.eqGuardType25 Try.underlying25 (by simp [go_sem]) (by simp [go_sem]) (by with_reducible assumption)))
           | (apply qw_step rfl
              focus
                intro w0 hC
                have hC' := Lib.hid hC
                obtain ⟨⟨r1, f1, i1, b1, l1⟩, ⟨r2, f2, i2, b2, l2⟩, ⟨r3, f3, i3, b3, l3⟩, m12, m21, m13, m31, m23, m32⟩ := St.facts3 hC
                clear hC
                go_simp
                have hC := hC'.out
                (first
                   | with_reducible rfl
                   | (skip
                      (first
                         | (go_at_call 17; refine (term_any _ _ _).mono ?_)
                         | (go_at_call 21; refine (text_any _ _ (by assumption) _).mono ?_)
                         | (go_at_call 18; refine (same_yes _ _ _ true (same_refl _ _) _).mono ?_)
                         | (go_at_call 19; refine (length_yes _ (by assumption) (by assumption) _).mono ?_)
                         | (go_at_call 8; refine (awake20_any _).mono ?_))
                      rintro e w' ⟨rfl, hw⟩
                      exact ⟨rfl, St.call (by assumption) hw⟩)))
         try simp only [Act.put, List.setIfInBounds_toArray, List.set])
        refine qw_nil ?_
        intro w9 hC
        have HC := Lib.hid hC
        clear hC
        go_wp2_with fail
        go_ret
        exact ⟨rfl, HC.out.below⟩
end Go.Proofs.Ytgaecjhghpkcoaa
