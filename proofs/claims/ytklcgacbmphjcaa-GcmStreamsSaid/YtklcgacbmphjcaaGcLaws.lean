/- GcmStreams and GcmSeals return true. No condition. -/
import Derived.Test.YtklcgacbmphjcaaMGcmRef
namespace Go.Proofs.Ytklcgacbmphjcaa
open Go.RowKit
attribute [local go_sem] B_xor B_or B_and
attribute [local go_sem] blk_set blk_size blk_get blk_getE upd_same oneCells_blk paste_blk cut_blk szOf
attribute [local go_sem high] paste_all cut_head
attribute [local go_sem] rowAt_alloc rowAt_drew rowAt_drewN isRow_alloc isRow_drew isRow_drewN freeRow_alloc freeRow_end freeRow_drew freeRow_drewN
attribute [local go_sem] setRow_alloc setRow_drew setRow_drewN setCell_drewN alloc_drewN rowAt_put isRow_setRow freeRow_put
attribute [local go_sem ↓] loadS_in storeS_in indexS_in copyS_in
attribute [local go_sem] loadS_row loadS_one storeS_row storeS_one indexS_blk copyS_rows run_equalIn_blk same_refl arrayAt_row
attribute [local go_sem] cell_row frozen_row st_setCell st_blk_ne stepAt stepUpon
attribute [local go_sem high] run_eql_blk run_neq_blk
attribute [local go_sem ↓] convBS_in
attribute [local go_sem] convBS_row convBS_nil allBytes_blk bytesOf_blk

/-- an iv, what a text belongs to, a text -/
def tx (a b c : ByteArray) : Array Value := #[.string a, .string b, .string c]
theorem tx_size (a b c : ByteArray) : (tx a b c).size = 3 := rfl
theorem tx_get0 (a b c : ByteArray) : (tx a b c)[0]? = some (.string a) := rfl
theorem tx_get1 (a b c : ByteArray) : (tx a b c)[1]? = some (.string b) := rfl
theorem tx_get2 (a b c : ByteArray) : (tx a b c)[2]? = some (.string c) := rfl
theorem tx_cut (a b c : ByteArray) : cut (tx a b c) 0 3 = tx a b c := by simp [cut, tx]
theorem tx_ne (a b c : ByteArray) : (tx a b c = #[]) = False := by simp [tx]
theorem tx_one (a b c : ByteArray) : oneCells (tx a b c) = true := by simp [oneCells, tx, Value.oneCell']
attribute [local go_sem] tx_size tx_get0 tx_get1 tx_get2 tx_cut tx_ne tx_one
theorem over_tx (a b c : ByteArray) (v : Bool) (h : decide (20 < a.size ∨ 60 < b.size ∨ 60 < c.size) = v) (w : World) : Calls Try.prog 25 #[.agg (tx a b c)] w fun e w' => e = .returned (.bool v) ∧ Below w.heap.size w w' := h ▸ over09_any a b c w

theorem streams_both (k : Nat → UInt8) (iv s : ByteArray) (n : Nat) (hn : n < 4294967296) (hs : s.size < 2 ^ 40) : ∃ (A : ByteArray) (E : Int),
    (∀ w, Calls Try.prog 32 #[.agg (blk 16 k), .string iv, .int .u32 (n : Int), .string s] w fun e w' => e = .returned (.tuple #[.string A, .int .i64 E]) ∧ Below w.heap.size w w') ∧
    (∀ w, Calls Try.prog 33 #[.agg (blk 16 k), .string iv, .int .u32 (n : Int), .string s] w fun e w' => e = .returned (.tuple #[.string A, .int .i64 E]) ∧ Below w.heap.size w w') := by
  by_cases h : iv.size = 12
  · exact ⟨_, _, fun w => gcStream_any k iv s n hn hs h w, fun w => refStream_any k iv s n hn hs h w⟩
  · exact ⟨_, _, fun w => gcStream_short k iv s n h w, fun w => refStream_short k iv s n h w⟩
theorem tags_both (k : Nat → UInt8) (iv a s : ByteArray) (ha : a.size < 2 ^ 40) (hs : s.size < 2 ^ 40) : ∃ (A : ByteArray) (E : Int),
    (∀ w, Calls Try.prog 34 #[.agg (blk 16 k), .string iv, .string a, .string s] w fun e w' => e = .returned (.tuple #[.string A, .int .i64 E]) ∧ Below w.heap.size w w') ∧
    (∀ w, Calls Try.prog 35 #[.agg (blk 16 k), .string iv, .string a, .string s] w fun e w' => e = .returned (.tuple #[.string A, .int .i64 E]) ∧ Below w.heap.size w w') := by
  by_cases h : iv.size = 12
  · exact ⟨_, _, fun w => gcTag_any k iv a s ha hs h w, fun w => refTag_any k iv a s ha hs h w⟩
  · exact ⟨_, _, fun w => gcTag_short k iv a s h w, fun w => refTag_short k iv a s h w⟩
theorem seals_both (k : Nat → UInt8) (iv a s : ByteArray) (ha : a.size < 2 ^ 40) (hs : s.size < 2 ^ 40) : ∃ (A : ByteArray) (E : Int),
    (∀ w, Calls Try.prog 27 #[.agg (blk 16 k), .string iv, .string a, .string s] w fun e w' => e = .returned (.tuple #[.string A, .int .i64 E]) ∧ Below w.heap.size w w') ∧
    (∀ w, Calls Try.prog 28 #[.agg (blk 16 k), .string iv, .string a, .string s] w fun e w' => e = .returned (.tuple #[.string A, .int .i64 E]) ∧ Below w.heap.size w w') := by
  by_cases h : iv.size = 12
  · exact ⟨_, _, fun w => gcSeal_any k iv a s ha hs h w, fun w => refSeal09_any k iv a s ha hs h w⟩
  · exact ⟨_, _, fun w => gcSeal_short k iv a s h w, fun w => refSeal09_short k iv a s h w⟩
theorem opens_both (k : Nat → UInt8) (iv a s : ByteArray) (ha : a.size < 2 ^ 40) (hs : s.size < 2 ^ 40) : ∃ (A : ByteArray) (E : Int),
    (∀ w, Calls Try.prog 29 #[.agg (blk 16 k), .string iv, .string a, .string s] w fun e w' => e = .returned (.tuple #[.string A, .int .i64 E]) ∧ Below w.heap.size w w') ∧
    (∀ w, Calls Try.prog 30 #[.agg (blk 16 k), .string iv, .string a, .string s] w fun e w' => e = .returned (.tuple #[.string A, .int .i64 E]) ∧ Below w.heap.size w w') := by
  by_cases h : iv.size = 12
  · by_cases hl : s.size < 16
    · exact ⟨_, _, fun w => gcOpen_less k iv a s h hl w, fun w => refOpen09_less k iv a s h hl w⟩
    · cases hok : tagged (Ci.rounds k) (ofText iv) a s with
      | true => exact ⟨_, _, fun w => gcOpen_full k iv a s ha hs h (by omega) true hok _ _ (.inl ⟨rfl, rfl, rfl⟩) w, fun w => refOpen09_full k iv a s ha hs h (by omega) true hok _ _ (.inl ⟨rfl, rfl, rfl⟩) w⟩
      | false => exact ⟨_, _, fun w => gcOpen_full k iv a s ha hs h (by omega) false hok _ _ (.inr ⟨rfl, rfl, rfl⟩) w, fun w => refOpen09_full k iv a s ha hs h (by omega) false hok _ _ (.inr ⟨rfl, rfl, rfl⟩) w⟩
  · exact ⟨_, _, fun w => gcOpen_short k iv a s h w, fun w => refOpen09_short k iv a s h w⟩

set_option maxRecDepth 100000 in
set_option maxHeartbeats 2000000 in
theorem gcmSeals_walk (k : Nat → UInt8) (t : ByteArray × ByteArray × ByteArray) (w : World) : Calls Try.prog 6 #[.agg (blk 16 k), .agg (tx t.1 t.2.1 t.2.2)] w fun e w' => e = .returned (.bool true) ∧ Below w.heap.size w w' := by
  obtain ⟨iv, a, s⟩ := t
  show Calls Try.prog 6 #[.agg (blk 16 k), .agg (tx iv a s)] w _
  have hz := zero16
  have HC := Lib.hid (((St.nil w).pushA (blk 16 k) 22 rfl).pushA (tx iv a s) 52 (g := w.heap.size + 1) (by simp))
  cases ho : decide (20 < iv.size ∨ 60 < a.size ∨ 60 < s.size) with
  | true =>
    have HO := Lib.hid ho
    clear ho
    go_enter Try.func6, Try.ntmps6
    go_wp2_with fail
    refine (over_tx iv a s true HO.out _).mono ?_; rintro e w1 ⟨rfl, hw⟩
    have HC := Lib.hid (HC.out.call hw)
    clear hw
    have hC := HC.out
    (have HC := Lib.hid hC
     have sos := hC.below.os
     obtain ⟨⟨r1, f1, i1, b1, l1⟩, ⟨r2, f2, i2, b2, l2⟩, m12, m21⟩ := St.facts2 hC
     clear hC)
    go_wp2_with fail
    (clear r1 f1 i1 b1 l1 r2 f2 i2 b2 l2 m12 m21 sos)
    refine (awake09_any _).mono ?_; rintro e w2 ⟨rfl, hw⟩
    have HC := Lib.hid (HC.out.call hw)
    clear hw
    have sos := HC.out.os
    go_wp2_with fail
    go_ret
    exact ⟨rfl, HC.out.below⟩
  | false =>
    have HO := Lib.hid ho
    have hlo := of_decide_eq_false ho
    obtain ⟨A, E, cA, cB⟩ := seals_both k iv a s (by omega) (by omega)
    obtain ⟨X, F, cX, cY⟩ := opens_both k iv a s (by omega) (by omega)
    have cA := Lib.hid cA
    have cB := Lib.hid cB
    have cX := Lib.hid cX
    have cY := Lib.hid cY
    have hA := text_same A
    have hX := text_same X
    clear ho hlo
    go_enter Try.func6, Try.ntmps6
    go_wp2_with fail
    refine (over_tx iv a s false HO.out _).mono ?_; rintro e w1 ⟨rfl, hw⟩
    have HC := Lib.hid (HC.out.call hw)
    clear hw
    have hC := HC.out
    (have HC := Lib.hid hC
     have sos := hC.below.os
     obtain ⟨⟨r1, f1, i1, b1, l1⟩, ⟨r2, f2, i2, b2, l2⟩, m12, m21⟩ := St.facts2 hC
     clear hC)
    go_wp2_with fail
    have HC := Lib.hid ((HC.out.push (blk 16 k) 25))
    (clear r1 f1 i1 b1 l1 r2 f2 i2 b2 l2 m12 m21 sos)
    generalize w1.heap.size = g at HC ⊢
    refine (cA.out _).mono ?_; rintro e w2 ⟨rfl, hw⟩
    have HC := Lib.hid (HC.out.call hw)
    clear hw
    have hC := HC.out
    (have HC := Lib.hid hC
     have sos := hC.below.os
     obtain ⟨⟨r1, f1, i1, b1, l1⟩, ⟨r2, f2, i2, b2, l2⟩, ⟨r3, f3, i3, b3, l3⟩, m12, m21, m13, m31, m23, m32⟩ := St.facts3 hC
     clear hC)
    go_wp2_with fail
    (clear r1 f1 i1 b1 l1 r2 f2 i2 b2 l2 r3 f3 i3 b3 l3 m12 m21 m13 m31 m23 m32 sos)
    refine (cB.out _).mono ?_; rintro e w3 ⟨rfl, hw⟩
    have HC := Lib.hid (HC.out.call hw)
    clear hw
    have hC := HC.out
    (have HC := Lib.hid hC
     have sos := hC.below.os
     obtain ⟨⟨r1, f1, i1, b1, l1⟩, ⟨r2, f2, i2, b2, l2⟩, ⟨r3, f3, i3, b3, l3⟩, m12, m21, m13, m31, m23, m32⟩ := St.facts3 hC
     clear hC)
    go_wp2_with fail
    (clear r1 f1 i1 b1 l1 r2 f2 i2 b2 l2 r3 f3 i3 b3 l3 m12 m21 m13 m31 m23 m32 sos)
    refine (cX.out _).mono ?_; rintro e w4 ⟨rfl, hw⟩
    have HC := Lib.hid (HC.out.call hw)
    clear hw
    have hC := HC.out
    (have HC := Lib.hid hC
     have sos := hC.below.os
     obtain ⟨⟨r1, f1, i1, b1, l1⟩, ⟨r2, f2, i2, b2, l2⟩, ⟨r3, f3, i3, b3, l3⟩, m12, m21, m13, m31, m23, m32⟩ := St.facts3 hC
     clear hC)
    go_wp2_with fail
    (clear r1 f1 i1 b1 l1 r2 f2 i2 b2 l2 r3 f3 i3 b3 l3 m12 m21 m13 m31 m23 m32 sos)
    refine (cY.out _).mono ?_; rintro e w5 ⟨rfl, hw⟩
    have HC := Lib.hid (HC.out.call hw)
    clear hw
    have hC := HC.out
    (have HC := Lib.hid hC
     have sos := hC.below.os
     obtain ⟨⟨r1, f1, i1, b1, l1⟩, ⟨r2, f2, i2, b2, l2⟩, ⟨r3, f3, i3, b3, l3⟩, m12, m21, m13, m31, m23, m32⟩ := St.facts3 hC
     clear hC)
    go_wp2_with fail
    (clear r1 f1 i1 b1 l1 r2 f2 i2 b2 l2 r3 f3 i3 b3 l3 m12 m21 m13 m31 m23 m32 sos)
    refine (awake09_any _).mono ?_; rintro e w6 ⟨rfl, hw⟩
    have HC := Lib.hid (HC.out.call hw)
    clear hw
    have sos := HC.out.os
    go_wp2_with fail
    go_ret
    exact ⟨rfl, HC.out.below⟩

set_option maxRecDepth 100000 in
set_option maxHeartbeats 2000000 in
theorem gcmStreams_walk (k : Nat → UInt8) (t : ByteArray × ByteArray × ByteArray) (m : Int) (hm : 0 ≤ m ∧ m ≤ 4294967295) (w : World) : Calls Try.prog 10 #[.agg (blk 16 k), .agg (tx t.1 t.2.1 t.2.2), .int .u32 m] w fun e w' => e = .returned (.bool true) ∧ Below w.heap.size w w' := by
  obtain ⟨n, rfl⟩ := Int.eq_ofNat_of_zero_le hm.1
  have hn : n < 4294967296 := by have := hm.2; omega
  clear hm
  obtain ⟨iv, a, s⟩ := t
  show Calls Try.prog 10 #[.agg (blk 16 k), .agg (tx iv a s), .int .u32 (n : Int)] w _
  have hz := zero16
  have HC := Lib.hid (((St.nil w).pushA (blk 16 k) 22 rfl).pushA (tx iv a s) 52 (g := w.heap.size + 1) (by simp))
  cases ho : decide (20 < iv.size ∨ 60 < a.size ∨ 60 < s.size) with
  | true =>
    have HO := Lib.hid ho
    clear ho
    go_enter Try.func10, Try.ntmps10
    go_wp2_with fail
    refine (over_tx iv a s true HO.out _).mono ?_; rintro e w1 ⟨rfl, hw⟩
    have HC := Lib.hid (HC.out.call hw)
    clear hw
    have hC := HC.out
    (have HC := Lib.hid hC
     have sos := hC.below.os
     obtain ⟨⟨r1, f1, i1, b1, l1⟩, ⟨r2, f2, i2, b2, l2⟩, m12, m21⟩ := St.facts2 hC
     clear hC)
    go_wp2_with fail
    (clear r1 f1 i1 b1 l1 r2 f2 i2 b2 l2 m12 m21 sos)
    refine (awake09_any _).mono ?_; rintro e w2 ⟨rfl, hw⟩
    have HC := Lib.hid (HC.out.call hw)
    clear hw
    have sos := HC.out.os
    go_wp2_with fail
    go_ret
    exact ⟨rfl, HC.out.below⟩
  | false =>
    have HO := Lib.hid ho
    have hlo := of_decide_eq_false ho
    obtain ⟨A, E, hA0, hB0⟩ := streams_both k iv s n hn (by omega)
    obtain ⟨X, F, hX0, hY0⟩ := tags_both k iv a s (by omega) (by omega)
    have cA := Lib.hid hA0
    have cB := Lib.hid hB0
    have cX := Lib.hid hX0
    have cY := Lib.hid hY0
    have hA := text_same A
    have hX := text_same X
    clear ho hlo hA0 hB0 hX0 hY0
    go_enter Try.func10, Try.ntmps10
    go_wp2_with fail
    refine (over_tx iv a s false HO.out _).mono ?_; rintro e w1 ⟨rfl, hw⟩
    have HC := Lib.hid (HC.out.call hw)
    clear hw
    have hC := HC.out
    (have HC := Lib.hid hC
     have sos := hC.below.os
     obtain ⟨⟨r1, f1, i1, b1, l1⟩, ⟨r2, f2, i2, b2, l2⟩, m12, m21⟩ := St.facts2 hC
     clear hC)
    go_wp2_with fail
    have HC := Lib.hid ((HC.out.push (blk 16 k) 25))
    (clear r1 f1 i1 b1 l1 r2 f2 i2 b2 l2 m12 m21 sos)
    generalize w1.heap.size = g at HC ⊢
    refine (cA.out _).mono ?_; rintro e w2 ⟨rfl, hw⟩
    have HC := Lib.hid (HC.out.call hw)
    clear hw
    have hC := HC.out
    (have HC := Lib.hid hC
     have sos := hC.below.os
     obtain ⟨⟨r1, f1, i1, b1, l1⟩, ⟨r2, f2, i2, b2, l2⟩, ⟨r3, f3, i3, b3, l3⟩, m12, m21, m13, m31, m23, m32⟩ := St.facts3 hC
     clear hC)
    go_wp2_with fail
    (clear r1 f1 i1 b1 l1 r2 f2 i2 b2 l2 r3 f3 i3 b3 l3 m12 m21 m13 m31 m23 m32 sos)
    refine (cB.out _).mono ?_; rintro e w3 ⟨rfl, hw⟩
    have HC := Lib.hid (HC.out.call hw)
    clear hw
    have hC := HC.out
    (have HC := Lib.hid hC
     have sos := hC.below.os
     obtain ⟨⟨r1, f1, i1, b1, l1⟩, ⟨r2, f2, i2, b2, l2⟩, ⟨r3, f3, i3, b3, l3⟩, m12, m21, m13, m31, m23, m32⟩ := St.facts3 hC
     clear hC)
    go_wp2_with fail
    (clear r1 f1 i1 b1 l1 r2 f2 i2 b2 l2 r3 f3 i3 b3 l3 m12 m21 m13 m31 m23 m32 sos)
    refine (cX.out _).mono ?_; rintro e w4 ⟨rfl, hw⟩
    have HC := Lib.hid (HC.out.call hw)
    clear hw
    have hC := HC.out
    (have HC := Lib.hid hC
     have sos := hC.below.os
     obtain ⟨⟨r1, f1, i1, b1, l1⟩, ⟨r2, f2, i2, b2, l2⟩, ⟨r3, f3, i3, b3, l3⟩, m12, m21, m13, m31, m23, m32⟩ := St.facts3 hC
     clear hC)
    go_wp2_with fail
    (clear r1 f1 i1 b1 l1 r2 f2 i2 b2 l2 r3 f3 i3 b3 l3 m12 m21 m13 m31 m23 m32 sos)
    refine (cY.out _).mono ?_; rintro e w5 ⟨rfl, hw⟩
    have HC := Lib.hid (HC.out.call hw)
    clear hw
    have hC := HC.out
    (have HC := Lib.hid hC
     have sos := hC.below.os
     obtain ⟨⟨r1, f1, i1, b1, l1⟩, ⟨r2, f2, i2, b2, l2⟩, ⟨r3, f3, i3, b3, l3⟩, m12, m21, m13, m31, m23, m32⟩ := St.facts3 hC
     clear hC)
    go_wp2_with fail
    (clear r1 f1 i1 b1 l1 r2 f2 i2 b2 l2 r3 f3 i3 b3 l3 m12 m21 m13 m31 m23 m32 sos)
    as_aux_lemma =>
      refine St.region HC.out (by kernel_rfl) (by kernel_rfl) ?_
      (first
         | (apply head_skip rfl)
         | (apply head_step_g rfl
            focus
              intro w0 hC
              (exact eql_quiet 25 rfl rfl rfl Try.eqGuardType25 Try.underlying25 (by simp [go_sem]) (by simp [go_sem]) (by with_reducible exact same_refl _ _)))
         | (apply head_step_g rfl
            focus
              intro w0 hC
              have hC' := Lib.hid hC
              obtain ⟨⟨r1, f1, i1, b1, l1⟩, ⟨r2, f2, i2, b2, l2⟩, ⟨r3, f3, i3, b3, l3⟩, m12, m21, m13, m31, m23, m32⟩ := St.facts3 hC
              clear hC
              go_simp
              have hC := hC'.out
              (first
                 | with_reducible rfl
                 | (skip
                    (first
                       | (go_at_call 31; refine (hash_any _ _).mono ?_)
                       | (go_at_call 36; refine (refHash_any _ _).mono ?_)
                       | (go_at_call 26; refine (awake09_any _).mono ?_))
                    rintro e w' ⟨rfl, hw⟩
                    exact ⟨rfl, St.call (by assumption) hw⟩)))
       try simp only [Act.put, List.setIfInBounds_toArray, List.set])
      (first
         | (apply head_skip rfl)
         | (apply head_step_g rfl
            focus
              intro w0 hC
              (exact eql_quiet 25 rfl rfl rfl Try.eqGuardType25 Try.underlying25 (by simp [go_sem]) (by simp [go_sem]) (by with_reducible exact same_refl _ _)))
         | (apply head_step_g rfl
            focus
              intro w0 hC
              have hC' := Lib.hid hC
              obtain ⟨⟨r1, f1, i1, b1, l1⟩, ⟨r2, f2, i2, b2, l2⟩, ⟨r3, f3, i3, b3, l3⟩, m12, m21, m13, m31, m23, m32⟩ := St.facts3 hC
              clear hC
              go_simp
              have hC := hC'.out
              (first
                 | with_reducible rfl
                 | (skip
                    (first
                       | (go_at_call 31; refine (hash_any _ _).mono ?_)
                       | (go_at_call 36; refine (refHash_any _ _).mono ?_)
                       | (go_at_call 26; refine (awake09_any _).mono ?_))
                    rintro e w' ⟨rfl, hw⟩
                    exact ⟨rfl, St.call (by assumption) hw⟩)))
       try simp only [Act.put, List.setIfInBounds_toArray, List.set])
      (first
         | (apply head_skip rfl)
         | (apply head_step_g rfl
            focus
              intro w0 hC
              (exact eql_quiet 25 rfl rfl rfl Try.eqGuardType25 Try.underlying25 (by simp [go_sem]) (by simp [go_sem]) (by with_reducible exact same_refl _ _)))
         | (apply head_step_g rfl
            focus
              intro w0 hC
              have hC' := Lib.hid hC
              obtain ⟨⟨r1, f1, i1, b1, l1⟩, ⟨r2, f2, i2, b2, l2⟩, ⟨r3, f3, i3, b3, l3⟩, m12, m21, m13, m31, m23, m32⟩ := St.facts3 hC
              clear hC
              go_simp
              have hC := hC'.out
              (first
                 | with_reducible rfl
                 | (skip
                    (first
                       | (go_at_call 31; refine (hash_any _ _).mono ?_)
                       | (go_at_call 36; refine (refHash_any _ _).mono ?_)
                       | (go_at_call 26; refine (awake09_any _).mono ?_))
                    rintro e w' ⟨rfl, hw⟩
                    exact ⟨rfl, St.call (by assumption) hw⟩)))
       try simp only [Act.put, List.setIfInBounds_toArray, List.set])
      (first
         | (apply head_skip rfl)
         | (apply head_step_g rfl
            focus
              intro w0 hC
              (exact eql_quiet 25 rfl rfl rfl Try.eqGuardType25 Try.underlying25 (by simp [go_sem]) (by simp [go_sem]) (by with_reducible exact same_refl _ _)))
         | (apply head_step_g rfl
            focus
              intro w0 hC
              have hC' := Lib.hid hC
              obtain ⟨⟨r1, f1, i1, b1, l1⟩, ⟨r2, f2, i2, b2, l2⟩, ⟨r3, f3, i3, b3, l3⟩, m12, m21, m13, m31, m23, m32⟩ := St.facts3 hC
              clear hC
              go_simp
              have hC := hC'.out
              (first
                 | with_reducible rfl
                 | (skip
                    (first
                       | (go_at_call 31; refine (hash_any _ _).mono ?_)
                       | (go_at_call 36; refine (refHash_any _ _).mono ?_)
                       | (go_at_call 26; refine (awake09_any _).mono ?_))
                    rintro e w' ⟨rfl, hw⟩
                    exact ⟨rfl, St.call (by assumption) hw⟩)))
       try simp only [Act.put, List.setIfInBounds_toArray, List.set])
      (first
         | (apply head_skip rfl)
         | (apply head_step_g rfl
            focus
              intro w0 hC
              (exact eql_quiet 25 rfl rfl rfl Try.eqGuardType25 Try.underlying25 (by simp [go_sem]) (by simp [go_sem]) (by with_reducible exact same_refl _ _)))
         | (apply head_step_g rfl
            focus
              intro w0 hC
              have hC' := Lib.hid hC
              obtain ⟨⟨r1, f1, i1, b1, l1⟩, ⟨r2, f2, i2, b2, l2⟩, ⟨r3, f3, i3, b3, l3⟩, m12, m21, m13, m31, m23, m32⟩ := St.facts3 hC
              clear hC
              go_simp
              have hC := hC'.out
              (first
                 | with_reducible rfl
                 | (skip
                    (first
                       | (go_at_call 31; refine (hash_any _ _).mono ?_)
                       | (go_at_call 36; refine (refHash_any _ _).mono ?_)
                       | (go_at_call 26; refine (awake09_any _).mono ?_))
                    rintro e w' ⟨rfl, hw⟩
                    exact ⟨rfl, St.call (by assumption) hw⟩)))
       try simp only [Act.put, List.setIfInBounds_toArray, List.set])
      (first
         | (apply head_skip rfl)
         | (apply head_step_g rfl
            focus
              intro w0 hC
              (exact eql_quiet 25 rfl rfl rfl Try.eqGuardType25 Try.underlying25 (by simp [go_sem]) (by simp [go_sem]) (by with_reducible exact same_refl _ _)))
         | (apply head_step_g rfl
            focus
              intro w0 hC
              have hC' := Lib.hid hC
              obtain ⟨⟨r1, f1, i1, b1, l1⟩, ⟨r2, f2, i2, b2, l2⟩, ⟨r3, f3, i3, b3, l3⟩, m12, m21, m13, m31, m23, m32⟩ := St.facts3 hC
              clear hC
              go_simp
              have hC := hC'.out
              (first
                 | with_reducible rfl
                 | (skip
                    (first
                       | (go_at_call 31; refine (hash_any _ _).mono ?_)
                       | (go_at_call 36; refine (refHash_any _ _).mono ?_)
                       | (go_at_call 26; refine (awake09_any _).mono ?_))
                    rintro e w' ⟨rfl, hw⟩
                    exact ⟨rfl, St.call (by assumption) hw⟩)))
       try simp only [Act.put, List.setIfInBounds_toArray, List.set])
      (first
         | (apply head_skip rfl)
         | (apply head_step_g rfl
            focus
              intro w0 hC
              (exact eql_quiet 25 rfl rfl rfl Try.eqGuardType25 Try.underlying25 (by simp [go_sem]) (by simp [go_sem]) (by with_reducible exact same_refl _ _)))
         | (apply head_step_g rfl
            focus
              intro w0 hC
              have hC' := Lib.hid hC
              obtain ⟨⟨r1, f1, i1, b1, l1⟩, ⟨r2, f2, i2, b2, l2⟩, ⟨r3, f3, i3, b3, l3⟩, m12, m21, m13, m31, m23, m32⟩ := St.facts3 hC
              clear hC
              go_simp
              have hC := hC'.out
              (first
                 | with_reducible rfl
                 | (skip
                    (first
                       | (go_at_call 31; refine (hash_any _ _).mono ?_)
                       | (go_at_call 36; refine (refHash_any _ _).mono ?_)
                       | (go_at_call 26; refine (awake09_any _).mono ?_))
                    rintro e w' ⟨rfl, hw⟩
                    exact ⟨rfl, St.call (by assumption) hw⟩)))
       try simp only [Act.put, List.setIfInBounds_toArray, List.set])
      (first
         | (apply head_skip rfl)
         | (apply head_step_g rfl
            focus
              intro w0 hC
              (exact eql_quiet 25 rfl rfl rfl Try.eqGuardType25 Try.underlying25 (by simp [go_sem]) (by simp [go_sem]) (by with_reducible exact same_refl _ _)))
         | (apply head_step_g rfl
            focus
              intro w0 hC
              have hC' := Lib.hid hC
              obtain ⟨⟨r1, f1, i1, b1, l1⟩, ⟨r2, f2, i2, b2, l2⟩, ⟨r3, f3, i3, b3, l3⟩, m12, m21, m13, m31, m23, m32⟩ := St.facts3 hC
              clear hC
              go_simp
              have hC := hC'.out
              (first
                 | with_reducible rfl
                 | (skip
                    (first
                       | (go_at_call 31; refine (hash_any _ _).mono ?_)
                       | (go_at_call 36; refine (refHash_any _ _).mono ?_)
                       | (go_at_call 26; refine (awake09_any _).mono ?_))
                    rintro e w' ⟨rfl, hw⟩
                    exact ⟨rfl, St.call (by assumption) hw⟩)))
       try simp only [Act.put, List.setIfInBounds_toArray, List.set])
      (first
         | (apply head_skip rfl)
         | (apply head_step_g rfl
            focus
              intro w0 hC
              (exact eql_quiet 25 rfl rfl rfl Try.eqGuardType25 Try.underlying25 (by simp [go_sem]) (by simp [go_sem]) (by with_reducible exact same_refl _ _)))
         | (apply head_step_g rfl
            focus
              intro w0 hC
              have hC' := Lib.hid hC
              obtain ⟨⟨r1, f1, i1, b1, l1⟩, ⟨r2, f2, i2, b2, l2⟩, ⟨r3, f3, i3, b3, l3⟩, m12, m21, m13, m31, m23, m32⟩ := St.facts3 hC
              clear hC
              go_simp
              have hC := hC'.out
              (first
                 | with_reducible rfl
                 | (skip
                    (first
                       | (go_at_call 31; refine (hash_any _ _).mono ?_)
                       | (go_at_call 36; refine (refHash_any _ _).mono ?_)
                       | (go_at_call 26; refine (awake09_any _).mono ?_))
                    rintro e w' ⟨rfl, hw⟩
                    exact ⟨rfl, St.call (by assumption) hw⟩)))
       try simp only [Act.put, List.setIfInBounds_toArray, List.set])
      (first
         | (apply head_skip rfl)
         | (apply head_step_g rfl
            focus
              intro w0 hC
              (exact eql_quiet 25 rfl rfl rfl Try.eqGuardType25 Try.underlying25 (by simp [go_sem]) (by simp [go_sem]) (by with_reducible exact same_refl _ _)))
         | (apply head_step_g rfl
            focus
              intro w0 hC
              have hC' := Lib.hid hC
              obtain ⟨⟨r1, f1, i1, b1, l1⟩, ⟨r2, f2, i2, b2, l2⟩, ⟨r3, f3, i3, b3, l3⟩, m12, m21, m13, m31, m23, m32⟩ := St.facts3 hC
              clear hC
              go_simp
              have hC := hC'.out
              (first
                 | with_reducible rfl
                 | (skip
                    (first
                       | (go_at_call 31; refine (hash_any _ _).mono ?_)
                       | (go_at_call 36; refine (refHash_any _ _).mono ?_)
                       | (go_at_call 26; refine (awake09_any _).mono ?_))
                    rintro e w' ⟨rfl, hw⟩
                    exact ⟨rfl, St.call (by assumption) hw⟩)))
       try simp only [Act.put, List.setIfInBounds_toArray, List.set])
      (first
         | (apply head_skip rfl)
         | (apply head_step_g rfl
            focus
              intro w0 hC
              (exact eql_quiet 25 rfl rfl rfl Try.eqGuardType25 Try.underlying25 (by simp [go_sem]) (by simp [go_sem]) (by with_reducible exact same_refl _ _)))
         | (apply head_step_g rfl
            focus
              intro w0 hC
              have hC' := Lib.hid hC
              obtain ⟨⟨r1, f1, i1, b1, l1⟩, ⟨r2, f2, i2, b2, l2⟩, ⟨r3, f3, i3, b3, l3⟩, m12, m21, m13, m31, m23, m32⟩ := St.facts3 hC
              clear hC
              go_simp
              have hC := hC'.out
              (first
                 | with_reducible rfl
                 | (skip
                    (first
                       | (go_at_call 31; refine (hash_any _ _).mono ?_)
                       | (go_at_call 36; refine (refHash_any _ _).mono ?_)
                       | (go_at_call 26; refine (awake09_any _).mono ?_))
                    rintro e w' ⟨rfl, hw⟩
                    exact ⟨rfl, St.call (by assumption) hw⟩)))
       try simp only [Act.put, List.setIfInBounds_toArray, List.set])
      (first
         | (apply head_skip rfl)
         | (apply head_step_g rfl
            focus
              intro w0 hC
              (exact eql_quiet 25 rfl rfl rfl Try.eqGuardType25 Try.underlying25 (by simp [go_sem]) (by simp [go_sem]) (by with_reducible exact same_refl _ _)))
         | (apply head_step_g rfl
            focus
              intro w0 hC
              have hC' := Lib.hid hC
              obtain ⟨⟨r1, f1, i1, b1, l1⟩, ⟨r2, f2, i2, b2, l2⟩, ⟨r3, f3, i3, b3, l3⟩, m12, m21, m13, m31, m23, m32⟩ := St.facts3 hC
              clear hC
              go_simp
              have hC := hC'.out
              (first
                 | with_reducible rfl
                 | (skip
                    (first
                       | (go_at_call 31; refine (hash_any _ _).mono ?_)
                       | (go_at_call 36; refine (refHash_any _ _).mono ?_)
                       | (go_at_call 26; refine (awake09_any _).mono ?_))
                    rintro e w' ⟨rfl, hw⟩
                    exact ⟨rfl, St.call (by assumption) hw⟩)))
       try simp only [Act.put, List.setIfInBounds_toArray, List.set])
      (first
         | (apply head_skip rfl)
         | (apply head_step_g rfl
            focus
              intro w0 hC
              (exact eql_quiet 25 rfl rfl rfl Try.eqGuardType25 Try.underlying25 (by simp [go_sem]) (by simp [go_sem]) (by with_reducible exact same_refl _ _)))
         | (apply head_step_g rfl
            focus
              intro w0 hC
              have hC' := Lib.hid hC
              obtain ⟨⟨r1, f1, i1, b1, l1⟩, ⟨r2, f2, i2, b2, l2⟩, ⟨r3, f3, i3, b3, l3⟩, m12, m21, m13, m31, m23, m32⟩ := St.facts3 hC
              clear hC
              go_simp
              have hC := hC'.out
              (first
                 | with_reducible rfl
                 | (skip
                    (first
                       | (go_at_call 31; refine (hash_any _ _).mono ?_)
                       | (go_at_call 36; refine (refHash_any _ _).mono ?_)
                       | (go_at_call 26; refine (awake09_any _).mono ?_))
                    rintro e w' ⟨rfl, hw⟩
                    exact ⟨rfl, St.call (by assumption) hw⟩)))
       try simp only [Act.put, List.setIfInBounds_toArray, List.set])
      (first
         | (apply head_skip rfl)
         | (apply head_step_g rfl
            focus
              intro w0 hC
              (exact eql_quiet 25 rfl rfl rfl Try.eqGuardType25 Try.underlying25 (by simp [go_sem]) (by simp [go_sem]) (by with_reducible exact same_refl _ _)))
         | (apply head_step_g rfl
            focus
              intro w0 hC
              have hC' := Lib.hid hC
              obtain ⟨⟨r1, f1, i1, b1, l1⟩, ⟨r2, f2, i2, b2, l2⟩, ⟨r3, f3, i3, b3, l3⟩, m12, m21, m13, m31, m23, m32⟩ := St.facts3 hC
              clear hC
              go_simp
              have hC := hC'.out
              (first
                 | with_reducible rfl
                 | (skip
                    (first
                       | (go_at_call 31; refine (hash_any _ _).mono ?_)
                       | (go_at_call 36; refine (refHash_any _ _).mono ?_)
                       | (go_at_call 26; refine (awake09_any _).mono ?_))
                    rintro e w' ⟨rfl, hw⟩
                    exact ⟨rfl, St.call (by assumption) hw⟩)))
       try simp only [Act.put, List.setIfInBounds_toArray, List.set])
      (first
         | (apply head_skip rfl)
         | (apply head_step_g rfl
            focus
              intro w0 hC
              (exact eql_quiet 25 rfl rfl rfl Try.eqGuardType25 Try.underlying25 (by simp [go_sem]) (by simp [go_sem]) (by with_reducible exact same_refl _ _)))
         | (apply head_step_g rfl
            focus
              intro w0 hC
              have hC' := Lib.hid hC
              obtain ⟨⟨r1, f1, i1, b1, l1⟩, ⟨r2, f2, i2, b2, l2⟩, ⟨r3, f3, i3, b3, l3⟩, m12, m21, m13, m31, m23, m32⟩ := St.facts3 hC
              clear hC
              go_simp
              have hC := hC'.out
              (first
                 | with_reducible rfl
                 | (skip
                    (first
                       | (go_at_call 31; refine (hash_any _ _).mono ?_)
                       | (go_at_call 36; refine (refHash_any _ _).mono ?_)
                       | (go_at_call 26; refine (awake09_any _).mono ?_))
                    rintro e w' ⟨rfl, hw⟩
                    exact ⟨rfl, St.call (by assumption) hw⟩)))
       try simp only [Act.put, List.setIfInBounds_toArray, List.set])
      (first
         | (apply head_skip rfl)
         | (apply head_step_g rfl
            focus
              intro w0 hC
              (exact eql_quiet 25 rfl rfl rfl Try.eqGuardType25 Try.underlying25 (by simp [go_sem]) (by simp [go_sem]) (by with_reducible exact same_refl _ _)))
         | (apply head_step_g rfl
            focus
              intro w0 hC
              have hC' := Lib.hid hC
              obtain ⟨⟨r1, f1, i1, b1, l1⟩, ⟨r2, f2, i2, b2, l2⟩, ⟨r3, f3, i3, b3, l3⟩, m12, m21, m13, m31, m23, m32⟩ := St.facts3 hC
              clear hC
              go_simp
              have hC := hC'.out
              (first
                 | with_reducible rfl
                 | (skip
                    (first
                       | (go_at_call 31; refine (hash_any _ _).mono ?_)
                       | (go_at_call 36; refine (refHash_any _ _).mono ?_)
                       | (go_at_call 26; refine (awake09_any _).mono ?_))
                    rintro e w' ⟨rfl, hw⟩
                    exact ⟨rfl, St.call (by assumption) hw⟩)))
       try simp only [Act.put, List.setIfInBounds_toArray, List.set])
      (first
         | (apply head_skip rfl)
         | (apply head_step_g rfl
            focus
              intro w0 hC
              (exact eql_quiet 25 rfl rfl rfl Try.eqGuardType25 Try.underlying25 (by simp [go_sem]) (by simp [go_sem]) (by with_reducible exact same_refl _ _)))
         | (apply head_step_g rfl
            focus
              intro w0 hC
              have hC' := Lib.hid hC
              obtain ⟨⟨r1, f1, i1, b1, l1⟩, ⟨r2, f2, i2, b2, l2⟩, ⟨r3, f3, i3, b3, l3⟩, m12, m21, m13, m31, m23, m32⟩ := St.facts3 hC
              clear hC
              go_simp
              have hC := hC'.out
              (first
                 | with_reducible rfl
                 | (skip
                    (first
                       | (go_at_call 31; refine (hash_any _ _).mono ?_)
                       | (go_at_call 36; refine (refHash_any _ _).mono ?_)
                       | (go_at_call 26; refine (awake09_any _).mono ?_))
                    rintro e w' ⟨rfl, hw⟩
                    exact ⟨rfl, St.call (by assumption) hw⟩)))
       try simp only [Act.put, List.setIfInBounds_toArray, List.set])
      (first
         | (apply head_skip rfl)
         | (apply head_step_g rfl
            focus
              intro w0 hC
              (exact eql_quiet 25 rfl rfl rfl Try.eqGuardType25 Try.underlying25 (by simp [go_sem]) (by simp [go_sem]) (by with_reducible exact same_refl _ _)))
         | (apply head_step_g rfl
            focus
              intro w0 hC
              have hC' := Lib.hid hC
              obtain ⟨⟨r1, f1, i1, b1, l1⟩, ⟨r2, f2, i2, b2, l2⟩, ⟨r3, f3, i3, b3, l3⟩, m12, m21, m13, m31, m23, m32⟩ := St.facts3 hC
              clear hC
              go_simp
              have hC := hC'.out
              (first
                 | with_reducible rfl
                 | (skip
                    (first
                       | (go_at_call 31; refine (hash_any _ _).mono ?_)
                       | (go_at_call 36; refine (refHash_any _ _).mono ?_)
                       | (go_at_call 26; refine (awake09_any _).mono ?_))
                    rintro e w' ⟨rfl, hw⟩
                    exact ⟨rfl, St.call (by assumption) hw⟩)))
       try simp only [Act.put, List.setIfInBounds_toArray, List.set])
      (first
         | (apply head_skip rfl)
         | (apply head_step_g rfl
            focus
              intro w0 hC
              (exact eql_quiet 25 rfl rfl rfl Try.eqGuardType25 Try.underlying25 (by simp [go_sem]) (by simp [go_sem]) (by with_reducible exact same_refl _ _)))
         | (apply head_step_g rfl
            focus
              intro w0 hC
              have hC' := Lib.hid hC
              obtain ⟨⟨r1, f1, i1, b1, l1⟩, ⟨r2, f2, i2, b2, l2⟩, ⟨r3, f3, i3, b3, l3⟩, m12, m21, m13, m31, m23, m32⟩ := St.facts3 hC
              clear hC
              go_simp
              have hC := hC'.out
              (first
                 | with_reducible rfl
                 | (skip
                    (first
                       | (go_at_call 31; refine (hash_any _ _).mono ?_)
                       | (go_at_call 36; refine (refHash_any _ _).mono ?_)
                       | (go_at_call 26; refine (awake09_any _).mono ?_))
                    rintro e w' ⟨rfl, hw⟩
                    exact ⟨rfl, St.call (by assumption) hw⟩)))
       try simp only [Act.put, List.setIfInBounds_toArray, List.set])
      (first
         | (apply head_skip rfl)
         | (apply head_step_g rfl
            focus
              intro w0 hC
              (exact eql_quiet 25 rfl rfl rfl Try.eqGuardType25 Try.underlying25 (by simp [go_sem]) (by simp [go_sem]) (by with_reducible exact same_refl _ _)))
         | (apply head_step_g rfl
            focus
              intro w0 hC
              have hC' := Lib.hid hC
              obtain ⟨⟨r1, f1, i1, b1, l1⟩, ⟨r2, f2, i2, b2, l2⟩, ⟨r3, f3, i3, b3, l3⟩, m12, m21, m13, m31, m23, m32⟩ := St.facts3 hC
              clear hC
              go_simp
              have hC := hC'.out
              (first
                 | with_reducible rfl
                 | (skip
                    (first
                       | (go_at_call 31; refine (hash_any _ _).mono ?_)
                       | (go_at_call 36; refine (refHash_any _ _).mono ?_)
                       | (go_at_call 26; refine (awake09_any _).mono ?_))
                    rintro e w' ⟨rfl, hw⟩
                    exact ⟨rfl, St.call (by assumption) hw⟩)))
       try simp only [Act.put, List.setIfInBounds_toArray, List.set])
      (first
         | (apply head_skip rfl)
         | (apply head_step_g rfl
            focus
              intro w0 hC
              (exact eql_quiet 25 rfl rfl rfl Try.eqGuardType25 Try.underlying25 (by simp [go_sem]) (by simp [go_sem]) (by with_reducible exact same_refl _ _)))
         | (apply head_step_g rfl
            focus
              intro w0 hC
              have hC' := Lib.hid hC
              obtain ⟨⟨r1, f1, i1, b1, l1⟩, ⟨r2, f2, i2, b2, l2⟩, ⟨r3, f3, i3, b3, l3⟩, m12, m21, m13, m31, m23, m32⟩ := St.facts3 hC
              clear hC
              go_simp
              have hC := hC'.out
              (first
                 | with_reducible rfl
                 | (skip
                    (first
                       | (go_at_call 31; refine (hash_any _ _).mono ?_)
                       | (go_at_call 36; refine (refHash_any _ _).mono ?_)
                       | (go_at_call 26; refine (awake09_any _).mono ?_))
                    rintro e w' ⟨rfl, hw⟩
                    exact ⟨rfl, St.call (by assumption) hw⟩)))
       try simp only [Act.put, List.setIfInBounds_toArray, List.set])
      (first
         | (apply head_skip rfl)
         | (apply head_step_g rfl
            focus
              intro w0 hC
              (exact eql_quiet 25 rfl rfl rfl Try.eqGuardType25 Try.underlying25 (by simp [go_sem]) (by simp [go_sem]) (by with_reducible exact same_refl _ _)))
         | (apply head_step_g rfl
            focus
              intro w0 hC
              have hC' := Lib.hid hC
              obtain ⟨⟨r1, f1, i1, b1, l1⟩, ⟨r2, f2, i2, b2, l2⟩, ⟨r3, f3, i3, b3, l3⟩, m12, m21, m13, m31, m23, m32⟩ := St.facts3 hC
              clear hC
              go_simp
              have hC := hC'.out
              (first
                 | with_reducible rfl
                 | (skip
                    (first
                       | (go_at_call 31; refine (hash_any _ _).mono ?_)
                       | (go_at_call 36; refine (refHash_any _ _).mono ?_)
                       | (go_at_call 26; refine (awake09_any _).mono ?_))
                    rintro e w' ⟨rfl, hw⟩
                    exact ⟨rfl, St.call (by assumption) hw⟩)))
       try simp only [Act.put, List.setIfInBounds_toArray, List.set])
      (first
         | (apply head_skip rfl)
         | (apply head_step_g rfl
            focus
              intro w0 hC
              (exact eql_quiet 25 rfl rfl rfl Try.eqGuardType25 Try.underlying25 (by simp [go_sem]) (by simp [go_sem]) (by with_reducible exact same_refl _ _)))
         | (apply head_step_g rfl
            focus
              intro w0 hC
              have hC' := Lib.hid hC
              obtain ⟨⟨r1, f1, i1, b1, l1⟩, ⟨r2, f2, i2, b2, l2⟩, ⟨r3, f3, i3, b3, l3⟩, m12, m21, m13, m31, m23, m32⟩ := St.facts3 hC
              clear hC
              go_simp
              have hC := hC'.out
              (first
                 | with_reducible rfl
                 | (skip
                    (first
                       | (go_at_call 31; refine (hash_any _ _).mono ?_)
                       | (go_at_call 36; refine (refHash_any _ _).mono ?_)
                       | (go_at_call 26; refine (awake09_any _).mono ?_))
                    rintro e w' ⟨rfl, hw⟩
                    exact ⟨rfl, St.call (by assumption) hw⟩)))
       try simp only [Act.put, List.setIfInBounds_toArray, List.set])
      (first
         | (apply head_skip rfl)
         | (apply head_step_g rfl
            focus
              intro w0 hC
              (exact eql_quiet 25 rfl rfl rfl Try.eqGuardType25 Try.underlying25 (by simp [go_sem]) (by simp [go_sem]) (by with_reducible exact same_refl _ _)))
         | (apply head_step_g rfl
            focus
              intro w0 hC
              have hC' := Lib.hid hC
              obtain ⟨⟨r1, f1, i1, b1, l1⟩, ⟨r2, f2, i2, b2, l2⟩, ⟨r3, f3, i3, b3, l3⟩, m12, m21, m13, m31, m23, m32⟩ := St.facts3 hC
              clear hC
              go_simp
              have hC := hC'.out
              (first
                 | with_reducible rfl
                 | (skip
                    (first
                       | (go_at_call 31; refine (hash_any _ _).mono ?_)
                       | (go_at_call 36; refine (refHash_any _ _).mono ?_)
                       | (go_at_call 26; refine (awake09_any _).mono ?_))
                    rintro e w' ⟨rfl, hw⟩
                    exact ⟨rfl, St.call (by assumption) hw⟩)))
       try simp only [Act.put, List.setIfInBounds_toArray, List.set])
      (first
         | (apply head_skip rfl)
         | (apply head_step_g rfl
            focus
              intro w0 hC
              (exact eql_quiet 25 rfl rfl rfl Try.eqGuardType25 Try.underlying25 (by simp [go_sem]) (by simp [go_sem]) (by with_reducible exact same_refl _ _)))
         | (apply head_step_g rfl
            focus
              intro w0 hC
              have hC' := Lib.hid hC
              obtain ⟨⟨r1, f1, i1, b1, l1⟩, ⟨r2, f2, i2, b2, l2⟩, ⟨r3, f3, i3, b3, l3⟩, m12, m21, m13, m31, m23, m32⟩ := St.facts3 hC
              clear hC
              go_simp
              have hC := hC'.out
              (first
                 | with_reducible rfl
                 | (skip
                    (first
                       | (go_at_call 31; refine (hash_any _ _).mono ?_)
                       | (go_at_call 36; refine (refHash_any _ _).mono ?_)
                       | (go_at_call 26; refine (awake09_any _).mono ?_))
                    rintro e w' ⟨rfl, hw⟩
                    exact ⟨rfl, St.call (by assumption) hw⟩)))
       try simp only [Act.put, List.setIfInBounds_toArray, List.set])
      (first
         | (apply head_skip rfl)
         | (apply head_step_g rfl
            focus
              intro w0 hC
              (exact eql_quiet 25 rfl rfl rfl Try.eqGuardType25 Try.underlying25 (by simp [go_sem]) (by simp [go_sem]) (by with_reducible exact same_refl _ _)))
         | (apply head_step_g rfl
            focus
              intro w0 hC
              have hC' := Lib.hid hC
              obtain ⟨⟨r1, f1, i1, b1, l1⟩, ⟨r2, f2, i2, b2, l2⟩, ⟨r3, f3, i3, b3, l3⟩, m12, m21, m13, m31, m23, m32⟩ := St.facts3 hC
              clear hC
              go_simp
              have hC := hC'.out
              (first
                 | with_reducible rfl
                 | (skip
                    (first
                       | (go_at_call 31; refine (hash_any _ _).mono ?_)
                       | (go_at_call 36; refine (refHash_any _ _).mono ?_)
                       | (go_at_call 26; refine (awake09_any _).mono ?_))
                    rintro e w' ⟨rfl, hw⟩
                    exact ⟨rfl, St.call (by assumption) hw⟩)))
       try simp only [Act.put, List.setIfInBounds_toArray, List.set])
      (first
         | (apply head_skip rfl)
         | (apply head_step_g rfl
            focus
              intro w0 hC
              (exact eql_quiet 25 rfl rfl rfl Try.eqGuardType25 Try.underlying25 (by simp [go_sem]) (by simp [go_sem]) (by with_reducible exact same_refl _ _)))
         | (apply head_step_g rfl
            focus
              intro w0 hC
              have hC' := Lib.hid hC
              obtain ⟨⟨r1, f1, i1, b1, l1⟩, ⟨r2, f2, i2, b2, l2⟩, ⟨r3, f3, i3, b3, l3⟩, m12, m21, m13, m31, m23, m32⟩ := St.facts3 hC
              clear hC
              go_simp
              have hC := hC'.out
              (first
                 | with_reducible rfl
                 | (skip
                    (first
                       | (go_at_call 31; refine (hash_any _ _).mono ?_)
                       | (go_at_call 36; refine (refHash_any _ _).mono ?_)
                       | (go_at_call 26; refine (awake09_any _).mono ?_))
                    rintro e w' ⟨rfl, hw⟩
                    exact ⟨rfl, St.call (by assumption) hw⟩)))
       try simp only [Act.put, List.setIfInBounds_toArray, List.set])
      (first
         | (apply head_skip rfl)
         | (apply head_step_g rfl
            focus
              intro w0 hC
              (exact eql_quiet 25 rfl rfl rfl Try.eqGuardType25 Try.underlying25 (by simp [go_sem]) (by simp [go_sem]) (by with_reducible exact same_refl _ _)))
         | (apply head_step_g rfl
            focus
              intro w0 hC
              have hC' := Lib.hid hC
              obtain ⟨⟨r1, f1, i1, b1, l1⟩, ⟨r2, f2, i2, b2, l2⟩, ⟨r3, f3, i3, b3, l3⟩, m12, m21, m13, m31, m23, m32⟩ := St.facts3 hC
              clear hC
              go_simp
              have hC := hC'.out
              (first
                 | with_reducible rfl
                 | (skip
                    (first
                       | (go_at_call 31; refine (hash_any _ _).mono ?_)
                       | (go_at_call 36; refine (refHash_any _ _).mono ?_)
                       | (go_at_call 26; refine (awake09_any _).mono ?_))
                    rintro e w' ⟨rfl, hw⟩
                    exact ⟨rfl, St.call (by assumption) hw⟩)))
       try simp only [Act.put, List.setIfInBounds_toArray, List.set])
      (first
         | (apply head_skip rfl)
         | (apply head_step_g rfl
            focus
              intro w0 hC
              (exact eql_quiet 25 rfl rfl rfl Try.eqGuardType25 Try.underlying25 (by simp [go_sem]) (by simp [go_sem]) (by with_reducible exact same_refl _ _)))
         | (apply head_step_g rfl
            focus
              intro w0 hC
              have hC' := Lib.hid hC
              obtain ⟨⟨r1, f1, i1, b1, l1⟩, ⟨r2, f2, i2, b2, l2⟩, ⟨r3, f3, i3, b3, l3⟩, m12, m21, m13, m31, m23, m32⟩ := St.facts3 hC
              clear hC
              go_simp
              have hC := hC'.out
              (first
                 | with_reducible rfl
                 | (skip
                    (first
                       | (go_at_call 31; refine (hash_any _ _).mono ?_)
                       | (go_at_call 36; refine (refHash_any _ _).mono ?_)
                       | (go_at_call 26; refine (awake09_any _).mono ?_))
                    rintro e w' ⟨rfl, hw⟩
                    exact ⟨rfl, St.call (by assumption) hw⟩)))
       try simp only [Act.put, List.setIfInBounds_toArray, List.set])
      refine wpQuiet_nil ?_
      intro w6 hC
      have sos := hC.os
      go_wp2_with fail
      go_ret
      exact ⟨rfl, hC.below⟩
end Go.Proofs.Ytklcgacbmphjcaa
