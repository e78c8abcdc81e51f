/- GcmParts returns true. No condition. -/
import Derived.Test.YtklcgacbmphjcaaGcBack
namespace Go.Proofs.Ytklcgacbmphjcaa
open Go.RowKit
attribute [local go_sem] B_xor B_or B_and
attribute [local go_sem] blk_set blk_size blk_get blk_getE upd_same oneCells_blk paste_blk cut_blk szOf
attribute [local go_sem high] paste_all cut_head
attribute [local go_sem] rowAt_alloc rowAt_drew rowAt_drewN isRow_alloc isRow_drew isRow_drewN freeRow_alloc freeRow_end freeRow_drew freeRow_drewN
attribute [local go_sem] setRow_alloc setRow_drew setRow_drewN setCell_drewN alloc_drewN rowAt_put isRow_setRow freeRow_put
attribute [local go_sem ↓] loadS_in storeS_in indexS_in copyS_in
attribute [local go_sem] loadS_row loadS_one storeS_row storeS_one indexS_blk copyS_rows run_equalIn_blk same_refl arrayAt_row
attribute [local go_sem] cell_row frozen_row st_setCell st_blk_ne stepAt stepUpon
attribute [local go_sem high] run_eql_blk run_neq_blk
attribute [local go_sem ↓] convBS_in
attribute [local go_sem] convBS_row convBS_nil allBytes_blk bytesOf_blk
attribute [local go_sem] tx_size tx_get0 tx_get1 tx_get2 tx_cut tx_ne tx_one

theorem strOf_append (m n : Nat) (F : Nat → UInt8) : strOf m F ++ strOf n (fun i => F (m + i)) = strOf (m + n) F := by
  have e : (strOf m F ++ strOf n (fun i => F (m + i))).data = (strOf (m + n) F).data := by
    rw [ByteArray.data_append]
    show ((List.range m).map F).toArray ++ ((List.range n).map fun i => F (m + i)).toArray = ((List.range (m + n)).map F).toArray
    rw [List.range_add, List.map_append, List.map_map, List.append_toArray]
    rfl
  cases h1 : strOf m F ++ strOf n (fun i => F (m + i))
  cases h2 : strOf (m + n) F
  rw [h1, h2] at e
  exact congrArg ByteArray.mk e
theorem ofText_extract (s : ByteArray) (a b i : Nat) (hb : b ≤ s.size) (hi : i < b - a) : ofText (s.extract a b) i = ofText s (a + i) := by
  have hsz : s.data.size = s.size := rfl
  unfold ofText
  rw [ByteArray.data_extract, Array.getD_eq_getD_getElem?, Array.getD_eq_getD_getElem?, Array.getElem?_extract, if_pos (by omega)]
theorem strS_parts (r v : Nat → UInt8) (n q : Nat) (s : ByteArray) (h : 16 * q ≤ s.size) : strS r v n (s.extract 0 (16 * q)) ++ strS r v (nxN n q) (s.extract (16 * q) s.size) = strS r v n s := by
  have z1 : (s.extract 0 (16 * q)).size = 16 * q := by rw [ByteArray.size_extract]; omega
  have z2 : (s.extract (16 * q) s.size).size = s.size - 16 * q := by rw [ByteArray.size_extract]; omega
  unfold strS
  rw [z1, z2]
  have h1 : strOf (16 * q) (strB r v n (ofText (s.extract 0 (16 * q)))) = strOf (16 * q) (strB r v n (ofText s)) := strOf_congr fun i hi => by
    unfold strB
    rw [ofText_extract s 0 (16 * q) i h (by omega), Nat.zero_add]
  have h2 : strOf (s.size - 16 * q) (strB r v (nxN n q) (ofText (s.extract (16 * q) s.size))) = strOf (s.size - 16 * q) (fun i => strB r v n (ofText s) (16 * q + i)) := strOf_congr fun i hi => by
    unfold strB
    rw [ofText_extract s (16 * q) s.size i (Nat.le_refl _) hi, show (16 * q + i) / 16 = q + i / 16 by omega, show (16 * q + i) % 16 = i % 16 by omega]
    have e : nxN (nxN n q) (i / 16) = nxN n (q + i / 16) := by unfold nxN; omega
    rw [e]
  rw [h1, h2, strOf_append, show 16 * q + (s.size - 16 * q) = s.size by omega]

set_option maxRecDepth 100000 in
set_option maxHeartbeats 2000000 in
theorem gcmParts_out (k : Nat → UInt8) (iv a s : ByteArray) (n : Nat) (hout : decide (20 < iv.size ∨ 60 < a.size ∨ 60 < s.size) = true ∨ iv.size ≠ 12) (w : World) : Calls Try.prog 9 #[.agg (blk 16 k), .agg (tx iv a s), .int .u32 (n : Int)] w fun e w' => e = .returned (.bool true) ∧ Below w.heap.size w w' := by
  have HC := Lib.hid (((St.nil w).pushA (blk 16 k) 22 rfl).pushA (tx iv a s) 52 (g := w.heap.size + 1) (by simp))
  cases ho : decide (20 < iv.size ∨ 60 < a.size ∨ 60 < s.size) with
  | true =>
    have HO := Lib.hid ho
    clear ho hout
    go_enter Try.func9, Try.ntmps9
    go_wp2_with fail
    refine (over_tx iv a s true HO.out _).mono ?_; rintro e w1 ⟨rfl, hw⟩
    have HC := Lib.hid (HC.out.call hw)
    clear hw
    have hC := HC.out
    (have HC := Lib.hid hC
     have sos := hC.below.os
     obtain ⟨⟨r1, f1, i1, b1, l1⟩, ⟨r2, f2, i2, b2, l2⟩, m12, m21⟩ := St.facts2 hC
     clear hC)
    go_wp2_with fail
    (clear r1 f1 i1 b1 l1 r2 f2 i2 b2 l2 m12 m21 sos)
    refine (awake09_any _).mono ?_; rintro e w2 ⟨rfl, hw⟩
    have HC := Lib.hid (HC.out.call hw)
    clear hw
    have sos := HC.out.os
    go_wp2_with fail
    go_ret
    exact ⟨rfl, HC.out.below⟩
  | false =>
    have HO := Lib.hid ho
    rw [ho] at hout
    clear ho
    have t1 : ((iv.size : Int) != 12) = true := by simp; rcases hout with h | h <;> first | cases h | omega
    clear hout
    go_enter Try.func9, Try.ntmps9
    go_wp2_with fail
    refine (over_tx iv a s false HO.out _).mono ?_; rintro e w1 ⟨rfl, hw⟩
    have HC := Lib.hid (HC.out.call hw)
    clear hw
    have hC := HC.out
    (have HC := Lib.hid hC
     have sos := hC.below.os
     obtain ⟨⟨r1, f1, i1, b1, l1⟩, ⟨r2, f2, i2, b2, l2⟩, m12, m21⟩ := St.facts2 hC
     clear hC)
    go_wp2_with fail
    (clear r1 f1 i1 b1 l1 r2 f2 i2 b2 l2 m12 m21 sos)
    refine (awake09_any _).mono ?_; rintro e w2 ⟨rfl, hw⟩
    have HC := Lib.hid (HC.out.call hw)
    clear hw
    have sos := HC.out.os
    go_wp2_with fail
    go_ret
    exact ⟨rfl, HC.out.below⟩

set_option maxRecDepth 100000 in
set_option maxHeartbeats 4000000 in
theorem gcmParts_in (k : Nat → UInt8) (iv a s : ByteArray) (n : Nat) (hn : n < 4294967296) (ho : decide (20 < iv.size ∨ 60 < a.size ∨ 60 < s.size) = false) (h12 : iv.size = 12) (w : World) : Calls Try.prog 9 #[.agg (blk 16 k), .agg (tx iv a s), .int .u32 (n : Int)] w fun e w' => e = .returned (.bool true) ∧ Below w.heap.size w w' := by
  have hz := zero16
  have HO := Lib.hid ho
  have hlo := of_decide_eq_false ho
  have t1 : ((iv.size : Int) != 12) = false := by simp; omega
  obtain ⟨q, hq⟩ : ∃ q, s.size / 32 = q := ⟨_, rfl⟩
  obtain ⟨p, hp⟩ : ∃ p, 16 * q = p := ⟨_, rfl⟩
  have hps : p ≤ s.size := by omega
  obtain ⟨S, A, C, cS, cB, cP, cQ, hS, hAC, zA, zC⟩ : ∃ S A C : ByteArray,
      Hid (∀ w, Calls Try.prog 32 #[.agg (blk 16 k), .string iv, .int .u32 (n : Int), .string s] w fun e w' => e = .returned (.tuple #[.string S, .int .i64 0]) ∧ Below w.heap.size w w') ∧
      Hid (∀ w, Calls Try.prog 32 #[.agg (blk 16 k), .string iv, .int .u32 (n : Int), .string S] w fun e w' => e = .returned (.tuple #[.string s, .int .i64 0]) ∧ Below w.heap.size w w') ∧
      Hid (∀ w, Calls Try.prog 32 #[.agg (blk 16 k), .string iv, .int .u32 (n : Int), .string (s.extract 0 p)] w fun e w' => e = .returned (.tuple #[.string A, .int .i64 0]) ∧ Below w.heap.size w w') ∧
      Hid (∀ w, Calls Try.prog 32 #[.agg (blk 16 k), .string iv, .int .u32 (nxN n q : Int), .string (s.extract p s.size)] w fun e w' => e = .returned (.tuple #[.string C, .int .i64 0]) ∧ Below w.heap.size w w') ∧
      S.size = s.size ∧ A ++ C = S ∧ (A.size : Int) ≤ 60 ∧ (C.size : Int) ≤ 60 := by
    have y1 : (s.extract 0 p).size = p := by rw [ByteArray.size_extract]; omega
    have y2 : (s.extract p s.size).size = s.size - p := by rw [ByteArray.size_extract]; omega
    refine ⟨strS (Ci.rounds k) (ofText iv) n s, _, _, Lib.hid fun w => gcStream_any k iv s n hn (by omega) h12 w, Lib.hid fun w => ?_, Lib.hid fun w => gcStream_any k iv _ n hn (by omega) h12 w, Lib.hid fun w => gcStream_any k iv _ _ (nxN_lt _ _) (by omega) h12 w, strS_size _ _ _ _, ?_, ?_, ?_⟩
    · have := gcStream_any k iv (strS (Ci.rounds k) (ofText iv) n s) n hn (by rw [strS_size]; omega) h12 w
      rw [strS_twice] at this
      exact this
    · rw [← hp]; exact strS_parts _ _ _ _ _ (by omega)
    · rw [strS_size]; omega
    · rw [strS_size]; omega
  have d1 : ((S.size : Int) != (s.size : Int)) = false := by rw [hS]; simp
  have d1' : (S.size != s.size) = false := by rw [hS]; simp
  have v1 : (s.size : Int) / 32 = (q : Int) := by omega
  have v2 : (s.size : Int).tdiv 32 = (q : Int) := by rw [Int.tdiv_eq_ediv_of_nonneg (by omega)]; exact v1
  have v3 : (16 : Int) * (q : Int) = (p : Int) := by omega
  have v4 : IntKind.i64.wrap (16 * (q : Int)) = (p : Int) := by rw [IntWalk.i64_in _ (by omega)]; exact v3
  have v5 : IntKind.i64.wrap (p : Int) = (p : Int) := IntWalk.i64_in _ (by omega)
  have v6 : IntKind.u32.wrap (q : Int) = (q : Int) := by simp [IntKind.wrap, IntKind.signed, IntKind.bits]; omega
  have v7 : IntKind.u32.wrap ((n : Int) + (q : Int)) = (nxN n q : Int) := by unfold nxN; simp [IntKind.wrap, IntKind.signed, IntKind.bits]
  have v8 : (p : Int) ≤ (s.size : Int) := by omega
  have q60 : (q : Int) ≤ 60 := by omega
  have p60 : (p : Int) ≤ 60 := by omega
  have s60 : (s.size : Int) ≤ 60 := by omega
  have hss := text_same s
  have hSS := text_same S
  have HS := Lib.hid hS
  have HC := Lib.hid (((St.nil w).pushA (blk 16 k) 22 rfl).pushA (tx iv a s) 52 (g := w.heap.size + 1) (by simp))
  clear ho hlo h12 hS hq hp
  go_enter Try.func9, Try.ntmps9
  go_wp2_with fail
  refine (over_tx iv a s false HO.out _).mono ?_; rintro e w1 ⟨rfl, hw⟩
  have HC := Lib.hid (HC.out.call hw)
  clear hw
  have hC := HC.out
  (have HC := Lib.hid hC
   have sos := hC.below.os
   obtain ⟨⟨r1, f1, i1, b1, l1⟩, ⟨r2, f2, i2, b2, l2⟩, m12, m21⟩ := St.facts2 hC
   clear hC)
  go_wp2_with fail
  have HC := Lib.hid ((HC.out.push (blk 16 k) 25))
  (clear r1 f1 i1 b1 l1 r2 f2 i2 b2 l2 m12 m21 sos)
  generalize w1.heap.size = g at HC ⊢
  refine (cS.out _).mono ?_; rintro e w2 ⟨rfl, hw⟩
  have HC := Lib.hid (HC.out.call hw)
  clear hw
  have hC := HC.out
  (have HC := Lib.hid hC
   have sos := hC.below.os
   obtain ⟨⟨r1, f1, i1, b1, l1⟩, ⟨r2, f2, i2, b2, l2⟩, ⟨r3, f3, i3, b3, l3⟩, m12, m21, m13, m31, m23, m32⟩ := St.facts3 hC
   clear hC)
  go_wp2_with fail
  (clear r1 f1 i1 b1 l1 r2 f2 i2 b2 l2 r3 f3 i3 b3 l3 m12 m21 m13 m31 m23 m32 sos)
  refine (cB.out _).mono ?_; rintro e w3 ⟨rfl, hw⟩
  have HC := Lib.hid (HC.out.call hw)
  clear hw
  have hC := HC.out
  (have HC := Lib.hid hC
   have sos := hC.below.os
   obtain ⟨⟨r1, f1, i1, b1, l1⟩, ⟨r2, f2, i2, b2, l2⟩, ⟨r3, f3, i3, b3, l3⟩, m12, m21, m13, m31, m23, m32⟩ := St.facts3 hC
   clear hC)
  go_wp2_with fail
  (clear r1 f1 i1 b1 l1 r2 f2 i2 b2 l2 r3 f3 i3 b3 l3 m12 m21 m13 m31 m23 m32 sos)
  refine St.region HC.out (by kernel_rfl) (by kernel_rfl) ?_
  (first
     | (apply head_skip rfl)
     | (apply head_step_g rfl
        focus
          intro w0 hC
          (fail))
     | (apply head_step_g rfl
        focus
          intro w0 hC
          have hC' := Lib.hid hC
          obtain ⟨⟨r1, f1, i1, b1, l1⟩, ⟨r2, f2, i2, b2, l2⟩, ⟨r3, f3, i3, b3, l3⟩, m12, m21, m13, m31, m23, m32⟩ := St.facts3 hC
          clear hC
          go_simp
          have hC := hC'.out
          (first
             | with_reducible rfl
             | (skip
                (first
                   | (go_at_call 32; (first | (with_reducible refine (cP.out _).mono ?_) | (with_reducible refine (cQ.out _).mono ?_))))
                rintro e w' ⟨rfl, hw⟩
                exact ⟨rfl, St.call (by assumption) hw⟩)))
   try simp only [Act.put, List.setIfInBounds_toArray, List.set])
  (first
     | (apply head_skip rfl)
     | (apply head_step_g rfl
        focus
          intro w0 hC
          (fail))
     | (apply head_step_g rfl
        focus
          intro w0 hC
          have hC' := Lib.hid hC
          obtain ⟨⟨r1, f1, i1, b1, l1⟩, ⟨r2, f2, i2, b2, l2⟩, ⟨r3, f3, i3, b3, l3⟩, m12, m21, m13, m31, m23, m32⟩ := St.facts3 hC
          clear hC
          go_simp
          have hC := hC'.out
          (first
             | with_reducible rfl
             | (skip
                (first
                   | (go_at_call 32; (first | (with_reducible refine (cP.out _).mono ?_) | (with_reducible refine (cQ.out _).mono ?_))))
                rintro e w' ⟨rfl, hw⟩
                exact ⟨rfl, St.call (by assumption) hw⟩)))
   try simp only [Act.put, List.setIfInBounds_toArray, List.set])
  (first
     | (apply head_skip rfl)
     | (apply head_step_g rfl
        focus
          intro w0 hC
          (fail))
     | (apply head_step_g rfl
        focus
          intro w0 hC
          have hC' := Lib.hid hC
          obtain ⟨⟨r1, f1, i1, b1, l1⟩, ⟨r2, f2, i2, b2, l2⟩, ⟨r3, f3, i3, b3, l3⟩, m12, m21, m13, m31, m23, m32⟩ := St.facts3 hC
          clear hC
          go_simp
          have hC := hC'.out
          (first
             | with_reducible rfl
             | (skip
                (first
                   | (go_at_call 32; (first | (with_reducible refine (cP.out _).mono ?_) | (with_reducible refine (cQ.out _).mono ?_))))
                rintro e w' ⟨rfl, hw⟩
                exact ⟨rfl, St.call (by assumption) hw⟩)))
   try simp only [Act.put, List.setIfInBounds_toArray, List.set])
  (first
     | (apply head_skip rfl)
     | (apply head_step_g rfl
        focus
          intro w0 hC
          (fail))
     | (apply head_step_g rfl
        focus
          intro w0 hC
          have hC' := Lib.hid hC
          obtain ⟨⟨r1, f1, i1, b1, l1⟩, ⟨r2, f2, i2, b2, l2⟩, ⟨r3, f3, i3, b3, l3⟩, m12, m21, m13, m31, m23, m32⟩ := St.facts3 hC
          clear hC
          go_simp
          have hC := hC'.out
          (first
             | with_reducible rfl
             | (skip
                (first
                   | (go_at_call 32; (first | (with_reducible refine (cP.out _).mono ?_) | (with_reducible refine (cQ.out _).mono ?_))))
                rintro e w' ⟨rfl, hw⟩
                exact ⟨rfl, St.call (by assumption) hw⟩)))
   try simp only [Act.put, List.setIfInBounds_toArray, List.set])
  (first
     | (apply head_skip rfl)
     | (apply head_step_g rfl
        focus
          intro w0 hC
          (fail))
     | (apply head_step_g rfl
        focus
          intro w0 hC
          have hC' := Lib.hid hC
          obtain ⟨⟨r1, f1, i1, b1, l1⟩, ⟨r2, f2, i2, b2, l2⟩, ⟨r3, f3, i3, b3, l3⟩, m12, m21, m13, m31, m23, m32⟩ := St.facts3 hC
          clear hC
          go_simp
          have hC := hC'.out
          (first
             | with_reducible rfl
             | (skip
                (first
                   | (go_at_call 32; (first | (with_reducible refine (cP.out _).mono ?_) | (with_reducible refine (cQ.out _).mono ?_))))
                rintro e w' ⟨rfl, hw⟩
                exact ⟨rfl, St.call (by assumption) hw⟩)))
   try simp only [Act.put, List.setIfInBounds_toArray, List.set])
  (first
     | (apply head_skip rfl)
     | (apply head_step_g rfl
        focus
          intro w0 hC
          (fail))
     | (apply head_step_g rfl
        focus
          intro w0 hC
          have hC' := Lib.hid hC
          obtain ⟨⟨r1, f1, i1, b1, l1⟩, ⟨r2, f2, i2, b2, l2⟩, ⟨r3, f3, i3, b3, l3⟩, m12, m21, m13, m31, m23, m32⟩ := St.facts3 hC
          clear hC
          go_simp
          have hC := hC'.out
          (first
             | with_reducible rfl
             | (skip
                (first
                   | (go_at_call 32; (first | (with_reducible refine (cP.out _).mono ?_) | (with_reducible refine (cQ.out _).mono ?_))))
                rintro e w' ⟨rfl, hw⟩
                exact ⟨rfl, St.call (by assumption) hw⟩)))
   try simp only [Act.put, List.setIfInBounds_toArray, List.set])
  (first
     | (apply head_skip rfl)
     | (apply head_step_g rfl
        focus
          intro w0 hC
          (fail))
     | (apply head_step_g rfl
        focus
          intro w0 hC
          have hC' := Lib.hid hC
          obtain ⟨⟨r1, f1, i1, b1, l1⟩, ⟨r2, f2, i2, b2, l2⟩, ⟨r3, f3, i3, b3, l3⟩, m12, m21, m13, m31, m23, m32⟩ := St.facts3 hC
          clear hC
          go_simp
          have hC := hC'.out
          (first
             | with_reducible rfl
             | (skip
                (first
                   | (go_at_call 32; (first | (with_reducible refine (cP.out _).mono ?_) | (with_reducible refine (cQ.out _).mono ?_))))
                rintro e w' ⟨rfl, hw⟩
                exact ⟨rfl, St.call (by assumption) hw⟩)))
   try simp only [Act.put, List.setIfInBounds_toArray, List.set])
  (first
     | (apply head_skip rfl)
     | (apply head_step_g rfl
        focus
          intro w0 hC
          (fail))
     | (apply head_step_g rfl
        focus
          intro w0 hC
          have hC' := Lib.hid hC
          obtain ⟨⟨r1, f1, i1, b1, l1⟩, ⟨r2, f2, i2, b2, l2⟩, ⟨r3, f3, i3, b3, l3⟩, m12, m21, m13, m31, m23, m32⟩ := St.facts3 hC
          clear hC
          go_simp
          have hC := hC'.out
          (first
             | with_reducible rfl
             | (skip
                (first
                   | (go_at_call 32; (first | (with_reducible refine (cP.out _).mono ?_) | (with_reducible refine (cQ.out _).mono ?_))))
                rintro e w' ⟨rfl, hw⟩
                exact ⟨rfl, St.call (by assumption) hw⟩)))
   try simp only [Act.put, List.setIfInBounds_toArray, List.set])
  (first
     | (apply head_skip rfl)
     | (apply head_step_g rfl
        focus
          intro w0 hC
          (fail))
     | (apply head_step_g rfl
        focus
          intro w0 hC
          have hC' := Lib.hid hC
          obtain ⟨⟨r1, f1, i1, b1, l1⟩, ⟨r2, f2, i2, b2, l2⟩, ⟨r3, f3, i3, b3, l3⟩, m12, m21, m13, m31, m23, m32⟩ := St.facts3 hC
          clear hC
          go_simp
          have hC := hC'.out
          (first
             | with_reducible rfl
             | (skip
                (first
                   | (go_at_call 32; (first | (with_reducible refine (cP.out _).mono ?_) | (with_reducible refine (cQ.out _).mono ?_))))
                rintro e w' ⟨rfl, hw⟩
                exact ⟨rfl, St.call (by assumption) hw⟩)))
   try simp only [Act.put, List.setIfInBounds_toArray, List.set])
  (first
     | (apply head_skip rfl)
     | (apply head_step_g rfl
        focus
          intro w0 hC
          (fail))
     | (apply head_step_g rfl
        focus
          intro w0 hC
          have hC' := Lib.hid hC
          obtain ⟨⟨r1, f1, i1, b1, l1⟩, ⟨r2, f2, i2, b2, l2⟩, ⟨r3, f3, i3, b3, l3⟩, m12, m21, m13, m31, m23, m32⟩ := St.facts3 hC
          clear hC
          go_simp
          have hC := hC'.out
          (first
             | with_reducible rfl
             | (skip
                (first
                   | (go_at_call 32; (first | (with_reducible refine (cP.out _).mono ?_) | (with_reducible refine (cQ.out _).mono ?_))))
                rintro e w' ⟨rfl, hw⟩
                exact ⟨rfl, St.call (by assumption) hw⟩)))
   try simp only [Act.put, List.setIfInBounds_toArray, List.set])
  (first
     | (apply head_skip rfl)
     | (apply head_step_g rfl
        focus
          intro w0 hC
          (fail))
     | (apply head_step_g rfl
        focus
          intro w0 hC
          have hC' := Lib.hid hC
          obtain ⟨⟨r1, f1, i1, b1, l1⟩, ⟨r2, f2, i2, b2, l2⟩, ⟨r3, f3, i3, b3, l3⟩, m12, m21, m13, m31, m23, m32⟩ := St.facts3 hC
          clear hC
          go_simp
          have hC := hC'.out
          (first
             | with_reducible rfl
             | (skip
                (first
                   | (go_at_call 32; (first | (with_reducible refine (cP.out _).mono ?_) | (with_reducible refine (cQ.out _).mono ?_))))
                rintro e w' ⟨rfl, hw⟩
                exact ⟨rfl, St.call (by assumption) hw⟩)))
   try simp only [Act.put, List.setIfInBounds_toArray, List.set])
  (first
     | (apply head_skip rfl)
     | (apply head_step_g rfl
        focus
          intro w0 hC
          (fail))
     | (apply head_step_g rfl
        focus
          intro w0 hC
          have hC' := Lib.hid hC
          obtain ⟨⟨r1, f1, i1, b1, l1⟩, ⟨r2, f2, i2, b2, l2⟩, ⟨r3, f3, i3, b3, l3⟩, m12, m21, m13, m31, m23, m32⟩ := St.facts3 hC
          clear hC
          go_simp
          have hC := hC'.out
          (first
             | with_reducible rfl
             | (skip
                (first
                   | (go_at_call 32; (first | (with_reducible refine (cP.out _).mono ?_) | (with_reducible refine (cQ.out _).mono ?_))))
                rintro e w' ⟨rfl, hw⟩
                exact ⟨rfl, St.call (by assumption) hw⟩)))
   try simp only [Act.put, List.setIfInBounds_toArray, List.set])
  (first
     | (apply head_skip rfl)
     | (apply head_step_g rfl
        focus
          intro w0 hC
          (fail))
     | (apply head_step_g rfl
        focus
          intro w0 hC
          have hC' := Lib.hid hC
          obtain ⟨⟨r1, f1, i1, b1, l1⟩, ⟨r2, f2, i2, b2, l2⟩, ⟨r3, f3, i3, b3, l3⟩, m12, m21, m13, m31, m23, m32⟩ := St.facts3 hC
          clear hC
          go_simp
          have hC := hC'.out
          (first
             | with_reducible rfl
             | (skip
                (first
                   | (go_at_call 32; (first | (with_reducible refine (cP.out _).mono ?_) | (with_reducible refine (cQ.out _).mono ?_))))
                rintro e w' ⟨rfl, hw⟩
                exact ⟨rfl, St.call (by assumption) hw⟩)))
   try simp only [Act.put, List.setIfInBounds_toArray, List.set])
  (first
     | (apply head_skip rfl)
     | (apply head_step_g rfl
        focus
          intro w0 hC
          (fail))
     | (apply head_step_g rfl
        focus
          intro w0 hC
          have hC' := Lib.hid hC
          obtain ⟨⟨r1, f1, i1, b1, l1⟩, ⟨r2, f2, i2, b2, l2⟩, ⟨r3, f3, i3, b3, l3⟩, m12, m21, m13, m31, m23, m32⟩ := St.facts3 hC
          clear hC
          go_simp
          have hC := hC'.out
          (first
             | with_reducible rfl
             | (skip
                (first
                   | (go_at_call 32; (first | (with_reducible refine (cP.out _).mono ?_) | (with_reducible refine (cQ.out _).mono ?_))))
                rintro e w' ⟨rfl, hw⟩
                exact ⟨rfl, St.call (by assumption) hw⟩)))
   try simp only [Act.put, List.setIfInBounds_toArray, List.set])
  (first
     | (apply head_skip rfl)
     | (apply head_step_g rfl
        focus
          intro w0 hC
          (fail))
     | (apply head_step_g rfl
        focus
          intro w0 hC
          have hC' := Lib.hid hC
          obtain ⟨⟨r1, f1, i1, b1, l1⟩, ⟨r2, f2, i2, b2, l2⟩, ⟨r3, f3, i3, b3, l3⟩, m12, m21, m13, m31, m23, m32⟩ := St.facts3 hC
          clear hC
          go_simp
          have hC := hC'.out
          (first
             | with_reducible rfl
             | (skip
                (first
                   | (go_at_call 32; (first | (with_reducible refine (cP.out _).mono ?_) | (with_reducible refine (cQ.out _).mono ?_))))
                rintro e w' ⟨rfl, hw⟩
                exact ⟨rfl, St.call (by assumption) hw⟩)))
   try simp only [Act.put, List.setIfInBounds_toArray, List.set])
  refine wpQuiet_nil ?_
  intro w4 hC
  clear HC
  (have HC := Lib.hid hC
   have sos := hC.below.os
   obtain ⟨⟨r1, f1, i1, b1, l1⟩, ⟨r2, f2, i2, b2, l2⟩, ⟨r3, f3, i3, b3, l3⟩, m12, m21, m13, m31, m23, m32⟩ := St.facts3 hC
   clear hC)
  go_wp2_with fail
  (clear r1 f1 i1 b1 l1 r2 f2 i2 b2 l2 r3 f3 i3 b3 l3 m12 m21 m13 m31 m23 m32 sos)
  refine St.region HC.out (by kernel_rfl) (by kernel_rfl) ?_
  (first
     | (apply head_skip rfl)
     | (apply head_step_g rfl
        focus
          intro w0 hC
          (fail))
     | (apply head_step_g rfl
        focus
          intro w0 hC
          have hC' := Lib.hid hC
          obtain ⟨⟨r1, f1, i1, b1, l1⟩, ⟨r2, f2, i2, b2, l2⟩, ⟨r3, f3, i3, b3, l3⟩, m12, m21, m13, m31, m23, m32⟩ := St.facts3 hC
          clear hC
          go_simp
          have hC := hC'.out
          (first
             | with_reducible rfl
             | (skip
                (first
                   | (go_at_call 32; (first | (with_reducible refine (cP.out _).mono ?_) | (with_reducible refine (cQ.out _).mono ?_))))
                rintro e w' ⟨rfl, hw⟩
                exact ⟨rfl, St.call (by assumption) hw⟩)))
   try simp only [Act.put, List.setIfInBounds_toArray, List.set])
  (first
     | (apply head_skip rfl)
     | (apply head_step_g rfl
        focus
          intro w0 hC
          (fail))
     | (apply head_step_g rfl
        focus
          intro w0 hC
          have hC' := Lib.hid hC
          obtain ⟨⟨r1, f1, i1, b1, l1⟩, ⟨r2, f2, i2, b2, l2⟩, ⟨r3, f3, i3, b3, l3⟩, m12, m21, m13, m31, m23, m32⟩ := St.facts3 hC
          clear hC
          go_simp
          have hC := hC'.out
          (first
             | with_reducible rfl
             | (skip
                (first
                   | (go_at_call 32; (first | (with_reducible refine (cP.out _).mono ?_) | (with_reducible refine (cQ.out _).mono ?_))))
                rintro e w' ⟨rfl, hw⟩
                exact ⟨rfl, St.call (by assumption) hw⟩)))
   try simp only [Act.put, List.setIfInBounds_toArray, List.set])
  (first
     | (apply head_skip rfl)
     | (apply head_step_g rfl
        focus
          intro w0 hC
          (fail))
     | (apply head_step_g rfl
        focus
          intro w0 hC
          have hC' := Lib.hid hC
          obtain ⟨⟨r1, f1, i1, b1, l1⟩, ⟨r2, f2, i2, b2, l2⟩, ⟨r3, f3, i3, b3, l3⟩, m12, m21, m13, m31, m23, m32⟩ := St.facts3 hC
          clear hC
          go_simp
          have hC := hC'.out
          (first
             | with_reducible rfl
             | (skip
                (first
                   | (go_at_call 32; (first | (with_reducible refine (cP.out _).mono ?_) | (with_reducible refine (cQ.out _).mono ?_))))
                rintro e w' ⟨rfl, hw⟩
                exact ⟨rfl, St.call (by assumption) hw⟩)))
   try simp only [Act.put, List.setIfInBounds_toArray, List.set])
  (first
     | (apply head_skip rfl)
     | (apply head_step_g rfl
        focus
          intro w0 hC
          (fail))
     | (apply head_step_g rfl
        focus
          intro w0 hC
          have hC' := Lib.hid hC
          obtain ⟨⟨r1, f1, i1, b1, l1⟩, ⟨r2, f2, i2, b2, l2⟩, ⟨r3, f3, i3, b3, l3⟩, m12, m21, m13, m31, m23, m32⟩ := St.facts3 hC
          clear hC
          go_simp
          have hC := hC'.out
          (first
             | with_reducible rfl
             | (skip
                (first
                   | (go_at_call 32; (first | (with_reducible refine (cP.out _).mono ?_) | (with_reducible refine (cQ.out _).mono ?_))))
                rintro e w' ⟨rfl, hw⟩
                exact ⟨rfl, St.call (by assumption) hw⟩)))
   try simp only [Act.put, List.setIfInBounds_toArray, List.set])
  (first
     | (apply head_skip rfl)
     | (apply head_step_g rfl
        focus
          intro w0 hC
          (fail))
     | (apply head_step_g rfl
        focus
          intro w0 hC
          have hC' := Lib.hid hC
          obtain ⟨⟨r1, f1, i1, b1, l1⟩, ⟨r2, f2, i2, b2, l2⟩, ⟨r3, f3, i3, b3, l3⟩, m12, m21, m13, m31, m23, m32⟩ := St.facts3 hC
          clear hC
          go_simp
          have hC := hC'.out
          (first
             | with_reducible rfl
             | (skip
                (first
                   | (go_at_call 32; (first | (with_reducible refine (cP.out _).mono ?_) | (with_reducible refine (cQ.out _).mono ?_))))
                rintro e w' ⟨rfl, hw⟩
                exact ⟨rfl, St.call (by assumption) hw⟩)))
   try simp only [Act.put, List.setIfInBounds_toArray, List.set])
  (first
     | (apply head_skip rfl)
     | (apply head_step_g rfl
        focus
          intro w0 hC
          (fail))
     | (apply head_step_g rfl
        focus
          intro w0 hC
          have hC' := Lib.hid hC
          obtain ⟨⟨r1, f1, i1, b1, l1⟩, ⟨r2, f2, i2, b2, l2⟩, ⟨r3, f3, i3, b3, l3⟩, m12, m21, m13, m31, m23, m32⟩ := St.facts3 hC
          clear hC
          go_simp
          have hC := hC'.out
          (first
             | with_reducible rfl
             | (skip
                (first
                   | (go_at_call 32; (first | (with_reducible refine (cP.out _).mono ?_) | (with_reducible refine (cQ.out _).mono ?_))))
                rintro e w' ⟨rfl, hw⟩
                exact ⟨rfl, St.call (by assumption) hw⟩)))
   try simp only [Act.put, List.setIfInBounds_toArray, List.set])
  (first
     | (apply head_skip rfl)
     | (apply head_step_g rfl
        focus
          intro w0 hC
          (fail))
     | (apply head_step_g rfl
        focus
          intro w0 hC
          have hC' := Lib.hid hC
          obtain ⟨⟨r1, f1, i1, b1, l1⟩, ⟨r2, f2, i2, b2, l2⟩, ⟨r3, f3, i3, b3, l3⟩, m12, m21, m13, m31, m23, m32⟩ := St.facts3 hC
          clear hC
          go_simp
          have hC := hC'.out
          (first
             | with_reducible rfl
             | (skip
                (first
                   | (go_at_call 32; (first | (with_reducible refine (cP.out _).mono ?_) | (with_reducible refine (cQ.out _).mono ?_))))
                rintro e w' ⟨rfl, hw⟩
                exact ⟨rfl, St.call (by assumption) hw⟩)))
   try simp only [Act.put, List.setIfInBounds_toArray, List.set])
  (first
     | (apply head_skip rfl)
     | (apply head_step_g rfl
        focus
          intro w0 hC
          (fail))
     | (apply head_step_g rfl
        focus
          intro w0 hC
          have hC' := Lib.hid hC
          obtain ⟨⟨r1, f1, i1, b1, l1⟩, ⟨r2, f2, i2, b2, l2⟩, ⟨r3, f3, i3, b3, l3⟩, m12, m21, m13, m31, m23, m32⟩ := St.facts3 hC
          clear hC
          go_simp
          have hC := hC'.out
          (first
             | with_reducible rfl
             | (skip
                (first
                   | (go_at_call 32; (first | (with_reducible refine (cP.out _).mono ?_) | (with_reducible refine (cQ.out _).mono ?_))))
                rintro e w' ⟨rfl, hw⟩
                exact ⟨rfl, St.call (by assumption) hw⟩)))
   try simp only [Act.put, List.setIfInBounds_toArray, List.set])
  (first
     | (apply head_skip rfl)
     | (apply head_step_g rfl
        focus
          intro w0 hC
          (fail))
     | (apply head_step_g rfl
        focus
          intro w0 hC
          have hC' := Lib.hid hC
          obtain ⟨⟨r1, f1, i1, b1, l1⟩, ⟨r2, f2, i2, b2, l2⟩, ⟨r3, f3, i3, b3, l3⟩, m12, m21, m13, m31, m23, m32⟩ := St.facts3 hC
          clear hC
          go_simp
          have hC := hC'.out
          (first
             | with_reducible rfl
             | (skip
                (first
                   | (go_at_call 32; (first | (with_reducible refine (cP.out _).mono ?_) | (with_reducible refine (cQ.out _).mono ?_))))
                rintro e w' ⟨rfl, hw⟩
                exact ⟨rfl, St.call (by assumption) hw⟩)))
   try simp only [Act.put, List.setIfInBounds_toArray, List.set])
  (first
     | (apply head_skip rfl)
     | (apply head_step_g rfl
        focus
          intro w0 hC
          (fail))
     | (apply head_step_g rfl
        focus
          intro w0 hC
          have hC' := Lib.hid hC
          obtain ⟨⟨r1, f1, i1, b1, l1⟩, ⟨r2, f2, i2, b2, l2⟩, ⟨r3, f3, i3, b3, l3⟩, m12, m21, m13, m31, m23, m32⟩ := St.facts3 hC
          clear hC
          go_simp
          have hC := hC'.out
          (first
             | with_reducible rfl
             | (skip
                (first
                   | (go_at_call 32; (first | (with_reducible refine (cP.out _).mono ?_) | (with_reducible refine (cQ.out _).mono ?_))))
                rintro e w' ⟨rfl, hw⟩
                exact ⟨rfl, St.call (by assumption) hw⟩)))
   try simp only [Act.put, List.setIfInBounds_toArray, List.set])
  (first
     | (apply head_skip rfl)
     | (apply head_step_g rfl
        focus
          intro w0 hC
          (fail))
     | (apply head_step_g rfl
        focus
          intro w0 hC
          have hC' := Lib.hid hC
          obtain ⟨⟨r1, f1, i1, b1, l1⟩, ⟨r2, f2, i2, b2, l2⟩, ⟨r3, f3, i3, b3, l3⟩, m12, m21, m13, m31, m23, m32⟩ := St.facts3 hC
          clear hC
          go_simp
          have hC := hC'.out
          (first
             | with_reducible rfl
             | (skip
                (first
                   | (go_at_call 32; (first | (with_reducible refine (cP.out _).mono ?_) | (with_reducible refine (cQ.out _).mono ?_))))
                rintro e w' ⟨rfl, hw⟩
                exact ⟨rfl, St.call (by assumption) hw⟩)))
   try simp only [Act.put, List.setIfInBounds_toArray, List.set])
  (first
     | (apply head_skip rfl)
     | (apply head_step_g rfl
        focus
          intro w0 hC
          (fail))
     | (apply head_step_g rfl
        focus
          intro w0 hC
          have hC' := Lib.hid hC
          obtain ⟨⟨r1, f1, i1, b1, l1⟩, ⟨r2, f2, i2, b2, l2⟩, ⟨r3, f3, i3, b3, l3⟩, m12, m21, m13, m31, m23, m32⟩ := St.facts3 hC
          clear hC
          go_simp
          have hC := hC'.out
          (first
             | with_reducible rfl
             | (skip
                (first
                   | (go_at_call 32; (first | (with_reducible refine (cP.out _).mono ?_) | (with_reducible refine (cQ.out _).mono ?_))))
                rintro e w' ⟨rfl, hw⟩
                exact ⟨rfl, St.call (by assumption) hw⟩)))
   try simp only [Act.put, List.setIfInBounds_toArray, List.set])
  (first
     | (apply head_skip rfl)
     | (apply head_step_g rfl
        focus
          intro w0 hC
          (fail))
     | (apply head_step_g rfl
        focus
          intro w0 hC
          have hC' := Lib.hid hC
          obtain ⟨⟨r1, f1, i1, b1, l1⟩, ⟨r2, f2, i2, b2, l2⟩, ⟨r3, f3, i3, b3, l3⟩, m12, m21, m13, m31, m23, m32⟩ := St.facts3 hC
          clear hC
          go_simp
          have hC := hC'.out
          (first
             | with_reducible rfl
             | (skip
                (first
                   | (go_at_call 32; (first | (with_reducible refine (cP.out _).mono ?_) | (with_reducible refine (cQ.out _).mono ?_))))
                rintro e w' ⟨rfl, hw⟩
                exact ⟨rfl, St.call (by assumption) hw⟩)))
   try simp only [Act.put, List.setIfInBounds_toArray, List.set])
  (first
     | (apply head_skip rfl)
     | (apply head_step_g rfl
        focus
          intro w0 hC
          (fail))
     | (apply head_step_g rfl
        focus
          intro w0 hC
          have hC' := Lib.hid hC
          obtain ⟨⟨r1, f1, i1, b1, l1⟩, ⟨r2, f2, i2, b2, l2⟩, ⟨r3, f3, i3, b3, l3⟩, m12, m21, m13, m31, m23, m32⟩ := St.facts3 hC
          clear hC
          go_simp
          have hC := hC'.out
          (first
             | with_reducible rfl
             | (skip
                (first
                   | (go_at_call 32; (first | (with_reducible refine (cP.out _).mono ?_) | (with_reducible refine (cQ.out _).mono ?_))))
                rintro e w' ⟨rfl, hw⟩
                exact ⟨rfl, St.call (by assumption) hw⟩)))
   try simp only [Act.put, List.setIfInBounds_toArray, List.set])
  (first
     | (apply head_skip rfl)
     | (apply head_step_g rfl
        focus
          intro w0 hC
          (fail))
     | (apply head_step_g rfl
        focus
          intro w0 hC
          have hC' := Lib.hid hC
          obtain ⟨⟨r1, f1, i1, b1, l1⟩, ⟨r2, f2, i2, b2, l2⟩, ⟨r3, f3, i3, b3, l3⟩, m12, m21, m13, m31, m23, m32⟩ := St.facts3 hC
          clear hC
          go_simp
          have hC := hC'.out
          (first
             | with_reducible rfl
             | (skip
                (first
                   | (go_at_call 32; (first | (with_reducible refine (cP.out _).mono ?_) | (with_reducible refine (cQ.out _).mono ?_))))
                rintro e w' ⟨rfl, hw⟩
                exact ⟨rfl, St.call (by assumption) hw⟩)))
   try simp only [Act.put, List.setIfInBounds_toArray, List.set])
  (first
     | (apply head_skip rfl)
     | (apply head_step_g rfl
        focus
          intro w0 hC
          (fail))
     | (apply head_step_g rfl
        focus
          intro w0 hC
          have hC' := Lib.hid hC
          obtain ⟨⟨r1, f1, i1, b1, l1⟩, ⟨r2, f2, i2, b2, l2⟩, ⟨r3, f3, i3, b3, l3⟩, m12, m21, m13, m31, m23, m32⟩ := St.facts3 hC
          clear hC
          go_simp
          have hC := hC'.out
          (first
             | with_reducible rfl
             | (skip
                (first
                   | (go_at_call 32; (first | (with_reducible refine (cP.out _).mono ?_) | (with_reducible refine (cQ.out _).mono ?_))))
                rintro e w' ⟨rfl, hw⟩
                exact ⟨rfl, St.call (by assumption) hw⟩)))
   try simp only [Act.put, List.setIfInBounds_toArray, List.set])
  (first
     | (apply head_skip rfl)
     | (apply head_step_g rfl
        focus
          intro w0 hC
          (fail))
     | (apply head_step_g rfl
        focus
          intro w0 hC
          have hC' := Lib.hid hC
          obtain ⟨⟨r1, f1, i1, b1, l1⟩, ⟨r2, f2, i2, b2, l2⟩, ⟨r3, f3, i3, b3, l3⟩, m12, m21, m13, m31, m23, m32⟩ := St.facts3 hC
          clear hC
          go_simp
          have hC := hC'.out
          (first
             | with_reducible rfl
             | (skip
                (first
                   | (go_at_call 32; (first | (with_reducible refine (cP.out _).mono ?_) | (with_reducible refine (cQ.out _).mono ?_))))
                rintro e w' ⟨rfl, hw⟩
                exact ⟨rfl, St.call (by assumption) hw⟩)))
   try simp only [Act.put, List.setIfInBounds_toArray, List.set])
  (first
     | (apply head_skip rfl)
     | (apply head_step_g rfl
        focus
          intro w0 hC
          (fail))
     | (apply head_step_g rfl
        focus
          intro w0 hC
          have hC' := Lib.hid hC
          obtain ⟨⟨r1, f1, i1, b1, l1⟩, ⟨r2, f2, i2, b2, l2⟩, ⟨r3, f3, i3, b3, l3⟩, m12, m21, m13, m31, m23, m32⟩ := St.facts3 hC
          clear hC
          go_simp
          have hC := hC'.out
          (first
             | with_reducible rfl
             | (skip
                (first
                   | (go_at_call 32; (first | (with_reducible refine (cP.out _).mono ?_) | (with_reducible refine (cQ.out _).mono ?_))))
                rintro e w' ⟨rfl, hw⟩
                exact ⟨rfl, St.call (by assumption) hw⟩)))
   try simp only [Act.put, List.setIfInBounds_toArray, List.set])
  refine wpQuiet_nil ?_
  intro w5 hC
  clear HC
  (have HC := Lib.hid hC
   have sos := hC.below.os
   obtain ⟨⟨r1, f1, i1, b1, l1⟩, ⟨r2, f2, i2, b2, l2⟩, ⟨r3, f3, i3, b3, l3⟩, m12, m21, m13, m31, m23, m32⟩ := St.facts3 hC
   clear hC)
  go_wp2_with fail
  refine (awake09_any _).mono ?_; rintro e w7 ⟨rfl, hw⟩
  have HC := Lib.hid (HC.out.call hw)
  clear hw sos
  have sos := HC.out.os
  go_wp2_with fail
  go_ret
  exact ⟨rfl, HC.out.below⟩
theorem gcmParts_walk (k : Nat → UInt8) (t : ByteArray × ByteArray × ByteArray) (m : Int) (hm : 0 ≤ m ∧ m ≤ 4294967295) (w : World) : Calls Try.prog 9 #[.agg (blk 16 k), .agg (tx t.1 t.2.1 t.2.2), .int .u32 m] w fun e w' => e = .returned (.bool true) ∧ Below w.heap.size w w' := by
  obtain ⟨n, rfl⟩ := Int.eq_ofNat_of_zero_le hm.1
  by_cases h : decide (20 < t.1.size ∨ 60 < t.2.1.size ∨ 60 < t.2.2.size) = true ∨ t.1.size ≠ 12
  · exact gcmParts_out k _ _ _ n h w
  · exact gcmParts_in k _ _ _ n (by have := hm.2; omega) (by cases hd : decide (20 < t.1.size ∨ 60 < t.2.1.size ∨ 60 < t.2.2.size) with | false => rfl | true => exact (h (.inl hd)).elim) (by omega) w
end Go.Proofs.Ytklcgacbmphjcaa
