/- The statement KeysParse's function returns true. -/
import Derived.Test.YtgaecjhghpkcoaaKeAwake
namespace Go.Proofs.Ytgaecjhghpkcoaa
open Go.RowKit
attribute [local go_sem] B_xor B_or B_and
attribute [local go_sem] blk_set blk_size blk_get blk_getE upd_same oneCells_blk paste_blk cut_blk szOf
attribute [local go_sem high] paste_all cut_head
attribute [local go_sem] rowAt_alloc rowAt_drew rowAt_drewN isRow_alloc isRow_drew isRow_drewN freeRow_alloc freeRow_end freeRow_drew freeRow_drewN
attribute [local go_sem] setRow_alloc setRow_drew setRow_drewN setCell_drewN alloc_drewN rowAt_put isRow_setRow freeRow_put
attribute [local go_sem ↓] loadS_in storeS_in indexS_in copyS_in
attribute [local go_sem] loadS_row loadS_one storeS_row storeS_one indexS_blk copyS_rows run_equalIn_blk same_refl arrayAt_row
attribute [local go_sem] cell_row frozen_row st_setCell st_blk_ne stepAt stepUpon
attribute [local go_sem high] run_eql_blk run_neq_blk
attribute [local go_sem ↓] convBS_in
attribute [local go_sem] convBS_row convBS_nil allBytes_blk bytesOf_blk
attribute [local go_sem] rg_size rg_get0 rg_getE0 rg_ne rg_set0 rg_one rg_cut rg_key rg_put rg_paste part_rg0 part_rg1

theorem text_ext {s : ByteArray} {n : Nat} {f : Nat → UInt8} (h : s.size = n) (hf : ∀ i, i < n → ofText s i = f i) : s = strOf n f := by
  rw [← strOf_ofText s n h]
  exact strOf_congr hf
/-- what a text is as a ring: both tell the same one, of which it is the text, or both the same error -/
theorem parse_any (s : ByteArray) (hs : s.size < 2 ^ 40) :
    (∃ (N : Nat) (f : Nat → UInt8), 1 ≤ N ∧ N ≤ 6 ∧ Neat N f ∧ s = strOf (1 + N * 16) (ringB N f) ∧ (∀ w, Calls Try.prog 15 #[.string s] w fun e w' => e = .returned (.tuple #[.agg (rg N f), .int .i64 0]) ∧ Below w.heap.size w w') ∧
      (∀ w0 w L, St w0 L w → Calls Try.prog 16 #[.string s] w (Keyed w0 L N f))) ∨
    (∃ d : Nat, 1 ≤ d ∧ (∀ w, Calls Try.prog 15 #[.string s] w fun e w' => e = .returned (.tuple #[.agg (rg 0 fun _ => 0), .int .i64 (d : Int)]) ∧ Below w.heap.size w w') ∧
      (∀ w, Calls Try.prog 16 #[.string s] w fun e w' => e = .returned (.tuple #[.slice none 0 0, .int .i64 (d : Int)]) ∧ Below w.heap.size w w')) := by
  by_cases h0 : s.size = 0
  · exact .inr ⟨3, by omega, fun w => parse_empty s h0 w, fun w => refParse_empty s h0 w⟩
  · obtain ⟨N, hN⟩ : ∃ N, (ofText s 0).toNat = N := ⟨_, rfl⟩
    by_cases h1 : N < 1 ∨ 6 < N
    · exact .inr ⟨4, by omega, fun w => parse_form s N (by omega) hN hs h1 w, fun w => refParse_form s N (by omega) hN h1 w⟩
    · by_cases h2 : s.size = 1 + N * 16
      · refine .inl ⟨N, parseB (s.extract 1 s.size) (N * 16), by omega, by omega, fun i h3 h4 => by unfold parseB; rw [if_neg (by omega)], text_ext h2 fun i hi => ?_, fun w => parse_ok s _ N (by omega) hN (by omega) (by omega) h2 rfl w, fun w0 w L hC => refParse_ok s _ N (by omega) hN (by omega) (by omega) h2 rfl w0 w L hC⟩
        unfold ringB glue
        by_cases hi0 : i = 0
        · subst hi0
          rw [if_pos (by omega), ← hN]
          simp
        · rw [if_neg (by omega)]
          unfold parseB
          rw [if_pos (by omega), ofText_extract _ _ _ _ (by omega) (Nat.le_refl _)]
          congr 1; omega
      · obtain ⟨d, hd⟩ : ∃ d : Nat, (s.size < 1 + N * 16 ∧ d = 3) ∨ (1 + N * 16 < s.size ∧ d = 4) := by
          by_cases h3 : s.size < 1 + N * 16
          · exact ⟨3, .inl ⟨h3, rfl⟩⟩
          · exact ⟨4, .inr ⟨by omega, rfl⟩⟩
        exact .inr ⟨d, by omega, fun w => parse_size s N d (by omega) hN hs (by omega) (by omega) hd w, fun w => refParse_size s N d (by omega) hN (by omega) (by omega) hd w⟩
/-- rings are the same just if their texts are -/
theorem same_texts (s t : ByteArray) (N M : Nat) (f g : Nat → UInt8) (hN : N ≤ 6) (hM : M ≤ 6) (zf : Neat N f) (zg : Neat M g) (hs : s = strOf (1 + N * 16) (ringB N f)) (ht : t = strOf (1 + M * 16) (ringB M g)) :
    ∃ v : Bool, (s.toList == t.toList) = v ∧ ∀ w, Calls Try.prog 18 #[.agg (rg N f), .agg (rg M g)] w fun e w' => e = .returned (.bool v) ∧ Below w.heap.size w w' := by
  by_cases h : N = M
  · subst h
    refine ⟨same 96 f g, ?_, fun w => same_yes N f g _ rfl w⟩
    rw [Bool.eq_iff_iff, text_eq, same_iff, hs, ht]
    constructor
    · intro he i hi
      by_cases hlt : i < N * 16
      · have := congrArg (fun x => ofText x (1 + i)) he
        rw [ofText_strOf _ _ _ (by omega), ofText_strOf _ _ _ (by omega)] at this
        unfold ringB glue at this
        rw [if_neg (by omega), if_neg (by omega), Nat.add_sub_cancel_left] at this
        exact this
      · rw [zf i (by omega) hi, zg i (by omega) hi]
    · intro he
      refine strOf_congr fun i hi => ?_
      unfold ringB glue
      split
      · rfl
      · exact he _ (by omega)
  · refine ⟨false, text_ne fun he => h ?_, fun w => same_no N M f g h w⟩
    have := congrArg ByteArray.size he
    rw [hs, ht, strOf_size, strOf_size] at this
    omega
set_option maxRecDepth 100000 in
set_option maxHeartbeats 4000000 in
theorem keysParse_long (s t : ByteArray) (n : Int) (h : 200 < s.size ∨ 200 < t.size) (w : World) : Calls Try.prog 4 #[.string s, .string t, .int .i64 n] w fun e w' => e = .returned (.bool true) ∧ Below w.heap.size w w' := by
  by_cases h1 : 200 < s.size
  · have d1 : decide (200 < (s.size : Int)) = true := decide_eq_true (by omega)
    go_enter Try.func4, Try.ntmps4
    go_wp2_with fail
    refine (awake20_any _).mono ?_; rintro e w1 ⟨rfl, hw⟩
    go_wp2_with fail
    go_ret
    exact ⟨rfl, hw⟩
  · have d1 : decide (200 < (s.size : Int)) = false := decide_eq_false (by omega)
    have d2 : decide (200 < (t.size : Int)) = true := decide_eq_true (by omega)
    go_enter Try.func4, Try.ntmps4
    go_wp2_with fail
    refine (awake20_any _).mono ?_; rintro e w1 ⟨rfl, hw⟩
    go_wp2_with fail
    go_ret
    exact ⟨rfl, hw⟩
/-- the length of a ring's text, as the law reckons it -/
def lenOf (n : Int) : Int := if 1 ≤ n ∧ n ≤ 6 then 1 + 16 * n else 0
theorem length_any (n : Int) (w : World) : Calls Try.prog 19 #[.int .i64 n] w fun e w' => e = .returned (.int .i64 (lenOf n)) ∧ Below w.heap.size w w' := by
  unfold lenOf
  split
  · rename_i h
    obtain ⟨m, rfl⟩ : ∃ m : Nat, n = (m : Int) := ⟨n.toNat, by omega⟩
    have := length_yes m (by omega) (by omega) w
    rw [Int.mul_comm] at this
    exact this
  · rename_i h
    exact length_no n (by omega) w
set_option maxRecDepth 100000 in
set_option maxHeartbeats 4000000 in
theorem keysParse_no (s t : ByteArray) (n : Int) (d N1 E1 : Nat) (f1 : Nat → UInt8) (hs : s.size ≤ 200) (ht : t.size ≤ 200) (hd : 1 ≤ d) (c1 : ∀ w, Calls Try.prog 15 #[.string s] w fun e w' => e = .returned (.tuple #[.agg (rg 0 fun _ => 0), .int .i64 (d : Int)]) ∧ Below w.heap.size w w') (c2 : ∀ w, Calls Try.prog 16 #[.string s] w fun e w' => e = .returned (.tuple #[.slice none 0 0, .int .i64 (d : Int)]) ∧ Below w.heap.size w w') (c3 : ∀ w, Calls Try.prog 15 #[.string t] w fun e w' => e = .returned (.tuple #[.agg (rg N1 f1), .int .i64 (E1 : Int)]) ∧ Below w.heap.size w w') (w : World) : Calls Try.prog 4 #[.string s, .string t, .int .i64 n] w fun e w' => e = .returned (.bool true) ∧ Below w.heap.size w w' := by
  have hz2 := zero97
  have d1 : decide (200 < (s.size : Int)) = false := decide_eq_false (by omega)
  have d2 : decide (200 < (t.size : Int)) = false := decide_eq_false (by omega)
  have C1 := Lib.hid c1
  have C2 := Lib.hid c2
  have C3 := Lib.hid c3
  clear c1 c2 c3
  have e1 : ((d : Int) != (d : Int)) = false := by simp
  have e2 : ((d : Int) == 0) = false := by rw [beq_eq_false_iff_ne]; omega
  have e3 : ((d : Int) != 0) = true := by rw [bne_iff_ne]; omega
  by_cases h1 : 1 ≤ n
  · by_cases h2 : n ≤ 6
    · have hlen : lenOf n = 1 + 16 * n := by unfold lenOf; rw [if_pos ⟨h1, h2⟩]
      (go_enter Try.func4, Try.ntmps4
       go_wp2_with fail
       have HC := Lib.hid (St.nil w)
       refine (C1.out _).mono ?_; rintro e w1 ⟨rfl, hw⟩
       have HC := Lib.hid (HC.out.call hw)
       clear hw
       go_wp2_with fail
       have HC := Lib.hid (HC.out.push (rg 0 fun _ => 0) 33)
       refine (C2.out _).mono ?_; rintro e w2 ⟨rfl, hw⟩
       have HC := Lib.hid (HC.out.call hw)
       clear hw
       have hC := HC.out
       (have HC := Lib.hid hC
        have sos := hC.below.os
        obtain ⟨r1, f1, i1, b1, l1⟩ := St.facts1 hC
        clear hC)
       go_wp2_with fail
       (clear r1 f1 i1 b1 l1 sos)
       refine (term_any 0 (fun _ => 0) _).mono ?_; rintro e w3 ⟨rfl, hw⟩
       have HC := Lib.hid (HC.out.call hw)
       clear hw
       have hC := HC.out
       (have HC := Lib.hid hC
        have sos := hC.below.os
        obtain ⟨r1, f1, i1, b1, l1⟩ := St.facts1 hC
        clear hC)
       go_wp2_with fail
       (clear r1 f1 i1 b1 l1 sos)
       refine (C3.out _).mono ?_; rintro e w4 ⟨rfl, hw⟩
       have HC := Lib.hid (HC.out.call hw)
       clear hw
       have hC := HC.out
       (have HC := Lib.hid hC
        have sos := hC.below.os
        obtain ⟨r1, f1, i1, b1, l1⟩ := St.facts1 hC
        clear hC)
       go_wp2_with fail
       (clear r1 f1 i1 b1 l1 sos)
       refine (length_any n _).mono ?_; rintro e w5 ⟨rfl, hw⟩
       have HC := Lib.hid ((HC.out.skip _).call hw)
       clear hw
       have hC := HC.out
       (have HC := Lib.hid hC
        have sos := hC.below.os
        obtain ⟨r1, f1, i1, b1, l1⟩ := St.facts1 hC
        clear hC)
       go_wp2_with fail
       (clear r1 f1 i1 b1 l1 sos)
       refine (same_yes 0 (fun _ => 0) (fun _ => 0) true (same_refl _ _) _).mono ?_; rintro e w6 ⟨rfl, hw⟩
       have HC := Lib.hid (HC.out.call hw)
       clear hw
       have hC := HC.out
       (have HC := Lib.hid hC
        have sos := hC.below.os
        obtain ⟨r1, f1, i1, b1, l1⟩ := St.facts1 hC
        clear hC)
       go_wp2_with fail
       (clear r1 f1 i1 b1 l1 sos)
       refine (awake20_any _).mono ?_; rintro e w7 ⟨rfl, hw⟩
       have HC := Lib.hid (HC.out.call hw)
       clear hw
       have hC := HC.out
       (have HC := Lib.hid hC
        have sos := hC.below.os
        obtain ⟨r1, f1, i1, b1, l1⟩ := St.facts1 hC
        clear hC)
       go_wp2_with fail
       go_ret
       exact ⟨rfl, HC.out.below⟩)
    · have hlen : lenOf n = 0 := by unfold lenOf; rw [if_neg (by omega)]
      have g2 : decide (n ≤ 6) = false := decide_eq_false h2
      (go_enter Try.func4, Try.ntmps4
       go_wp2_with fail
       have HC := Lib.hid (St.nil w)
       refine (C1.out _).mono ?_; rintro e w1 ⟨rfl, hw⟩
       have HC := Lib.hid (HC.out.call hw)
       clear hw
       go_wp2_with fail
       have HC := Lib.hid (HC.out.push (rg 0 fun _ => 0) 33)
       refine (C2.out _).mono ?_; rintro e w2 ⟨rfl, hw⟩
       have HC := Lib.hid (HC.out.call hw)
       clear hw
       have hC := HC.out
       (have HC := Lib.hid hC
        have sos := hC.below.os
        obtain ⟨r1, f1, i1, b1, l1⟩ := St.facts1 hC
        clear hC)
       go_wp2_with fail
       (clear r1 f1 i1 b1 l1 sos)
       refine (term_any 0 (fun _ => 0) _).mono ?_; rintro e w3 ⟨rfl, hw⟩
       have HC := Lib.hid (HC.out.call hw)
       clear hw
       have hC := HC.out
       (have HC := Lib.hid hC
        have sos := hC.below.os
        obtain ⟨r1, f1, i1, b1, l1⟩ := St.facts1 hC
        clear hC)
       go_wp2_with fail
       (clear r1 f1 i1 b1 l1 sos)
       refine (C3.out _).mono ?_; rintro e w4 ⟨rfl, hw⟩
       have HC := Lib.hid (HC.out.call hw)
       clear hw
       have hC := HC.out
       (have HC := Lib.hid hC
        have sos := hC.below.os
        obtain ⟨r1, f1, i1, b1, l1⟩ := St.facts1 hC
        clear hC)
       go_wp2_with fail
       (clear r1 f1 i1 b1 l1 sos)
       refine (length_any n _).mono ?_; rintro e w5 ⟨rfl, hw⟩
       have HC := Lib.hid ((HC.out.skip _).call hw)
       clear hw
       have hC := HC.out
       (have HC := Lib.hid hC
        have sos := hC.below.os
        obtain ⟨r1, f1, i1, b1, l1⟩ := St.facts1 hC
        clear hC)
       go_wp2_with fail
       (clear r1 f1 i1 b1 l1 sos)
       refine (same_yes 0 (fun _ => 0) (fun _ => 0) true (same_refl _ _) _).mono ?_; rintro e w6 ⟨rfl, hw⟩
       have HC := Lib.hid (HC.out.call hw)
       clear hw
       have hC := HC.out
       (have HC := Lib.hid hC
        have sos := hC.below.os
        obtain ⟨r1, f1, i1, b1, l1⟩ := St.facts1 hC
        clear hC)
       go_wp2_with fail
       (clear r1 f1 i1 b1 l1 sos)
       refine (awake20_any _).mono ?_; rintro e w7 ⟨rfl, hw⟩
       have HC := Lib.hid (HC.out.call hw)
       clear hw
       have hC := HC.out
       (have HC := Lib.hid hC
        have sos := hC.below.os
        obtain ⟨r1, f1, i1, b1, l1⟩ := St.facts1 hC
        clear hC)
       go_wp2_with fail
       go_ret
       exact ⟨rfl, HC.out.below⟩)
  · have hlen : lenOf n = 0 := by unfold lenOf; rw [if_neg (by omega)]
    have g1 : decide (1 ≤ n) = false := decide_eq_false h1
    (go_enter Try.func4, Try.ntmps4
     go_wp2_with fail
     have HC := Lib.hid (St.nil w)
     refine (C1.out _).mono ?_; rintro e w1 ⟨rfl, hw⟩
     have HC := Lib.hid (HC.out.call hw)
     clear hw
     go_wp2_with fail
     have HC := Lib.hid (HC.out.push (rg 0 fun _ => 0) 33)
     refine (C2.out _).mono ?_; rintro e w2 ⟨rfl, hw⟩
     have HC := Lib.hid (HC.out.call hw)
     clear hw
     have hC := HC.out
     (have HC := Lib.hid hC
      have sos := hC.below.os
      obtain ⟨r1, f1, i1, b1, l1⟩ := St.facts1 hC
      clear hC)
     go_wp2_with fail
     (clear r1 f1 i1 b1 l1 sos)
     refine (term_any 0 (fun _ => 0) _).mono ?_; rintro e w3 ⟨rfl, hw⟩
     have HC := Lib.hid (HC.out.call hw)
     clear hw
     have hC := HC.out
     (have HC := Lib.hid hC
      have sos := hC.below.os
      obtain ⟨r1, f1, i1, b1, l1⟩ := St.facts1 hC
      clear hC)
     go_wp2_with fail
     (clear r1 f1 i1 b1 l1 sos)
     refine (C3.out _).mono ?_; rintro e w4 ⟨rfl, hw⟩
     have HC := Lib.hid (HC.out.call hw)
     clear hw
     have hC := HC.out
     (have HC := Lib.hid hC
      have sos := hC.below.os
      obtain ⟨r1, f1, i1, b1, l1⟩ := St.facts1 hC
      clear hC)
     go_wp2_with fail
     (clear r1 f1 i1 b1 l1 sos)
     refine (length_any n _).mono ?_; rintro e w5 ⟨rfl, hw⟩
     have HC := Lib.hid ((HC.out.skip _).call hw)
     clear hw
     have hC := HC.out
     (have HC := Lib.hid hC
      have sos := hC.below.os
      obtain ⟨r1, f1, i1, b1, l1⟩ := St.facts1 hC
      clear hC)
     go_wp2_with fail
     (clear r1 f1 i1 b1 l1 sos)
     refine (same_yes 0 (fun _ => 0) (fun _ => 0) true (same_refl _ _) _).mono ?_; rintro e w6 ⟨rfl, hw⟩
     have HC := Lib.hid (HC.out.call hw)
     clear hw
     have hC := HC.out
     (have HC := Lib.hid hC
      have sos := hC.below.os
      obtain ⟨r1, f1, i1, b1, l1⟩ := St.facts1 hC
      clear hC)
     go_wp2_with fail
     (clear r1 f1 i1 b1 l1 sos)
     refine (awake20_any _).mono ?_; rintro e w7 ⟨rfl, hw⟩
     have HC := Lib.hid (HC.out.call hw)
     clear hw
     have hC := HC.out
     (have HC := Lib.hid hC
      have sos := hC.below.os
      obtain ⟨r1, f1, i1, b1, l1⟩ := St.facts1 hC
      clear hC)
     go_wp2_with fail
     go_ret
     exact ⟨rfl, HC.out.below⟩)
set_option maxRecDepth 100000 in
set_option maxHeartbeats 4000000 in
theorem keysParse_ok1 (s t : ByteArray) (n : Int) (d N1 : Nat) (f1 : Nat → UInt8) (hd : 1 ≤ d) (N : Nat) (f : Nat → UInt8) (hs : s.size ≤ 200) (ht : t.size ≤ 200) (h6 : N ≤ 6) (c1 : ∀ w, Calls Try.prog 15 #[.string s] w fun e w' => e = .returned (.tuple #[.agg (rg N f), .int .i64 0]) ∧ Below w.heap.size w w') (c2 : ∀ w0 w L, St w0 L w → Calls Try.prog 16 #[.string s] w (Keyed w0 L N f)) (c3 : ∀ w, Calls Try.prog 15 #[.string t] w fun e w' => e = .returned (.tuple #[.agg (rg N1 f1), .int .i64 (d : Int)]) ∧ Below w.heap.size w w') (w : World) : Calls Try.prog 4 #[.string s, .string t, .int .i64 n] w fun e w' => e = .returned (.bool true) ∧ Below w.heap.size w w' := by
  have hz2 := zero97
  have d1 : decide (200 < (s.size : Int)) = false := decide_eq_false (by omega)
  have d2 : decide (200 < (t.size : Int)) = false := decide_eq_false (by omega)
  have C1 := Lib.hid c1
  have C2 := Lib.hid c2
  have C3 := Lib.hid c3
  clear c1 c2 c3
  have e2 : ((d : Int) == 0) = false := by rw [beq_eq_false_iff_ne]; omega
  by_cases h1 : 1 ≤ n
  · by_cases h2 : n ≤ 6
    · have hlen : lenOf n = 1 + 16 * n := by unfold lenOf; rw [if_pos ⟨h1, h2⟩]
      (go_enter Try.func4, Try.ntmps4
       go_wp2_with fail
       have HC := Lib.hid (St.nil w)
       refine (C1.out _).mono ?_; rintro e w1 ⟨rfl, hw⟩
       have HC := Lib.hid (HC.out.call hw)
       clear hw
       go_wp2_with fail
       have HC := Lib.hid (HC.out.push (rg N f) 33)
       refine (C2.out w _ _ HC.out).mono ?_; rintro e w2 ⟨g, c4, F, rfl, x1, x2, hw⟩
       have X1 := Lib.hid x1
       have X2 := Lib.hid x2
       have HC := Lib.hid hw
       clear x1 x2 hw
       have hC := HC.out
       (have HC := Lib.hid hC
        have sos := hC.below.os
        obtain ⟨⟨r1, f1, i1, b1, l1⟩, ⟨r2, f2, i2, b2, l2⟩, m12, m21⟩ := St.facts2 hC
        clear hC)
       go_wp2_with fail
       (clear r1 f1 i1 b1 l1 r2 f2 i2 b2 l2 m12 m21 sos)
       refine (like_any _ N f h6 _ (Keys16.of HC.out (.head _) X1.out X2.out)).mono ?_; rintro e w3 ⟨rfl, hw⟩
       have HC := Lib.hid (HC.out.call hw).tail
       clear hw
       have hC := HC.out
       (have HC := Lib.hid hC
        have sos := hC.below.os
        obtain ⟨r1, f1, i1, b1, l1⟩ := St.facts1 hC
        clear hC)
       go_wp2_with fail)
      ((clear r1 f1 i1 b1 l1 sos)
       refine (C3.out _).mono ?_; rintro e w4 ⟨rfl, hw⟩
       have HC := Lib.hid (HC.out.call hw)
       clear hw
       have hC := HC.out
       (have HC := Lib.hid hC
        have sos := hC.below.os
        obtain ⟨r1, f1, i1, b1, l1⟩ := St.facts1 hC
        clear hC)
       go_wp2_with fail
       (clear r1 f1 i1 b1 l1 sos)
       refine (length_any n _).mono ?_; rintro e w5 ⟨rfl, hw⟩
       have HC := Lib.hid ((HC.out.skip _).call hw)
       clear hw
       have hC := HC.out
       (have HC := Lib.hid hC
        have sos := hC.below.os
        obtain ⟨r1, f1, i1, b1, l1⟩ := St.facts1 hC
        clear hC)
       go_wp2_with fail
       (clear r1 f1 i1 b1 l1 sos)
       refine (same_yes N f f true (same_refl _ _) _).mono ?_; rintro e w6 ⟨rfl, hw⟩
       have HC := Lib.hid (HC.out.call hw)
       clear hw
       have hC := HC.out
       (have HC := Lib.hid hC
        have sos := hC.below.os
        obtain ⟨r1, f1, i1, b1, l1⟩ := St.facts1 hC
        clear hC)
       go_wp2_with fail
       (clear r1 f1 i1 b1 l1 sos)
       refine (awake20_any _).mono ?_; rintro e w7 ⟨rfl, hw⟩
       have HC := Lib.hid (HC.out.call hw)
       clear hw
       have hC := HC.out
       (have HC := Lib.hid hC
        have sos := hC.below.os
        obtain ⟨r1, f1, i1, b1, l1⟩ := St.facts1 hC
        clear hC)
       go_wp2_with fail
       go_ret
       exact ⟨rfl, HC.out.below⟩)
    · have hlen : lenOf n = 0 := by unfold lenOf; rw [if_neg (by omega)]
      have g2 : decide (n ≤ 6) = false := decide_eq_false h2
      (go_enter Try.func4, Try.ntmps4
       go_wp2_with fail
       have HC := Lib.hid (St.nil w)
       refine (C1.out _).mono ?_; rintro e w1 ⟨rfl, hw⟩
       have HC := Lib.hid (HC.out.call hw)
       clear hw
       go_wp2_with fail
       have HC := Lib.hid (HC.out.push (rg N f) 33)
       refine (C2.out w _ _ HC.out).mono ?_; rintro e w2 ⟨g, c4, F, rfl, x1, x2, hw⟩
       have X1 := Lib.hid x1
       have X2 := Lib.hid x2
       have HC := Lib.hid hw
       clear x1 x2 hw
       have hC := HC.out
       (have HC := Lib.hid hC
        have sos := hC.below.os
        obtain ⟨⟨r1, f1, i1, b1, l1⟩, ⟨r2, f2, i2, b2, l2⟩, m12, m21⟩ := St.facts2 hC
        clear hC)
       go_wp2_with fail
       (clear r1 f1 i1 b1 l1 r2 f2 i2 b2 l2 m12 m21 sos)
       refine (like_any _ N f h6 _ (Keys16.of HC.out (.head _) X1.out X2.out)).mono ?_; rintro e w3 ⟨rfl, hw⟩
       have HC := Lib.hid (HC.out.call hw).tail
       clear hw
       have hC := HC.out
       (have HC := Lib.hid hC
        have sos := hC.below.os
        obtain ⟨r1, f1, i1, b1, l1⟩ := St.facts1 hC
        clear hC)
       go_wp2_with fail)
      ((clear r1 f1 i1 b1 l1 sos)
       refine (C3.out _).mono ?_; rintro e w4 ⟨rfl, hw⟩
       have HC := Lib.hid (HC.out.call hw)
       clear hw
       have hC := HC.out
       (have HC := Lib.hid hC
        have sos := hC.below.os
        obtain ⟨r1, f1, i1, b1, l1⟩ := St.facts1 hC
        clear hC)
       go_wp2_with fail
       (clear r1 f1 i1 b1 l1 sos)
       refine (length_any n _).mono ?_; rintro e w5 ⟨rfl, hw⟩
       have HC := Lib.hid ((HC.out.skip _).call hw)
       clear hw
       have hC := HC.out
       (have HC := Lib.hid hC
        have sos := hC.below.os
        obtain ⟨r1, f1, i1, b1, l1⟩ := St.facts1 hC
        clear hC)
       go_wp2_with fail
       (clear r1 f1 i1 b1 l1 sos)
       refine (same_yes N f f true (same_refl _ _) _).mono ?_; rintro e w6 ⟨rfl, hw⟩
       have HC := Lib.hid (HC.out.call hw)
       clear hw
       have hC := HC.out
       (have HC := Lib.hid hC
        have sos := hC.below.os
        obtain ⟨r1, f1, i1, b1, l1⟩ := St.facts1 hC
        clear hC)
       go_wp2_with fail
       (clear r1 f1 i1 b1 l1 sos)
       refine (awake20_any _).mono ?_; rintro e w7 ⟨rfl, hw⟩
       have HC := Lib.hid (HC.out.call hw)
       clear hw
       have hC := HC.out
       (have HC := Lib.hid hC
        have sos := hC.below.os
        obtain ⟨r1, f1, i1, b1, l1⟩ := St.facts1 hC
        clear hC)
       go_wp2_with fail
       go_ret
       exact ⟨rfl, HC.out.below⟩)
  · have hlen : lenOf n = 0 := by unfold lenOf; rw [if_neg (by omega)]
    have g1 : decide (1 ≤ n) = false := decide_eq_false h1
    (go_enter Try.func4, Try.ntmps4
     go_wp2_with fail
     have HC := Lib.hid (St.nil w)
     refine (C1.out _).mono ?_; rintro e w1 ⟨rfl, hw⟩
     have HC := Lib.hid (HC.out.call hw)
     clear hw
     go_wp2_with fail
     have HC := Lib.hid (HC.out.push (rg N f) 33)
     refine (C2.out w _ _ HC.out).mono ?_; rintro e w2 ⟨g, c4, F, rfl, x1, x2, hw⟩
     have X1 := Lib.hid x1
     have X2 := Lib.hid x2
     have HC := Lib.hid hw
     clear x1 x2 hw
     have hC := HC.out
     (have HC := Lib.hid hC
      have sos := hC.below.os
      obtain ⟨⟨r1, f1, i1, b1, l1⟩, ⟨r2, f2, i2, b2, l2⟩, m12, m21⟩ := St.facts2 hC
      clear hC)
     go_wp2_with fail
     (clear r1 f1 i1 b1 l1 r2 f2 i2 b2 l2 m12 m21 sos)
     refine (like_any _ N f h6 _ (Keys16.of HC.out (.head _) X1.out X2.out)).mono ?_; rintro e w3 ⟨rfl, hw⟩
     have HC := Lib.hid (HC.out.call hw).tail
     clear hw
     have hC := HC.out
     (have HC := Lib.hid hC
      have sos := hC.below.os
      obtain ⟨r1, f1, i1, b1, l1⟩ := St.facts1 hC
      clear hC)
     go_wp2_with fail)
    ((clear r1 f1 i1 b1 l1 sos)
     refine (C3.out _).mono ?_; rintro e w4 ⟨rfl, hw⟩
     have HC := Lib.hid (HC.out.call hw)
     clear hw
     have hC := HC.out
     (have HC := Lib.hid hC
      have sos := hC.below.os
      obtain ⟨r1, f1, i1, b1, l1⟩ := St.facts1 hC
      clear hC)
     go_wp2_with fail
     (clear r1 f1 i1 b1 l1 sos)
     refine (length_any n _).mono ?_; rintro e w5 ⟨rfl, hw⟩
     have HC := Lib.hid ((HC.out.skip _).call hw)
     clear hw
     have hC := HC.out
     (have HC := Lib.hid hC
      have sos := hC.below.os
      obtain ⟨r1, f1, i1, b1, l1⟩ := St.facts1 hC
      clear hC)
     go_wp2_with fail
     (clear r1 f1 i1 b1 l1 sos)
     refine (same_yes N f f true (same_refl _ _) _).mono ?_; rintro e w6 ⟨rfl, hw⟩
     have HC := Lib.hid (HC.out.call hw)
     clear hw
     have hC := HC.out
     (have HC := Lib.hid hC
      have sos := hC.below.os
      obtain ⟨r1, f1, i1, b1, l1⟩ := St.facts1 hC
      clear hC)
     go_wp2_with fail
     (clear r1 f1 i1 b1 l1 sos)
     refine (awake20_any _).mono ?_; rintro e w7 ⟨rfl, hw⟩
     have HC := Lib.hid (HC.out.call hw)
     clear hw
     have hC := HC.out
     (have HC := Lib.hid hC
      have sos := hC.below.os
      obtain ⟨r1, f1, i1, b1, l1⟩ := St.facts1 hC
      clear hC)
     go_wp2_with fail
     go_ret
     exact ⟨rfl, HC.out.below⟩)
set_option maxRecDepth 100000 in
set_option maxHeartbeats 4000000 in
theorem keysParse_ok2 (s t : ByteArray) (n : Int) (N1 : Nat) (f1 : Nat → UInt8) (v : Bool) (hv : (s.toList == t.toList) = v) (N : Nat) (f : Nat → UInt8) (hs : s.size ≤ 200) (ht : t.size ≤ 200) (h6 : N ≤ 6) (c1 : ∀ w, Calls Try.prog 15 #[.string s] w fun e w' => e = .returned (.tuple #[.agg (rg N f), .int .i64 0]) ∧ Below w.heap.size w w') (c2 : ∀ w0 w L, St w0 L w → Calls Try.prog 16 #[.string s] w (Keyed w0 L N f)) (c3 : ∀ w, Calls Try.prog 15 #[.string t] w fun e w' => e = .returned (.tuple #[.agg (rg N1 f1), .int .i64 0]) ∧ Below w.heap.size w w') (c4 : ∀ w, Calls Try.prog 18 #[.agg (rg N f), .agg (rg N1 f1)] w fun e w' => e = .returned (.bool v) ∧ Below w.heap.size w w') (w : World) : Calls Try.prog 4 #[.string s, .string t, .int .i64 n] w fun e w' => e = .returned (.bool true) ∧ Below w.heap.size w w' := by
  have hz2 := zero97
  have d1 : decide (200 < (s.size : Int)) = false := decide_eq_false (by omega)
  have d2 : decide (200 < (t.size : Int)) = false := decide_eq_false (by omega)
  have C1 := Lib.hid c1
  have C2 := Lib.hid c2
  have C3 := Lib.hid c3
  have C4 := Lib.hid c4
  clear c1 c2 c3 c4
  have e4 : (v != v) = false := by simp
  by_cases h1 : 1 ≤ n
  · by_cases h2 : n ≤ 6
    · have hlen : lenOf n = 1 + 16 * n := by unfold lenOf; rw [if_pos ⟨h1, h2⟩]
      (go_enter Try.func4, Try.ntmps4
       go_wp2_with fail
       have HC := Lib.hid (St.nil w)
       refine (C1.out _).mono ?_; rintro e w1 ⟨rfl, hw⟩
       have HC := Lib.hid (HC.out.call hw)
       clear hw
       go_wp2_with fail
       have HC := Lib.hid (HC.out.push (rg N f) 33)
       refine (C2.out w _ _ HC.out).mono ?_; rintro e w2 ⟨g, c4, F, rfl, x1, x2, hw⟩
       have X1 := Lib.hid x1
       have X2 := Lib.hid x2
       have HC := Lib.hid hw
       clear x1 x2 hw
       have hC := HC.out
       (have HC := Lib.hid hC
        have sos := hC.below.os
        obtain ⟨⟨r1, f1, i1, b1, l1⟩, ⟨r2, f2, i2, b2, l2⟩, m12, m21⟩ := St.facts2 hC
        clear hC)
       go_wp2_with fail
       (clear r1 f1 i1 b1 l1 r2 f2 i2 b2 l2 m12 m21 sos)
       refine (like_any _ N f h6 _ (Keys16.of HC.out (.head _) X1.out X2.out)).mono ?_; rintro e w3 ⟨rfl, hw⟩
       have HC := Lib.hid (HC.out.call hw).tail
       clear hw
       have hC := HC.out
       (have HC := Lib.hid hC
        have sos := hC.below.os
        obtain ⟨r1, f1, i1, b1, l1⟩ := St.facts1 hC
        clear hC)
       go_wp2_with fail)
      ((clear r1 f1 i1 b1 l1 sos)
       refine (C3.out _).mono ?_; rintro e w4 ⟨rfl, hw⟩
       have HC := Lib.hid (HC.out.call hw)
       clear hw
       have hC := HC.out
       (have HC := Lib.hid hC
        have sos := hC.below.os
        obtain ⟨r1, f1, i1, b1, l1⟩ := St.facts1 hC
        clear hC)
       go_wp2_with fail
       (clear r1 f1 i1 b1 l1 sos)
       have HC := Lib.hid (HC.out.push (rg N1 f1) 33)
       have hC := HC.out
       (have HC := Lib.hid hC
        have sos := hC.below.os
        obtain ⟨⟨r1, f1, i1, b1, l1⟩, ⟨r2, f2, i2, b2, l2⟩, m12, m21⟩ := St.facts2 hC
        clear hC)
       (clear r1 f1 i1 b1 l1 r2 f2 i2 b2 l2 m12 m21 sos)
       refine (C4.out _).mono ?_; rintro e w5 ⟨rfl, hw⟩
       have HC := Lib.hid (HC.out.call hw)
       clear hw
       have hC := HC.out
       (have HC := Lib.hid hC
        have sos := hC.below.os
        obtain ⟨⟨r1, f1, i1, b1, l1⟩, ⟨r2, f2, i2, b2, l2⟩, m12, m21⟩ := St.facts2 hC
        clear hC)
       go_wp2_with fail
       (clear r1 f1 i1 b1 l1 r2 f2 i2 b2 l2 m12 m21 sos)
       refine (length_any n _).mono ?_; rintro e w5 ⟨rfl, hw⟩
       have HC := Lib.hid (HC.out.call hw)
       clear hw
       have hC := HC.out
       (have HC := Lib.hid hC
        have sos := hC.below.os
        obtain ⟨⟨r1, f1, i1, b1, l1⟩, ⟨r2, f2, i2, b2, l2⟩, m12, m21⟩ := St.facts2 hC
        clear hC)
       go_wp2_with fail
       (clear r1 f1 i1 b1 l1 r2 f2 i2 b2 l2 m12 m21 sos)
       refine (same_yes N f f true (same_refl _ _) _).mono ?_; rintro e w6 ⟨rfl, hw⟩
       have HC := Lib.hid (HC.out.call hw)
       clear hw
       have hC := HC.out
       (have HC := Lib.hid hC
        have sos := hC.below.os
        obtain ⟨⟨r1, f1, i1, b1, l1⟩, ⟨r2, f2, i2, b2, l2⟩, m12, m21⟩ := St.facts2 hC
        clear hC)
       go_wp2_with fail
       (clear r1 f1 i1 b1 l1 r2 f2 i2 b2 l2 m12 m21 sos)
       refine (awake20_any _).mono ?_; rintro e w7 ⟨rfl, hw⟩
       have HC := Lib.hid (HC.out.call hw)
       clear hw
       have hC := HC.out
       (have HC := Lib.hid hC
        have sos := hC.below.os
        obtain ⟨⟨r1, f1, i1, b1, l1⟩, ⟨r2, f2, i2, b2, l2⟩, m12, m21⟩ := St.facts2 hC
        clear hC)
       go_wp2_with fail
       go_ret
       exact ⟨rfl, HC.out.below⟩)
    · have hlen : lenOf n = 0 := by unfold lenOf; rw [if_neg (by omega)]
      have g2 : decide (n ≤ 6) = false := decide_eq_false h2
      (go_enter Try.func4, Try.ntmps4
       go_wp2_with fail
       have HC := Lib.hid (St.nil w)
       refine (C1.out _).mono ?_; rintro e w1 ⟨rfl, hw⟩
       have HC := Lib.hid (HC.out.call hw)
       clear hw
       go_wp2_with fail
       have HC := Lib.hid (HC.out.push (rg N f) 33)
       refine (C2.out w _ _ HC.out).mono ?_; rintro e w2 ⟨g, c4, F, rfl, x1, x2, hw⟩
       have X1 := Lib.hid x1
       have X2 := Lib.hid x2
       have HC := Lib.hid hw
       clear x1 x2 hw
       have hC := HC.out
       (have HC := Lib.hid hC
        have sos := hC.below.os
        obtain ⟨⟨r1, f1, i1, b1, l1⟩, ⟨r2, f2, i2, b2, l2⟩, m12, m21⟩ := St.facts2 hC
        clear hC)
       go_wp2_with fail
       (clear r1 f1 i1 b1 l1 r2 f2 i2 b2 l2 m12 m21 sos)
       refine (like_any _ N f h6 _ (Keys16.of HC.out (.head _) X1.out X2.out)).mono ?_; rintro e w3 ⟨rfl, hw⟩
       have HC := Lib.hid (HC.out.call hw).tail
       clear hw
       have hC := HC.out
       (have HC := Lib.hid hC
        have sos := hC.below.os
        obtain ⟨r1, f1, i1, b1, l1⟩ := St.facts1 hC
        clear hC)
       go_wp2_with fail)
      ((clear r1 f1 i1 b1 l1 sos)
       refine (C3.out _).mono ?_; rintro e w4 ⟨rfl, hw⟩
       have HC := Lib.hid (HC.out.call hw)
       clear hw
       have hC := HC.out
       (have HC := Lib.hid hC
        have sos := hC.below.os
        obtain ⟨r1, f1, i1, b1, l1⟩ := St.facts1 hC
        clear hC)
       go_wp2_with fail
       (clear r1 f1 i1 b1 l1 sos)
       have HC := Lib.hid (HC.out.push (rg N1 f1) 33)
       have hC := HC.out
       (have HC := Lib.hid hC
        have sos := hC.below.os
        obtain ⟨⟨r1, f1, i1, b1, l1⟩, ⟨r2, f2, i2, b2, l2⟩, m12, m21⟩ := St.facts2 hC
        clear hC)
       (clear r1 f1 i1 b1 l1 r2 f2 i2 b2 l2 m12 m21 sos)
       refine (C4.out _).mono ?_; rintro e w5 ⟨rfl, hw⟩
       have HC := Lib.hid (HC.out.call hw)
       clear hw
       have hC := HC.out
       (have HC := Lib.hid hC
        have sos := hC.below.os
        obtain ⟨⟨r1, f1, i1, b1, l1⟩, ⟨r2, f2, i2, b2, l2⟩, m12, m21⟩ := St.facts2 hC
        clear hC)
       go_wp2_with fail
       (clear r1 f1 i1 b1 l1 r2 f2 i2 b2 l2 m12 m21 sos)
       refine (length_any n _).mono ?_; rintro e w5 ⟨rfl, hw⟩
       have HC := Lib.hid (HC.out.call hw)
       clear hw
       have hC := HC.out
       (have HC := Lib.hid hC
        have sos := hC.below.os
        obtain ⟨⟨r1, f1, i1, b1, l1⟩, ⟨r2, f2, i2, b2, l2⟩, m12, m21⟩ := St.facts2 hC
        clear hC)
       go_wp2_with fail
       (clear r1 f1 i1 b1 l1 r2 f2 i2 b2 l2 m12 m21 sos)
       refine (same_yes N f f true (same_refl _ _) _).mono ?_; rintro e w6 ⟨rfl, hw⟩
       have HC := Lib.hid (HC.out.call hw)
       clear hw
       have hC := HC.out
       (have HC := Lib.hid hC
        have sos := hC.below.os
        obtain ⟨⟨r1, f1, i1, b1, l1⟩, ⟨r2, f2, i2, b2, l2⟩, m12, m21⟩ := St.facts2 hC
        clear hC)
       go_wp2_with fail
       (clear r1 f1 i1 b1 l1 r2 f2 i2 b2 l2 m12 m21 sos)
       refine (awake20_any _).mono ?_; rintro e w7 ⟨rfl, hw⟩
       have HC := Lib.hid (HC.out.call hw)
       clear hw
       have hC := HC.out
       (have HC := Lib.hid hC
        have sos := hC.below.os
        obtain ⟨⟨r1, f1, i1, b1, l1⟩, ⟨r2, f2, i2, b2, l2⟩, m12, m21⟩ := St.facts2 hC
        clear hC)
       go_wp2_with fail
       go_ret
       exact ⟨rfl, HC.out.below⟩)
  · have hlen : lenOf n = 0 := by unfold lenOf; rw [if_neg (by omega)]
    have g1 : decide (1 ≤ n) = false := decide_eq_false h1
    (go_enter Try.func4, Try.ntmps4
     go_wp2_with fail
     have HC := Lib.hid (St.nil w)
     refine (C1.out _).mono ?_; rintro e w1 ⟨rfl, hw⟩
     have HC := Lib.hid (HC.out.call hw)
     clear hw
     go_wp2_with fail
     have HC := Lib.hid (HC.out.push (rg N f) 33)
     refine (C2.out w _ _ HC.out).mono ?_; rintro e w2 ⟨g, c4, F, rfl, x1, x2, hw⟩
     have X1 := Lib.hid x1
     have X2 := Lib.hid x2
     have HC := Lib.hid hw
     clear x1 x2 hw
     have hC := HC.out
     (have HC := Lib.hid hC
      have sos := hC.below.os
      obtain ⟨⟨r1, f1, i1, b1, l1⟩, ⟨r2, f2, i2, b2, l2⟩, m12, m21⟩ := St.facts2 hC
      clear hC)
     go_wp2_with fail
     (clear r1 f1 i1 b1 l1 r2 f2 i2 b2 l2 m12 m21 sos)
     refine (like_any _ N f h6 _ (Keys16.of HC.out (.head _) X1.out X2.out)).mono ?_; rintro e w3 ⟨rfl, hw⟩
     have HC := Lib.hid (HC.out.call hw).tail
     clear hw
     have hC := HC.out
     (have HC := Lib.hid hC
      have sos := hC.below.os
      obtain ⟨r1, f1, i1, b1, l1⟩ := St.facts1 hC
      clear hC)
     go_wp2_with fail)
    ((clear r1 f1 i1 b1 l1 sos)
     refine (C3.out _).mono ?_; rintro e w4 ⟨rfl, hw⟩
     have HC := Lib.hid (HC.out.call hw)
     clear hw
     have hC := HC.out
     (have HC := Lib.hid hC
      have sos := hC.below.os
      obtain ⟨r1, f1, i1, b1, l1⟩ := St.facts1 hC
      clear hC)
     go_wp2_with fail
     (clear r1 f1 i1 b1 l1 sos)
     have HC := Lib.hid (HC.out.push (rg N1 f1) 33)
     have hC := HC.out
     (have HC := Lib.hid hC
      have sos := hC.below.os
      obtain ⟨⟨r1, f1, i1, b1, l1⟩, ⟨r2, f2, i2, b2, l2⟩, m12, m21⟩ := St.facts2 hC
      clear hC)
     (clear r1 f1 i1 b1 l1 r2 f2 i2 b2 l2 m12 m21 sos)
     refine (C4.out _).mono ?_; rintro e w5 ⟨rfl, hw⟩
     have HC := Lib.hid (HC.out.call hw)
     clear hw
     have hC := HC.out
     (have HC := Lib.hid hC
      have sos := hC.below.os
      obtain ⟨⟨r1, f1, i1, b1, l1⟩, ⟨r2, f2, i2, b2, l2⟩, m12, m21⟩ := St.facts2 hC
      clear hC)
     go_wp2_with fail
     (clear r1 f1 i1 b1 l1 r2 f2 i2 b2 l2 m12 m21 sos)
     refine (length_any n _).mono ?_; rintro e w5 ⟨rfl, hw⟩
     have HC := Lib.hid (HC.out.call hw)
     clear hw
     have hC := HC.out
     (have HC := Lib.hid hC
      have sos := hC.below.os
      obtain ⟨⟨r1, f1, i1, b1, l1⟩, ⟨r2, f2, i2, b2, l2⟩, m12, m21⟩ := St.facts2 hC
      clear hC)
     go_wp2_with fail
     (clear r1 f1 i1 b1 l1 r2 f2 i2 b2 l2 m12 m21 sos)
     refine (same_yes N f f true (same_refl _ _) _).mono ?_; rintro e w6 ⟨rfl, hw⟩
     have HC := Lib.hid (HC.out.call hw)
     clear hw
     have hC := HC.out
     (have HC := Lib.hid hC
      have sos := hC.below.os
      obtain ⟨⟨r1, f1, i1, b1, l1⟩, ⟨r2, f2, i2, b2, l2⟩, m12, m21⟩ := St.facts2 hC
      clear hC)
     go_wp2_with fail
     (clear r1 f1 i1 b1 l1 r2 f2 i2 b2 l2 m12 m21 sos)
     refine (awake20_any _).mono ?_; rintro e w7 ⟨rfl, hw⟩
     have HC := Lib.hid (HC.out.call hw)
     clear hw
     have hC := HC.out
     (have HC := Lib.hid hC
      have sos := hC.below.os
      obtain ⟨⟨r1, f1, i1, b1, l1⟩, ⟨r2, f2, i2, b2, l2⟩, m12, m21⟩ := St.facts2 hC
      clear hC)
     go_wp2_with fail
     go_ret
     exact ⟨rfl, HC.out.below⟩)
theorem keysParse_walk (s t : ByteArray) (n : Int) (w : World) : Calls Try.prog 4 #[.string s, .string t, .int .i64 n] w fun e w' => e = .returned (.bool true) ∧ Below w.heap.size w w' := by
  by_cases h : 200 < s.size ∨ 200 < t.size
  · exact keysParse_long s t n h w
  · rcases parse_any s (by omega) with ⟨N, f, h1, h6, hz, hst, c1, c2⟩ | ⟨d, hd, c1, c2⟩
    · rcases parse_any t (by omega) with ⟨M, g, k1, k6, kz, kst, q1, q2⟩ | ⟨d, hd, q1, q2⟩
      · obtain ⟨v, hv, c4⟩ := same_texts s t N M f g h6 k6 hz kz hst kst
        exact keysParse_ok2 s t n M g v hv N f (by omega) (by omega) h6 c1 c2 q1 c4 w
      · exact keysParse_ok1 s t n d 0 _ hd N f (by omega) (by omega) h6 c1 c2 q1 w
    · rcases parse_any t (by omega) with ⟨M, g, k1, k6, kz, kst, q1, q2⟩ | ⟨d', hd', q1, q2⟩
      · exact keysParse_no s t n d M 0 g (by omega) (by omega) hd c1 c2 q1 w
      · exact keysParse_no s t n d 0 d' _ (by omega) (by omega) hd c1 c2 q1 w
end Go.Proofs.Ytgaecjhghpkcoaa
