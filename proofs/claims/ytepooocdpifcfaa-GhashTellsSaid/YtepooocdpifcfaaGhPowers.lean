/- GhashPowers returns true at every three blocks, every two bytes, every text. No condition. -/
import Derived.Test.YtepooocdpifcfaaGhField
namespace Go.Proofs.Ytepooocdpifcfaa
open Go.RowKit
attribute [local go_sem] B_xor B_or B_and
attribute [local go_sem] blk_set blk_size blk_get blk_getE upd_same oneCells_blk paste_blk cut_blk szOf
attribute [local go_sem high] paste_all cut_head
attribute [local go_sem] rowAt_alloc rowAt_drew rowAt_drewN isRow_alloc isRow_drew isRow_drewN freeRow_alloc freeRow_end freeRow_drew freeRow_drewN
attribute [local go_sem] setRow_alloc setRow_drew setRow_drewN setCell_drewN alloc_drewN rowAt_put isRow_setRow freeRow_put
attribute [local go_sem ↓] loadS_in storeS_in indexS_in copyS_in
attribute [local go_sem] loadS_row loadS_one storeS_row storeS_one indexS_blk copyS_rows run_equalIn_blk same_refl arrayAt_row
attribute [local go_sem] cell_row frozen_row st_setCell st_blk_ne stepAt stepUpon
attribute [local go_sem high] run_eql_blk run_neq_blk
attribute [local go_sem] U_xor U_or U_and U_and1 U_tail U_neg U_half U_shr U_shl8 U_shl63 U_of U_to pr_size pr_get0 pr_get1 pr_getE0 pr_getE1 pr_set0 pr_set1 pr_ne oneCells_pr paste_pr cut_pr
attribute [local go_sem] wide_size wide_get0 wide_get1 wide_getE0 wide_getE1 wide_ne oneCells_wide paste_wide cut_wide
attribute [local go_sem] size_wide agg_wide wide_build

/-! ### texts in numbers -/
theorem nums_append : ∀ (n : Nat) (l m : List UInt8), l.length = 16 * n → nums (l ++ m) = nums l ++ nums m
  | 0, l, m, h => by
    obtain rfl : l = [] := List.length_eq_zero_iff.1 (by omega)
    rfl
  | n + 1, l, m, h => by
    have hl : l ≠ [] := fun e => by rw [e] at h; simp at h
    have hlm : l ++ m ≠ [] := fun e => hl (List.append_eq_nil_iff.1 e).1
    rw [nums_cons _ hlm, nums_cons _ hl]
    have hd : (l ++ m).drop 16 = l.drop 16 ++ m := List.drop_append_of_le_length (by omega)
    rw [hd, nums_append n (l.drop 16) m (by rw [List.length_drop]; omega)]
    have e : num (fun i => (l ++ m).getD i 0) = num (fun i => l.getD i 0) := numTo_congr fun i hi => by
      rw [List.getD_eq_getElem?_getD, List.getD_eq_getElem?_getD, List.getElem?_append_left (by omega)]
    rw [e, List.cons_append]
theorem nums_all (l : List UInt8) : ∀ c ∈ nums l, Gh.Ok c := nums_ok _ _
theorem nums_length : ∀ (n : Nat) (l : List UInt8), l.length ≤ n → (nums l).length = (l.length + 15) / 16
  | 0, l, h => by
    obtain rfl : l = [] := List.length_eq_zero_iff.1 (by omega)
    rfl
  | n + 1, l, h => by
    by_cases hl : l = []
    · subst hl; rfl
    · have h1 : 0 < l.length := List.length_pos_iff.2 hl
      rw [nums_cons l hl, List.length_cons, nums_length n (l.drop 16) (by rw [List.length_drop]; omega), List.length_drop]
      omega
theorem txt_take (s : ByteArray) (n : Nat) : txt (s.extract 0 n) = (txt s).take n := by
  unfold txt
  rw [ByteArray.data_extract, Array.toList_extract, List.extract_eq_take_drop]
  simp
theorem num_foldB (h s : Nat → UInt8) (t : ByteArray) : num (foldB h s t) = Gh.fold (num h) (num s) (nums (txt t)) := num_unum (fold_ok _ _ _ (num_lt s))
theorem num_powB (h : Nat → UInt8) (n : Nat) : num (powB h n) = Gh.pw (num h) n := num_unum (Gh.pw_lt n)
theorem fold_split (h s : Nat → UInt8) (t : ByteArray) (c : Nat) (hc : c % 16 = 0) (hl : c ≤ t.size) : same 16 (foldB h (foldB h s (t.extract 0 c)) (t.extract c t.size)) (foldB h s t) = true := same_num_of (by
  rw [num_foldB, num_foldB, num_foldB, ← Gh.fold_append, txt_take, txt_drop]
  rw [← nums_append (c / 16) _ _ (by rw [List.length_take, txt_size]; omega), List.take_append_drop])
theorem fold_none (h s : Nat → UInt8) : same 16 (foldB h s ⟨#[]⟩) s = true := same_num_of (by rw [num_foldB]; rfl)
theorem fold_two (h x y : Nat → UInt8) (t : ByteArray) : same 16 (Ci.xorB (foldB h x t) (foldB h y t)) (mulB (Ci.xorB x y) (powB h ((t.size + 15) / 16))) = true := same_num_of (by
  rw [num_mulB, num_xor, num_xor, num_foldB, num_foldB, num_powB, Gh.fold_xor (num_lt h) _ _ _ (num_lt x) (num_lt y) (nums_all _), nums_length _ _ (Nat.le_refl _), txt_size])
theorem pow_split (h : Nat → UInt8) (i k : Nat) : same 16 (powB h (i + k)) (mulB (powB h i) (powB h k)) = true := same_num_of (by
  rw [num_mulB, num_powB, num_powB, num_powB, Gh.pw_add (num_lt h)])
theorem pow_none (h : Nat → UInt8) : same 16 (powB h 0) (unum Gh.one) = true := same_refl _ _
theorem pow_once (h : Nat → UInt8) : same 16 (powB h 1) h = true := same_num_of (by rw [num_powB, Gh.pw_one (num_lt h)])

set_option maxRecDepth 100000 in
set_option maxHeartbeats 1000000 in
theorem ghPow_low (h : Nat → UInt8) (n : Int) (hn : n ≤ 0) (w : World) : Calls Try.prog 24 #[.agg (blk 16 h), .int .i64 n] w fun e w' => e = .returned (.agg (blk 16 (powB h 0))) ∧ Below w.heap.size w w' := by
  have hz := zero16
  have hz2 := pr_zero
  have h1 := num_unum Gh.ok_one
  have hn' : n ≤ 65536 := by omega
  go_enter Try.func24, Try.ntmps24
  go_wp2_with fail
  have HC := Lib.hid (((St.nil w).pushA (blk 16 h) 23 rfl).pushA (blk 16 fun _ => 0) 23 (g := w.heap.size + 1) (by simp))
  refine St.region_store2 (w0 := w) 4 5 6 9 11 (pr 0 0) (pr 0 0) (wide Gh.one) (wide (num h)) (.agg (wide Gh.one)) (.agg (wide (num h))) 63 63 HC.out (by kernel_rfl) (by decide +kernel) _ _ _ _ rfl rfl rfl rfl
    (fun w a => by simp [go_sem, ptrTo, hz2]) (fun w a => by simp [go_sem, ptrTo, hz2]) (stores_whole 63 (pr 0 0) (wide Gh.one) rfl (fun w => size_wide w) (oneCells_wide _) rfl) (stores_whole 63 (pr 0 0) (wide (num h)) rfl (fun w => size_wide w) (oneCells_wide _) rfl) (by simp) ?_
  (simp only [List.take])
  (apply walkB_step
   focus
     intro w0 hC
     have hC' := Lib.hid hC
     obtain ⟨⟨r1, f1, i1, b1, l1⟩, ⟨r2, f2, i2, b2, l2⟩, m12, m21⟩ := St.facts2 hC
     clear hC
     go_simp
     (first
        | with_reducible rfl
        | exact one_any _
        | exact load_any _ _)
   try simp only [Act.put, List.setIfInBounds_toArray, List.set])
  (apply walkB_step
   focus
     intro w0 hC
     have hC' := Lib.hid hC
     obtain ⟨⟨r1, f1, i1, b1, l1⟩, ⟨r2, f2, i2, b2, l2⟩, m12, m21⟩ := St.facts2 hC
     clear hC
     go_simp
     (first
        | with_reducible rfl
        | exact one_any _
        | exact load_any _ _)
   try simp only [Act.put, List.setIfInBounds_toArray, List.set])
  (apply walkB_step
   focus
     intro w0 hC
     have hC' := Lib.hid hC
     obtain ⟨⟨r1, f1, i1, b1, l1⟩, ⟨r2, f2, i2, b2, l2⟩, m12, m21⟩ := St.facts2 hC
     clear hC
     go_simp
     (first
        | with_reducible rfl
        | exact one_any _
        | exact load_any _ _)
   try simp only [Act.put, List.setIfInBounds_toArray, List.set])
  (apply walkB_step
   focus
     intro w0 hC
     have hC' := Lib.hid hC
     obtain ⟨⟨r1, f1, i1, b1, l1⟩, ⟨r2, f2, i2, b2, l2⟩, m12, m21⟩ := St.facts2 hC
     clear hC
     go_simp
     (first
        | with_reducible rfl
        | exact one_any _
        | exact load_any _ _)
   try simp only [Act.put, List.setIfInBounds_toArray, List.set])
  refine walkB_nil ⟨⟨rfl, rfl⟩, ?_⟩
  intro w1 g1 g2 hC
  unfold ptrTo
  have HC := Lib.hid hC
  clear hC
  go_wp2_with fail
  go_loopw [7] (fun i wr => i = .int .i64 n ∧ Hid (St w [(g2, wide (num h)), (g1, wide Gh.one), (w.heap.size + 1, blk 16 fun _ => 0), (w.heap.size, blk 16 h)] wr)) (fun i _ => (intOf i).toNat)
  case atStart => exact ⟨by first | rfl | (simp; done) | (congr 1; omega), HC⟩
  case round =>
    clear HC
    obtain ⟨rfl, HR⟩ := hrel
    have hC := HR.out
    have t1 : decide ((0 : Int) < n) = false := decide_eq_false (by omega)
    (have HC := Lib.hid hC
     have sos := hC.below.os
     obtain ⟨⟨r1, f1, i1, b1, l1⟩, ⟨r2, f2, i2, b2, l2⟩, ⟨r3, f3, i3, b3, l3⟩, ⟨r4, f4, i4, b4, l4⟩, m12, m21, m13, m31, m14, m41, m23, m32, m24, m42, m34, m43⟩ := St.facts4 hC
     clear hC)
    go_wp2_with fail
    refine (block_any _ Gh.ok_one _).mono ?_; rintro e w3 ⟨rfl, hw⟩
    have HC := Lib.hid (HC.out.call hw)
    clear hw
    (clear r1 f1 i1 b1 l1 r2 f2 i2 b2 l2 r3 f3 i3 b3 l3 r4 f4 i4 b4 l4 m12 m21 m13 m31 m14 m41 m23 m32 m24 m42 m34 m43 sos)
    have hC := HC.out
    (have HC := Lib.hid hC
     have sos := hC.below.os
     obtain ⟨⟨r1, f1, i1, b1, l1⟩, ⟨r2, f2, i2, b2, l2⟩, ⟨r3, f3, i3, b3, l3⟩, ⟨r4, f4, i4, b4, l4⟩, m12, m21, m13, m31, m14, m41, m23, m32, m24, m42, m34, m43⟩ := St.facts4 hC
     clear hC)
    go_wp2_with fail
    refine bodyPost_ret (results_row rfl _ (w.heap.size + 1) rfl (blk 16 (powB h 0)) ?_ ?_ ?_ ?_) rfl ⟨rfl, ?_⟩
    · simp [go_sem, *]; rfl
    · simp [go_sem]
    · simp [go_sem]
    · simp [go_sem, *]
    · exact below_setRow' HC.out.below (by omega) _

def rem40 (x : UInt8) : Nat := x.toNat % 40
def cut16 (n : Nat) : Nat := n / 32 * 16
def quo32 (n : Nat) : Nat := n / 32
def quo16 (n : Nat) : Nat := (n + 15) / 16
theorem pow_nat (b : Nat → UInt8) (i : Nat) (hi : i ≤ 65536) (n : Int) (hn : n = (i : Int)) (w : World) : Calls Try.prog 24 #[.agg (blk 16 b), .int .i64 n] w fun e w' => e = .returned (.agg (blk 16 (powB b i))) ∧ Below w.heap.size w w' := by
  subst hn; exact ghPow_any b i hi w
set_option maxRecDepth 100000 in
set_option maxHeartbeats 4000000 in
theorem ghashPowers_walk (l n : Nat → UInt8) (s : ByteArray) (w : World) : Calls Try.prog 7 #[.agg (blk 48 l), .agg (blk 2 n), .string s] w fun e w' => e = .returned (.bool true) ∧ Below w.heap.size w w' := by
  have hz := zero16
  have HC := Lib.hid (((St.nil w).pushA (blk 48 l) 40 rfl).pushA (blk 2 n) 31 (g := w.heap.size + 1) (by simp))
  by_cases h100 : 100 < s.size
  · have t1 : decide ((100 : Int) < (s.size : Int)) = true := decide_eq_true (by omega)
    go_enter Try.func7, Try.ntmps7
    go_wp2_with fail
    refine (awake08_any _).mono ?_; rintro e w5 ⟨rfl, hw⟩
    have HC := Lib.hid (HC.out.call hw)
    clear hw
    have sos := HC.out.os
    go_wp2_with fail
    go_ret
    exact ⟨rfl, HC.out.below⟩
  · have t1 : decide ((100 : Int) < (s.size : Int)) = false := decide_eq_false (by omega)
    have hr1 : (fun j => l (16 + j)) = Ci.rd l 1 := rfl
    have hr2 : (fun j => l (32 + j)) = Ci.rd l 2 := rfl
    go_enter Try.func7, Try.ntmps7
    go_wp2_with fail
    refine St.region_store3 (w0 := w) 6 7 8 9 19 21 23 (blk 16 fun _ => 0) (blk 16 fun _ => 0) (blk 16 fun _ => 0) (blk 16 l) (blk 16 (Ci.rd l 1)) (blk 16 (Ci.rd l 2)) (.agg (blk 16 l)) (.agg (blk 16 (Ci.rd l 1))) (.agg (blk 16 (Ci.rd l 2))) 23 23 23 HC.out (by kernel_rfl) (by decide +kernel) _ _ _ _ _ _ rfl rfl rfl rfl rfl rfl
      (fun w a => by simp [go_sem, ptrTo, hz]) (fun w a => by simp [go_sem, ptrTo, hz]) (fun w a => by simp [go_sem, ptrTo, hz]) (stores_whole 23 _ _ (by simp [blk_size]) (fun w => by simp [go_sem]) (oneCells_blk _ _) rfl) (stores_whole 23 _ _ (by simp [blk_size]) (fun w => by simp [go_sem]) (oneCells_blk _ _) rfl) (stores_whole 23 _ _ (by simp [blk_size]) (fun w => by simp [go_sem]) (oneCells_blk _ _) rfl) (by simp) ?_
    (simp only [List.take])
    (apply walkB_step
     focus
       intro w0 hC
       have hC' := Lib.hid hC
       obtain ⟨⟨r1, f1, i1, b1, l1⟩, ⟨r2, f2, i2, b2, l2⟩, m12, m21⟩ := St.facts2 hC
       clear hC
       go_simp
       (first
          | with_reducible rfl
          | exact one_any _
          | exact load_any _ _)
     try simp only [Act.put, List.setIfInBounds_toArray, List.set])
    (apply walkB_step
     focus
       intro w0 hC
       have hC' := Lib.hid hC
       obtain ⟨⟨r1, f1, i1, b1, l1⟩, ⟨r2, f2, i2, b2, l2⟩, m12, m21⟩ := St.facts2 hC
       clear hC
       go_simp
       (first
          | with_reducible rfl
          | exact one_any _
          | exact load_any _ _)
     try simp only [Act.put, List.setIfInBounds_toArray, List.set])
    (apply walkB_step
     focus
       intro w0 hC
       have hC' := Lib.hid hC
       obtain ⟨⟨r1, f1, i1, b1, l1⟩, ⟨r2, f2, i2, b2, l2⟩, m12, m21⟩ := St.facts2 hC
       clear hC
       go_simp
       (first
          | with_reducible rfl
          | exact one_any _
          | exact load_any _ _)
     try simp only [Act.put, List.setIfInBounds_toArray, List.set])
    (apply walkB_step
     focus
       intro w0 hC
       have hC' := Lib.hid hC
       obtain ⟨⟨r1, f1, i1, b1, l1⟩, ⟨r2, f2, i2, b2, l2⟩, m12, m21⟩ := St.facts2 hC
       clear hC
       go_simp
       (first
          | with_reducible rfl
          | exact one_any _
          | exact load_any _ _)
     try simp only [Act.put, List.setIfInBounds_toArray, List.set])
    (apply walkB_step
     focus
       intro w0 hC
       have hC' := Lib.hid hC
       obtain ⟨⟨r1, f1, i1, b1, l1⟩, ⟨r2, f2, i2, b2, l2⟩, m12, m21⟩ := St.facts2 hC
       clear hC
       go_simp
       (first
          | with_reducible rfl
          | exact one_any _
          | exact load_any _ _)
     try simp only [Act.put, List.setIfInBounds_toArray, List.set])
    (apply walkB_step
     focus
       intro w0 hC
       have hC' := Lib.hid hC
       obtain ⟨⟨r1, f1, i1, b1, l1⟩, ⟨r2, f2, i2, b2, l2⟩, m12, m21⟩ := St.facts2 hC
       clear hC
       go_simp
       (first
          | with_reducible rfl
          | exact one_any _
          | exact load_any _ _)
     try simp only [Act.put, List.setIfInBounds_toArray, List.set])
    refine walkB_nil ⟨⟨rfl, rfl, rfl⟩, ?_⟩
    intro w1 g1 g2 g3 hC
    unfold ptrTo
    clear HC
    have HC := Lib.hid hC
    clear hC hr1 hr2
    generalize Ci.rd l 1 = x at HC ⊢
    generalize Ci.rd l 2 = y at HC ⊢
    go_wp2_with fail
    have v1 : B (n 0) % 40 = (rem40 (n 0) : Int) := by unfold B rem40; omega
    have v2 : B (n 1) % 40 = (rem40 (n 1) : Int) := by unfold B rem40; omega
    have v3 : (B (n 0)).tmod 40 = (rem40 (n 0) : Int) := by rw [Int.tmod_eq_emod_of_nonneg (B_bd _).1]; exact v1
    have v4 : (B (n 1)).tmod 40 = (rem40 (n 1) : Int) := by rw [Int.tmod_eq_emod_of_nonneg (B_bd _).1]; exact v2
    have hi : rem40 (n 0) < 40 := by unfold rem40; omega
    have hk : rem40 (n 1) < 40 := by unfold rem40; omega
    generalize rem40 (n 0) = i at v1 v3 hi
    generalize rem40 (n 1) = k at v2 v4 hk
    have v5 : IntKind.i64.wrap (i : Int) = (i : Int) := IntWalk.i64_in _ (by omega)
    have v6 : IntKind.i64.wrap (k : Int) = (k : Int) := IntWalk.i64_in _ (by omega)
    have v7 : IntKind.u8.wrap (i : Int) = (i : Int) := by rw [wrap8]; omega
    have v8 : IntKind.u8.wrap (k : Int) = (k : Int) := by rw [wrap8]; omega
    refine St.region HC.out (by kernel_rfl) (by kernel_rfl) ?_
    (first
       | (apply head_skip rfl)
       | (apply head_step_g rfl
          focus
            intro w0 hC
            (first
               | exact neq_quiet 23 rfl rfl rfl Try.eqGuardType23 Try.underlying23 (by simp [go_sem]) (by simp [go_sem]) (by first | with_reducible assumption | with_reducible rfl)
               | exact eql_quiet 23 rfl rfl rfl Try.eqGuardType23 Try.underlying23 (by simp [go_sem]) (by simp [go_sem]) (by first | with_reducible assumption | with_reducible rfl)))
       | (apply head_step_g rfl
          focus
            intro w0 hC
            have hC' := Lib.hid hC
            obtain ⟨⟨r1, f1, i1, b1, l1⟩, ⟨r2, f2, i2, b2, l2⟩, ⟨r3, f3, i3, b3, l3⟩, ⟨r4, f4, i4, b4, l4⟩, ⟨r5, f5, i5, b5, l5⟩, m12, m21, m13, m31, m14, m41, m15, m51, m23, m32, m24, m42, m25, m52, m34, m43, m35, m53, m45, m54⟩ := St.facts5 hC
            clear hC
            go_simp
            have hC := hC'.out
            (first
               | with_reducible rfl
               | (skip
                  (first
                     | (go_at_call 13; refine (ghMul_any _ _ _).mono ?_)
                     | (go_at_call 22; refine (xor_any _ _ _).mono ?_)
                     | (go_at_call 23; refine (one_any _).mono ?_)
                     | (go_at_call 17; refine (awake08_any _).mono ?_)
                     | (go_at_call 24; (first | (with_reducible refine (p0 _).mono ?_) | (with_reducible refine (p1 _).mono ?_) | (with_reducible refine (pi _).mono ?_) | (with_reducible refine (pk _).mono ?_) | (with_reducible refine (pm _).mono ?_) | (with_reducible refine (pn _).mono ?_) | (with_reducible refine (pq _).mono ?_)))
                     | (go_at_call 19; refine (ghFold_any _ _ _ (by first | assumption | decide) _).mono ?_))
                  rintro e w' ⟨rfl, hw⟩
                  exact ⟨rfl, St.call (by assumption) hw⟩)))
     try simp only [Act.put, List.setIfInBounds_toArray, List.set])
    (first
       | (apply head_skip rfl)
       | (apply head_step_g rfl
          focus
            intro w0 hC
            (first
               | exact neq_quiet 23 rfl rfl rfl Try.eqGuardType23 Try.underlying23 (by simp [go_sem]) (by simp [go_sem]) (by first | with_reducible assumption | with_reducible rfl)
               | exact eql_quiet 23 rfl rfl rfl Try.eqGuardType23 Try.underlying23 (by simp [go_sem]) (by simp [go_sem]) (by first | with_reducible assumption | with_reducible rfl)))
       | (apply head_step_g rfl
          focus
            intro w0 hC
            have hC' := Lib.hid hC
            obtain ⟨⟨r1, f1, i1, b1, l1⟩, ⟨r2, f2, i2, b2, l2⟩, ⟨r3, f3, i3, b3, l3⟩, ⟨r4, f4, i4, b4, l4⟩, ⟨r5, f5, i5, b5, l5⟩, m12, m21, m13, m31, m14, m41, m15, m51, m23, m32, m24, m42, m25, m52, m34, m43, m35, m53, m45, m54⟩ := St.facts5 hC
            clear hC
            go_simp
            have hC := hC'.out
            (first
               | with_reducible rfl
               | (skip
                  (first
                     | (go_at_call 13; refine (ghMul_any _ _ _).mono ?_)
                     | (go_at_call 22; refine (xor_any _ _ _).mono ?_)
                     | (go_at_call 23; refine (one_any _).mono ?_)
                     | (go_at_call 17; refine (awake08_any _).mono ?_)
                     | (go_at_call 24; (first | (with_reducible refine (p0 _).mono ?_) | (with_reducible refine (p1 _).mono ?_) | (with_reducible refine (pi _).mono ?_) | (with_reducible refine (pk _).mono ?_) | (with_reducible refine (pm _).mono ?_) | (with_reducible refine (pn _).mono ?_) | (with_reducible refine (pq _).mono ?_)))
                     | (go_at_call 19; refine (ghFold_any _ _ _ (by first | assumption | decide) _).mono ?_))
                  rintro e w' ⟨rfl, hw⟩
                  exact ⟨rfl, St.call (by assumption) hw⟩)))
     try simp only [Act.put, List.setIfInBounds_toArray, List.set])
    (first
       | (apply head_skip rfl)
       | (apply head_step_g rfl
          focus
            intro w0 hC
            (first
               | exact neq_quiet 23 rfl rfl rfl Try.eqGuardType23 Try.underlying23 (by simp [go_sem]) (by simp [go_sem]) (by first | with_reducible assumption | with_reducible rfl)
               | exact eql_quiet 23 rfl rfl rfl Try.eqGuardType23 Try.underlying23 (by simp [go_sem]) (by simp [go_sem]) (by first | with_reducible assumption | with_reducible rfl)))
       | (apply head_step_g rfl
          focus
            intro w0 hC
            have hC' := Lib.hid hC
            obtain ⟨⟨r1, f1, i1, b1, l1⟩, ⟨r2, f2, i2, b2, l2⟩, ⟨r3, f3, i3, b3, l3⟩, ⟨r4, f4, i4, b4, l4⟩, ⟨r5, f5, i5, b5, l5⟩, m12, m21, m13, m31, m14, m41, m15, m51, m23, m32, m24, m42, m25, m52, m34, m43, m35, m53, m45, m54⟩ := St.facts5 hC
            clear hC
            go_simp
            have hC := hC'.out
            (first
               | with_reducible rfl
               | (skip
                  (first
                     | (go_at_call 13; refine (ghMul_any _ _ _).mono ?_)
                     | (go_at_call 22; refine (xor_any _ _ _).mono ?_)
                     | (go_at_call 23; refine (one_any _).mono ?_)
                     | (go_at_call 17; refine (awake08_any _).mono ?_)
                     | (go_at_call 24; (first | (with_reducible refine (p0 _).mono ?_) | (with_reducible refine (p1 _).mono ?_) | (with_reducible refine (pi _).mono ?_) | (with_reducible refine (pk _).mono ?_) | (with_reducible refine (pm _).mono ?_) | (with_reducible refine (pn _).mono ?_) | (with_reducible refine (pq _).mono ?_)))
                     | (go_at_call 19; refine (ghFold_any _ _ _ (by first | assumption | decide) _).mono ?_))
                  rintro e w' ⟨rfl, hw⟩
                  exact ⟨rfl, St.call (by assumption) hw⟩)))
     try simp only [Act.put, List.setIfInBounds_toArray, List.set])
    (first
       | (apply head_skip rfl)
       | (apply head_step_g rfl
          focus
            intro w0 hC
            (first
               | exact neq_quiet 23 rfl rfl rfl Try.eqGuardType23 Try.underlying23 (by simp [go_sem]) (by simp [go_sem]) (by first | with_reducible assumption | with_reducible rfl)
               | exact eql_quiet 23 rfl rfl rfl Try.eqGuardType23 Try.underlying23 (by simp [go_sem]) (by simp [go_sem]) (by first | with_reducible assumption | with_reducible rfl)))
       | (apply head_step_g rfl
          focus
            intro w0 hC
            have hC' := Lib.hid hC
            obtain ⟨⟨r1, f1, i1, b1, l1⟩, ⟨r2, f2, i2, b2, l2⟩, ⟨r3, f3, i3, b3, l3⟩, ⟨r4, f4, i4, b4, l4⟩, ⟨r5, f5, i5, b5, l5⟩, m12, m21, m13, m31, m14, m41, m15, m51, m23, m32, m24, m42, m25, m52, m34, m43, m35, m53, m45, m54⟩ := St.facts5 hC
            clear hC
            go_simp
            have hC := hC'.out
            (first
               | with_reducible rfl
               | (skip
                  (first
                     | (go_at_call 13; refine (ghMul_any _ _ _).mono ?_)
                     | (go_at_call 22; refine (xor_any _ _ _).mono ?_)
                     | (go_at_call 23; refine (one_any _).mono ?_)
                     | (go_at_call 17; refine (awake08_any _).mono ?_)
                     | (go_at_call 24; (first | (with_reducible refine (p0 _).mono ?_) | (with_reducible refine (p1 _).mono ?_) | (with_reducible refine (pi _).mono ?_) | (with_reducible refine (pk _).mono ?_) | (with_reducible refine (pm _).mono ?_) | (with_reducible refine (pn _).mono ?_) | (with_reducible refine (pq _).mono ?_)))
                     | (go_at_call 19; refine (ghFold_any _ _ _ (by first | assumption | decide) _).mono ?_))
                  rintro e w' ⟨rfl, hw⟩
                  exact ⟨rfl, St.call (by assumption) hw⟩)))
     try simp only [Act.put, List.setIfInBounds_toArray, List.set])
    (first
       | (apply head_skip rfl)
       | (apply head_step_g rfl
          focus
            intro w0 hC
            (first
               | exact neq_quiet 23 rfl rfl rfl Try.eqGuardType23 Try.underlying23 (by simp [go_sem]) (by simp [go_sem]) (by first | with_reducible assumption | with_reducible rfl)
               | exact eql_quiet 23 rfl rfl rfl Try.eqGuardType23 Try.underlying23 (by simp [go_sem]) (by simp [go_sem]) (by first | with_reducible assumption | with_reducible rfl)))
       | (apply head_step_g rfl
          focus
            intro w0 hC
            have hC' := Lib.hid hC
            obtain ⟨⟨r1, f1, i1, b1, l1⟩, ⟨r2, f2, i2, b2, l2⟩, ⟨r3, f3, i3, b3, l3⟩, ⟨r4, f4, i4, b4, l4⟩, ⟨r5, f5, i5, b5, l5⟩, m12, m21, m13, m31, m14, m41, m15, m51, m23, m32, m24, m42, m25, m52, m34, m43, m35, m53, m45, m54⟩ := St.facts5 hC
            clear hC
            go_simp
            have hC := hC'.out
            (first
               | with_reducible rfl
               | (skip
                  (first
                     | (go_at_call 13; refine (ghMul_any _ _ _).mono ?_)
                     | (go_at_call 22; refine (xor_any _ _ _).mono ?_)
                     | (go_at_call 23; refine (one_any _).mono ?_)
                     | (go_at_call 17; refine (awake08_any _).mono ?_)
                     | (go_at_call 24; (first | (with_reducible refine (p0 _).mono ?_) | (with_reducible refine (p1 _).mono ?_) | (with_reducible refine (pi _).mono ?_) | (with_reducible refine (pk _).mono ?_) | (with_reducible refine (pm _).mono ?_) | (with_reducible refine (pn _).mono ?_) | (with_reducible refine (pq _).mono ?_)))
                     | (go_at_call 19; refine (ghFold_any _ _ _ (by first | assumption | decide) _).mono ?_))
                  rintro e w' ⟨rfl, hw⟩
                  exact ⟨rfl, St.call (by assumption) hw⟩)))
     try simp only [Act.put, List.setIfInBounds_toArray, List.set])
    (first
       | (apply head_skip rfl)
       | (apply head_step_g rfl
          focus
            intro w0 hC
            (first
               | exact neq_quiet 23 rfl rfl rfl Try.eqGuardType23 Try.underlying23 (by simp [go_sem]) (by simp [go_sem]) (by first | with_reducible assumption | with_reducible rfl)
               | exact eql_quiet 23 rfl rfl rfl Try.eqGuardType23 Try.underlying23 (by simp [go_sem]) (by simp [go_sem]) (by first | with_reducible assumption | with_reducible rfl)))
       | (apply head_step_g rfl
          focus
            intro w0 hC
            have hC' := Lib.hid hC
            obtain ⟨⟨r1, f1, i1, b1, l1⟩, ⟨r2, f2, i2, b2, l2⟩, ⟨r3, f3, i3, b3, l3⟩, ⟨r4, f4, i4, b4, l4⟩, ⟨r5, f5, i5, b5, l5⟩, m12, m21, m13, m31, m14, m41, m15, m51, m23, m32, m24, m42, m25, m52, m34, m43, m35, m53, m45, m54⟩ := St.facts5 hC
            clear hC
            go_simp
            have hC := hC'.out
            (first
               | with_reducible rfl
               | (skip
                  (first
                     | (go_at_call 13; refine (ghMul_any _ _ _).mono ?_)
                     | (go_at_call 22; refine (xor_any _ _ _).mono ?_)
                     | (go_at_call 23; refine (one_any _).mono ?_)
                     | (go_at_call 17; refine (awake08_any _).mono ?_)
                     | (go_at_call 24; (first | (with_reducible refine (p0 _).mono ?_) | (with_reducible refine (p1 _).mono ?_) | (with_reducible refine (pi _).mono ?_) | (with_reducible refine (pk _).mono ?_) | (with_reducible refine (pm _).mono ?_) | (with_reducible refine (pn _).mono ?_) | (with_reducible refine (pq _).mono ?_)))
                     | (go_at_call 19; refine (ghFold_any _ _ _ (by first | assumption | decide) _).mono ?_))
                  rintro e w' ⟨rfl, hw⟩
                  exact ⟨rfl, St.call (by assumption) hw⟩)))
     try simp only [Act.put, List.setIfInBounds_toArray, List.set])
    (first
       | (apply head_skip rfl)
       | (apply head_step_g rfl
          focus
            intro w0 hC
            (first
               | exact neq_quiet 23 rfl rfl rfl Try.eqGuardType23 Try.underlying23 (by simp [go_sem]) (by simp [go_sem]) (by first | with_reducible assumption | with_reducible rfl)
               | exact eql_quiet 23 rfl rfl rfl Try.eqGuardType23 Try.underlying23 (by simp [go_sem]) (by simp [go_sem]) (by first | with_reducible assumption | with_reducible rfl)))
       | (apply head_step_g rfl
          focus
            intro w0 hC
            have hC' := Lib.hid hC
            obtain ⟨⟨r1, f1, i1, b1, l1⟩, ⟨r2, f2, i2, b2, l2⟩, ⟨r3, f3, i3, b3, l3⟩, ⟨r4, f4, i4, b4, l4⟩, ⟨r5, f5, i5, b5, l5⟩, m12, m21, m13, m31, m14, m41, m15, m51, m23, m32, m24, m42, m25, m52, m34, m43, m35, m53, m45, m54⟩ := St.facts5 hC
            clear hC
            go_simp
            have hC := hC'.out
            (first
               | with_reducible rfl
               | (skip
                  (first
                     | (go_at_call 13; refine (ghMul_any _ _ _).mono ?_)
                     | (go_at_call 22; refine (xor_any _ _ _).mono ?_)
                     | (go_at_call 23; refine (one_any _).mono ?_)
                     | (go_at_call 17; refine (awake08_any _).mono ?_)
                     | (go_at_call 24; (first | (with_reducible refine (p0 _).mono ?_) | (with_reducible refine (p1 _).mono ?_) | (with_reducible refine (pi _).mono ?_) | (with_reducible refine (pk _).mono ?_) | (with_reducible refine (pm _).mono ?_) | (with_reducible refine (pn _).mono ?_) | (with_reducible refine (pq _).mono ?_)))
                     | (go_at_call 19; refine (ghFold_any _ _ _ (by first | assumption | decide) _).mono ?_))
                  rintro e w' ⟨rfl, hw⟩
                  exact ⟨rfl, St.call (by assumption) hw⟩)))
     try simp only [Act.put, List.setIfInBounds_toArray, List.set])
    (first
       | (apply head_skip rfl)
       | (apply head_step_g rfl
          focus
            intro w0 hC
            (first
               | exact neq_quiet 23 rfl rfl rfl Try.eqGuardType23 Try.underlying23 (by simp [go_sem]) (by simp [go_sem]) (by first | with_reducible assumption | with_reducible rfl)
               | exact eql_quiet 23 rfl rfl rfl Try.eqGuardType23 Try.underlying23 (by simp [go_sem]) (by simp [go_sem]) (by first | with_reducible assumption | with_reducible rfl)))
       | (apply head_step_g rfl
          focus
            intro w0 hC
            have hC' := Lib.hid hC
            obtain ⟨⟨r1, f1, i1, b1, l1⟩, ⟨r2, f2, i2, b2, l2⟩, ⟨r3, f3, i3, b3, l3⟩, ⟨r4, f4, i4, b4, l4⟩, ⟨r5, f5, i5, b5, l5⟩, m12, m21, m13, m31, m14, m41, m15, m51, m23, m32, m24, m42, m25, m52, m34, m43, m35, m53, m45, m54⟩ := St.facts5 hC
            clear hC
            go_simp
            have hC := hC'.out
            (first
               | with_reducible rfl
               | (skip
                  (first
                     | (go_at_call 13; refine (ghMul_any _ _ _).mono ?_)
                     | (go_at_call 22; refine (xor_any _ _ _).mono ?_)
                     | (go_at_call 23; refine (one_any _).mono ?_)
                     | (go_at_call 17; refine (awake08_any _).mono ?_)
                     | (go_at_call 24; (first | (with_reducible refine (p0 _).mono ?_) | (with_reducible refine (p1 _).mono ?_) | (with_reducible refine (pi _).mono ?_) | (with_reducible refine (pk _).mono ?_) | (with_reducible refine (pm _).mono ?_) | (with_reducible refine (pn _).mono ?_) | (with_reducible refine (pq _).mono ?_)))
                     | (go_at_call 19; refine (ghFold_any _ _ _ (by first | assumption | decide) _).mono ?_))
                  rintro e w' ⟨rfl, hw⟩
                  exact ⟨rfl, St.call (by assumption) hw⟩)))
     try simp only [Act.put, List.setIfInBounds_toArray, List.set])
    (first
       | (apply head_skip rfl)
       | (apply head_step_g rfl
          focus
            intro w0 hC
            (first
               | exact neq_quiet 23 rfl rfl rfl Try.eqGuardType23 Try.underlying23 (by simp [go_sem]) (by simp [go_sem]) (by first | with_reducible assumption | with_reducible rfl)
               | exact eql_quiet 23 rfl rfl rfl Try.eqGuardType23 Try.underlying23 (by simp [go_sem]) (by simp [go_sem]) (by first | with_reducible assumption | with_reducible rfl)))
       | (apply head_step_g rfl
          focus
            intro w0 hC
            have hC' := Lib.hid hC
            obtain ⟨⟨r1, f1, i1, b1, l1⟩, ⟨r2, f2, i2, b2, l2⟩, ⟨r3, f3, i3, b3, l3⟩, ⟨r4, f4, i4, b4, l4⟩, ⟨r5, f5, i5, b5, l5⟩, m12, m21, m13, m31, m14, m41, m15, m51, m23, m32, m24, m42, m25, m52, m34, m43, m35, m53, m45, m54⟩ := St.facts5 hC
            clear hC
            go_simp
            have hC := hC'.out
            (first
               | with_reducible rfl
               | (skip
                  (first
                     | (go_at_call 13; refine (ghMul_any _ _ _).mono ?_)
                     | (go_at_call 22; refine (xor_any _ _ _).mono ?_)
                     | (go_at_call 23; refine (one_any _).mono ?_)
                     | (go_at_call 17; refine (awake08_any _).mono ?_)
                     | (go_at_call 24; (first | (with_reducible refine (p0 _).mono ?_) | (with_reducible refine (p1 _).mono ?_) | (with_reducible refine (pi _).mono ?_) | (with_reducible refine (pk _).mono ?_) | (with_reducible refine (pm _).mono ?_) | (with_reducible refine (pn _).mono ?_) | (with_reducible refine (pq _).mono ?_)))
                     | (go_at_call 19; refine (ghFold_any _ _ _ (by first | assumption | decide) _).mono ?_))
                  rintro e w' ⟨rfl, hw⟩
                  exact ⟨rfl, St.call (by assumption) hw⟩)))
     try simp only [Act.put, List.setIfInBounds_toArray, List.set])
    (first
       | (apply head_skip rfl)
       | (apply head_step_g rfl
          focus
            intro w0 hC
            (first
               | exact neq_quiet 23 rfl rfl rfl Try.eqGuardType23 Try.underlying23 (by simp [go_sem]) (by simp [go_sem]) (by first | with_reducible assumption | with_reducible rfl)
               | exact eql_quiet 23 rfl rfl rfl Try.eqGuardType23 Try.underlying23 (by simp [go_sem]) (by simp [go_sem]) (by first | with_reducible assumption | with_reducible rfl)))
       | (apply head_step_g rfl
          focus
            intro w0 hC
            have hC' := Lib.hid hC
            obtain ⟨⟨r1, f1, i1, b1, l1⟩, ⟨r2, f2, i2, b2, l2⟩, ⟨r3, f3, i3, b3, l3⟩, ⟨r4, f4, i4, b4, l4⟩, ⟨r5, f5, i5, b5, l5⟩, m12, m21, m13, m31, m14, m41, m15, m51, m23, m32, m24, m42, m25, m52, m34, m43, m35, m53, m45, m54⟩ := St.facts5 hC
            clear hC
            go_simp
            have hC := hC'.out
            (first
               | with_reducible rfl
               | (skip
                  (first
                     | (go_at_call 13; refine (ghMul_any _ _ _).mono ?_)
                     | (go_at_call 22; refine (xor_any _ _ _).mono ?_)
                     | (go_at_call 23; refine (one_any _).mono ?_)
                     | (go_at_call 17; refine (awake08_any _).mono ?_)
                     | (go_at_call 24; (first | (with_reducible refine (p0 _).mono ?_) | (with_reducible refine (p1 _).mono ?_) | (with_reducible refine (pi _).mono ?_) | (with_reducible refine (pk _).mono ?_) | (with_reducible refine (pm _).mono ?_) | (with_reducible refine (pn _).mono ?_) | (with_reducible refine (pq _).mono ?_)))
                     | (go_at_call 19; refine (ghFold_any _ _ _ (by first | assumption | decide) _).mono ?_))
                  rintro e w' ⟨rfl, hw⟩
                  exact ⟨rfl, St.call (by assumption) hw⟩)))
     try simp only [Act.put, List.setIfInBounds_toArray, List.set])
    refine wpQuiet_nil ?_
    intro w2 hC
    clear v1 v2 v3 v4 v7 v8 HC
    have HC := Lib.hid hC
    clear hC
    obtain ⟨m, hm⟩ : ∃ m, m = i + k := ⟨_, rfl⟩
    have v9 : IntKind.i64.wrap ((i : Int) + (k : Int)) = (m : Int) := by rw [IntWalk.i64_in _ (by omega)]; omega
    have v10 : IntKind.i64.wrap (-(i : Int)) = -(i : Int) := IntWalk.i64_in _ (by omega)
    have pm := fun w => pow_nat l m (by omega) (m : Int) rfl w
    have pi := fun w => pow_nat l i (by omega) (i : Int) rfl w
    have pk := fun w => pow_nat l k (by omega) (k : Int) rfl w
    have p0 := fun w => pow_nat l 0 (by omega) 0 rfl w
    have p1 := fun w => pow_nat l 1 (by omega) 1 rfl w
    have pn := fun w => ghPow_low l (-(i : Int)) (by omega) w
    have e1 := pow_split l i k
    rw [← hm] at e1
    clear hm
    have e2 := pow_none l
    have e3 := pow_once l
    go_wp2_with fail
    as_aux_lemma =>
      refine St.region HC.out (by kernel_rfl) (by kernel_rfl) ?_
      (first
         | (apply head_skip rfl)
         | (apply head_step_g rfl
            focus
              intro w0 hC
              (first
                 | exact neq_quiet 23 rfl rfl rfl Try.eqGuardType23 Try.underlying23 (by simp [go_sem]) (by simp [go_sem]) (by first | with_reducible assumption | with_reducible rfl)
                 | exact eql_quiet 23 rfl rfl rfl Try.eqGuardType23 Try.underlying23 (by simp [go_sem]) (by simp [go_sem]) (by first | with_reducible assumption | with_reducible rfl)))
         | (apply head_step_g rfl
            focus
              intro w0 hC
              have hC' := Lib.hid hC
              obtain ⟨⟨r1, f1, i1, b1, l1⟩, ⟨r2, f2, i2, b2, l2⟩, ⟨r3, f3, i3, b3, l3⟩, ⟨r4, f4, i4, b4, l4⟩, ⟨r5, f5, i5, b5, l5⟩, m12, m21, m13, m31, m14, m41, m15, m51, m23, m32, m24, m42, m25, m52, m34, m43, m35, m53, m45, m54⟩ := St.facts5 hC
              clear hC
              go_simp
              have hC := hC'.out
              (first
                 | with_reducible rfl
                 | (skip
                    (first
                       | (go_at_call 13; refine (ghMul_any _ _ _).mono ?_)
                       | (go_at_call 22; refine (xor_any _ _ _).mono ?_)
                       | (go_at_call 23; refine (one_any _).mono ?_)
                       | (go_at_call 17; refine (awake08_any _).mono ?_)
                       | (go_at_call 24; (first | (with_reducible refine (p0 _).mono ?_) | (with_reducible refine (p1 _).mono ?_) | (with_reducible refine (pi _).mono ?_) | (with_reducible refine (pk _).mono ?_) | (with_reducible refine (pm _).mono ?_) | (with_reducible refine (pn _).mono ?_) | (with_reducible refine (pq _).mono ?_)))
                       | (go_at_call 19; refine (ghFold_any _ _ _ (by first | assumption | decide) _).mono ?_))
                    rintro e w' ⟨rfl, hw⟩
                    exact ⟨rfl, St.call (by assumption) hw⟩)))
       try simp only [Act.put, List.setIfInBounds_toArray, List.set])
      (first
         | (apply head_skip rfl)
         | (apply head_step_g rfl
            focus
              intro w0 hC
              (first
                 | exact neq_quiet 23 rfl rfl rfl Try.eqGuardType23 Try.underlying23 (by simp [go_sem]) (by simp [go_sem]) (by first | with_reducible assumption | with_reducible rfl)
                 | exact eql_quiet 23 rfl rfl rfl Try.eqGuardType23 Try.underlying23 (by simp [go_sem]) (by simp [go_sem]) (by first | with_reducible assumption | with_reducible rfl)))
         | (apply head_step_g rfl
            focus
              intro w0 hC
              have hC' := Lib.hid hC
              obtain ⟨⟨r1, f1, i1, b1, l1⟩, ⟨r2, f2, i2, b2, l2⟩, ⟨r3, f3, i3, b3, l3⟩, ⟨r4, f4, i4, b4, l4⟩, ⟨r5, f5, i5, b5, l5⟩, m12, m21, m13, m31, m14, m41, m15, m51, m23, m32, m24, m42, m25, m52, m34, m43, m35, m53, m45, m54⟩ := St.facts5 hC
              clear hC
              go_simp
              have hC := hC'.out
              (first
                 | with_reducible rfl
                 | (skip
                    (first
                       | (go_at_call 13; refine (ghMul_any _ _ _).mono ?_)
                       | (go_at_call 22; refine (xor_any _ _ _).mono ?_)
                       | (go_at_call 23; refine (one_any _).mono ?_)
                       | (go_at_call 17; refine (awake08_any _).mono ?_)
                       | (go_at_call 24; (first | (with_reducible refine (p0 _).mono ?_) | (with_reducible refine (p1 _).mono ?_) | (with_reducible refine (pi _).mono ?_) | (with_reducible refine (pk _).mono ?_) | (with_reducible refine (pm _).mono ?_) | (with_reducible refine (pn _).mono ?_) | (with_reducible refine (pq _).mono ?_)))
                       | (go_at_call 19; refine (ghFold_any _ _ _ (by first | assumption | decide) _).mono ?_))
                    rintro e w' ⟨rfl, hw⟩
                    exact ⟨rfl, St.call (by assumption) hw⟩)))
       try simp only [Act.put, List.setIfInBounds_toArray, List.set])
      (first
         | (apply head_skip rfl)
         | (apply head_step_g rfl
            focus
              intro w0 hC
              (first
                 | exact neq_quiet 23 rfl rfl rfl Try.eqGuardType23 Try.underlying23 (by simp [go_sem]) (by simp [go_sem]) (by first | with_reducible assumption | with_reducible rfl)
                 | exact eql_quiet 23 rfl rfl rfl Try.eqGuardType23 Try.underlying23 (by simp [go_sem]) (by simp [go_sem]) (by first | with_reducible assumption | with_reducible rfl)))
         | (apply head_step_g rfl
            focus
              intro w0 hC
              have hC' := Lib.hid hC
              obtain ⟨⟨r1, f1, i1, b1, l1⟩, ⟨r2, f2, i2, b2, l2⟩, ⟨r3, f3, i3, b3, l3⟩, ⟨r4, f4, i4, b4, l4⟩, ⟨r5, f5, i5, b5, l5⟩, m12, m21, m13, m31, m14, m41, m15, m51, m23, m32, m24, m42, m25, m52, m34, m43, m35, m53, m45, m54⟩ := St.facts5 hC
              clear hC
              go_simp
              have hC := hC'.out
              (first
                 | with_reducible rfl
                 | (skip
                    (first
                       | (go_at_call 13; refine (ghMul_any _ _ _).mono ?_)
                       | (go_at_call 22; refine (xor_any _ _ _).mono ?_)
                       | (go_at_call 23; refine (one_any _).mono ?_)
                       | (go_at_call 17; refine (awake08_any _).mono ?_)
                       | (go_at_call 24; (first | (with_reducible refine (p0 _).mono ?_) | (with_reducible refine (p1 _).mono ?_) | (with_reducible refine (pi _).mono ?_) | (with_reducible refine (pk _).mono ?_) | (with_reducible refine (pm _).mono ?_) | (with_reducible refine (pn _).mono ?_) | (with_reducible refine (pq _).mono ?_)))
                       | (go_at_call 19; refine (ghFold_any _ _ _ (by first | assumption | decide) _).mono ?_))
                    rintro e w' ⟨rfl, hw⟩
                    exact ⟨rfl, St.call (by assumption) hw⟩)))
       try simp only [Act.put, List.setIfInBounds_toArray, List.set])
      (first
         | (apply head_skip rfl)
         | (apply head_step_g rfl
            focus
              intro w0 hC
              (first
                 | exact neq_quiet 23 rfl rfl rfl Try.eqGuardType23 Try.underlying23 (by simp [go_sem]) (by simp [go_sem]) (by first | with_reducible assumption | with_reducible rfl)
                 | exact eql_quiet 23 rfl rfl rfl Try.eqGuardType23 Try.underlying23 (by simp [go_sem]) (by simp [go_sem]) (by first | with_reducible assumption | with_reducible rfl)))
         | (apply head_step_g rfl
            focus
              intro w0 hC
              have hC' := Lib.hid hC
              obtain ⟨⟨r1, f1, i1, b1, l1⟩, ⟨r2, f2, i2, b2, l2⟩, ⟨r3, f3, i3, b3, l3⟩, ⟨r4, f4, i4, b4, l4⟩, ⟨r5, f5, i5, b5, l5⟩, m12, m21, m13, m31, m14, m41, m15, m51, m23, m32, m24, m42, m25, m52, m34, m43, m35, m53, m45, m54⟩ := St.facts5 hC
              clear hC
              go_simp
              have hC := hC'.out
              (first
                 | with_reducible rfl
                 | (skip
                    (first
                       | (go_at_call 13; refine (ghMul_any _ _ _).mono ?_)
                       | (go_at_call 22; refine (xor_any _ _ _).mono ?_)
                       | (go_at_call 23; refine (one_any _).mono ?_)
                       | (go_at_call 17; refine (awake08_any _).mono ?_)
                       | (go_at_call 24; (first | (with_reducible refine (p0 _).mono ?_) | (with_reducible refine (p1 _).mono ?_) | (with_reducible refine (pi _).mono ?_) | (with_reducible refine (pk _).mono ?_) | (with_reducible refine (pm _).mono ?_) | (with_reducible refine (pn _).mono ?_) | (with_reducible refine (pq _).mono ?_)))
                       | (go_at_call 19; refine (ghFold_any _ _ _ (by first | assumption | decide) _).mono ?_))
                    rintro e w' ⟨rfl, hw⟩
                    exact ⟨rfl, St.call (by assumption) hw⟩)))
       try simp only [Act.put, List.setIfInBounds_toArray, List.set])
      (first
         | (apply head_skip rfl)
         | (apply head_step_g rfl
            focus
              intro w0 hC
              (first
                 | exact neq_quiet 23 rfl rfl rfl Try.eqGuardType23 Try.underlying23 (by simp [go_sem]) (by simp [go_sem]) (by first | with_reducible assumption | with_reducible rfl)
                 | exact eql_quiet 23 rfl rfl rfl Try.eqGuardType23 Try.underlying23 (by simp [go_sem]) (by simp [go_sem]) (by first | with_reducible assumption | with_reducible rfl)))
         | (apply head_step_g rfl
            focus
              intro w0 hC
              have hC' := Lib.hid hC
              obtain ⟨⟨r1, f1, i1, b1, l1⟩, ⟨r2, f2, i2, b2, l2⟩, ⟨r3, f3, i3, b3, l3⟩, ⟨r4, f4, i4, b4, l4⟩, ⟨r5, f5, i5, b5, l5⟩, m12, m21, m13, m31, m14, m41, m15, m51, m23, m32, m24, m42, m25, m52, m34, m43, m35, m53, m45, m54⟩ := St.facts5 hC
              clear hC
              go_simp
              have hC := hC'.out
              (first
                 | with_reducible rfl
                 | (skip
                    (first
                       | (go_at_call 13; refine (ghMul_any _ _ _).mono ?_)
                       | (go_at_call 22; refine (xor_any _ _ _).mono ?_)
                       | (go_at_call 23; refine (one_any _).mono ?_)
                       | (go_at_call 17; refine (awake08_any _).mono ?_)
                       | (go_at_call 24; (first | (with_reducible refine (p0 _).mono ?_) | (with_reducible refine (p1 _).mono ?_) | (with_reducible refine (pi _).mono ?_) | (with_reducible refine (pk _).mono ?_) | (with_reducible refine (pm _).mono ?_) | (with_reducible refine (pn _).mono ?_) | (with_reducible refine (pq _).mono ?_)))
                       | (go_at_call 19; refine (ghFold_any _ _ _ (by first | assumption | decide) _).mono ?_))
                    rintro e w' ⟨rfl, hw⟩
                    exact ⟨rfl, St.call (by assumption) hw⟩)))
       try simp only [Act.put, List.setIfInBounds_toArray, List.set])
      (first
         | (apply head_skip rfl)
         | (apply head_step_g rfl
            focus
              intro w0 hC
              (first
                 | exact neq_quiet 23 rfl rfl rfl Try.eqGuardType23 Try.underlying23 (by simp [go_sem]) (by simp [go_sem]) (by first | with_reducible assumption | with_reducible rfl)
                 | exact eql_quiet 23 rfl rfl rfl Try.eqGuardType23 Try.underlying23 (by simp [go_sem]) (by simp [go_sem]) (by first | with_reducible assumption | with_reducible rfl)))
         | (apply head_step_g rfl
            focus
              intro w0 hC
              have hC' := Lib.hid hC
              obtain ⟨⟨r1, f1, i1, b1, l1⟩, ⟨r2, f2, i2, b2, l2⟩, ⟨r3, f3, i3, b3, l3⟩, ⟨r4, f4, i4, b4, l4⟩, ⟨r5, f5, i5, b5, l5⟩, m12, m21, m13, m31, m14, m41, m15, m51, m23, m32, m24, m42, m25, m52, m34, m43, m35, m53, m45, m54⟩ := St.facts5 hC
              clear hC
              go_simp
              have hC := hC'.out
              (first
                 | with_reducible rfl
                 | (skip
                    (first
                       | (go_at_call 13; refine (ghMul_any _ _ _).mono ?_)
                       | (go_at_call 22; refine (xor_any _ _ _).mono ?_)
                       | (go_at_call 23; refine (one_any _).mono ?_)
                       | (go_at_call 17; refine (awake08_any _).mono ?_)
                       | (go_at_call 24; (first | (with_reducible refine (p0 _).mono ?_) | (with_reducible refine (p1 _).mono ?_) | (with_reducible refine (pi _).mono ?_) | (with_reducible refine (pk _).mono ?_) | (with_reducible refine (pm _).mono ?_) | (with_reducible refine (pn _).mono ?_) | (with_reducible refine (pq _).mono ?_)))
                       | (go_at_call 19; refine (ghFold_any _ _ _ (by first | assumption | decide) _).mono ?_))
                    rintro e w' ⟨rfl, hw⟩
                    exact ⟨rfl, St.call (by assumption) hw⟩)))
       try simp only [Act.put, List.setIfInBounds_toArray, List.set])
      (first
         | (apply head_skip rfl)
         | (apply head_step_g rfl
            focus
              intro w0 hC
              (first
                 | exact neq_quiet 23 rfl rfl rfl Try.eqGuardType23 Try.underlying23 (by simp [go_sem]) (by simp [go_sem]) (by first | with_reducible assumption | with_reducible rfl)
                 | exact eql_quiet 23 rfl rfl rfl Try.eqGuardType23 Try.underlying23 (by simp [go_sem]) (by simp [go_sem]) (by first | with_reducible assumption | with_reducible rfl)))
         | (apply head_step_g rfl
            focus
              intro w0 hC
              have hC' := Lib.hid hC
              obtain ⟨⟨r1, f1, i1, b1, l1⟩, ⟨r2, f2, i2, b2, l2⟩, ⟨r3, f3, i3, b3, l3⟩, ⟨r4, f4, i4, b4, l4⟩, ⟨r5, f5, i5, b5, l5⟩, m12, m21, m13, m31, m14, m41, m15, m51, m23, m32, m24, m42, m25, m52, m34, m43, m35, m53, m45, m54⟩ := St.facts5 hC
              clear hC
              go_simp
              have hC := hC'.out
              (first
                 | with_reducible rfl
                 | (skip
                    (first
                       | (go_at_call 13; refine (ghMul_any _ _ _).mono ?_)
                       | (go_at_call 22; refine (xor_any _ _ _).mono ?_)
                       | (go_at_call 23; refine (one_any _).mono ?_)
                       | (go_at_call 17; refine (awake08_any _).mono ?_)
                       | (go_at_call 24; (first | (with_reducible refine (p0 _).mono ?_) | (with_reducible refine (p1 _).mono ?_) | (with_reducible refine (pi _).mono ?_) | (with_reducible refine (pk _).mono ?_) | (with_reducible refine (pm _).mono ?_) | (with_reducible refine (pn _).mono ?_) | (with_reducible refine (pq _).mono ?_)))
                       | (go_at_call 19; refine (ghFold_any _ _ _ (by first | assumption | decide) _).mono ?_))
                    rintro e w' ⟨rfl, hw⟩
                    exact ⟨rfl, St.call (by assumption) hw⟩)))
       try simp only [Act.put, List.setIfInBounds_toArray, List.set])
      (first
         | (apply head_skip rfl)
         | (apply head_step_g rfl
            focus
              intro w0 hC
              (first
                 | exact neq_quiet 23 rfl rfl rfl Try.eqGuardType23 Try.underlying23 (by simp [go_sem]) (by simp [go_sem]) (by first | with_reducible assumption | with_reducible rfl)
                 | exact eql_quiet 23 rfl rfl rfl Try.eqGuardType23 Try.underlying23 (by simp [go_sem]) (by simp [go_sem]) (by first | with_reducible assumption | with_reducible rfl)))
         | (apply head_step_g rfl
            focus
              intro w0 hC
              have hC' := Lib.hid hC
              obtain ⟨⟨r1, f1, i1, b1, l1⟩, ⟨r2, f2, i2, b2, l2⟩, ⟨r3, f3, i3, b3, l3⟩, ⟨r4, f4, i4, b4, l4⟩, ⟨r5, f5, i5, b5, l5⟩, m12, m21, m13, m31, m14, m41, m15, m51, m23, m32, m24, m42, m25, m52, m34, m43, m35, m53, m45, m54⟩ := St.facts5 hC
              clear hC
              go_simp
              have hC := hC'.out
              (first
                 | with_reducible rfl
                 | (skip
                    (first
                       | (go_at_call 13; refine (ghMul_any _ _ _).mono ?_)
                       | (go_at_call 22; refine (xor_any _ _ _).mono ?_)
                       | (go_at_call 23; refine (one_any _).mono ?_)
                       | (go_at_call 17; refine (awake08_any _).mono ?_)
                       | (go_at_call 24; (first | (with_reducible refine (p0 _).mono ?_) | (with_reducible refine (p1 _).mono ?_) | (with_reducible refine (pi _).mono ?_) | (with_reducible refine (pk _).mono ?_) | (with_reducible refine (pm _).mono ?_) | (with_reducible refine (pn _).mono ?_) | (with_reducible refine (pq _).mono ?_)))
                       | (go_at_call 19; refine (ghFold_any _ _ _ (by first | assumption | decide) _).mono ?_))
                    rintro e w' ⟨rfl, hw⟩
                    exact ⟨rfl, St.call (by assumption) hw⟩)))
       try simp only [Act.put, List.setIfInBounds_toArray, List.set])
      (first
         | (apply head_skip rfl)
         | (apply head_step_g rfl
            focus
              intro w0 hC
              (first
                 | exact neq_quiet 23 rfl rfl rfl Try.eqGuardType23 Try.underlying23 (by simp [go_sem]) (by simp [go_sem]) (by first | with_reducible assumption | with_reducible rfl)
                 | exact eql_quiet 23 rfl rfl rfl Try.eqGuardType23 Try.underlying23 (by simp [go_sem]) (by simp [go_sem]) (by first | with_reducible assumption | with_reducible rfl)))
         | (apply head_step_g rfl
            focus
              intro w0 hC
              have hC' := Lib.hid hC
              obtain ⟨⟨r1, f1, i1, b1, l1⟩, ⟨r2, f2, i2, b2, l2⟩, ⟨r3, f3, i3, b3, l3⟩, ⟨r4, f4, i4, b4, l4⟩, ⟨r5, f5, i5, b5, l5⟩, m12, m21, m13, m31, m14, m41, m15, m51, m23, m32, m24, m42, m25, m52, m34, m43, m35, m53, m45, m54⟩ := St.facts5 hC
              clear hC
              go_simp
              have hC := hC'.out
              (first
                 | with_reducible rfl
                 | (skip
                    (first
                       | (go_at_call 13; refine (ghMul_any _ _ _).mono ?_)
                       | (go_at_call 22; refine (xor_any _ _ _).mono ?_)
                       | (go_at_call 23; refine (one_any _).mono ?_)
                       | (go_at_call 17; refine (awake08_any _).mono ?_)
                       | (go_at_call 24; (first | (with_reducible refine (p0 _).mono ?_) | (with_reducible refine (p1 _).mono ?_) | (with_reducible refine (pi _).mono ?_) | (with_reducible refine (pk _).mono ?_) | (with_reducible refine (pm _).mono ?_) | (with_reducible refine (pn _).mono ?_) | (with_reducible refine (pq _).mono ?_)))
                       | (go_at_call 19; refine (ghFold_any _ _ _ (by first | assumption | decide) _).mono ?_))
                    rintro e w' ⟨rfl, hw⟩
                    exact ⟨rfl, St.call (by assumption) hw⟩)))
       try simp only [Act.put, List.setIfInBounds_toArray, List.set])
      (first
         | (apply head_skip rfl)
         | (apply head_step_g rfl
            focus
              intro w0 hC
              (first
                 | exact neq_quiet 23 rfl rfl rfl Try.eqGuardType23 Try.underlying23 (by simp [go_sem]) (by simp [go_sem]) (by first | with_reducible assumption | with_reducible rfl)
                 | exact eql_quiet 23 rfl rfl rfl Try.eqGuardType23 Try.underlying23 (by simp [go_sem]) (by simp [go_sem]) (by first | with_reducible assumption | with_reducible rfl)))
         | (apply head_step_g rfl
            focus
              intro w0 hC
              have hC' := Lib.hid hC
              obtain ⟨⟨r1, f1, i1, b1, l1⟩, ⟨r2, f2, i2, b2, l2⟩, ⟨r3, f3, i3, b3, l3⟩, ⟨r4, f4, i4, b4, l4⟩, ⟨r5, f5, i5, b5, l5⟩, m12, m21, m13, m31, m14, m41, m15, m51, m23, m32, m24, m42, m25, m52, m34, m43, m35, m53, m45, m54⟩ := St.facts5 hC
              clear hC
              go_simp
              have hC := hC'.out
              (first
                 | with_reducible rfl
                 | (skip
                    (first
                       | (go_at_call 13; refine (ghMul_any _ _ _).mono ?_)
                       | (go_at_call 22; refine (xor_any _ _ _).mono ?_)
                       | (go_at_call 23; refine (one_any _).mono ?_)
                       | (go_at_call 17; refine (awake08_any _).mono ?_)
                       | (go_at_call 24; (first | (with_reducible refine (p0 _).mono ?_) | (with_reducible refine (p1 _).mono ?_) | (with_reducible refine (pi _).mono ?_) | (with_reducible refine (pk _).mono ?_) | (with_reducible refine (pm _).mono ?_) | (with_reducible refine (pn _).mono ?_) | (with_reducible refine (pq _).mono ?_)))
                       | (go_at_call 19; refine (ghFold_any _ _ _ (by first | assumption | decide) _).mono ?_))
                    rintro e w' ⟨rfl, hw⟩
                    exact ⟨rfl, St.call (by assumption) hw⟩)))
       try simp only [Act.put, List.setIfInBounds_toArray, List.set])
      (first
         | (apply head_skip rfl)
         | (apply head_step_g rfl
            focus
              intro w0 hC
              (first
                 | exact neq_quiet 23 rfl rfl rfl Try.eqGuardType23 Try.underlying23 (by simp [go_sem]) (by simp [go_sem]) (by first | with_reducible assumption | with_reducible rfl)
                 | exact eql_quiet 23 rfl rfl rfl Try.eqGuardType23 Try.underlying23 (by simp [go_sem]) (by simp [go_sem]) (by first | with_reducible assumption | with_reducible rfl)))
         | (apply head_step_g rfl
            focus
              intro w0 hC
              have hC' := Lib.hid hC
              obtain ⟨⟨r1, f1, i1, b1, l1⟩, ⟨r2, f2, i2, b2, l2⟩, ⟨r3, f3, i3, b3, l3⟩, ⟨r4, f4, i4, b4, l4⟩, ⟨r5, f5, i5, b5, l5⟩, m12, m21, m13, m31, m14, m41, m15, m51, m23, m32, m24, m42, m25, m52, m34, m43, m35, m53, m45, m54⟩ := St.facts5 hC
              clear hC
              go_simp
              have hC := hC'.out
              (first
                 | with_reducible rfl
                 | (skip
                    (first
                       | (go_at_call 13; refine (ghMul_any _ _ _).mono ?_)
                       | (go_at_call 22; refine (xor_any _ _ _).mono ?_)
                       | (go_at_call 23; refine (one_any _).mono ?_)
                       | (go_at_call 17; refine (awake08_any _).mono ?_)
                       | (go_at_call 24; (first | (with_reducible refine (p0 _).mono ?_) | (with_reducible refine (p1 _).mono ?_) | (with_reducible refine (pi _).mono ?_) | (with_reducible refine (pk _).mono ?_) | (with_reducible refine (pm _).mono ?_) | (with_reducible refine (pn _).mono ?_) | (with_reducible refine (pq _).mono ?_)))
                       | (go_at_call 19; refine (ghFold_any _ _ _ (by first | assumption | decide) _).mono ?_))
                    rintro e w' ⟨rfl, hw⟩
                    exact ⟨rfl, St.call (by assumption) hw⟩)))
       try simp only [Act.put, List.setIfInBounds_toArray, List.set])
      (first
         | (apply head_skip rfl)
         | (apply head_step_g rfl
            focus
              intro w0 hC
              (first
                 | exact neq_quiet 23 rfl rfl rfl Try.eqGuardType23 Try.underlying23 (by simp [go_sem]) (by simp [go_sem]) (by first | with_reducible assumption | with_reducible rfl)
                 | exact eql_quiet 23 rfl rfl rfl Try.eqGuardType23 Try.underlying23 (by simp [go_sem]) (by simp [go_sem]) (by first | with_reducible assumption | with_reducible rfl)))
         | (apply head_step_g rfl
            focus
              intro w0 hC
              have hC' := Lib.hid hC
              obtain ⟨⟨r1, f1, i1, b1, l1⟩, ⟨r2, f2, i2, b2, l2⟩, ⟨r3, f3, i3, b3, l3⟩, ⟨r4, f4, i4, b4, l4⟩, ⟨r5, f5, i5, b5, l5⟩, m12, m21, m13, m31, m14, m41, m15, m51, m23, m32, m24, m42, m25, m52, m34, m43, m35, m53, m45, m54⟩ := St.facts5 hC
              clear hC
              go_simp
              have hC := hC'.out
              (first
                 | with_reducible rfl
                 | (skip
                    (first
                       | (go_at_call 13; refine (ghMul_any _ _ _).mono ?_)
                       | (go_at_call 22; refine (xor_any _ _ _).mono ?_)
                       | (go_at_call 23; refine (one_any _).mono ?_)
                       | (go_at_call 17; refine (awake08_any _).mono ?_)
                       | (go_at_call 24; (first | (with_reducible refine (p0 _).mono ?_) | (with_reducible refine (p1 _).mono ?_) | (with_reducible refine (pi _).mono ?_) | (with_reducible refine (pk _).mono ?_) | (with_reducible refine (pm _).mono ?_) | (with_reducible refine (pn _).mono ?_) | (with_reducible refine (pq _).mono ?_)))
                       | (go_at_call 19; refine (ghFold_any _ _ _ (by first | assumption | decide) _).mono ?_))
                    rintro e w' ⟨rfl, hw⟩
                    exact ⟨rfl, St.call (by assumption) hw⟩)))
       try simp only [Act.put, List.setIfInBounds_toArray, List.set])
      (first
         | (apply head_skip rfl)
         | (apply head_step_g rfl
            focus
              intro w0 hC
              (first
                 | exact neq_quiet 23 rfl rfl rfl Try.eqGuardType23 Try.underlying23 (by simp [go_sem]) (by simp [go_sem]) (by first | with_reducible assumption | with_reducible rfl)
                 | exact eql_quiet 23 rfl rfl rfl Try.eqGuardType23 Try.underlying23 (by simp [go_sem]) (by simp [go_sem]) (by first | with_reducible assumption | with_reducible rfl)))
         | (apply head_step_g rfl
            focus
              intro w0 hC
              have hC' := Lib.hid hC
              obtain ⟨⟨r1, f1, i1, b1, l1⟩, ⟨r2, f2, i2, b2, l2⟩, ⟨r3, f3, i3, b3, l3⟩, ⟨r4, f4, i4, b4, l4⟩, ⟨r5, f5, i5, b5, l5⟩, m12, m21, m13, m31, m14, m41, m15, m51, m23, m32, m24, m42, m25, m52, m34, m43, m35, m53, m45, m54⟩ := St.facts5 hC
              clear hC
              go_simp
              have hC := hC'.out
              (first
                 | with_reducible rfl
                 | (skip
                    (first
                       | (go_at_call 13; refine (ghMul_any _ _ _).mono ?_)
                       | (go_at_call 22; refine (xor_any _ _ _).mono ?_)
                       | (go_at_call 23; refine (one_any _).mono ?_)
                       | (go_at_call 17; refine (awake08_any _).mono ?_)
                       | (go_at_call 24; (first | (with_reducible refine (p0 _).mono ?_) | (with_reducible refine (p1 _).mono ?_) | (with_reducible refine (pi _).mono ?_) | (with_reducible refine (pk _).mono ?_) | (with_reducible refine (pm _).mono ?_) | (with_reducible refine (pn _).mono ?_) | (with_reducible refine (pq _).mono ?_)))
                       | (go_at_call 19; refine (ghFold_any _ _ _ (by first | assumption | decide) _).mono ?_))
                    rintro e w' ⟨rfl, hw⟩
                    exact ⟨rfl, St.call (by assumption) hw⟩)))
       try simp only [Act.put, List.setIfInBounds_toArray, List.set])
      (first
         | (apply head_skip rfl)
         | (apply head_step_g rfl
            focus
              intro w0 hC
              (first
                 | exact neq_quiet 23 rfl rfl rfl Try.eqGuardType23 Try.underlying23 (by simp [go_sem]) (by simp [go_sem]) (by first | with_reducible assumption | with_reducible rfl)
                 | exact eql_quiet 23 rfl rfl rfl Try.eqGuardType23 Try.underlying23 (by simp [go_sem]) (by simp [go_sem]) (by first | with_reducible assumption | with_reducible rfl)))
         | (apply head_step_g rfl
            focus
              intro w0 hC
              have hC' := Lib.hid hC
              obtain ⟨⟨r1, f1, i1, b1, l1⟩, ⟨r2, f2, i2, b2, l2⟩, ⟨r3, f3, i3, b3, l3⟩, ⟨r4, f4, i4, b4, l4⟩, ⟨r5, f5, i5, b5, l5⟩, m12, m21, m13, m31, m14, m41, m15, m51, m23, m32, m24, m42, m25, m52, m34, m43, m35, m53, m45, m54⟩ := St.facts5 hC
              clear hC
              go_simp
              have hC := hC'.out
              (first
                 | with_reducible rfl
                 | (skip
                    (first
                       | (go_at_call 13; refine (ghMul_any _ _ _).mono ?_)
                       | (go_at_call 22; refine (xor_any _ _ _).mono ?_)
                       | (go_at_call 23; refine (one_any _).mono ?_)
                       | (go_at_call 17; refine (awake08_any _).mono ?_)
                       | (go_at_call 24; (first | (with_reducible refine (p0 _).mono ?_) | (with_reducible refine (p1 _).mono ?_) | (with_reducible refine (pi _).mono ?_) | (with_reducible refine (pk _).mono ?_) | (with_reducible refine (pm _).mono ?_) | (with_reducible refine (pn _).mono ?_) | (with_reducible refine (pq _).mono ?_)))
                       | (go_at_call 19; refine (ghFold_any _ _ _ (by first | assumption | decide) _).mono ?_))
                    rintro e w' ⟨rfl, hw⟩
                    exact ⟨rfl, St.call (by assumption) hw⟩)))
       try simp only [Act.put, List.setIfInBounds_toArray, List.set])
      (first
         | (apply head_skip rfl)
         | (apply head_step_g rfl
            focus
              intro w0 hC
              (first
                 | exact neq_quiet 23 rfl rfl rfl Try.eqGuardType23 Try.underlying23 (by simp [go_sem]) (by simp [go_sem]) (by first | with_reducible assumption | with_reducible rfl)
                 | exact eql_quiet 23 rfl rfl rfl Try.eqGuardType23 Try.underlying23 (by simp [go_sem]) (by simp [go_sem]) (by first | with_reducible assumption | with_reducible rfl)))
         | (apply head_step_g rfl
            focus
              intro w0 hC
              have hC' := Lib.hid hC
              obtain ⟨⟨r1, f1, i1, b1, l1⟩, ⟨r2, f2, i2, b2, l2⟩, ⟨r3, f3, i3, b3, l3⟩, ⟨r4, f4, i4, b4, l4⟩, ⟨r5, f5, i5, b5, l5⟩, m12, m21, m13, m31, m14, m41, m15, m51, m23, m32, m24, m42, m25, m52, m34, m43, m35, m53, m45, m54⟩ := St.facts5 hC
              clear hC
              go_simp
              have hC := hC'.out
              (first
                 | with_reducible rfl
                 | (skip
                    (first
                       | (go_at_call 13; refine (ghMul_any _ _ _).mono ?_)
                       | (go_at_call 22; refine (xor_any _ _ _).mono ?_)
                       | (go_at_call 23; refine (one_any _).mono ?_)
                       | (go_at_call 17; refine (awake08_any _).mono ?_)
                       | (go_at_call 24; (first | (with_reducible refine (p0 _).mono ?_) | (with_reducible refine (p1 _).mono ?_) | (with_reducible refine (pi _).mono ?_) | (with_reducible refine (pk _).mono ?_) | (with_reducible refine (pm _).mono ?_) | (with_reducible refine (pn _).mono ?_) | (with_reducible refine (pq _).mono ?_)))
                       | (go_at_call 19; refine (ghFold_any _ _ _ (by first | assumption | decide) _).mono ?_))
                    rintro e w' ⟨rfl, hw⟩
                    exact ⟨rfl, St.call (by assumption) hw⟩)))
       try simp only [Act.put, List.setIfInBounds_toArray, List.set])
      (first
         | (apply head_skip rfl)
         | (apply head_step_g rfl
            focus
              intro w0 hC
              (first
                 | exact neq_quiet 23 rfl rfl rfl Try.eqGuardType23 Try.underlying23 (by simp [go_sem]) (by simp [go_sem]) (by first | with_reducible assumption | with_reducible rfl)
                 | exact eql_quiet 23 rfl rfl rfl Try.eqGuardType23 Try.underlying23 (by simp [go_sem]) (by simp [go_sem]) (by first | with_reducible assumption | with_reducible rfl)))
         | (apply head_step_g rfl
            focus
              intro w0 hC
              have hC' := Lib.hid hC
              obtain ⟨⟨r1, f1, i1, b1, l1⟩, ⟨r2, f2, i2, b2, l2⟩, ⟨r3, f3, i3, b3, l3⟩, ⟨r4, f4, i4, b4, l4⟩, ⟨r5, f5, i5, b5, l5⟩, m12, m21, m13, m31, m14, m41, m15, m51, m23, m32, m24, m42, m25, m52, m34, m43, m35, m53, m45, m54⟩ := St.facts5 hC
              clear hC
              go_simp
              have hC := hC'.out
              (first
                 | with_reducible rfl
                 | (skip
                    (first
                       | (go_at_call 13; refine (ghMul_any _ _ _).mono ?_)
                       | (go_at_call 22; refine (xor_any _ _ _).mono ?_)
                       | (go_at_call 23; refine (one_any _).mono ?_)
                       | (go_at_call 17; refine (awake08_any _).mono ?_)
                       | (go_at_call 24; (first | (with_reducible refine (p0 _).mono ?_) | (with_reducible refine (p1 _).mono ?_) | (with_reducible refine (pi _).mono ?_) | (with_reducible refine (pk _).mono ?_) | (with_reducible refine (pm _).mono ?_) | (with_reducible refine (pn _).mono ?_) | (with_reducible refine (pq _).mono ?_)))
                       | (go_at_call 19; refine (ghFold_any _ _ _ (by first | assumption | decide) _).mono ?_))
                    rintro e w' ⟨rfl, hw⟩
                    exact ⟨rfl, St.call (by assumption) hw⟩)))
       try simp only [Act.put, List.setIfInBounds_toArray, List.set])
      (first
         | (apply head_skip rfl)
         | (apply head_step_g rfl
            focus
              intro w0 hC
              (first
                 | exact neq_quiet 23 rfl rfl rfl Try.eqGuardType23 Try.underlying23 (by simp [go_sem]) (by simp [go_sem]) (by first | with_reducible assumption | with_reducible rfl)
                 | exact eql_quiet 23 rfl rfl rfl Try.eqGuardType23 Try.underlying23 (by simp [go_sem]) (by simp [go_sem]) (by first | with_reducible assumption | with_reducible rfl)))
         | (apply head_step_g rfl
            focus
              intro w0 hC
              have hC' := Lib.hid hC
              obtain ⟨⟨r1, f1, i1, b1, l1⟩, ⟨r2, f2, i2, b2, l2⟩, ⟨r3, f3, i3, b3, l3⟩, ⟨r4, f4, i4, b4, l4⟩, ⟨r5, f5, i5, b5, l5⟩, m12, m21, m13, m31, m14, m41, m15, m51, m23, m32, m24, m42, m25, m52, m34, m43, m35, m53, m45, m54⟩ := St.facts5 hC
              clear hC
              go_simp
              have hC := hC'.out
              (first
                 | with_reducible rfl
                 | (skip
                    (first
                       | (go_at_call 13; refine (ghMul_any _ _ _).mono ?_)
                       | (go_at_call 22; refine (xor_any _ _ _).mono ?_)
                       | (go_at_call 23; refine (one_any _).mono ?_)
                       | (go_at_call 17; refine (awake08_any _).mono ?_)
                       | (go_at_call 24; (first | (with_reducible refine (p0 _).mono ?_) | (with_reducible refine (p1 _).mono ?_) | (with_reducible refine (pi _).mono ?_) | (with_reducible refine (pk _).mono ?_) | (with_reducible refine (pm _).mono ?_) | (with_reducible refine (pn _).mono ?_) | (with_reducible refine (pq _).mono ?_)))
                       | (go_at_call 19; refine (ghFold_any _ _ _ (by first | assumption | decide) _).mono ?_))
                    rintro e w' ⟨rfl, hw⟩
                    exact ⟨rfl, St.call (by assumption) hw⟩)))
       try simp only [Act.put, List.setIfInBounds_toArray, List.set])
      (first
         | (apply head_skip rfl)
         | (apply head_step_g rfl
            focus
              intro w0 hC
              (first
                 | exact neq_quiet 23 rfl rfl rfl Try.eqGuardType23 Try.underlying23 (by simp [go_sem]) (by simp [go_sem]) (by first | with_reducible assumption | with_reducible rfl)
                 | exact eql_quiet 23 rfl rfl rfl Try.eqGuardType23 Try.underlying23 (by simp [go_sem]) (by simp [go_sem]) (by first | with_reducible assumption | with_reducible rfl)))
         | (apply head_step_g rfl
            focus
              intro w0 hC
              have hC' := Lib.hid hC
              obtain ⟨⟨r1, f1, i1, b1, l1⟩, ⟨r2, f2, i2, b2, l2⟩, ⟨r3, f3, i3, b3, l3⟩, ⟨r4, f4, i4, b4, l4⟩, ⟨r5, f5, i5, b5, l5⟩, m12, m21, m13, m31, m14, m41, m15, m51, m23, m32, m24, m42, m25, m52, m34, m43, m35, m53, m45, m54⟩ := St.facts5 hC
              clear hC
              go_simp
              have hC := hC'.out
              (first
                 | with_reducible rfl
                 | (skip
                    (first
                       | (go_at_call 13; refine (ghMul_any _ _ _).mono ?_)
                       | (go_at_call 22; refine (xor_any _ _ _).mono ?_)
                       | (go_at_call 23; refine (one_any _).mono ?_)
                       | (go_at_call 17; refine (awake08_any _).mono ?_)
                       | (go_at_call 24; (first | (with_reducible refine (p0 _).mono ?_) | (with_reducible refine (p1 _).mono ?_) | (with_reducible refine (pi _).mono ?_) | (with_reducible refine (pk _).mono ?_) | (with_reducible refine (pm _).mono ?_) | (with_reducible refine (pn _).mono ?_) | (with_reducible refine (pq _).mono ?_)))
                       | (go_at_call 19; refine (ghFold_any _ _ _ (by first | assumption | decide) _).mono ?_))
                    rintro e w' ⟨rfl, hw⟩
                    exact ⟨rfl, St.call (by assumption) hw⟩)))
       try simp only [Act.put, List.setIfInBounds_toArray, List.set])
      (first
         | (apply head_skip rfl)
         | (apply head_step_g rfl
            focus
              intro w0 hC
              (first
                 | exact neq_quiet 23 rfl rfl rfl Try.eqGuardType23 Try.underlying23 (by simp [go_sem]) (by simp [go_sem]) (by first | with_reducible assumption | with_reducible rfl)
                 | exact eql_quiet 23 rfl rfl rfl Try.eqGuardType23 Try.underlying23 (by simp [go_sem]) (by simp [go_sem]) (by first | with_reducible assumption | with_reducible rfl)))
         | (apply head_step_g rfl
            focus
              intro w0 hC
              have hC' := Lib.hid hC
              obtain ⟨⟨r1, f1, i1, b1, l1⟩, ⟨r2, f2, i2, b2, l2⟩, ⟨r3, f3, i3, b3, l3⟩, ⟨r4, f4, i4, b4, l4⟩, ⟨r5, f5, i5, b5, l5⟩, m12, m21, m13, m31, m14, m41, m15, m51, m23, m32, m24, m42, m25, m52, m34, m43, m35, m53, m45, m54⟩ := St.facts5 hC
              clear hC
              go_simp
              have hC := hC'.out
              (first
                 | with_reducible rfl
                 | (skip
                    (first
                       | (go_at_call 13; refine (ghMul_any _ _ _).mono ?_)
                       | (go_at_call 22; refine (xor_any _ _ _).mono ?_)
                       | (go_at_call 23; refine (one_any _).mono ?_)
                       | (go_at_call 17; refine (awake08_any _).mono ?_)
                       | (go_at_call 24; (first | (with_reducible refine (p0 _).mono ?_) | (with_reducible refine (p1 _).mono ?_) | (with_reducible refine (pi _).mono ?_) | (with_reducible refine (pk _).mono ?_) | (with_reducible refine (pm _).mono ?_) | (with_reducible refine (pn _).mono ?_) | (with_reducible refine (pq _).mono ?_)))
                       | (go_at_call 19; refine (ghFold_any _ _ _ (by first | assumption | decide) _).mono ?_))
                    rintro e w' ⟨rfl, hw⟩
                    exact ⟨rfl, St.call (by assumption) hw⟩)))
       try simp only [Act.put, List.setIfInBounds_toArray, List.set])
      (first
         | (apply head_skip rfl)
         | (apply head_step_g rfl
            focus
              intro w0 hC
              (first
                 | exact neq_quiet 23 rfl rfl rfl Try.eqGuardType23 Try.underlying23 (by simp [go_sem]) (by simp [go_sem]) (by first | with_reducible assumption | with_reducible rfl)
                 | exact eql_quiet 23 rfl rfl rfl Try.eqGuardType23 Try.underlying23 (by simp [go_sem]) (by simp [go_sem]) (by first | with_reducible assumption | with_reducible rfl)))
         | (apply head_step_g rfl
            focus
              intro w0 hC
              have hC' := Lib.hid hC
              obtain ⟨⟨r1, f1, i1, b1, l1⟩, ⟨r2, f2, i2, b2, l2⟩, ⟨r3, f3, i3, b3, l3⟩, ⟨r4, f4, i4, b4, l4⟩, ⟨r5, f5, i5, b5, l5⟩, m12, m21, m13, m31, m14, m41, m15, m51, m23, m32, m24, m42, m25, m52, m34, m43, m35, m53, m45, m54⟩ := St.facts5 hC
              clear hC
              go_simp
              have hC := hC'.out
              (first
                 | with_reducible rfl
                 | (skip
                    (first
                       | (go_at_call 13; refine (ghMul_any _ _ _).mono ?_)
                       | (go_at_call 22; refine (xor_any _ _ _).mono ?_)
                       | (go_at_call 23; refine (one_any _).mono ?_)
                       | (go_at_call 17; refine (awake08_any _).mono ?_)
                       | (go_at_call 24; (first | (with_reducible refine (p0 _).mono ?_) | (with_reducible refine (p1 _).mono ?_) | (with_reducible refine (pi _).mono ?_) | (with_reducible refine (pk _).mono ?_) | (with_reducible refine (pm _).mono ?_) | (with_reducible refine (pn _).mono ?_) | (with_reducible refine (pq _).mono ?_)))
                       | (go_at_call 19; refine (ghFold_any _ _ _ (by first | assumption | decide) _).mono ?_))
                    rintro e w' ⟨rfl, hw⟩
                    exact ⟨rfl, St.call (by assumption) hw⟩)))
       try simp only [Act.put, List.setIfInBounds_toArray, List.set])
      (first
         | (apply head_skip rfl)
         | (apply head_step_g rfl
            focus
              intro w0 hC
              (first
                 | exact neq_quiet 23 rfl rfl rfl Try.eqGuardType23 Try.underlying23 (by simp [go_sem]) (by simp [go_sem]) (by first | with_reducible assumption | with_reducible rfl)
                 | exact eql_quiet 23 rfl rfl rfl Try.eqGuardType23 Try.underlying23 (by simp [go_sem]) (by simp [go_sem]) (by first | with_reducible assumption | with_reducible rfl)))
         | (apply head_step_g rfl
            focus
              intro w0 hC
              have hC' := Lib.hid hC
              obtain ⟨⟨r1, f1, i1, b1, l1⟩, ⟨r2, f2, i2, b2, l2⟩, ⟨r3, f3, i3, b3, l3⟩, ⟨r4, f4, i4, b4, l4⟩, ⟨r5, f5, i5, b5, l5⟩, m12, m21, m13, m31, m14, m41, m15, m51, m23, m32, m24, m42, m25, m52, m34, m43, m35, m53, m45, m54⟩ := St.facts5 hC
              clear hC
              go_simp
              have hC := hC'.out
              (first
                 | with_reducible rfl
                 | (skip
                    (first
                       | (go_at_call 13; refine (ghMul_any _ _ _).mono ?_)
                       | (go_at_call 22; refine (xor_any _ _ _).mono ?_)
                       | (go_at_call 23; refine (one_any _).mono ?_)
                       | (go_at_call 17; refine (awake08_any _).mono ?_)
                       | (go_at_call 24; (first | (with_reducible refine (p0 _).mono ?_) | (with_reducible refine (p1 _).mono ?_) | (with_reducible refine (pi _).mono ?_) | (with_reducible refine (pk _).mono ?_) | (with_reducible refine (pm _).mono ?_) | (with_reducible refine (pn _).mono ?_) | (with_reducible refine (pq _).mono ?_)))
                       | (go_at_call 19; refine (ghFold_any _ _ _ (by first | assumption | decide) _).mono ?_))
                    rintro e w' ⟨rfl, hw⟩
                    exact ⟨rfl, St.call (by assumption) hw⟩)))
       try simp only [Act.put, List.setIfInBounds_toArray, List.set])
      (first
         | (apply head_skip rfl)
         | (apply head_step_g rfl
            focus
              intro w0 hC
              (first
                 | exact neq_quiet 23 rfl rfl rfl Try.eqGuardType23 Try.underlying23 (by simp [go_sem]) (by simp [go_sem]) (by first | with_reducible assumption | with_reducible rfl)
                 | exact eql_quiet 23 rfl rfl rfl Try.eqGuardType23 Try.underlying23 (by simp [go_sem]) (by simp [go_sem]) (by first | with_reducible assumption | with_reducible rfl)))
         | (apply head_step_g rfl
            focus
              intro w0 hC
              have hC' := Lib.hid hC
              obtain ⟨⟨r1, f1, i1, b1, l1⟩, ⟨r2, f2, i2, b2, l2⟩, ⟨r3, f3, i3, b3, l3⟩, ⟨r4, f4, i4, b4, l4⟩, ⟨r5, f5, i5, b5, l5⟩, m12, m21, m13, m31, m14, m41, m15, m51, m23, m32, m24, m42, m25, m52, m34, m43, m35, m53, m45, m54⟩ := St.facts5 hC
              clear hC
              go_simp
              have hC := hC'.out
              (first
                 | with_reducible rfl
                 | (skip
                    (first
                       | (go_at_call 13; refine (ghMul_any _ _ _).mono ?_)
                       | (go_at_call 22; refine (xor_any _ _ _).mono ?_)
                       | (go_at_call 23; refine (one_any _).mono ?_)
                       | (go_at_call 17; refine (awake08_any _).mono ?_)
                       | (go_at_call 24; (first | (with_reducible refine (p0 _).mono ?_) | (with_reducible refine (p1 _).mono ?_) | (with_reducible refine (pi _).mono ?_) | (with_reducible refine (pk _).mono ?_) | (with_reducible refine (pm _).mono ?_) | (with_reducible refine (pn _).mono ?_) | (with_reducible refine (pq _).mono ?_)))
                       | (go_at_call 19; refine (ghFold_any _ _ _ (by first | assumption | decide) _).mono ?_))
                    rintro e w' ⟨rfl, hw⟩
                    exact ⟨rfl, St.call (by assumption) hw⟩)))
       try simp only [Act.put, List.setIfInBounds_toArray, List.set])
      (first
         | (apply head_skip rfl)
         | (apply head_step_g rfl
            focus
              intro w0 hC
              (first
                 | exact neq_quiet 23 rfl rfl rfl Try.eqGuardType23 Try.underlying23 (by simp [go_sem]) (by simp [go_sem]) (by first | with_reducible assumption | with_reducible rfl)
                 | exact eql_quiet 23 rfl rfl rfl Try.eqGuardType23 Try.underlying23 (by simp [go_sem]) (by simp [go_sem]) (by first | with_reducible assumption | with_reducible rfl)))
         | (apply head_step_g rfl
            focus
              intro w0 hC
              have hC' := Lib.hid hC
              obtain ⟨⟨r1, f1, i1, b1, l1⟩, ⟨r2, f2, i2, b2, l2⟩, ⟨r3, f3, i3, b3, l3⟩, ⟨r4, f4, i4, b4, l4⟩, ⟨r5, f5, i5, b5, l5⟩, m12, m21, m13, m31, m14, m41, m15, m51, m23, m32, m24, m42, m25, m52, m34, m43, m35, m53, m45, m54⟩ := St.facts5 hC
              clear hC
              go_simp
              have hC := hC'.out
              (first
                 | with_reducible rfl
                 | (skip
                    (first
                       | (go_at_call 13; refine (ghMul_any _ _ _).mono ?_)
                       | (go_at_call 22; refine (xor_any _ _ _).mono ?_)
                       | (go_at_call 23; refine (one_any _).mono ?_)
                       | (go_at_call 17; refine (awake08_any _).mono ?_)
                       | (go_at_call 24; (first | (with_reducible refine (p0 _).mono ?_) | (with_reducible refine (p1 _).mono ?_) | (with_reducible refine (pi _).mono ?_) | (with_reducible refine (pk _).mono ?_) | (with_reducible refine (pm _).mono ?_) | (with_reducible refine (pn _).mono ?_) | (with_reducible refine (pq _).mono ?_)))
                       | (go_at_call 19; refine (ghFold_any _ _ _ (by first | assumption | decide) _).mono ?_))
                    rintro e w' ⟨rfl, hw⟩
                    exact ⟨rfl, St.call (by assumption) hw⟩)))
       try simp only [Act.put, List.setIfInBounds_toArray, List.set])
      (first
         | (apply head_skip rfl)
         | (apply head_step_g rfl
            focus
              intro w0 hC
              (first
                 | exact neq_quiet 23 rfl rfl rfl Try.eqGuardType23 Try.underlying23 (by simp [go_sem]) (by simp [go_sem]) (by first | with_reducible assumption | with_reducible rfl)
                 | exact eql_quiet 23 rfl rfl rfl Try.eqGuardType23 Try.underlying23 (by simp [go_sem]) (by simp [go_sem]) (by first | with_reducible assumption | with_reducible rfl)))
         | (apply head_step_g rfl
            focus
              intro w0 hC
              have hC' := Lib.hid hC
              obtain ⟨⟨r1, f1, i1, b1, l1⟩, ⟨r2, f2, i2, b2, l2⟩, ⟨r3, f3, i3, b3, l3⟩, ⟨r4, f4, i4, b4, l4⟩, ⟨r5, f5, i5, b5, l5⟩, m12, m21, m13, m31, m14, m41, m15, m51, m23, m32, m24, m42, m25, m52, m34, m43, m35, m53, m45, m54⟩ := St.facts5 hC
              clear hC
              go_simp
              have hC := hC'.out
              (first
                 | with_reducible rfl
                 | (skip
                    (first
                       | (go_at_call 13; refine (ghMul_any _ _ _).mono ?_)
                       | (go_at_call 22; refine (xor_any _ _ _).mono ?_)
                       | (go_at_call 23; refine (one_any _).mono ?_)
                       | (go_at_call 17; refine (awake08_any _).mono ?_)
                       | (go_at_call 24; (first | (with_reducible refine (p0 _).mono ?_) | (with_reducible refine (p1 _).mono ?_) | (with_reducible refine (pi _).mono ?_) | (with_reducible refine (pk _).mono ?_) | (with_reducible refine (pm _).mono ?_) | (with_reducible refine (pn _).mono ?_) | (with_reducible refine (pq _).mono ?_)))
                       | (go_at_call 19; refine (ghFold_any _ _ _ (by first | assumption | decide) _).mono ?_))
                    rintro e w' ⟨rfl, hw⟩
                    exact ⟨rfl, St.call (by assumption) hw⟩)))
       try simp only [Act.put, List.setIfInBounds_toArray, List.set])
      (first
         | (apply head_skip rfl)
         | (apply head_step_g rfl
            focus
              intro w0 hC
              (first
                 | exact neq_quiet 23 rfl rfl rfl Try.eqGuardType23 Try.underlying23 (by simp [go_sem]) (by simp [go_sem]) (by first | with_reducible assumption | with_reducible rfl)
                 | exact eql_quiet 23 rfl rfl rfl Try.eqGuardType23 Try.underlying23 (by simp [go_sem]) (by simp [go_sem]) (by first | with_reducible assumption | with_reducible rfl)))
         | (apply head_step_g rfl
            focus
              intro w0 hC
              have hC' := Lib.hid hC
              obtain ⟨⟨r1, f1, i1, b1, l1⟩, ⟨r2, f2, i2, b2, l2⟩, ⟨r3, f3, i3, b3, l3⟩, ⟨r4, f4, i4, b4, l4⟩, ⟨r5, f5, i5, b5, l5⟩, m12, m21, m13, m31, m14, m41, m15, m51, m23, m32, m24, m42, m25, m52, m34, m43, m35, m53, m45, m54⟩ := St.facts5 hC
              clear hC
              go_simp
              have hC := hC'.out
              (first
                 | with_reducible rfl
                 | (skip
                    (first
                       | (go_at_call 13; refine (ghMul_any _ _ _).mono ?_)
                       | (go_at_call 22; refine (xor_any _ _ _).mono ?_)
                       | (go_at_call 23; refine (one_any _).mono ?_)
                       | (go_at_call 17; refine (awake08_any _).mono ?_)
                       | (go_at_call 24; (first | (with_reducible refine (p0 _).mono ?_) | (with_reducible refine (p1 _).mono ?_) | (with_reducible refine (pi _).mono ?_) | (with_reducible refine (pk _).mono ?_) | (with_reducible refine (pm _).mono ?_) | (with_reducible refine (pn _).mono ?_) | (with_reducible refine (pq _).mono ?_)))
                       | (go_at_call 19; refine (ghFold_any _ _ _ (by first | assumption | decide) _).mono ?_))
                    rintro e w' ⟨rfl, hw⟩
                    exact ⟨rfl, St.call (by assumption) hw⟩)))
       try simp only [Act.put, List.setIfInBounds_toArray, List.set])
      (first
         | (apply head_skip rfl)
         | (apply head_step_g rfl
            focus
              intro w0 hC
              (first
                 | exact neq_quiet 23 rfl rfl rfl Try.eqGuardType23 Try.underlying23 (by simp [go_sem]) (by simp [go_sem]) (by first | with_reducible assumption | with_reducible rfl)
                 | exact eql_quiet 23 rfl rfl rfl Try.eqGuardType23 Try.underlying23 (by simp [go_sem]) (by simp [go_sem]) (by first | with_reducible assumption | with_reducible rfl)))
         | (apply head_step_g rfl
            focus
              intro w0 hC
              have hC' := Lib.hid hC
              obtain ⟨⟨r1, f1, i1, b1, l1⟩, ⟨r2, f2, i2, b2, l2⟩, ⟨r3, f3, i3, b3, l3⟩, ⟨r4, f4, i4, b4, l4⟩, ⟨r5, f5, i5, b5, l5⟩, m12, m21, m13, m31, m14, m41, m15, m51, m23, m32, m24, m42, m25, m52, m34, m43, m35, m53, m45, m54⟩ := St.facts5 hC
              clear hC
              go_simp
              have hC := hC'.out
              (first
                 | with_reducible rfl
                 | (skip
                    (first
                       | (go_at_call 13; refine (ghMul_any _ _ _).mono ?_)
                       | (go_at_call 22; refine (xor_any _ _ _).mono ?_)
                       | (go_at_call 23; refine (one_any _).mono ?_)
                       | (go_at_call 17; refine (awake08_any _).mono ?_)
                       | (go_at_call 24; (first | (with_reducible refine (p0 _).mono ?_) | (with_reducible refine (p1 _).mono ?_) | (with_reducible refine (pi _).mono ?_) | (with_reducible refine (pk _).mono ?_) | (with_reducible refine (pm _).mono ?_) | (with_reducible refine (pn _).mono ?_) | (with_reducible refine (pq _).mono ?_)))
                       | (go_at_call 19; refine (ghFold_any _ _ _ (by first | assumption | decide) _).mono ?_))
                    rintro e w' ⟨rfl, hw⟩
                    exact ⟨rfl, St.call (by assumption) hw⟩)))
       try simp only [Act.put, List.setIfInBounds_toArray, List.set])
      (first
         | (apply head_skip rfl)
         | (apply head_step_g rfl
            focus
              intro w0 hC
              (first
                 | exact neq_quiet 23 rfl rfl rfl Try.eqGuardType23 Try.underlying23 (by simp [go_sem]) (by simp [go_sem]) (by first | with_reducible assumption | with_reducible rfl)
                 | exact eql_quiet 23 rfl rfl rfl Try.eqGuardType23 Try.underlying23 (by simp [go_sem]) (by simp [go_sem]) (by first | with_reducible assumption | with_reducible rfl)))
         | (apply head_step_g rfl
            focus
              intro w0 hC
              have hC' := Lib.hid hC
              obtain ⟨⟨r1, f1, i1, b1, l1⟩, ⟨r2, f2, i2, b2, l2⟩, ⟨r3, f3, i3, b3, l3⟩, ⟨r4, f4, i4, b4, l4⟩, ⟨r5, f5, i5, b5, l5⟩, m12, m21, m13, m31, m14, m41, m15, m51, m23, m32, m24, m42, m25, m52, m34, m43, m35, m53, m45, m54⟩ := St.facts5 hC
              clear hC
              go_simp
              have hC := hC'.out
              (first
                 | with_reducible rfl
                 | (skip
                    (first
                       | (go_at_call 13; refine (ghMul_any _ _ _).mono ?_)
                       | (go_at_call 22; refine (xor_any _ _ _).mono ?_)
                       | (go_at_call 23; refine (one_any _).mono ?_)
                       | (go_at_call 17; refine (awake08_any _).mono ?_)
                       | (go_at_call 24; (first | (with_reducible refine (p0 _).mono ?_) | (with_reducible refine (p1 _).mono ?_) | (with_reducible refine (pi _).mono ?_) | (with_reducible refine (pk _).mono ?_) | (with_reducible refine (pm _).mono ?_) | (with_reducible refine (pn _).mono ?_) | (with_reducible refine (pq _).mono ?_)))
                       | (go_at_call 19; refine (ghFold_any _ _ _ (by first | assumption | decide) _).mono ?_))
                    rintro e w' ⟨rfl, hw⟩
                    exact ⟨rfl, St.call (by assumption) hw⟩)))
       try simp only [Act.put, List.setIfInBounds_toArray, List.set])
      (first
         | (apply head_skip rfl)
         | (apply head_step_g rfl
            focus
              intro w0 hC
              (first
                 | exact neq_quiet 23 rfl rfl rfl Try.eqGuardType23 Try.underlying23 (by simp [go_sem]) (by simp [go_sem]) (by first | with_reducible assumption | with_reducible rfl)
                 | exact eql_quiet 23 rfl rfl rfl Try.eqGuardType23 Try.underlying23 (by simp [go_sem]) (by simp [go_sem]) (by first | with_reducible assumption | with_reducible rfl)))
         | (apply head_step_g rfl
            focus
              intro w0 hC
              have hC' := Lib.hid hC
              obtain ⟨⟨r1, f1, i1, b1, l1⟩, ⟨r2, f2, i2, b2, l2⟩, ⟨r3, f3, i3, b3, l3⟩, ⟨r4, f4, i4, b4, l4⟩, ⟨r5, f5, i5, b5, l5⟩, m12, m21, m13, m31, m14, m41, m15, m51, m23, m32, m24, m42, m25, m52, m34, m43, m35, m53, m45, m54⟩ := St.facts5 hC
              clear hC
              go_simp
              have hC := hC'.out
              (first
                 | with_reducible rfl
                 | (skip
                    (first
                       | (go_at_call 13; refine (ghMul_any _ _ _).mono ?_)
                       | (go_at_call 22; refine (xor_any _ _ _).mono ?_)
                       | (go_at_call 23; refine (one_any _).mono ?_)
                       | (go_at_call 17; refine (awake08_any _).mono ?_)
                       | (go_at_call 24; (first | (with_reducible refine (p0 _).mono ?_) | (with_reducible refine (p1 _).mono ?_) | (with_reducible refine (pi _).mono ?_) | (with_reducible refine (pk _).mono ?_) | (with_reducible refine (pm _).mono ?_) | (with_reducible refine (pn _).mono ?_) | (with_reducible refine (pq _).mono ?_)))
                       | (go_at_call 19; refine (ghFold_any _ _ _ (by first | assumption | decide) _).mono ?_))
                    rintro e w' ⟨rfl, hw⟩
                    exact ⟨rfl, St.call (by assumption) hw⟩)))
       try simp only [Act.put, List.setIfInBounds_toArray, List.set])
      (first
         | (apply head_skip rfl)
         | (apply head_step_g rfl
            focus
              intro w0 hC
              (first
                 | exact neq_quiet 23 rfl rfl rfl Try.eqGuardType23 Try.underlying23 (by simp [go_sem]) (by simp [go_sem]) (by first | with_reducible assumption | with_reducible rfl)
                 | exact eql_quiet 23 rfl rfl rfl Try.eqGuardType23 Try.underlying23 (by simp [go_sem]) (by simp [go_sem]) (by first | with_reducible assumption | with_reducible rfl)))
         | (apply head_step_g rfl
            focus
              intro w0 hC
              have hC' := Lib.hid hC
              obtain ⟨⟨r1, f1, i1, b1, l1⟩, ⟨r2, f2, i2, b2, l2⟩, ⟨r3, f3, i3, b3, l3⟩, ⟨r4, f4, i4, b4, l4⟩, ⟨r5, f5, i5, b5, l5⟩, m12, m21, m13, m31, m14, m41, m15, m51, m23, m32, m24, m42, m25, m52, m34, m43, m35, m53, m45, m54⟩ := St.facts5 hC
              clear hC
              go_simp
              have hC := hC'.out
              (first
                 | with_reducible rfl
                 | (skip
                    (first
                       | (go_at_call 13; refine (ghMul_any _ _ _).mono ?_)
                       | (go_at_call 22; refine (xor_any _ _ _).mono ?_)
                       | (go_at_call 23; refine (one_any _).mono ?_)
                       | (go_at_call 17; refine (awake08_any _).mono ?_)
                       | (go_at_call 24; (first | (with_reducible refine (p0 _).mono ?_) | (with_reducible refine (p1 _).mono ?_) | (with_reducible refine (pi _).mono ?_) | (with_reducible refine (pk _).mono ?_) | (with_reducible refine (pm _).mono ?_) | (with_reducible refine (pn _).mono ?_) | (with_reducible refine (pq _).mono ?_)))
                       | (go_at_call 19; refine (ghFold_any _ _ _ (by first | assumption | decide) _).mono ?_))
                    rintro e w' ⟨rfl, hw⟩
                    exact ⟨rfl, St.call (by assumption) hw⟩)))
       try simp only [Act.put, List.setIfInBounds_toArray, List.set])
      (first
         | (apply head_skip rfl)
         | (apply head_step_g rfl
            focus
              intro w0 hC
              (first
                 | exact neq_quiet 23 rfl rfl rfl Try.eqGuardType23 Try.underlying23 (by simp [go_sem]) (by simp [go_sem]) (by first | with_reducible assumption | with_reducible rfl)
                 | exact eql_quiet 23 rfl rfl rfl Try.eqGuardType23 Try.underlying23 (by simp [go_sem]) (by simp [go_sem]) (by first | with_reducible assumption | with_reducible rfl)))
         | (apply head_step_g rfl
            focus
              intro w0 hC
              have hC' := Lib.hid hC
              obtain ⟨⟨r1, f1, i1, b1, l1⟩, ⟨r2, f2, i2, b2, l2⟩, ⟨r3, f3, i3, b3, l3⟩, ⟨r4, f4, i4, b4, l4⟩, ⟨r5, f5, i5, b5, l5⟩, m12, m21, m13, m31, m14, m41, m15, m51, m23, m32, m24, m42, m25, m52, m34, m43, m35, m53, m45, m54⟩ := St.facts5 hC
              clear hC
              go_simp
              have hC := hC'.out
              (first
                 | with_reducible rfl
                 | (skip
                    (first
                       | (go_at_call 13; refine (ghMul_any _ _ _).mono ?_)
                       | (go_at_call 22; refine (xor_any _ _ _).mono ?_)
                       | (go_at_call 23; refine (one_any _).mono ?_)
                       | (go_at_call 17; refine (awake08_any _).mono ?_)
                       | (go_at_call 24; (first | (with_reducible refine (p0 _).mono ?_) | (with_reducible refine (p1 _).mono ?_) | (with_reducible refine (pi _).mono ?_) | (with_reducible refine (pk _).mono ?_) | (with_reducible refine (pm _).mono ?_) | (with_reducible refine (pn _).mono ?_) | (with_reducible refine (pq _).mono ?_)))
                       | (go_at_call 19; refine (ghFold_any _ _ _ (by first | assumption | decide) _).mono ?_))
                    rintro e w' ⟨rfl, hw⟩
                    exact ⟨rfl, St.call (by assumption) hw⟩)))
       try simp only [Act.put, List.setIfInBounds_toArray, List.set])
      (first
         | (apply head_skip rfl)
         | (apply head_step_g rfl
            focus
              intro w0 hC
              (first
                 | exact neq_quiet 23 rfl rfl rfl Try.eqGuardType23 Try.underlying23 (by simp [go_sem]) (by simp [go_sem]) (by first | with_reducible assumption | with_reducible rfl)
                 | exact eql_quiet 23 rfl rfl rfl Try.eqGuardType23 Try.underlying23 (by simp [go_sem]) (by simp [go_sem]) (by first | with_reducible assumption | with_reducible rfl)))
         | (apply head_step_g rfl
            focus
              intro w0 hC
              have hC' := Lib.hid hC
              obtain ⟨⟨r1, f1, i1, b1, l1⟩, ⟨r2, f2, i2, b2, l2⟩, ⟨r3, f3, i3, b3, l3⟩, ⟨r4, f4, i4, b4, l4⟩, ⟨r5, f5, i5, b5, l5⟩, m12, m21, m13, m31, m14, m41, m15, m51, m23, m32, m24, m42, m25, m52, m34, m43, m35, m53, m45, m54⟩ := St.facts5 hC
              clear hC
              go_simp
              have hC := hC'.out
              (first
                 | with_reducible rfl
                 | (skip
                    (first
                       | (go_at_call 13; refine (ghMul_any _ _ _).mono ?_)
                       | (go_at_call 22; refine (xor_any _ _ _).mono ?_)
                       | (go_at_call 23; refine (one_any _).mono ?_)
                       | (go_at_call 17; refine (awake08_any _).mono ?_)
                       | (go_at_call 24; (first | (with_reducible refine (p0 _).mono ?_) | (with_reducible refine (p1 _).mono ?_) | (with_reducible refine (pi _).mono ?_) | (with_reducible refine (pk _).mono ?_) | (with_reducible refine (pm _).mono ?_) | (with_reducible refine (pn _).mono ?_) | (with_reducible refine (pq _).mono ?_)))
                       | (go_at_call 19; refine (ghFold_any _ _ _ (by first | assumption | decide) _).mono ?_))
                    rintro e w' ⟨rfl, hw⟩
                    exact ⟨rfl, St.call (by assumption) hw⟩)))
       try simp only [Act.put, List.setIfInBounds_toArray, List.set])
      (first
         | (apply head_skip rfl)
         | (apply head_step_g rfl
            focus
              intro w0 hC
              (first
                 | exact neq_quiet 23 rfl rfl rfl Try.eqGuardType23 Try.underlying23 (by simp [go_sem]) (by simp [go_sem]) (by first | with_reducible assumption | with_reducible rfl)
                 | exact eql_quiet 23 rfl rfl rfl Try.eqGuardType23 Try.underlying23 (by simp [go_sem]) (by simp [go_sem]) (by first | with_reducible assumption | with_reducible rfl)))
         | (apply head_step_g rfl
            focus
              intro w0 hC
              have hC' := Lib.hid hC
              obtain ⟨⟨r1, f1, i1, b1, l1⟩, ⟨r2, f2, i2, b2, l2⟩, ⟨r3, f3, i3, b3, l3⟩, ⟨r4, f4, i4, b4, l4⟩, ⟨r5, f5, i5, b5, l5⟩, m12, m21, m13, m31, m14, m41, m15, m51, m23, m32, m24, m42, m25, m52, m34, m43, m35, m53, m45, m54⟩ := St.facts5 hC
              clear hC
              go_simp
              have hC := hC'.out
              (first
                 | with_reducible rfl
                 | (skip
                    (first
                       | (go_at_call 13; refine (ghMul_any _ _ _).mono ?_)
                       | (go_at_call 22; refine (xor_any _ _ _).mono ?_)
                       | (go_at_call 23; refine (one_any _).mono ?_)
                       | (go_at_call 17; refine (awake08_any _).mono ?_)
                       | (go_at_call 24; (first | (with_reducible refine (p0 _).mono ?_) | (with_reducible refine (p1 _).mono ?_) | (with_reducible refine (pi _).mono ?_) | (with_reducible refine (pk _).mono ?_) | (with_reducible refine (pm _).mono ?_) | (with_reducible refine (pn _).mono ?_) | (with_reducible refine (pq _).mono ?_)))
                       | (go_at_call 19; refine (ghFold_any _ _ _ (by first | assumption | decide) _).mono ?_))
                    rintro e w' ⟨rfl, hw⟩
                    exact ⟨rfl, St.call (by assumption) hw⟩)))
       try simp only [Act.put, List.setIfInBounds_toArray, List.set])
      (first
         | (apply head_skip rfl)
         | (apply head_step_g rfl
            focus
              intro w0 hC
              (first
                 | exact neq_quiet 23 rfl rfl rfl Try.eqGuardType23 Try.underlying23 (by simp [go_sem]) (by simp [go_sem]) (by first | with_reducible assumption | with_reducible rfl)
                 | exact eql_quiet 23 rfl rfl rfl Try.eqGuardType23 Try.underlying23 (by simp [go_sem]) (by simp [go_sem]) (by first | with_reducible assumption | with_reducible rfl)))
         | (apply head_step_g rfl
            focus
              intro w0 hC
              have hC' := Lib.hid hC
              obtain ⟨⟨r1, f1, i1, b1, l1⟩, ⟨r2, f2, i2, b2, l2⟩, ⟨r3, f3, i3, b3, l3⟩, ⟨r4, f4, i4, b4, l4⟩, ⟨r5, f5, i5, b5, l5⟩, m12, m21, m13, m31, m14, m41, m15, m51, m23, m32, m24, m42, m25, m52, m34, m43, m35, m53, m45, m54⟩ := St.facts5 hC
              clear hC
              go_simp
              have hC := hC'.out
              (first
                 | with_reducible rfl
                 | (skip
                    (first
                       | (go_at_call 13; refine (ghMul_any _ _ _).mono ?_)
                       | (go_at_call 22; refine (xor_any _ _ _).mono ?_)
                       | (go_at_call 23; refine (one_any _).mono ?_)
                       | (go_at_call 17; refine (awake08_any _).mono ?_)
                       | (go_at_call 24; (first | (with_reducible refine (p0 _).mono ?_) | (with_reducible refine (p1 _).mono ?_) | (with_reducible refine (pi _).mono ?_) | (with_reducible refine (pk _).mono ?_) | (with_reducible refine (pm _).mono ?_) | (with_reducible refine (pn _).mono ?_) | (with_reducible refine (pq _).mono ?_)))
                       | (go_at_call 19; refine (ghFold_any _ _ _ (by first | assumption | decide) _).mono ?_))
                    rintro e w' ⟨rfl, hw⟩
                    exact ⟨rfl, St.call (by assumption) hw⟩)))
       try simp only [Act.put, List.setIfInBounds_toArray, List.set])
      refine wpQuiet_nil ?_
      intro w3 hC
      clear v5 v6 v9 v10 pm pi pk p0 p1 pn e1 e2 e3 HC
      have HC := Lib.hid hC
      clear hC hi hk
      have q1 : (s.size : Int) / 32 = (quo32 s.size : Int) := by unfold quo32; omega
      have q2 : (s.size : Int).tdiv 32 = (quo32 s.size : Int) := by rw [Int.tdiv_eq_ediv_of_nonneg (by omega)]; exact q1
      have q3 : IntKind.i64.wrap (quo32 s.size : Int) = (quo32 s.size : Int) := IntWalk.i64_in _ (by unfold quo32; omega)
      have q4 : IntKind.i64.wrap ((quo32 s.size : Int) * 16) = (cut16 s.size : Int) := by unfold quo32 cut16; rw [IntWalk.i64_in _ (by omega)]; omega
      have c0 : s.size ≤ 100 := by omega
      have hs0 : s.size ≤ maxLen := by unfold maxLen; omega
      have c1 : cut16 s.size ≤ s.size := by unfold cut16; omega
      have c2 : (cut16 s.size : Int) ≤ (s.size : Int) := by omega
      have hs1 : (s.extract 0 (cut16 s.size)).size ≤ maxLen := by rw [ByteArray.size_extract]; unfold maxLen; omega
      have hs2 : (s.extract (cut16 s.size) s.size).size ≤ maxLen := by rw [ByteArray.size_extract]; unfold maxLen; omega
      have e4 := fold_split l x s (cut16 s.size) (by unfold cut16; omega) c1
      have e5 := fold_none l x
      go_wp2_with fail
      as_aux_lemma =>
        clear q1 q2 q3 q4
        refine St.region HC.out (by kernel_rfl) (by kernel_rfl) ?_
        (first
           | (apply head_skip rfl)
           | (apply head_step_g rfl
              focus
                intro w0 hC
                (first
                   | exact neq_quiet 23 rfl rfl rfl Try.eqGuardType23 Try.underlying23 (by simp [go_sem]) (by simp [go_sem]) (by first | with_reducible assumption | with_reducible rfl)
                   | exact eql_quiet 23 rfl rfl rfl Try.eqGuardType23 Try.underlying23 (by simp [go_sem]) (by simp [go_sem]) (by first | with_reducible assumption | with_reducible rfl)))
           | (apply head_step_g rfl
              focus
                intro w0 hC
                have hC' := Lib.hid hC
                obtain ⟨⟨r1, f1, i1, b1, l1⟩, ⟨r2, f2, i2, b2, l2⟩, ⟨r3, f3, i3, b3, l3⟩, ⟨r4, f4, i4, b4, l4⟩, ⟨r5, f5, i5, b5, l5⟩, m12, m21, m13, m31, m14, m41, m15, m51, m23, m32, m24, m42, m25, m52, m34, m43, m35, m53, m45, m54⟩ := St.facts5 hC
                clear hC
                go_simp
                have hC := hC'.out
                (first
                   | with_reducible rfl
                   | (skip
                      (first
                         | (go_at_call 13; refine (ghMul_any _ _ _).mono ?_)
                         | (go_at_call 22; refine (xor_any _ _ _).mono ?_)
                         | (go_at_call 23; refine (one_any _).mono ?_)
                         | (go_at_call 17; refine (awake08_any _).mono ?_)
                         | (go_at_call 24; (first | (with_reducible refine (p0 _).mono ?_) | (with_reducible refine (p1 _).mono ?_) | (with_reducible refine (pi _).mono ?_) | (with_reducible refine (pk _).mono ?_) | (with_reducible refine (pm _).mono ?_) | (with_reducible refine (pn _).mono ?_) | (with_reducible refine (pq _).mono ?_)))
                         | (go_at_call 19; refine (ghFold_any _ _ _ (by first | assumption | decide) _).mono ?_))
                      rintro e w' ⟨rfl, hw⟩
                      exact ⟨rfl, St.call (by assumption) hw⟩)))
         try simp only [Act.put, List.setIfInBounds_toArray, List.set])
        (first
           | (apply head_skip rfl)
           | (apply head_step_g rfl
              focus
                intro w0 hC
                (first
                   | exact neq_quiet 23 rfl rfl rfl Try.eqGuardType23 Try.underlying23 (by simp [go_sem]) (by simp [go_sem]) (by first | with_reducible assumption | with_reducible rfl)
                   | exact eql_quiet 23 rfl rfl rfl Try.eqGuardType23 Try.underlying23 (by simp [go_sem]) (by simp [go_sem]) (by first | with_reducible assumption | with_reducible rfl)))
           | (apply head_step_g rfl
              focus
                intro w0 hC
                have hC' := Lib.hid hC
                obtain ⟨⟨r1, f1, i1, b1, l1⟩, ⟨r2, f2, i2, b2, l2⟩, ⟨r3, f3, i3, b3, l3⟩, ⟨r4, f4, i4, b4, l4⟩, ⟨r5, f5, i5, b5, l5⟩, m12, m21, m13, m31, m14, m41, m15, m51, m23, m32, m24, m42, m25, m52, m34, m43, m35, m53, m45, m54⟩ := St.facts5 hC
                clear hC
                go_simp
                have hC := hC'.out
                (first
                   | with_reducible rfl
                   | (skip
                      (first
                         | (go_at_call 13; refine (ghMul_any _ _ _).mono ?_)
                         | (go_at_call 22; refine (xor_any _ _ _).mono ?_)
                         | (go_at_call 23; refine (one_any _).mono ?_)
                         | (go_at_call 17; refine (awake08_any _).mono ?_)
                         | (go_at_call 24; (first | (with_reducible refine (p0 _).mono ?_) | (with_reducible refine (p1 _).mono ?_) | (with_reducible refine (pi _).mono ?_) | (with_reducible refine (pk _).mono ?_) | (with_reducible refine (pm _).mono ?_) | (with_reducible refine (pn _).mono ?_) | (with_reducible refine (pq _).mono ?_)))
                         | (go_at_call 19; refine (ghFold_any _ _ _ (by first | assumption | decide) _).mono ?_))
                      rintro e w' ⟨rfl, hw⟩
                      exact ⟨rfl, St.call (by assumption) hw⟩)))
         try simp only [Act.put, List.setIfInBounds_toArray, List.set])
        (first
           | (apply head_skip rfl)
           | (apply head_step_g rfl
              focus
                intro w0 hC
                (first
                   | exact neq_quiet 23 rfl rfl rfl Try.eqGuardType23 Try.underlying23 (by simp [go_sem]) (by simp [go_sem]) (by first | with_reducible assumption | with_reducible rfl)
                   | exact eql_quiet 23 rfl rfl rfl Try.eqGuardType23 Try.underlying23 (by simp [go_sem]) (by simp [go_sem]) (by first | with_reducible assumption | with_reducible rfl)))
           | (apply head_step_g rfl
              focus
                intro w0 hC
                have hC' := Lib.hid hC
                obtain ⟨⟨r1, f1, i1, b1, l1⟩, ⟨r2, f2, i2, b2, l2⟩, ⟨r3, f3, i3, b3, l3⟩, ⟨r4, f4, i4, b4, l4⟩, ⟨r5, f5, i5, b5, l5⟩, m12, m21, m13, m31, m14, m41, m15, m51, m23, m32, m24, m42, m25, m52, m34, m43, m35, m53, m45, m54⟩ := St.facts5 hC
                clear hC
                go_simp
                have hC := hC'.out
                (first
                   | with_reducible rfl
                   | (skip
                      (first
                         | (go_at_call 13; refine (ghMul_any _ _ _).mono ?_)
                         | (go_at_call 22; refine (xor_any _ _ _).mono ?_)
                         | (go_at_call 23; refine (one_any _).mono ?_)
                         | (go_at_call 17; refine (awake08_any _).mono ?_)
                         | (go_at_call 24; (first | (with_reducible refine (p0 _).mono ?_) | (with_reducible refine (p1 _).mono ?_) | (with_reducible refine (pi _).mono ?_) | (with_reducible refine (pk _).mono ?_) | (with_reducible refine (pm _).mono ?_) | (with_reducible refine (pn _).mono ?_) | (with_reducible refine (pq _).mono ?_)))
                         | (go_at_call 19; refine (ghFold_any _ _ _ (by first | assumption | decide) _).mono ?_))
                      rintro e w' ⟨rfl, hw⟩
                      exact ⟨rfl, St.call (by assumption) hw⟩)))
         try simp only [Act.put, List.setIfInBounds_toArray, List.set])
        (first
           | (apply head_skip rfl)
           | (apply head_step_g rfl
              focus
                intro w0 hC
                (first
                   | exact neq_quiet 23 rfl rfl rfl Try.eqGuardType23 Try.underlying23 (by simp [go_sem]) (by simp [go_sem]) (by first | with_reducible assumption | with_reducible rfl)
                   | exact eql_quiet 23 rfl rfl rfl Try.eqGuardType23 Try.underlying23 (by simp [go_sem]) (by simp [go_sem]) (by first | with_reducible assumption | with_reducible rfl)))
           | (apply head_step_g rfl
              focus
                intro w0 hC
                have hC' := Lib.hid hC
                obtain ⟨⟨r1, f1, i1, b1, l1⟩, ⟨r2, f2, i2, b2, l2⟩, ⟨r3, f3, i3, b3, l3⟩, ⟨r4, f4, i4, b4, l4⟩, ⟨r5, f5, i5, b5, l5⟩, m12, m21, m13, m31, m14, m41, m15, m51, m23, m32, m24, m42, m25, m52, m34, m43, m35, m53, m45, m54⟩ := St.facts5 hC
                clear hC
                go_simp
                have hC := hC'.out
                (first
                   | with_reducible rfl
                   | (skip
                      (first
                         | (go_at_call 13; refine (ghMul_any _ _ _).mono ?_)
                         | (go_at_call 22; refine (xor_any _ _ _).mono ?_)
                         | (go_at_call 23; refine (one_any _).mono ?_)
                         | (go_at_call 17; refine (awake08_any _).mono ?_)
                         | (go_at_call 24; (first | (with_reducible refine (p0 _).mono ?_) | (with_reducible refine (p1 _).mono ?_) | (with_reducible refine (pi _).mono ?_) | (with_reducible refine (pk _).mono ?_) | (with_reducible refine (pm _).mono ?_) | (with_reducible refine (pn _).mono ?_) | (with_reducible refine (pq _).mono ?_)))
                         | (go_at_call 19; refine (ghFold_any _ _ _ (by first | assumption | decide) _).mono ?_))
                      rintro e w' ⟨rfl, hw⟩
                      exact ⟨rfl, St.call (by assumption) hw⟩)))
         try simp only [Act.put, List.setIfInBounds_toArray, List.set])
        (first
           | (apply head_skip rfl)
           | (apply head_step_g rfl
              focus
                intro w0 hC
                (first
                   | exact neq_quiet 23 rfl rfl rfl Try.eqGuardType23 Try.underlying23 (by simp [go_sem]) (by simp [go_sem]) (by first | with_reducible assumption | with_reducible rfl)
                   | exact eql_quiet 23 rfl rfl rfl Try.eqGuardType23 Try.underlying23 (by simp [go_sem]) (by simp [go_sem]) (by first | with_reducible assumption | with_reducible rfl)))
           | (apply head_step_g rfl
              focus
                intro w0 hC
                have hC' := Lib.hid hC
                obtain ⟨⟨r1, f1, i1, b1, l1⟩, ⟨r2, f2, i2, b2, l2⟩, ⟨r3, f3, i3, b3, l3⟩, ⟨r4, f4, i4, b4, l4⟩, ⟨r5, f5, i5, b5, l5⟩, m12, m21, m13, m31, m14, m41, m15, m51, m23, m32, m24, m42, m25, m52, m34, m43, m35, m53, m45, m54⟩ := St.facts5 hC
                clear hC
                go_simp
                have hC := hC'.out
                (first
                   | with_reducible rfl
                   | (skip
                      (first
                         | (go_at_call 13; refine (ghMul_any _ _ _).mono ?_)
                         | (go_at_call 22; refine (xor_any _ _ _).mono ?_)
                         | (go_at_call 23; refine (one_any _).mono ?_)
                         | (go_at_call 17; refine (awake08_any _).mono ?_)
                         | (go_at_call 24; (first | (with_reducible refine (p0 _).mono ?_) | (with_reducible refine (p1 _).mono ?_) | (with_reducible refine (pi _).mono ?_) | (with_reducible refine (pk _).mono ?_) | (with_reducible refine (pm _).mono ?_) | (with_reducible refine (pn _).mono ?_) | (with_reducible refine (pq _).mono ?_)))
                         | (go_at_call 19; refine (ghFold_any _ _ _ (by first | assumption | decide) _).mono ?_))
                      rintro e w' ⟨rfl, hw⟩
                      exact ⟨rfl, St.call (by assumption) hw⟩)))
         try simp only [Act.put, List.setIfInBounds_toArray, List.set])
        (first
           | (apply head_skip rfl)
           | (apply head_step_g rfl
              focus
                intro w0 hC
                (first
                   | exact neq_quiet 23 rfl rfl rfl Try.eqGuardType23 Try.underlying23 (by simp [go_sem]) (by simp [go_sem]) (by first | with_reducible assumption | with_reducible rfl)
                   | exact eql_quiet 23 rfl rfl rfl Try.eqGuardType23 Try.underlying23 (by simp [go_sem]) (by simp [go_sem]) (by first | with_reducible assumption | with_reducible rfl)))
           | (apply head_step_g rfl
              focus
                intro w0 hC
                have hC' := Lib.hid hC
                obtain ⟨⟨r1, f1, i1, b1, l1⟩, ⟨r2, f2, i2, b2, l2⟩, ⟨r3, f3, i3, b3, l3⟩, ⟨r4, f4, i4, b4, l4⟩, ⟨r5, f5, i5, b5, l5⟩, m12, m21, m13, m31, m14, m41, m15, m51, m23, m32, m24, m42, m25, m52, m34, m43, m35, m53, m45, m54⟩ := St.facts5 hC
                clear hC
                go_simp
                have hC := hC'.out
                (first
                   | with_reducible rfl
                   | (skip
                      (first
                         | (go_at_call 13; refine (ghMul_any _ _ _).mono ?_)
                         | (go_at_call 22; refine (xor_any _ _ _).mono ?_)
                         | (go_at_call 23; refine (one_any _).mono ?_)
                         | (go_at_call 17; refine (awake08_any _).mono ?_)
                         | (go_at_call 24; (first | (with_reducible refine (p0 _).mono ?_) | (with_reducible refine (p1 _).mono ?_) | (with_reducible refine (pi _).mono ?_) | (with_reducible refine (pk _).mono ?_) | (with_reducible refine (pm _).mono ?_) | (with_reducible refine (pn _).mono ?_) | (with_reducible refine (pq _).mono ?_)))
                         | (go_at_call 19; refine (ghFold_any _ _ _ (by first | assumption | decide) _).mono ?_))
                      rintro e w' ⟨rfl, hw⟩
                      exact ⟨rfl, St.call (by assumption) hw⟩)))
         try simp only [Act.put, List.setIfInBounds_toArray, List.set])
        (first
           | (apply head_skip rfl)
           | (apply head_step_g rfl
              focus
                intro w0 hC
                (first
                   | exact neq_quiet 23 rfl rfl rfl Try.eqGuardType23 Try.underlying23 (by simp [go_sem]) (by simp [go_sem]) (by first | with_reducible assumption | with_reducible rfl)
                   | exact eql_quiet 23 rfl rfl rfl Try.eqGuardType23 Try.underlying23 (by simp [go_sem]) (by simp [go_sem]) (by first | with_reducible assumption | with_reducible rfl)))
           | (apply head_step_g rfl
              focus
                intro w0 hC
                have hC' := Lib.hid hC
                obtain ⟨⟨r1, f1, i1, b1, l1⟩, ⟨r2, f2, i2, b2, l2⟩, ⟨r3, f3, i3, b3, l3⟩, ⟨r4, f4, i4, b4, l4⟩, ⟨r5, f5, i5, b5, l5⟩, m12, m21, m13, m31, m14, m41, m15, m51, m23, m32, m24, m42, m25, m52, m34, m43, m35, m53, m45, m54⟩ := St.facts5 hC
                clear hC
                go_simp
                have hC := hC'.out
                (first
                   | with_reducible rfl
                   | (skip
                      (first
                         | (go_at_call 13; refine (ghMul_any _ _ _).mono ?_)
                         | (go_at_call 22; refine (xor_any _ _ _).mono ?_)
                         | (go_at_call 23; refine (one_any _).mono ?_)
                         | (go_at_call 17; refine (awake08_any _).mono ?_)
                         | (go_at_call 24; (first | (with_reducible refine (p0 _).mono ?_) | (with_reducible refine (p1 _).mono ?_) | (with_reducible refine (pi _).mono ?_) | (with_reducible refine (pk _).mono ?_) | (with_reducible refine (pm _).mono ?_) | (with_reducible refine (pn _).mono ?_) | (with_reducible refine (pq _).mono ?_)))
                         | (go_at_call 19; refine (ghFold_any _ _ _ (by first | assumption | decide) _).mono ?_))
                      rintro e w' ⟨rfl, hw⟩
                      exact ⟨rfl, St.call (by assumption) hw⟩)))
         try simp only [Act.put, List.setIfInBounds_toArray, List.set])
        (first
           | (apply head_skip rfl)
           | (apply head_step_g rfl
              focus
                intro w0 hC
                (first
                   | exact neq_quiet 23 rfl rfl rfl Try.eqGuardType23 Try.underlying23 (by simp [go_sem]) (by simp [go_sem]) (by first | with_reducible assumption | with_reducible rfl)
                   | exact eql_quiet 23 rfl rfl rfl Try.eqGuardType23 Try.underlying23 (by simp [go_sem]) (by simp [go_sem]) (by first | with_reducible assumption | with_reducible rfl)))
           | (apply head_step_g rfl
              focus
                intro w0 hC
                have hC' := Lib.hid hC
                obtain ⟨⟨r1, f1, i1, b1, l1⟩, ⟨r2, f2, i2, b2, l2⟩, ⟨r3, f3, i3, b3, l3⟩, ⟨r4, f4, i4, b4, l4⟩, ⟨r5, f5, i5, b5, l5⟩, m12, m21, m13, m31, m14, m41, m15, m51, m23, m32, m24, m42, m25, m52, m34, m43, m35, m53, m45, m54⟩ := St.facts5 hC
                clear hC
                go_simp
                have hC := hC'.out
                (first
                   | with_reducible rfl
                   | (skip
                      (first
                         | (go_at_call 13; refine (ghMul_any _ _ _).mono ?_)
                         | (go_at_call 22; refine (xor_any _ _ _).mono ?_)
                         | (go_at_call 23; refine (one_any _).mono ?_)
                         | (go_at_call 17; refine (awake08_any _).mono ?_)
                         | (go_at_call 24; (first | (with_reducible refine (p0 _).mono ?_) | (with_reducible refine (p1 _).mono ?_) | (with_reducible refine (pi _).mono ?_) | (with_reducible refine (pk _).mono ?_) | (with_reducible refine (pm _).mono ?_) | (with_reducible refine (pn _).mono ?_) | (with_reducible refine (pq _).mono ?_)))
                         | (go_at_call 19; refine (ghFold_any _ _ _ (by first | assumption | decide) _).mono ?_))
                      rintro e w' ⟨rfl, hw⟩
                      exact ⟨rfl, St.call (by assumption) hw⟩)))
         try simp only [Act.put, List.setIfInBounds_toArray, List.set])
        (first
           | (apply head_skip rfl)
           | (apply head_step_g rfl
              focus
                intro w0 hC
                (first
                   | exact neq_quiet 23 rfl rfl rfl Try.eqGuardType23 Try.underlying23 (by simp [go_sem]) (by simp [go_sem]) (by first | with_reducible assumption | with_reducible rfl)
                   | exact eql_quiet 23 rfl rfl rfl Try.eqGuardType23 Try.underlying23 (by simp [go_sem]) (by simp [go_sem]) (by first | with_reducible assumption | with_reducible rfl)))
           | (apply head_step_g rfl
              focus
                intro w0 hC
                have hC' := Lib.hid hC
                obtain ⟨⟨r1, f1, i1, b1, l1⟩, ⟨r2, f2, i2, b2, l2⟩, ⟨r3, f3, i3, b3, l3⟩, ⟨r4, f4, i4, b4, l4⟩, ⟨r5, f5, i5, b5, l5⟩, m12, m21, m13, m31, m14, m41, m15, m51, m23, m32, m24, m42, m25, m52, m34, m43, m35, m53, m45, m54⟩ := St.facts5 hC
                clear hC
                go_simp
                have hC := hC'.out
                (first
                   | with_reducible rfl
                   | (skip
                      (first
                         | (go_at_call 13; refine (ghMul_any _ _ _).mono ?_)
                         | (go_at_call 22; refine (xor_any _ _ _).mono ?_)
                         | (go_at_call 23; refine (one_any _).mono ?_)
                         | (go_at_call 17; refine (awake08_any _).mono ?_)
                         | (go_at_call 24; (first | (with_reducible refine (p0 _).mono ?_) | (with_reducible refine (p1 _).mono ?_) | (with_reducible refine (pi _).mono ?_) | (with_reducible refine (pk _).mono ?_) | (with_reducible refine (pm _).mono ?_) | (with_reducible refine (pn _).mono ?_) | (with_reducible refine (pq _).mono ?_)))
                         | (go_at_call 19; refine (ghFold_any _ _ _ (by first | assumption | decide) _).mono ?_))
                      rintro e w' ⟨rfl, hw⟩
                      exact ⟨rfl, St.call (by assumption) hw⟩)))
         try simp only [Act.put, List.setIfInBounds_toArray, List.set])
        (first
           | (apply head_skip rfl)
           | (apply head_step_g rfl
              focus
                intro w0 hC
                (first
                   | exact neq_quiet 23 rfl rfl rfl Try.eqGuardType23 Try.underlying23 (by simp [go_sem]) (by simp [go_sem]) (by first | with_reducible assumption | with_reducible rfl)
                   | exact eql_quiet 23 rfl rfl rfl Try.eqGuardType23 Try.underlying23 (by simp [go_sem]) (by simp [go_sem]) (by first | with_reducible assumption | with_reducible rfl)))
           | (apply head_step_g rfl
              focus
                intro w0 hC
                have hC' := Lib.hid hC
                obtain ⟨⟨r1, f1, i1, b1, l1⟩, ⟨r2, f2, i2, b2, l2⟩, ⟨r3, f3, i3, b3, l3⟩, ⟨r4, f4, i4, b4, l4⟩, ⟨r5, f5, i5, b5, l5⟩, m12, m21, m13, m31, m14, m41, m15, m51, m23, m32, m24, m42, m25, m52, m34, m43, m35, m53, m45, m54⟩ := St.facts5 hC
                clear hC
                go_simp
                have hC := hC'.out
                (first
                   | with_reducible rfl
                   | (skip
                      (first
                         | (go_at_call 13; refine (ghMul_any _ _ _).mono ?_)
                         | (go_at_call 22; refine (xor_any _ _ _).mono ?_)
                         | (go_at_call 23; refine (one_any _).mono ?_)
                         | (go_at_call 17; refine (awake08_any _).mono ?_)
                         | (go_at_call 24; (first | (with_reducible refine (p0 _).mono ?_) | (with_reducible refine (p1 _).mono ?_) | (with_reducible refine (pi _).mono ?_) | (with_reducible refine (pk _).mono ?_) | (with_reducible refine (pm _).mono ?_) | (with_reducible refine (pn _).mono ?_) | (with_reducible refine (pq _).mono ?_)))
                         | (go_at_call 19; refine (ghFold_any _ _ _ (by first | assumption | decide) _).mono ?_))
                      rintro e w' ⟨rfl, hw⟩
                      exact ⟨rfl, St.call (by assumption) hw⟩)))
         try simp only [Act.put, List.setIfInBounds_toArray, List.set])
        (first
           | (apply head_skip rfl)
           | (apply head_step_g rfl
              focus
                intro w0 hC
                (first
                   | exact neq_quiet 23 rfl rfl rfl Try.eqGuardType23 Try.underlying23 (by simp [go_sem]) (by simp [go_sem]) (by first | with_reducible assumption | with_reducible rfl)
                   | exact eql_quiet 23 rfl rfl rfl Try.eqGuardType23 Try.underlying23 (by simp [go_sem]) (by simp [go_sem]) (by first | with_reducible assumption | with_reducible rfl)))
           | (apply head_step_g rfl
              focus
                intro w0 hC
                have hC' := Lib.hid hC
                obtain ⟨⟨r1, f1, i1, b1, l1⟩, ⟨r2, f2, i2, b2, l2⟩, ⟨r3, f3, i3, b3, l3⟩, ⟨r4, f4, i4, b4, l4⟩, ⟨r5, f5, i5, b5, l5⟩, m12, m21, m13, m31, m14, m41, m15, m51, m23, m32, m24, m42, m25, m52, m34, m43, m35, m53, m45, m54⟩ := St.facts5 hC
                clear hC
                go_simp
                have hC := hC'.out
                (first
                   | with_reducible rfl
                   | (skip
                      (first
                         | (go_at_call 13; refine (ghMul_any _ _ _).mono ?_)
                         | (go_at_call 22; refine (xor_any _ _ _).mono ?_)
                         | (go_at_call 23; refine (one_any _).mono ?_)
                         | (go_at_call 17; refine (awake08_any _).mono ?_)
                         | (go_at_call 24; (first | (with_reducible refine (p0 _).mono ?_) | (with_reducible refine (p1 _).mono ?_) | (with_reducible refine (pi _).mono ?_) | (with_reducible refine (pk _).mono ?_) | (with_reducible refine (pm _).mono ?_) | (with_reducible refine (pn _).mono ?_) | (with_reducible refine (pq _).mono ?_)))
                         | (go_at_call 19; refine (ghFold_any _ _ _ (by first | assumption | decide) _).mono ?_))
                      rintro e w' ⟨rfl, hw⟩
                      exact ⟨rfl, St.call (by assumption) hw⟩)))
         try simp only [Act.put, List.setIfInBounds_toArray, List.set])
        (first
           | (apply head_skip rfl)
           | (apply head_step_g rfl
              focus
                intro w0 hC
                (first
                   | exact neq_quiet 23 rfl rfl rfl Try.eqGuardType23 Try.underlying23 (by simp [go_sem]) (by simp [go_sem]) (by first | with_reducible assumption | with_reducible rfl)
                   | exact eql_quiet 23 rfl rfl rfl Try.eqGuardType23 Try.underlying23 (by simp [go_sem]) (by simp [go_sem]) (by first | with_reducible assumption | with_reducible rfl)))
           | (apply head_step_g rfl
              focus
                intro w0 hC
                have hC' := Lib.hid hC
                obtain ⟨⟨r1, f1, i1, b1, l1⟩, ⟨r2, f2, i2, b2, l2⟩, ⟨r3, f3, i3, b3, l3⟩, ⟨r4, f4, i4, b4, l4⟩, ⟨r5, f5, i5, b5, l5⟩, m12, m21, m13, m31, m14, m41, m15, m51, m23, m32, m24, m42, m25, m52, m34, m43, m35, m53, m45, m54⟩ := St.facts5 hC
                clear hC
                go_simp
                have hC := hC'.out
                (first
                   | with_reducible rfl
                   | (skip
                      (first
                         | (go_at_call 13; refine (ghMul_any _ _ _).mono ?_)
                         | (go_at_call 22; refine (xor_any _ _ _).mono ?_)
                         | (go_at_call 23; refine (one_any _).mono ?_)
                         | (go_at_call 17; refine (awake08_any _).mono ?_)
                         | (go_at_call 24; (first | (with_reducible refine (p0 _).mono ?_) | (with_reducible refine (p1 _).mono ?_) | (with_reducible refine (pi _).mono ?_) | (with_reducible refine (pk _).mono ?_) | (with_reducible refine (pm _).mono ?_) | (with_reducible refine (pn _).mono ?_) | (with_reducible refine (pq _).mono ?_)))
                         | (go_at_call 19; refine (ghFold_any _ _ _ (by first | assumption | decide) _).mono ?_))
                      rintro e w' ⟨rfl, hw⟩
                      exact ⟨rfl, St.call (by assumption) hw⟩)))
         try simp only [Act.put, List.setIfInBounds_toArray, List.set])
        (first
           | (apply head_skip rfl)
           | (apply head_step_g rfl
              focus
                intro w0 hC
                (first
                   | exact neq_quiet 23 rfl rfl rfl Try.eqGuardType23 Try.underlying23 (by simp [go_sem]) (by simp [go_sem]) (by first | with_reducible assumption | with_reducible rfl)
                   | exact eql_quiet 23 rfl rfl rfl Try.eqGuardType23 Try.underlying23 (by simp [go_sem]) (by simp [go_sem]) (by first | with_reducible assumption | with_reducible rfl)))
           | (apply head_step_g rfl
              focus
                intro w0 hC
                have hC' := Lib.hid hC
                obtain ⟨⟨r1, f1, i1, b1, l1⟩, ⟨r2, f2, i2, b2, l2⟩, ⟨r3, f3, i3, b3, l3⟩, ⟨r4, f4, i4, b4, l4⟩, ⟨r5, f5, i5, b5, l5⟩, m12, m21, m13, m31, m14, m41, m15, m51, m23, m32, m24, m42, m25, m52, m34, m43, m35, m53, m45, m54⟩ := St.facts5 hC
                clear hC
                go_simp
                have hC := hC'.out
                (first
                   | with_reducible rfl
                   | (skip
                      (first
                         | (go_at_call 13; refine (ghMul_any _ _ _).mono ?_)
                         | (go_at_call 22; refine (xor_any _ _ _).mono ?_)
                         | (go_at_call 23; refine (one_any _).mono ?_)
                         | (go_at_call 17; refine (awake08_any _).mono ?_)
                         | (go_at_call 24; (first | (with_reducible refine (p0 _).mono ?_) | (with_reducible refine (p1 _).mono ?_) | (with_reducible refine (pi _).mono ?_) | (with_reducible refine (pk _).mono ?_) | (with_reducible refine (pm _).mono ?_) | (with_reducible refine (pn _).mono ?_) | (with_reducible refine (pq _).mono ?_)))
                         | (go_at_call 19; refine (ghFold_any _ _ _ (by first | assumption | decide) _).mono ?_))
                      rintro e w' ⟨rfl, hw⟩
                      exact ⟨rfl, St.call (by assumption) hw⟩)))
         try simp only [Act.put, List.setIfInBounds_toArray, List.set])
        (first
           | (apply head_skip rfl)
           | (apply head_step_g rfl
              focus
                intro w0 hC
                (first
                   | exact neq_quiet 23 rfl rfl rfl Try.eqGuardType23 Try.underlying23 (by simp [go_sem]) (by simp [go_sem]) (by first | with_reducible assumption | with_reducible rfl)
                   | exact eql_quiet 23 rfl rfl rfl Try.eqGuardType23 Try.underlying23 (by simp [go_sem]) (by simp [go_sem]) (by first | with_reducible assumption | with_reducible rfl)))
           | (apply head_step_g rfl
              focus
                intro w0 hC
                have hC' := Lib.hid hC
                obtain ⟨⟨r1, f1, i1, b1, l1⟩, ⟨r2, f2, i2, b2, l2⟩, ⟨r3, f3, i3, b3, l3⟩, ⟨r4, f4, i4, b4, l4⟩, ⟨r5, f5, i5, b5, l5⟩, m12, m21, m13, m31, m14, m41, m15, m51, m23, m32, m24, m42, m25, m52, m34, m43, m35, m53, m45, m54⟩ := St.facts5 hC
                clear hC
                go_simp
                have hC := hC'.out
                (first
                   | with_reducible rfl
                   | (skip
                      (first
                         | (go_at_call 13; refine (ghMul_any _ _ _).mono ?_)
                         | (go_at_call 22; refine (xor_any _ _ _).mono ?_)
                         | (go_at_call 23; refine (one_any _).mono ?_)
                         | (go_at_call 17; refine (awake08_any _).mono ?_)
                         | (go_at_call 24; (first | (with_reducible refine (p0 _).mono ?_) | (with_reducible refine (p1 _).mono ?_) | (with_reducible refine (pi _).mono ?_) | (with_reducible refine (pk _).mono ?_) | (with_reducible refine (pm _).mono ?_) | (with_reducible refine (pn _).mono ?_) | (with_reducible refine (pq _).mono ?_)))
                         | (go_at_call 19; refine (ghFold_any _ _ _ (by first | assumption | decide) _).mono ?_))
                      rintro e w' ⟨rfl, hw⟩
                      exact ⟨rfl, St.call (by assumption) hw⟩)))
         try simp only [Act.put, List.setIfInBounds_toArray, List.set])
        (first
           | (apply head_skip rfl)
           | (apply head_step_g rfl
              focus
                intro w0 hC
                (first
                   | exact neq_quiet 23 rfl rfl rfl Try.eqGuardType23 Try.underlying23 (by simp [go_sem]) (by simp [go_sem]) (by first | with_reducible assumption | with_reducible rfl)
                   | exact eql_quiet 23 rfl rfl rfl Try.eqGuardType23 Try.underlying23 (by simp [go_sem]) (by simp [go_sem]) (by first | with_reducible assumption | with_reducible rfl)))
           | (apply head_step_g rfl
              focus
                intro w0 hC
                have hC' := Lib.hid hC
                obtain ⟨⟨r1, f1, i1, b1, l1⟩, ⟨r2, f2, i2, b2, l2⟩, ⟨r3, f3, i3, b3, l3⟩, ⟨r4, f4, i4, b4, l4⟩, ⟨r5, f5, i5, b5, l5⟩, m12, m21, m13, m31, m14, m41, m15, m51, m23, m32, m24, m42, m25, m52, m34, m43, m35, m53, m45, m54⟩ := St.facts5 hC
                clear hC
                go_simp
                have hC := hC'.out
                (first
                   | with_reducible rfl
                   | (skip
                      (first
                         | (go_at_call 13; refine (ghMul_any _ _ _).mono ?_)
                         | (go_at_call 22; refine (xor_any _ _ _).mono ?_)
                         | (go_at_call 23; refine (one_any _).mono ?_)
                         | (go_at_call 17; refine (awake08_any _).mono ?_)
                         | (go_at_call 24; (first | (with_reducible refine (p0 _).mono ?_) | (with_reducible refine (p1 _).mono ?_) | (with_reducible refine (pi _).mono ?_) | (with_reducible refine (pk _).mono ?_) | (with_reducible refine (pm _).mono ?_) | (with_reducible refine (pn _).mono ?_) | (with_reducible refine (pq _).mono ?_)))
                         | (go_at_call 19; refine (ghFold_any _ _ _ (by first | assumption | decide) _).mono ?_))
                      rintro e w' ⟨rfl, hw⟩
                      exact ⟨rfl, St.call (by assumption) hw⟩)))
         try simp only [Act.put, List.setIfInBounds_toArray, List.set])
        (first
           | (apply head_skip rfl)
           | (apply head_step_g rfl
              focus
                intro w0 hC
                (first
                   | exact neq_quiet 23 rfl rfl rfl Try.eqGuardType23 Try.underlying23 (by simp [go_sem]) (by simp [go_sem]) (by first | with_reducible assumption | with_reducible rfl)
                   | exact eql_quiet 23 rfl rfl rfl Try.eqGuardType23 Try.underlying23 (by simp [go_sem]) (by simp [go_sem]) (by first | with_reducible assumption | with_reducible rfl)))
           | (apply head_step_g rfl
              focus
                intro w0 hC
                have hC' := Lib.hid hC
                obtain ⟨⟨r1, f1, i1, b1, l1⟩, ⟨r2, f2, i2, b2, l2⟩, ⟨r3, f3, i3, b3, l3⟩, ⟨r4, f4, i4, b4, l4⟩, ⟨r5, f5, i5, b5, l5⟩, m12, m21, m13, m31, m14, m41, m15, m51, m23, m32, m24, m42, m25, m52, m34, m43, m35, m53, m45, m54⟩ := St.facts5 hC
                clear hC
                go_simp
                have hC := hC'.out
                (first
                   | with_reducible rfl
                   | (skip
                      (first
                         | (go_at_call 13; refine (ghMul_any _ _ _).mono ?_)
                         | (go_at_call 22; refine (xor_any _ _ _).mono ?_)
                         | (go_at_call 23; refine (one_any _).mono ?_)
                         | (go_at_call 17; refine (awake08_any _).mono ?_)
                         | (go_at_call 24; (first | (with_reducible refine (p0 _).mono ?_) | (with_reducible refine (p1 _).mono ?_) | (with_reducible refine (pi _).mono ?_) | (with_reducible refine (pk _).mono ?_) | (with_reducible refine (pm _).mono ?_) | (with_reducible refine (pn _).mono ?_) | (with_reducible refine (pq _).mono ?_)))
                         | (go_at_call 19; refine (ghFold_any _ _ _ (by first | assumption | decide) _).mono ?_))
                      rintro e w' ⟨rfl, hw⟩
                      exact ⟨rfl, St.call (by assumption) hw⟩)))
         try simp only [Act.put, List.setIfInBounds_toArray, List.set])
        (first
           | (apply head_skip rfl)
           | (apply head_step_g rfl
              focus
                intro w0 hC
                (first
                   | exact neq_quiet 23 rfl rfl rfl Try.eqGuardType23 Try.underlying23 (by simp [go_sem]) (by simp [go_sem]) (by first | with_reducible assumption | with_reducible rfl)
                   | exact eql_quiet 23 rfl rfl rfl Try.eqGuardType23 Try.underlying23 (by simp [go_sem]) (by simp [go_sem]) (by first | with_reducible assumption | with_reducible rfl)))
           | (apply head_step_g rfl
              focus
                intro w0 hC
                have hC' := Lib.hid hC
                obtain ⟨⟨r1, f1, i1, b1, l1⟩, ⟨r2, f2, i2, b2, l2⟩, ⟨r3, f3, i3, b3, l3⟩, ⟨r4, f4, i4, b4, l4⟩, ⟨r5, f5, i5, b5, l5⟩, m12, m21, m13, m31, m14, m41, m15, m51, m23, m32, m24, m42, m25, m52, m34, m43, m35, m53, m45, m54⟩ := St.facts5 hC
                clear hC
                go_simp
                have hC := hC'.out
                (first
                   | with_reducible rfl
                   | (skip
                      (first
                         | (go_at_call 13; refine (ghMul_any _ _ _).mono ?_)
                         | (go_at_call 22; refine (xor_any _ _ _).mono ?_)
                         | (go_at_call 23; refine (one_any _).mono ?_)
                         | (go_at_call 17; refine (awake08_any _).mono ?_)
                         | (go_at_call 24; (first | (with_reducible refine (p0 _).mono ?_) | (with_reducible refine (p1 _).mono ?_) | (with_reducible refine (pi _).mono ?_) | (with_reducible refine (pk _).mono ?_) | (with_reducible refine (pm _).mono ?_) | (with_reducible refine (pn _).mono ?_) | (with_reducible refine (pq _).mono ?_)))
                         | (go_at_call 19; refine (ghFold_any _ _ _ (by first | assumption | decide) _).mono ?_))
                      rintro e w' ⟨rfl, hw⟩
                      exact ⟨rfl, St.call (by assumption) hw⟩)))
         try simp only [Act.put, List.setIfInBounds_toArray, List.set])
        (first
           | (apply head_skip rfl)
           | (apply head_step_g rfl
              focus
                intro w0 hC
                (first
                   | exact neq_quiet 23 rfl rfl rfl Try.eqGuardType23 Try.underlying23 (by simp [go_sem]) (by simp [go_sem]) (by first | with_reducible assumption | with_reducible rfl)
                   | exact eql_quiet 23 rfl rfl rfl Try.eqGuardType23 Try.underlying23 (by simp [go_sem]) (by simp [go_sem]) (by first | with_reducible assumption | with_reducible rfl)))
           | (apply head_step_g rfl
              focus
                intro w0 hC
                have hC' := Lib.hid hC
                obtain ⟨⟨r1, f1, i1, b1, l1⟩, ⟨r2, f2, i2, b2, l2⟩, ⟨r3, f3, i3, b3, l3⟩, ⟨r4, f4, i4, b4, l4⟩, ⟨r5, f5, i5, b5, l5⟩, m12, m21, m13, m31, m14, m41, m15, m51, m23, m32, m24, m42, m25, m52, m34, m43, m35, m53, m45, m54⟩ := St.facts5 hC
                clear hC
                go_simp
                have hC := hC'.out
                (first
                   | with_reducible rfl
                   | (skip
                      (first
                         | (go_at_call 13; refine (ghMul_any _ _ _).mono ?_)
                         | (go_at_call 22; refine (xor_any _ _ _).mono ?_)
                         | (go_at_call 23; refine (one_any _).mono ?_)
                         | (go_at_call 17; refine (awake08_any _).mono ?_)
                         | (go_at_call 24; (first | (with_reducible refine (p0 _).mono ?_) | (with_reducible refine (p1 _).mono ?_) | (with_reducible refine (pi _).mono ?_) | (with_reducible refine (pk _).mono ?_) | (with_reducible refine (pm _).mono ?_) | (with_reducible refine (pn _).mono ?_) | (with_reducible refine (pq _).mono ?_)))
                         | (go_at_call 19; refine (ghFold_any _ _ _ (by first | assumption | decide) _).mono ?_))
                      rintro e w' ⟨rfl, hw⟩
                      exact ⟨rfl, St.call (by assumption) hw⟩)))
         try simp only [Act.put, List.setIfInBounds_toArray, List.set])
        (first
           | (apply head_skip rfl)
           | (apply head_step_g rfl
              focus
                intro w0 hC
                (first
                   | exact neq_quiet 23 rfl rfl rfl Try.eqGuardType23 Try.underlying23 (by simp [go_sem]) (by simp [go_sem]) (by first | with_reducible assumption | with_reducible rfl)
                   | exact eql_quiet 23 rfl rfl rfl Try.eqGuardType23 Try.underlying23 (by simp [go_sem]) (by simp [go_sem]) (by first | with_reducible assumption | with_reducible rfl)))
           | (apply head_step_g rfl
              focus
                intro w0 hC
                have hC' := Lib.hid hC
                obtain ⟨⟨r1, f1, i1, b1, l1⟩, ⟨r2, f2, i2, b2, l2⟩, ⟨r3, f3, i3, b3, l3⟩, ⟨r4, f4, i4, b4, l4⟩, ⟨r5, f5, i5, b5, l5⟩, m12, m21, m13, m31, m14, m41, m15, m51, m23, m32, m24, m42, m25, m52, m34, m43, m35, m53, m45, m54⟩ := St.facts5 hC
                clear hC
                go_simp
                have hC := hC'.out
                (first
                   | with_reducible rfl
                   | (skip
                      (first
                         | (go_at_call 13; refine (ghMul_any _ _ _).mono ?_)
                         | (go_at_call 22; refine (xor_any _ _ _).mono ?_)
                         | (go_at_call 23; refine (one_any _).mono ?_)
                         | (go_at_call 17; refine (awake08_any _).mono ?_)
                         | (go_at_call 24; (first | (with_reducible refine (p0 _).mono ?_) | (with_reducible refine (p1 _).mono ?_) | (with_reducible refine (pi _).mono ?_) | (with_reducible refine (pk _).mono ?_) | (with_reducible refine (pm _).mono ?_) | (with_reducible refine (pn _).mono ?_) | (with_reducible refine (pq _).mono ?_)))
                         | (go_at_call 19; refine (ghFold_any _ _ _ (by first | assumption | decide) _).mono ?_))
                      rintro e w' ⟨rfl, hw⟩
                      exact ⟨rfl, St.call (by assumption) hw⟩)))
         try simp only [Act.put, List.setIfInBounds_toArray, List.set])
        (first
           | (apply head_skip rfl)
           | (apply head_step_g rfl
              focus
                intro w0 hC
                (first
                   | exact neq_quiet 23 rfl rfl rfl Try.eqGuardType23 Try.underlying23 (by simp [go_sem]) (by simp [go_sem]) (by first | with_reducible assumption | with_reducible rfl)
                   | exact eql_quiet 23 rfl rfl rfl Try.eqGuardType23 Try.underlying23 (by simp [go_sem]) (by simp [go_sem]) (by first | with_reducible assumption | with_reducible rfl)))
           | (apply head_step_g rfl
              focus
                intro w0 hC
                have hC' := Lib.hid hC
                obtain ⟨⟨r1, f1, i1, b1, l1⟩, ⟨r2, f2, i2, b2, l2⟩, ⟨r3, f3, i3, b3, l3⟩, ⟨r4, f4, i4, b4, l4⟩, ⟨r5, f5, i5, b5, l5⟩, m12, m21, m13, m31, m14, m41, m15, m51, m23, m32, m24, m42, m25, m52, m34, m43, m35, m53, m45, m54⟩ := St.facts5 hC
                clear hC
                go_simp
                have hC := hC'.out
                (first
                   | with_reducible rfl
                   | (skip
                      (first
                         | (go_at_call 13; refine (ghMul_any _ _ _).mono ?_)
                         | (go_at_call 22; refine (xor_any _ _ _).mono ?_)
                         | (go_at_call 23; refine (one_any _).mono ?_)
                         | (go_at_call 17; refine (awake08_any _).mono ?_)
                         | (go_at_call 24; (first | (with_reducible refine (p0 _).mono ?_) | (with_reducible refine (p1 _).mono ?_) | (with_reducible refine (pi _).mono ?_) | (with_reducible refine (pk _).mono ?_) | (with_reducible refine (pm _).mono ?_) | (with_reducible refine (pn _).mono ?_) | (with_reducible refine (pq _).mono ?_)))
                         | (go_at_call 19; refine (ghFold_any _ _ _ (by first | assumption | decide) _).mono ?_))
                      rintro e w' ⟨rfl, hw⟩
                      exact ⟨rfl, St.call (by assumption) hw⟩)))
         try simp only [Act.put, List.setIfInBounds_toArray, List.set])
        (first
           | (apply head_skip rfl)
           | (apply head_step_g rfl
              focus
                intro w0 hC
                (first
                   | exact neq_quiet 23 rfl rfl rfl Try.eqGuardType23 Try.underlying23 (by simp [go_sem]) (by simp [go_sem]) (by first | with_reducible assumption | with_reducible rfl)
                   | exact eql_quiet 23 rfl rfl rfl Try.eqGuardType23 Try.underlying23 (by simp [go_sem]) (by simp [go_sem]) (by first | with_reducible assumption | with_reducible rfl)))
           | (apply head_step_g rfl
              focus
                intro w0 hC
                have hC' := Lib.hid hC
                obtain ⟨⟨r1, f1, i1, b1, l1⟩, ⟨r2, f2, i2, b2, l2⟩, ⟨r3, f3, i3, b3, l3⟩, ⟨r4, f4, i4, b4, l4⟩, ⟨r5, f5, i5, b5, l5⟩, m12, m21, m13, m31, m14, m41, m15, m51, m23, m32, m24, m42, m25, m52, m34, m43, m35, m53, m45, m54⟩ := St.facts5 hC
                clear hC
                go_simp
                have hC := hC'.out
                (first
                   | with_reducible rfl
                   | (skip
                      (first
                         | (go_at_call 13; refine (ghMul_any _ _ _).mono ?_)
                         | (go_at_call 22; refine (xor_any _ _ _).mono ?_)
                         | (go_at_call 23; refine (one_any _).mono ?_)
                         | (go_at_call 17; refine (awake08_any _).mono ?_)
                         | (go_at_call 24; (first | (with_reducible refine (p0 _).mono ?_) | (with_reducible refine (p1 _).mono ?_) | (with_reducible refine (pi _).mono ?_) | (with_reducible refine (pk _).mono ?_) | (with_reducible refine (pm _).mono ?_) | (with_reducible refine (pn _).mono ?_) | (with_reducible refine (pq _).mono ?_)))
                         | (go_at_call 19; refine (ghFold_any _ _ _ (by first | assumption | decide) _).mono ?_))
                      rintro e w' ⟨rfl, hw⟩
                      exact ⟨rfl, St.call (by assumption) hw⟩)))
         try simp only [Act.put, List.setIfInBounds_toArray, List.set])
        (first
           | (apply head_skip rfl)
           | (apply head_step_g rfl
              focus
                intro w0 hC
                (first
                   | exact neq_quiet 23 rfl rfl rfl Try.eqGuardType23 Try.underlying23 (by simp [go_sem]) (by simp [go_sem]) (by first | with_reducible assumption | with_reducible rfl)
                   | exact eql_quiet 23 rfl rfl rfl Try.eqGuardType23 Try.underlying23 (by simp [go_sem]) (by simp [go_sem]) (by first | with_reducible assumption | with_reducible rfl)))
           | (apply head_step_g rfl
              focus
                intro w0 hC
                have hC' := Lib.hid hC
                obtain ⟨⟨r1, f1, i1, b1, l1⟩, ⟨r2, f2, i2, b2, l2⟩, ⟨r3, f3, i3, b3, l3⟩, ⟨r4, f4, i4, b4, l4⟩, ⟨r5, f5, i5, b5, l5⟩, m12, m21, m13, m31, m14, m41, m15, m51, m23, m32, m24, m42, m25, m52, m34, m43, m35, m53, m45, m54⟩ := St.facts5 hC
                clear hC
                go_simp
                have hC := hC'.out
                (first
                   | with_reducible rfl
                   | (skip
                      (first
                         | (go_at_call 13; refine (ghMul_any _ _ _).mono ?_)
                         | (go_at_call 22; refine (xor_any _ _ _).mono ?_)
                         | (go_at_call 23; refine (one_any _).mono ?_)
                         | (go_at_call 17; refine (awake08_any _).mono ?_)
                         | (go_at_call 24; (first | (with_reducible refine (p0 _).mono ?_) | (with_reducible refine (p1 _).mono ?_) | (with_reducible refine (pi _).mono ?_) | (with_reducible refine (pk _).mono ?_) | (with_reducible refine (pm _).mono ?_) | (with_reducible refine (pn _).mono ?_) | (with_reducible refine (pq _).mono ?_)))
                         | (go_at_call 19; refine (ghFold_any _ _ _ (by first | assumption | decide) _).mono ?_))
                      rintro e w' ⟨rfl, hw⟩
                      exact ⟨rfl, St.call (by assumption) hw⟩)))
         try simp only [Act.put, List.setIfInBounds_toArray, List.set])
        (first
           | (apply head_skip rfl)
           | (apply head_step_g rfl
              focus
                intro w0 hC
                (first
                   | exact neq_quiet 23 rfl rfl rfl Try.eqGuardType23 Try.underlying23 (by simp [go_sem]) (by simp [go_sem]) (by first | with_reducible assumption | with_reducible rfl)
                   | exact eql_quiet 23 rfl rfl rfl Try.eqGuardType23 Try.underlying23 (by simp [go_sem]) (by simp [go_sem]) (by first | with_reducible assumption | with_reducible rfl)))
           | (apply head_step_g rfl
              focus
                intro w0 hC
                have hC' := Lib.hid hC
                obtain ⟨⟨r1, f1, i1, b1, l1⟩, ⟨r2, f2, i2, b2, l2⟩, ⟨r3, f3, i3, b3, l3⟩, ⟨r4, f4, i4, b4, l4⟩, ⟨r5, f5, i5, b5, l5⟩, m12, m21, m13, m31, m14, m41, m15, m51, m23, m32, m24, m42, m25, m52, m34, m43, m35, m53, m45, m54⟩ := St.facts5 hC
                clear hC
                go_simp
                have hC := hC'.out
                (first
                   | with_reducible rfl
                   | (skip
                      (first
                         | (go_at_call 13; refine (ghMul_any _ _ _).mono ?_)
                         | (go_at_call 22; refine (xor_any _ _ _).mono ?_)
                         | (go_at_call 23; refine (one_any _).mono ?_)
                         | (go_at_call 17; refine (awake08_any _).mono ?_)
                         | (go_at_call 24; (first | (with_reducible refine (p0 _).mono ?_) | (with_reducible refine (p1 _).mono ?_) | (with_reducible refine (pi _).mono ?_) | (with_reducible refine (pk _).mono ?_) | (with_reducible refine (pm _).mono ?_) | (with_reducible refine (pn _).mono ?_) | (with_reducible refine (pq _).mono ?_)))
                         | (go_at_call 19; refine (ghFold_any _ _ _ (by first | assumption | decide) _).mono ?_))
                      rintro e w' ⟨rfl, hw⟩
                      exact ⟨rfl, St.call (by assumption) hw⟩)))
         try simp only [Act.put, List.setIfInBounds_toArray, List.set])
        refine wpQuiet_nil ?_
        intro w4 hC
        clear e4 e5 hs1 hs2 c1 c2 HC
        have HC := Lib.hid hC
        clear hC
        go_wp2_with fail
        refine St.region_float 9 13 (blk 16 fun _ => 0) 23 HC.out _ (by kernel_rfl) (by decide +kernel) rfl (fun w a => by simp [go_sem, ptrTo, hz]) ?_
        (simp only [List.take])
        (apply walkB_step
         focus
           intro w0 hC
           obtain ⟨⟨r1, f1, i1, b1, l1⟩, ⟨r2, f2, i2, b2, l2⟩, ⟨r3, f3, i3, b3, l3⟩, ⟨r4, f4, i4, b4, l4⟩, ⟨r5, f5, i5, b5, l5⟩, m12, m21, m13, m31, m14, m41, m15, m51, m23, m32, m24, m42, m25, m52, m34, m43, m35, m53, m45, m54⟩ := St.facts5 hC
           clear hC
           go_simp
           first
             | with_reducible rfl
             | exact ghFold_any _ _ _ hs0 _
             | exact xor_any _ _ _
         try simp only [Act.put, List.setIfInBounds_toArray, List.set])
        (apply walkB_step
         focus
           intro w0 hC
           obtain ⟨⟨r1, f1, i1, b1, l1⟩, ⟨r2, f2, i2, b2, l2⟩, ⟨r3, f3, i3, b3, l3⟩, ⟨r4, f4, i4, b4, l4⟩, ⟨r5, f5, i5, b5, l5⟩, m12, m21, m13, m31, m14, m41, m15, m51, m23, m32, m24, m42, m25, m52, m34, m43, m35, m53, m45, m54⟩ := St.facts5 hC
           clear hC
           go_simp
           first
             | with_reducible rfl
             | exact ghFold_any _ _ _ hs0 _
             | exact xor_any _ _ _
         try simp only [Act.put, List.setIfInBounds_toArray, List.set])
        (apply walkB_step
         focus
           intro w0 hC
           obtain ⟨⟨r1, f1, i1, b1, l1⟩, ⟨r2, f2, i2, b2, l2⟩, ⟨r3, f3, i3, b3, l3⟩, ⟨r4, f4, i4, b4, l4⟩, ⟨r5, f5, i5, b5, l5⟩, m12, m21, m13, m31, m14, m41, m15, m51, m23, m32, m24, m42, m25, m52, m34, m43, m35, m53, m45, m54⟩ := St.facts5 hC
           clear hC
           go_simp
           first
             | with_reducible rfl
             | exact ghFold_any _ _ _ hs0 _
             | exact xor_any _ _ _
         try simp only [Act.put, List.setIfInBounds_toArray, List.set])
        (apply walkB_step
         focus
           intro w0 hC
           obtain ⟨⟨r1, f1, i1, b1, l1⟩, ⟨r2, f2, i2, b2, l2⟩, ⟨r3, f3, i3, b3, l3⟩, ⟨r4, f4, i4, b4, l4⟩, ⟨r5, f5, i5, b5, l5⟩, m12, m21, m13, m31, m14, m41, m15, m51, m23, m32, m24, m42, m25, m52, m34, m43, m35, m53, m45, m54⟩ := St.facts5 hC
           clear hC
           go_simp
           first
             | with_reducible rfl
             | exact ghFold_any _ _ _ hs0 _
             | exact xor_any _ _ _
         try simp only [Act.put, List.setIfInBounds_toArray, List.set])
        (apply walkB_step
         focus
           intro w0 hC
           obtain ⟨⟨r1, f1, i1, b1, l1⟩, ⟨r2, f2, i2, b2, l2⟩, ⟨r3, f3, i3, b3, l3⟩, ⟨r4, f4, i4, b4, l4⟩, ⟨r5, f5, i5, b5, l5⟩, m12, m21, m13, m31, m14, m41, m15, m51, m23, m32, m24, m42, m25, m52, m34, m43, m35, m53, m45, m54⟩ := St.facts5 hC
           clear hC
           go_simp
           first
             | with_reducible rfl
             | exact ghFold_any _ _ _ hs0 _
             | exact xor_any _ _ _
         try simp only [Act.put, List.setIfInBounds_toArray, List.set])
        (apply walkB_step
         focus
           intro w0 hC
           obtain ⟨⟨r1, f1, i1, b1, l1⟩, ⟨r2, f2, i2, b2, l2⟩, ⟨r3, f3, i3, b3, l3⟩, ⟨r4, f4, i4, b4, l4⟩, ⟨r5, f5, i5, b5, l5⟩, m12, m21, m13, m31, m14, m41, m15, m51, m23, m32, m24, m42, m25, m52, m34, m43, m35, m53, m45, m54⟩ := St.facts5 hC
           clear hC
           go_simp
           first
             | with_reducible rfl
             | exact ghFold_any _ _ _ hs0 _
             | exact xor_any _ _ _
         try simp only [Act.put, List.setIfInBounds_toArray, List.set])
        (apply walkB_step
         focus
           intro w0 hC
           obtain ⟨⟨r1, f1, i1, b1, l1⟩, ⟨r2, f2, i2, b2, l2⟩, ⟨r3, f3, i3, b3, l3⟩, ⟨r4, f4, i4, b4, l4⟩, ⟨r5, f5, i5, b5, l5⟩, m12, m21, m13, m31, m14, m41, m15, m51, m23, m32, m24, m42, m25, m52, m34, m43, m35, m53, m45, m54⟩ := St.facts5 hC
           clear hC
           go_simp
           first
             | with_reducible rfl
             | exact ghFold_any _ _ _ hs0 _
             | exact xor_any _ _ _
         try simp only [Act.put, List.setIfInBounds_toArray, List.set])
        (apply walkB_step
         focus
           intro w0 hC
           obtain ⟨⟨r1, f1, i1, b1, l1⟩, ⟨r2, f2, i2, b2, l2⟩, ⟨r3, f3, i3, b3, l3⟩, ⟨r4, f4, i4, b4, l4⟩, ⟨r5, f5, i5, b5, l5⟩, m12, m21, m13, m31, m14, m41, m15, m51, m23, m32, m24, m42, m25, m52, m34, m43, m35, m53, m45, m54⟩ := St.facts5 hC
           clear hC
           go_simp
           first
             | with_reducible rfl
             | exact ghFold_any _ _ _ hs0 _
             | exact xor_any _ _ _
         try simp only [Act.put, List.setIfInBounds_toArray, List.set])
        (apply walkB_step
         focus
           intro w0 hC
           obtain ⟨⟨r1, f1, i1, b1, l1⟩, ⟨r2, f2, i2, b2, l2⟩, ⟨r3, f3, i3, b3, l3⟩, ⟨r4, f4, i4, b4, l4⟩, ⟨r5, f5, i5, b5, l5⟩, m12, m21, m13, m31, m14, m41, m15, m51, m23, m32, m24, m42, m25, m52, m34, m43, m35, m53, m45, m54⟩ := St.facts5 hC
           clear hC
           go_simp
           first
             | with_reducible rfl
             | exact ghFold_any _ _ _ hs0 _
             | exact xor_any _ _ _
         try simp only [Act.put, List.setIfInBounds_toArray, List.set])
        refine walkB_nil ?_
        intro w5 g hC
        unfold ptrTo
        have e6 : same 16 (Ci.xorB (foldB l x s) (foldB l y s)) (mulB (Ci.xorB x y) (powB l (quo16 s.size))) = true := fold_two l x y s
        have q1 : IntKind.i64.wrap ((s.size : Int) + 15) = (s.size : Int) + 15 := IntWalk.i64_in _ (by omega)
        have q2 : ((s.size : Int) + 15) / 16 = (quo16 s.size : Int) := by unfold quo16; omega
        have q3 : ((s.size : Int) + 15).tdiv 16 = (quo16 s.size : Int) := by rw [Int.tdiv_eq_ediv_of_nonneg (by omega)]; exact q2
        have q4 : IntKind.i64.wrap (quo16 s.size : Int) = (quo16 s.size : Int) := IntWalk.i64_in _ (by unfold quo16; omega)
        have q5 : 0 ≤ (s.size : Int) + 15 := by omega
        have pq := fun w => pow_nat l (quo16 s.size) (by unfold quo16; omega) (quo16 s.size : Int) rfl w
        clear HC
        (have HC := Lib.hid hC
         have sos := hC.below.os
         obtain ⟨⟨r1, f1, i1, b1, l1⟩, ⟨r2, f2, i2, b2, l2⟩, ⟨r3, f3, i3, b3, l3⟩, ⟨r4, f4, i4, b4, l4⟩, ⟨r5, f5, i5, b5, l5⟩, ⟨r6, f6, i6, b6, l6⟩, m12, m21, m13, m31, m14, m41, m15, m51, m16, m61, m23, m32, m24, m42, m25, m52, m26, m62, m34, m43, m35, m53, m36, m63, m45, m54, m46, m64, m56, m65⟩ := St.facts6 hC
         clear hC)
        (simp only [List.drop, List.setIfInBounds_toArray, List.set])
        go_wp2_with fail
        have HC := Lib.hid (HC.out.set_head (blk 16 (Ci.xorB (foldB l x s) (foldB l y s))))
        (clear r1 f1 i1 b1 l1 r2 f2 i2 b2 l2 r3 f3 i3 b3 l3 r4 f4 i4 b4 l4 r5 f5 i5 b5 l5 r6 f6 i6 b6 l6 m12 m21 m13 m31 m14 m41 m15 m51 m16 m61 m23 m32 m24 m42 m25 m52 m26 m62 m34 m43 m35 m53 m36 m63 m45 m54 m46 m64 m56 m65 sos)
        as_aux_lemma =>
          refine St.region HC.out (by kernel_rfl) (by kernel_rfl) ?_
          (first
             | (apply head_skip rfl)
             | (apply head_step_g rfl
                focus
                  intro w0 hC
                  (first
                     | exact neq_quiet 23 rfl rfl rfl Try.eqGuardType23 Try.underlying23 (by simp [go_sem]) (by simp [go_sem]) (by first | with_reducible assumption | with_reducible rfl)
                     | exact eql_quiet 23 rfl rfl rfl Try.eqGuardType23 Try.underlying23 (by simp [go_sem]) (by simp [go_sem]) (by first | with_reducible assumption | with_reducible rfl)))
             | (apply head_step_g rfl
                focus
                  intro w0 hC
                  have hC' := Lib.hid hC
                  obtain ⟨⟨r1, f1, i1, b1, l1⟩, ⟨r2, f2, i2, b2, l2⟩, ⟨r3, f3, i3, b3, l3⟩, ⟨r4, f4, i4, b4, l4⟩, ⟨r5, f5, i5, b5, l5⟩, ⟨r6, f6, i6, b6, l6⟩, m12, m21, m13, m31, m14, m41, m15, m51, m16, m61, m23, m32, m24, m42, m25, m52, m26, m62, m34, m43, m35, m53, m36, m63, m45, m54, m46, m64, m56, m65⟩ := St.facts6 hC
                  clear hC
                  go_simp
                  have hC := hC'.out
                  (first
                     | with_reducible rfl
                     | (skip
                        (first
                           | (go_at_call 13; refine (ghMul_any _ _ _).mono ?_)
                           | (go_at_call 22; refine (xor_any _ _ _).mono ?_)
                           | (go_at_call 23; refine (one_any _).mono ?_)
                           | (go_at_call 17; refine (awake08_any _).mono ?_)
                           | (go_at_call 24; (first | (with_reducible refine (p0 _).mono ?_) | (with_reducible refine (p1 _).mono ?_) | (with_reducible refine (pi _).mono ?_) | (with_reducible refine (pk _).mono ?_) | (with_reducible refine (pm _).mono ?_) | (with_reducible refine (pn _).mono ?_) | (with_reducible refine (pq _).mono ?_)))
                           | (go_at_call 19; refine (ghFold_any _ _ _ (by first | assumption | decide) _).mono ?_))
                        rintro e w' ⟨rfl, hw⟩
                        exact ⟨rfl, St.call (by assumption) hw⟩)))
           try simp only [Act.put, List.setIfInBounds_toArray, List.set])
          (first
             | (apply head_skip rfl)
             | (apply head_step_g rfl
                focus
                  intro w0 hC
                  (first
                     | exact neq_quiet 23 rfl rfl rfl Try.eqGuardType23 Try.underlying23 (by simp [go_sem]) (by simp [go_sem]) (by first | with_reducible assumption | with_reducible rfl)
                     | exact eql_quiet 23 rfl rfl rfl Try.eqGuardType23 Try.underlying23 (by simp [go_sem]) (by simp [go_sem]) (by first | with_reducible assumption | with_reducible rfl)))
             | (apply head_step_g rfl
                focus
                  intro w0 hC
                  have hC' := Lib.hid hC
                  obtain ⟨⟨r1, f1, i1, b1, l1⟩, ⟨r2, f2, i2, b2, l2⟩, ⟨r3, f3, i3, b3, l3⟩, ⟨r4, f4, i4, b4, l4⟩, ⟨r5, f5, i5, b5, l5⟩, ⟨r6, f6, i6, b6, l6⟩, m12, m21, m13, m31, m14, m41, m15, m51, m16, m61, m23, m32, m24, m42, m25, m52, m26, m62, m34, m43, m35, m53, m36, m63, m45, m54, m46, m64, m56, m65⟩ := St.facts6 hC
                  clear hC
                  go_simp
                  have hC := hC'.out
                  (first
                     | with_reducible rfl
                     | (skip
                        (first
                           | (go_at_call 13; refine (ghMul_any _ _ _).mono ?_)
                           | (go_at_call 22; refine (xor_any _ _ _).mono ?_)
                           | (go_at_call 23; refine (one_any _).mono ?_)
                           | (go_at_call 17; refine (awake08_any _).mono ?_)
                           | (go_at_call 24; (first | (with_reducible refine (p0 _).mono ?_) | (with_reducible refine (p1 _).mono ?_) | (with_reducible refine (pi _).mono ?_) | (with_reducible refine (pk _).mono ?_) | (with_reducible refine (pm _).mono ?_) | (with_reducible refine (pn _).mono ?_) | (with_reducible refine (pq _).mono ?_)))
                           | (go_at_call 19; refine (ghFold_any _ _ _ (by first | assumption | decide) _).mono ?_))
                        rintro e w' ⟨rfl, hw⟩
                        exact ⟨rfl, St.call (by assumption) hw⟩)))
           try simp only [Act.put, List.setIfInBounds_toArray, List.set])
          (first
             | (apply head_skip rfl)
             | (apply head_step_g rfl
                focus
                  intro w0 hC
                  (first
                     | exact neq_quiet 23 rfl rfl rfl Try.eqGuardType23 Try.underlying23 (by simp [go_sem]) (by simp [go_sem]) (by first | with_reducible assumption | with_reducible rfl)
                     | exact eql_quiet 23 rfl rfl rfl Try.eqGuardType23 Try.underlying23 (by simp [go_sem]) (by simp [go_sem]) (by first | with_reducible assumption | with_reducible rfl)))
             | (apply head_step_g rfl
                focus
                  intro w0 hC
                  have hC' := Lib.hid hC
                  obtain ⟨⟨r1, f1, i1, b1, l1⟩, ⟨r2, f2, i2, b2, l2⟩, ⟨r3, f3, i3, b3, l3⟩, ⟨r4, f4, i4, b4, l4⟩, ⟨r5, f5, i5, b5, l5⟩, ⟨r6, f6, i6, b6, l6⟩, m12, m21, m13, m31, m14, m41, m15, m51, m16, m61, m23, m32, m24, m42, m25, m52, m26, m62, m34, m43, m35, m53, m36, m63, m45, m54, m46, m64, m56, m65⟩ := St.facts6 hC
                  clear hC
                  go_simp
                  have hC := hC'.out
                  (first
                     | with_reducible rfl
                     | (skip
                        (first
                           | (go_at_call 13; refine (ghMul_any _ _ _).mono ?_)
                           | (go_at_call 22; refine (xor_any _ _ _).mono ?_)
                           | (go_at_call 23; refine (one_any _).mono ?_)
                           | (go_at_call 17; refine (awake08_any _).mono ?_)
                           | (go_at_call 24; (first | (with_reducible refine (p0 _).mono ?_) | (with_reducible refine (p1 _).mono ?_) | (with_reducible refine (pi _).mono ?_) | (with_reducible refine (pk _).mono ?_) | (with_reducible refine (pm _).mono ?_) | (with_reducible refine (pn _).mono ?_) | (with_reducible refine (pq _).mono ?_)))
                           | (go_at_call 19; refine (ghFold_any _ _ _ (by first | assumption | decide) _).mono ?_))
                        rintro e w' ⟨rfl, hw⟩
                        exact ⟨rfl, St.call (by assumption) hw⟩)))
           try simp only [Act.put, List.setIfInBounds_toArray, List.set])
          (first
             | (apply head_skip rfl)
             | (apply head_step_g rfl
                focus
                  intro w0 hC
                  (first
                     | exact neq_quiet 23 rfl rfl rfl Try.eqGuardType23 Try.underlying23 (by simp [go_sem]) (by simp [go_sem]) (by first | with_reducible assumption | with_reducible rfl)
                     | exact eql_quiet 23 rfl rfl rfl Try.eqGuardType23 Try.underlying23 (by simp [go_sem]) (by simp [go_sem]) (by first | with_reducible assumption | with_reducible rfl)))
             | (apply head_step_g rfl
                focus
                  intro w0 hC
                  have hC' := Lib.hid hC
                  obtain ⟨⟨r1, f1, i1, b1, l1⟩, ⟨r2, f2, i2, b2, l2⟩, ⟨r3, f3, i3, b3, l3⟩, ⟨r4, f4, i4, b4, l4⟩, ⟨r5, f5, i5, b5, l5⟩, ⟨r6, f6, i6, b6, l6⟩, m12, m21, m13, m31, m14, m41, m15, m51, m16, m61, m23, m32, m24, m42, m25, m52, m26, m62, m34, m43, m35, m53, m36, m63, m45, m54, m46, m64, m56, m65⟩ := St.facts6 hC
                  clear hC
                  go_simp
                  have hC := hC'.out
                  (first
                     | with_reducible rfl
                     | (skip
                        (first
                           | (go_at_call 13; refine (ghMul_any _ _ _).mono ?_)
                           | (go_at_call 22; refine (xor_any _ _ _).mono ?_)
                           | (go_at_call 23; refine (one_any _).mono ?_)
                           | (go_at_call 17; refine (awake08_any _).mono ?_)
                           | (go_at_call 24; (first | (with_reducible refine (p0 _).mono ?_) | (with_reducible refine (p1 _).mono ?_) | (with_reducible refine (pi _).mono ?_) | (with_reducible refine (pk _).mono ?_) | (with_reducible refine (pm _).mono ?_) | (with_reducible refine (pn _).mono ?_) | (with_reducible refine (pq _).mono ?_)))
                           | (go_at_call 19; refine (ghFold_any _ _ _ (by first | assumption | decide) _).mono ?_))
                        rintro e w' ⟨rfl, hw⟩
                        exact ⟨rfl, St.call (by assumption) hw⟩)))
           try simp only [Act.put, List.setIfInBounds_toArray, List.set])
          (first
             | (apply head_skip rfl)
             | (apply head_step_g rfl
                focus
                  intro w0 hC
                  (first
                     | exact neq_quiet 23 rfl rfl rfl Try.eqGuardType23 Try.underlying23 (by simp [go_sem]) (by simp [go_sem]) (by first | with_reducible assumption | with_reducible rfl)
                     | exact eql_quiet 23 rfl rfl rfl Try.eqGuardType23 Try.underlying23 (by simp [go_sem]) (by simp [go_sem]) (by first | with_reducible assumption | with_reducible rfl)))
             | (apply head_step_g rfl
                focus
                  intro w0 hC
                  have hC' := Lib.hid hC
                  obtain ⟨⟨r1, f1, i1, b1, l1⟩, ⟨r2, f2, i2, b2, l2⟩, ⟨r3, f3, i3, b3, l3⟩, ⟨r4, f4, i4, b4, l4⟩, ⟨r5, f5, i5, b5, l5⟩, ⟨r6, f6, i6, b6, l6⟩, m12, m21, m13, m31, m14, m41, m15, m51, m16, m61, m23, m32, m24, m42, m25, m52, m26, m62, m34, m43, m35, m53, m36, m63, m45, m54, m46, m64, m56, m65⟩ := St.facts6 hC
                  clear hC
                  go_simp
                  have hC := hC'.out
                  (first
                     | with_reducible rfl
                     | (skip
                        (first
                           | (go_at_call 13; refine (ghMul_any _ _ _).mono ?_)
                           | (go_at_call 22; refine (xor_any _ _ _).mono ?_)
                           | (go_at_call 23; refine (one_any _).mono ?_)
                           | (go_at_call 17; refine (awake08_any _).mono ?_)
                           | (go_at_call 24; (first | (with_reducible refine (p0 _).mono ?_) | (with_reducible refine (p1 _).mono ?_) | (with_reducible refine (pi _).mono ?_) | (with_reducible refine (pk _).mono ?_) | (with_reducible refine (pm _).mono ?_) | (with_reducible refine (pn _).mono ?_) | (with_reducible refine (pq _).mono ?_)))
                           | (go_at_call 19; refine (ghFold_any _ _ _ (by first | assumption | decide) _).mono ?_))
                        rintro e w' ⟨rfl, hw⟩
                        exact ⟨rfl, St.call (by assumption) hw⟩)))
           try simp only [Act.put, List.setIfInBounds_toArray, List.set])
          (first
             | (apply head_skip rfl)
             | (apply head_step_g rfl
                focus
                  intro w0 hC
                  (first
                     | exact neq_quiet 23 rfl rfl rfl Try.eqGuardType23 Try.underlying23 (by simp [go_sem]) (by simp [go_sem]) (by first | with_reducible assumption | with_reducible rfl)
                     | exact eql_quiet 23 rfl rfl rfl Try.eqGuardType23 Try.underlying23 (by simp [go_sem]) (by simp [go_sem]) (by first | with_reducible assumption | with_reducible rfl)))
             | (apply head_step_g rfl
                focus
                  intro w0 hC
                  have hC' := Lib.hid hC
                  obtain ⟨⟨r1, f1, i1, b1, l1⟩, ⟨r2, f2, i2, b2, l2⟩, ⟨r3, f3, i3, b3, l3⟩, ⟨r4, f4, i4, b4, l4⟩, ⟨r5, f5, i5, b5, l5⟩, ⟨r6, f6, i6, b6, l6⟩, m12, m21, m13, m31, m14, m41, m15, m51, m16, m61, m23, m32, m24, m42, m25, m52, m26, m62, m34, m43, m35, m53, m36, m63, m45, m54, m46, m64, m56, m65⟩ := St.facts6 hC
                  clear hC
                  go_simp
                  have hC := hC'.out
                  (first
                     | with_reducible rfl
                     | (skip
                        (first
                           | (go_at_call 13; refine (ghMul_any _ _ _).mono ?_)
                           | (go_at_call 22; refine (xor_any _ _ _).mono ?_)
                           | (go_at_call 23; refine (one_any _).mono ?_)
                           | (go_at_call 17; refine (awake08_any _).mono ?_)
                           | (go_at_call 24; (first | (with_reducible refine (p0 _).mono ?_) | (with_reducible refine (p1 _).mono ?_) | (with_reducible refine (pi _).mono ?_) | (with_reducible refine (pk _).mono ?_) | (with_reducible refine (pm _).mono ?_) | (with_reducible refine (pn _).mono ?_) | (with_reducible refine (pq _).mono ?_)))
                           | (go_at_call 19; refine (ghFold_any _ _ _ (by first | assumption | decide) _).mono ?_))
                        rintro e w' ⟨rfl, hw⟩
                        exact ⟨rfl, St.call (by assumption) hw⟩)))
           try simp only [Act.put, List.setIfInBounds_toArray, List.set])
          (first
             | (apply head_skip rfl)
             | (apply head_step_g rfl
                focus
                  intro w0 hC
                  (first
                     | exact neq_quiet 23 rfl rfl rfl Try.eqGuardType23 Try.underlying23 (by simp [go_sem]) (by simp [go_sem]) (by first | with_reducible assumption | with_reducible rfl)
                     | exact eql_quiet 23 rfl rfl rfl Try.eqGuardType23 Try.underlying23 (by simp [go_sem]) (by simp [go_sem]) (by first | with_reducible assumption | with_reducible rfl)))
             | (apply head_step_g rfl
                focus
                  intro w0 hC
                  have hC' := Lib.hid hC
                  obtain ⟨⟨r1, f1, i1, b1, l1⟩, ⟨r2, f2, i2, b2, l2⟩, ⟨r3, f3, i3, b3, l3⟩, ⟨r4, f4, i4, b4, l4⟩, ⟨r5, f5, i5, b5, l5⟩, ⟨r6, f6, i6, b6, l6⟩, m12, m21, m13, m31, m14, m41, m15, m51, m16, m61, m23, m32, m24, m42, m25, m52, m26, m62, m34, m43, m35, m53, m36, m63, m45, m54, m46, m64, m56, m65⟩ := St.facts6 hC
                  clear hC
                  go_simp
                  have hC := hC'.out
                  (first
                     | with_reducible rfl
                     | (skip
                        (first
                           | (go_at_call 13; refine (ghMul_any _ _ _).mono ?_)
                           | (go_at_call 22; refine (xor_any _ _ _).mono ?_)
                           | (go_at_call 23; refine (one_any _).mono ?_)
                           | (go_at_call 17; refine (awake08_any _).mono ?_)
                           | (go_at_call 24; (first | (with_reducible refine (p0 _).mono ?_) | (with_reducible refine (p1 _).mono ?_) | (with_reducible refine (pi _).mono ?_) | (with_reducible refine (pk _).mono ?_) | (with_reducible refine (pm _).mono ?_) | (with_reducible refine (pn _).mono ?_) | (with_reducible refine (pq _).mono ?_)))
                           | (go_at_call 19; refine (ghFold_any _ _ _ (by first | assumption | decide) _).mono ?_))
                        rintro e w' ⟨rfl, hw⟩
                        exact ⟨rfl, St.call (by assumption) hw⟩)))
           try simp only [Act.put, List.setIfInBounds_toArray, List.set])
          (first
             | (apply head_skip rfl)
             | (apply head_step_g rfl
                focus
                  intro w0 hC
                  (first
                     | exact neq_quiet 23 rfl rfl rfl Try.eqGuardType23 Try.underlying23 (by simp [go_sem]) (by simp [go_sem]) (by first | with_reducible assumption | with_reducible rfl)
                     | exact eql_quiet 23 rfl rfl rfl Try.eqGuardType23 Try.underlying23 (by simp [go_sem]) (by simp [go_sem]) (by first | with_reducible assumption | with_reducible rfl)))
             | (apply head_step_g rfl
                focus
                  intro w0 hC
                  have hC' := Lib.hid hC
                  obtain ⟨⟨r1, f1, i1, b1, l1⟩, ⟨r2, f2, i2, b2, l2⟩, ⟨r3, f3, i3, b3, l3⟩, ⟨r4, f4, i4, b4, l4⟩, ⟨r5, f5, i5, b5, l5⟩, ⟨r6, f6, i6, b6, l6⟩, m12, m21, m13, m31, m14, m41, m15, m51, m16, m61, m23, m32, m24, m42, m25, m52, m26, m62, m34, m43, m35, m53, m36, m63, m45, m54, m46, m64, m56, m65⟩ := St.facts6 hC
                  clear hC
                  go_simp
                  have hC := hC'.out
                  (first
                     | with_reducible rfl
                     | (skip
                        (first
                           | (go_at_call 13; refine (ghMul_any _ _ _).mono ?_)
                           | (go_at_call 22; refine (xor_any _ _ _).mono ?_)
                           | (go_at_call 23; refine (one_any _).mono ?_)
                           | (go_at_call 17; refine (awake08_any _).mono ?_)
                           | (go_at_call 24; (first | (with_reducible refine (p0 _).mono ?_) | (with_reducible refine (p1 _).mono ?_) | (with_reducible refine (pi _).mono ?_) | (with_reducible refine (pk _).mono ?_) | (with_reducible refine (pm _).mono ?_) | (with_reducible refine (pn _).mono ?_) | (with_reducible refine (pq _).mono ?_)))
                           | (go_at_call 19; refine (ghFold_any _ _ _ (by first | assumption | decide) _).mono ?_))
                        rintro e w' ⟨rfl, hw⟩
                        exact ⟨rfl, St.call (by assumption) hw⟩)))
           try simp only [Act.put, List.setIfInBounds_toArray, List.set])
          (first
             | (apply head_skip rfl)
             | (apply head_step_g rfl
                focus
                  intro w0 hC
                  (first
                     | exact neq_quiet 23 rfl rfl rfl Try.eqGuardType23 Try.underlying23 (by simp [go_sem]) (by simp [go_sem]) (by first | with_reducible assumption | with_reducible rfl)
                     | exact eql_quiet 23 rfl rfl rfl Try.eqGuardType23 Try.underlying23 (by simp [go_sem]) (by simp [go_sem]) (by first | with_reducible assumption | with_reducible rfl)))
             | (apply head_step_g rfl
                focus
                  intro w0 hC
                  have hC' := Lib.hid hC
                  obtain ⟨⟨r1, f1, i1, b1, l1⟩, ⟨r2, f2, i2, b2, l2⟩, ⟨r3, f3, i3, b3, l3⟩, ⟨r4, f4, i4, b4, l4⟩, ⟨r5, f5, i5, b5, l5⟩, ⟨r6, f6, i6, b6, l6⟩, m12, m21, m13, m31, m14, m41, m15, m51, m16, m61, m23, m32, m24, m42, m25, m52, m26, m62, m34, m43, m35, m53, m36, m63, m45, m54, m46, m64, m56, m65⟩ := St.facts6 hC
                  clear hC
                  go_simp
                  have hC := hC'.out
                  (first
                     | with_reducible rfl
                     | (skip
                        (first
                           | (go_at_call 13; refine (ghMul_any _ _ _).mono ?_)
                           | (go_at_call 22; refine (xor_any _ _ _).mono ?_)
                           | (go_at_call 23; refine (one_any _).mono ?_)
                           | (go_at_call 17; refine (awake08_any _).mono ?_)
                           | (go_at_call 24; (first | (with_reducible refine (p0 _).mono ?_) | (with_reducible refine (p1 _).mono ?_) | (with_reducible refine (pi _).mono ?_) | (with_reducible refine (pk _).mono ?_) | (with_reducible refine (pm _).mono ?_) | (with_reducible refine (pn _).mono ?_) | (with_reducible refine (pq _).mono ?_)))
                           | (go_at_call 19; refine (ghFold_any _ _ _ (by first | assumption | decide) _).mono ?_))
                        rintro e w' ⟨rfl, hw⟩
                        exact ⟨rfl, St.call (by assumption) hw⟩)))
           try simp only [Act.put, List.setIfInBounds_toArray, List.set])
          (first
             | (apply head_skip rfl)
             | (apply head_step_g rfl
                focus
                  intro w0 hC
                  (first
                     | exact neq_quiet 23 rfl rfl rfl Try.eqGuardType23 Try.underlying23 (by simp [go_sem]) (by simp [go_sem]) (by first | with_reducible assumption | with_reducible rfl)
                     | exact eql_quiet 23 rfl rfl rfl Try.eqGuardType23 Try.underlying23 (by simp [go_sem]) (by simp [go_sem]) (by first | with_reducible assumption | with_reducible rfl)))
             | (apply head_step_g rfl
                focus
                  intro w0 hC
                  have hC' := Lib.hid hC
                  obtain ⟨⟨r1, f1, i1, b1, l1⟩, ⟨r2, f2, i2, b2, l2⟩, ⟨r3, f3, i3, b3, l3⟩, ⟨r4, f4, i4, b4, l4⟩, ⟨r5, f5, i5, b5, l5⟩, ⟨r6, f6, i6, b6, l6⟩, m12, m21, m13, m31, m14, m41, m15, m51, m16, m61, m23, m32, m24, m42, m25, m52, m26, m62, m34, m43, m35, m53, m36, m63, m45, m54, m46, m64, m56, m65⟩ := St.facts6 hC
                  clear hC
                  go_simp
                  have hC := hC'.out
                  (first
                     | with_reducible rfl
                     | (skip
                        (first
                           | (go_at_call 13; refine (ghMul_any _ _ _).mono ?_)
                           | (go_at_call 22; refine (xor_any _ _ _).mono ?_)
                           | (go_at_call 23; refine (one_any _).mono ?_)
                           | (go_at_call 17; refine (awake08_any _).mono ?_)
                           | (go_at_call 24; (first | (with_reducible refine (p0 _).mono ?_) | (with_reducible refine (p1 _).mono ?_) | (with_reducible refine (pi _).mono ?_) | (with_reducible refine (pk _).mono ?_) | (with_reducible refine (pm _).mono ?_) | (with_reducible refine (pn _).mono ?_) | (with_reducible refine (pq _).mono ?_)))
                           | (go_at_call 19; refine (ghFold_any _ _ _ (by first | assumption | decide) _).mono ?_))
                        rintro e w' ⟨rfl, hw⟩
                        exact ⟨rfl, St.call (by assumption) hw⟩)))
           try simp only [Act.put, List.setIfInBounds_toArray, List.set])
          (first
             | (apply head_skip rfl)
             | (apply head_step_g rfl
                focus
                  intro w0 hC
                  (first
                     | exact neq_quiet 23 rfl rfl rfl Try.eqGuardType23 Try.underlying23 (by simp [go_sem]) (by simp [go_sem]) (by first | with_reducible assumption | with_reducible rfl)
                     | exact eql_quiet 23 rfl rfl rfl Try.eqGuardType23 Try.underlying23 (by simp [go_sem]) (by simp [go_sem]) (by first | with_reducible assumption | with_reducible rfl)))
             | (apply head_step_g rfl
                focus
                  intro w0 hC
                  have hC' := Lib.hid hC
                  obtain ⟨⟨r1, f1, i1, b1, l1⟩, ⟨r2, f2, i2, b2, l2⟩, ⟨r3, f3, i3, b3, l3⟩, ⟨r4, f4, i4, b4, l4⟩, ⟨r5, f5, i5, b5, l5⟩, ⟨r6, f6, i6, b6, l6⟩, m12, m21, m13, m31, m14, m41, m15, m51, m16, m61, m23, m32, m24, m42, m25, m52, m26, m62, m34, m43, m35, m53, m36, m63, m45, m54, m46, m64, m56, m65⟩ := St.facts6 hC
                  clear hC
                  go_simp
                  have hC := hC'.out
                  (first
                     | with_reducible rfl
                     | (skip
                        (first
                           | (go_at_call 13; refine (ghMul_any _ _ _).mono ?_)
                           | (go_at_call 22; refine (xor_any _ _ _).mono ?_)
                           | (go_at_call 23; refine (one_any _).mono ?_)
                           | (go_at_call 17; refine (awake08_any _).mono ?_)
                           | (go_at_call 24; (first | (with_reducible refine (p0 _).mono ?_) | (with_reducible refine (p1 _).mono ?_) | (with_reducible refine (pi _).mono ?_) | (with_reducible refine (pk _).mono ?_) | (with_reducible refine (pm _).mono ?_) | (with_reducible refine (pn _).mono ?_) | (with_reducible refine (pq _).mono ?_)))
                           | (go_at_call 19; refine (ghFold_any _ _ _ (by first | assumption | decide) _).mono ?_))
                        rintro e w' ⟨rfl, hw⟩
                        exact ⟨rfl, St.call (by assumption) hw⟩)))
           try simp only [Act.put, List.setIfInBounds_toArray, List.set])
          (first
             | (apply head_skip rfl)
             | (apply head_step_g rfl
                focus
                  intro w0 hC
                  (first
                     | exact neq_quiet 23 rfl rfl rfl Try.eqGuardType23 Try.underlying23 (by simp [go_sem]) (by simp [go_sem]) (by first | with_reducible assumption | with_reducible rfl)
                     | exact eql_quiet 23 rfl rfl rfl Try.eqGuardType23 Try.underlying23 (by simp [go_sem]) (by simp [go_sem]) (by first | with_reducible assumption | with_reducible rfl)))
             | (apply head_step_g rfl
                focus
                  intro w0 hC
                  have hC' := Lib.hid hC
                  obtain ⟨⟨r1, f1, i1, b1, l1⟩, ⟨r2, f2, i2, b2, l2⟩, ⟨r3, f3, i3, b3, l3⟩, ⟨r4, f4, i4, b4, l4⟩, ⟨r5, f5, i5, b5, l5⟩, ⟨r6, f6, i6, b6, l6⟩, m12, m21, m13, m31, m14, m41, m15, m51, m16, m61, m23, m32, m24, m42, m25, m52, m26, m62, m34, m43, m35, m53, m36, m63, m45, m54, m46, m64, m56, m65⟩ := St.facts6 hC
                  clear hC
                  go_simp
                  have hC := hC'.out
                  (first
                     | with_reducible rfl
                     | (skip
                        (first
                           | (go_at_call 13; refine (ghMul_any _ _ _).mono ?_)
                           | (go_at_call 22; refine (xor_any _ _ _).mono ?_)
                           | (go_at_call 23; refine (one_any _).mono ?_)
                           | (go_at_call 17; refine (awake08_any _).mono ?_)
                           | (go_at_call 24; (first | (with_reducible refine (p0 _).mono ?_) | (with_reducible refine (p1 _).mono ?_) | (with_reducible refine (pi _).mono ?_) | (with_reducible refine (pk _).mono ?_) | (with_reducible refine (pm _).mono ?_) | (with_reducible refine (pn _).mono ?_) | (with_reducible refine (pq _).mono ?_)))
                           | (go_at_call 19; refine (ghFold_any _ _ _ (by first | assumption | decide) _).mono ?_))
                        rintro e w' ⟨rfl, hw⟩
                        exact ⟨rfl, St.call (by assumption) hw⟩)))
           try simp only [Act.put, List.setIfInBounds_toArray, List.set])
          (first
             | (apply head_skip rfl)
             | (apply head_step_g rfl
                focus
                  intro w0 hC
                  (first
                     | exact neq_quiet 23 rfl rfl rfl Try.eqGuardType23 Try.underlying23 (by simp [go_sem]) (by simp [go_sem]) (by first | with_reducible assumption | with_reducible rfl)
                     | exact eql_quiet 23 rfl rfl rfl Try.eqGuardType23 Try.underlying23 (by simp [go_sem]) (by simp [go_sem]) (by first | with_reducible assumption | with_reducible rfl)))
             | (apply head_step_g rfl
                focus
                  intro w0 hC
                  have hC' := Lib.hid hC
                  obtain ⟨⟨r1, f1, i1, b1, l1⟩, ⟨r2, f2, i2, b2, l2⟩, ⟨r3, f3, i3, b3, l3⟩, ⟨r4, f4, i4, b4, l4⟩, ⟨r5, f5, i5, b5, l5⟩, ⟨r6, f6, i6, b6, l6⟩, m12, m21, m13, m31, m14, m41, m15, m51, m16, m61, m23, m32, m24, m42, m25, m52, m26, m62, m34, m43, m35, m53, m36, m63, m45, m54, m46, m64, m56, m65⟩ := St.facts6 hC
                  clear hC
                  go_simp
                  have hC := hC'.out
                  (first
                     | with_reducible rfl
                     | (skip
                        (first
                           | (go_at_call 13; refine (ghMul_any _ _ _).mono ?_)
                           | (go_at_call 22; refine (xor_any _ _ _).mono ?_)
                           | (go_at_call 23; refine (one_any _).mono ?_)
                           | (go_at_call 17; refine (awake08_any _).mono ?_)
                           | (go_at_call 24; (first | (with_reducible refine (p0 _).mono ?_) | (with_reducible refine (p1 _).mono ?_) | (with_reducible refine (pi _).mono ?_) | (with_reducible refine (pk _).mono ?_) | (with_reducible refine (pm _).mono ?_) | (with_reducible refine (pn _).mono ?_) | (with_reducible refine (pq _).mono ?_)))
                           | (go_at_call 19; refine (ghFold_any _ _ _ (by first | assumption | decide) _).mono ?_))
                        rintro e w' ⟨rfl, hw⟩
                        exact ⟨rfl, St.call (by assumption) hw⟩)))
           try simp only [Act.put, List.setIfInBounds_toArray, List.set])
          (first
             | (apply head_skip rfl)
             | (apply head_step_g rfl
                focus
                  intro w0 hC
                  (first
                     | exact neq_quiet 23 rfl rfl rfl Try.eqGuardType23 Try.underlying23 (by simp [go_sem]) (by simp [go_sem]) (by first | with_reducible assumption | with_reducible rfl)
                     | exact eql_quiet 23 rfl rfl rfl Try.eqGuardType23 Try.underlying23 (by simp [go_sem]) (by simp [go_sem]) (by first | with_reducible assumption | with_reducible rfl)))
             | (apply head_step_g rfl
                focus
                  intro w0 hC
                  have hC' := Lib.hid hC
                  obtain ⟨⟨r1, f1, i1, b1, l1⟩, ⟨r2, f2, i2, b2, l2⟩, ⟨r3, f3, i3, b3, l3⟩, ⟨r4, f4, i4, b4, l4⟩, ⟨r5, f5, i5, b5, l5⟩, ⟨r6, f6, i6, b6, l6⟩, m12, m21, m13, m31, m14, m41, m15, m51, m16, m61, m23, m32, m24, m42, m25, m52, m26, m62, m34, m43, m35, m53, m36, m63, m45, m54, m46, m64, m56, m65⟩ := St.facts6 hC
                  clear hC
                  go_simp
                  have hC := hC'.out
                  (first
                     | with_reducible rfl
                     | (skip
                        (first
                           | (go_at_call 13; refine (ghMul_any _ _ _).mono ?_)
                           | (go_at_call 22; refine (xor_any _ _ _).mono ?_)
                           | (go_at_call 23; refine (one_any _).mono ?_)
                           | (go_at_call 17; refine (awake08_any _).mono ?_)
                           | (go_at_call 24; (first | (with_reducible refine (p0 _).mono ?_) | (with_reducible refine (p1 _).mono ?_) | (with_reducible refine (pi _).mono ?_) | (with_reducible refine (pk _).mono ?_) | (with_reducible refine (pm _).mono ?_) | (with_reducible refine (pn _).mono ?_) | (with_reducible refine (pq _).mono ?_)))
                           | (go_at_call 19; refine (ghFold_any _ _ _ (by first | assumption | decide) _).mono ?_))
                        rintro e w' ⟨rfl, hw⟩
                        exact ⟨rfl, St.call (by assumption) hw⟩)))
           try simp only [Act.put, List.setIfInBounds_toArray, List.set])
          (first
             | (apply head_skip rfl)
             | (apply head_step_g rfl
                focus
                  intro w0 hC
                  (first
                     | exact neq_quiet 23 rfl rfl rfl Try.eqGuardType23 Try.underlying23 (by simp [go_sem]) (by simp [go_sem]) (by first | with_reducible assumption | with_reducible rfl)
                     | exact eql_quiet 23 rfl rfl rfl Try.eqGuardType23 Try.underlying23 (by simp [go_sem]) (by simp [go_sem]) (by first | with_reducible assumption | with_reducible rfl)))
             | (apply head_step_g rfl
                focus
                  intro w0 hC
                  have hC' := Lib.hid hC
                  obtain ⟨⟨r1, f1, i1, b1, l1⟩, ⟨r2, f2, i2, b2, l2⟩, ⟨r3, f3, i3, b3, l3⟩, ⟨r4, f4, i4, b4, l4⟩, ⟨r5, f5, i5, b5, l5⟩, ⟨r6, f6, i6, b6, l6⟩, m12, m21, m13, m31, m14, m41, m15, m51, m16, m61, m23, m32, m24, m42, m25, m52, m26, m62, m34, m43, m35, m53, m36, m63, m45, m54, m46, m64, m56, m65⟩ := St.facts6 hC
                  clear hC
                  go_simp
                  have hC := hC'.out
                  (first
                     | with_reducible rfl
                     | (skip
                        (first
                           | (go_at_call 13; refine (ghMul_any _ _ _).mono ?_)
                           | (go_at_call 22; refine (xor_any _ _ _).mono ?_)
                           | (go_at_call 23; refine (one_any _).mono ?_)
                           | (go_at_call 17; refine (awake08_any _).mono ?_)
                           | (go_at_call 24; (first | (with_reducible refine (p0 _).mono ?_) | (with_reducible refine (p1 _).mono ?_) | (with_reducible refine (pi _).mono ?_) | (with_reducible refine (pk _).mono ?_) | (with_reducible refine (pm _).mono ?_) | (with_reducible refine (pn _).mono ?_) | (with_reducible refine (pq _).mono ?_)))
                           | (go_at_call 19; refine (ghFold_any _ _ _ (by first | assumption | decide) _).mono ?_))
                        rintro e w' ⟨rfl, hw⟩
                        exact ⟨rfl, St.call (by assumption) hw⟩)))
           try simp only [Act.put, List.setIfInBounds_toArray, List.set])
          (first
             | (apply head_skip rfl)
             | (apply head_step_g rfl
                focus
                  intro w0 hC
                  (first
                     | exact neq_quiet 23 rfl rfl rfl Try.eqGuardType23 Try.underlying23 (by simp [go_sem]) (by simp [go_sem]) (by first | with_reducible assumption | with_reducible rfl)
                     | exact eql_quiet 23 rfl rfl rfl Try.eqGuardType23 Try.underlying23 (by simp [go_sem]) (by simp [go_sem]) (by first | with_reducible assumption | with_reducible rfl)))
             | (apply head_step_g rfl
                focus
                  intro w0 hC
                  have hC' := Lib.hid hC
                  obtain ⟨⟨r1, f1, i1, b1, l1⟩, ⟨r2, f2, i2, b2, l2⟩, ⟨r3, f3, i3, b3, l3⟩, ⟨r4, f4, i4, b4, l4⟩, ⟨r5, f5, i5, b5, l5⟩, ⟨r6, f6, i6, b6, l6⟩, m12, m21, m13, m31, m14, m41, m15, m51, m16, m61, m23, m32, m24, m42, m25, m52, m26, m62, m34, m43, m35, m53, m36, m63, m45, m54, m46, m64, m56, m65⟩ := St.facts6 hC
                  clear hC
                  go_simp
                  have hC := hC'.out
                  (first
                     | with_reducible rfl
                     | (skip
                        (first
                           | (go_at_call 13; refine (ghMul_any _ _ _).mono ?_)
                           | (go_at_call 22; refine (xor_any _ _ _).mono ?_)
                           | (go_at_call 23; refine (one_any _).mono ?_)
                           | (go_at_call 17; refine (awake08_any _).mono ?_)
                           | (go_at_call 24; (first | (with_reducible refine (p0 _).mono ?_) | (with_reducible refine (p1 _).mono ?_) | (with_reducible refine (pi _).mono ?_) | (with_reducible refine (pk _).mono ?_) | (with_reducible refine (pm _).mono ?_) | (with_reducible refine (pn _).mono ?_) | (with_reducible refine (pq _).mono ?_)))
                           | (go_at_call 19; refine (ghFold_any _ _ _ (by first | assumption | decide) _).mono ?_))
                        rintro e w' ⟨rfl, hw⟩
                        exact ⟨rfl, St.call (by assumption) hw⟩)))
           try simp only [Act.put, List.setIfInBounds_toArray, List.set])
          refine wpQuiet_nil ?_
          intro w6 hC
          clear q1 q2 q3 q4 q5 pq
          go_wp2_with fail
          go_ret
          exact ⟨rfl, hC.below⟩
end Go.Proofs.Ytepooocdpifcfaa
