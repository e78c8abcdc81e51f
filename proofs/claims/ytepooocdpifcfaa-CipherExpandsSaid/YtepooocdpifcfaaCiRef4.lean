/- The reference's rounds of a key. No condition on bytes. -/
import Derived.Test.YtepooocdpifcfaaCiKeys
namespace Go.Proofs.Ytepooocdpifcfaa
open Go.RowKit
attribute [local go_sem] B_xor B_or B_and
attribute [local go_sem] blk_set blk_size blk_get blk_getE upd_same oneCells_blk paste_blk cut_blk szOf
attribute [local go_sem high] paste_all cut_head
attribute [local go_sem] rowAt_alloc rowAt_drew rowAt_drewN isRow_alloc isRow_drew isRow_drewN freeRow_alloc freeRow_drew freeRow_drewN
attribute [local go_sem] setRow_alloc setRow_drew setRow_drewN setCell_drewN alloc_drewN rowAt_setRow isRow_setRow freeRow_setRow
attribute [local go_sem ↓] loadS_in storeS_in indexS_in copyS_in
attribute [local go_sem] loadS_row loadS_one storeS_row storeS_one indexS_blk copyS_rows run_equalIn_blk same_refl arrayAt_row
attribute [local go_sem] cell_row frozen_row st_setCell st_blk_ne stepAt stepUpon
attribute [local go_sem high] run_eql_blk run_neq_blk

/-! ### word by word -/
/-- word n of the rounds, byte i -/
def wd (key : Nat → UInt8) (n i : Nat) : UInt8 := Ci.rounds key (4 * n + i)
/-- what is put to word n -/
def put (key : Nat → UInt8) (n : Nat) : Nat → UInt8 := if n % 4 = 0 then Ci.first (Ci.expand key (n / 4 - 1)) (Ci.mark (n / 4 - 1)) else fun i => wd key (n - 1) i
theorem wd_at (key : Nat → UInt8) (n i : Nat) (hi : i < 4) : wd key n i = Ci.expand key (n / 4) (4 * (n % 4) + i) := by
  unfold wd Ci.rounds
  rw [show (4 * n + i) / 16 = n / 4 by omega, show (4 * n + i) % 16 = 4 * (n % 4) + i by omega]
theorem wd_key (key : Nat → UInt8) (n i : Nat) (hn : n < 4) (hi : i < 4) : wd key n i = key (4 * n + i) := by
  rw [wd_at key n i hi, show n / 4 = 0 by omega, show n % 4 = n by omega]; rfl
theorem wd_next (key : Nat → UInt8) (n i : Nat) (hn : 4 ≤ n) (hi : i < 4) : wd key n i = wd key (n - 4) i ^^^ put key n i := by
  obtain ⟨m, hm⟩ : ∃ m, n / 4 = m + 1 := ⟨n / 4 - 1, by omega⟩
  rw [wd_at key n i hi, wd_at key (n - 4) i hi, hm, show (n - 4) / 4 = m by omega, show (n - 4) % 4 = n % 4 by omega]
  unfold put
  rw [hm, show m + 1 - 1 = m by omega]
  show Ci.next (Ci.expand key m) (Ci.mark m) (4 * (n % 4) + i) = _
  unfold Ci.next
  rw [show (4 * (n % 4) + i) / 4 = n % 4 by omega, show (4 * (n % 4) + i) % 4 = i by omega]
  by_cases h0 : n % 4 = 0
  · rw [if_pos h0, h0]
    show Ci.expand key m i ^^^ _ = Ci.expand key m (4 * 0 + i) ^^^ _
    rw [show 4 * 0 + i = i by omega]
  · rw [if_neg h0, wd_at key (n - 1) i hi]
    obtain ⟨k, hk⟩ : ∃ k, n % 4 = k + 1 := ⟨n % 4 - 1, by omega⟩
    rw [hk, show (n - 1) / 4 = m + 1 by omega, show (n - 1) % 4 = k by omega]
    show Ci.expand key m (4 * (k + 1) + i) ^^^ Ci.nextAt _ _ k i = _
    congr 1
    show _ = Ci.next (Ci.expand key m) (Ci.mark m) (4 * k + i)
    unfold Ci.next
    rw [show (4 * k + i) / 4 = k by omega, show (4 * k + i) % 4 = i by omega]
theorem put_first (key : Nat → UInt8) (n : Nat) (h : n % 4 = 0) (hn : 4 ≤ n) (c : UInt8) (hc : c = Ci.mark (n / 4 - 1)) : blk 4 (upd (upd (upd (upd (fun _ => 0) 0 (Gf.box (wd key (n - 1) 1) ^^^ c)) 1 (Gf.box (wd key (n - 1) 2))) 2 (Gf.box (wd key (n - 1) 3))) 3 (Gf.box (wd key (n - 1) 0))) = blk 4 (put key n) := blk_congr fun i hi => by
  subst hc
  unfold put
  rw [if_pos h]
  have e : ∀ j, j < 4 → wd key (n - 1) j = Ci.expand key (n / 4 - 1) (12 + j) := fun j hj => by
    rw [wd_at key (n - 1) j hj, show (n - 1) / 4 = n / 4 - 1 by omega, show (n - 1) % 4 = 3 by omega]
  rw [e 0 (by decide), e 1 (by decide), e 2 (by decide), e 3 (by decide)]
  rcases Ci.four_cases hi with rfl | rfl | rfl | rfl <;> rfl
theorem put_other (key : Nat → UInt8) (n : Nat) (h : n % 4 ≠ 0) : blk 4 (fun i => wd key (n - 1) i) = blk 4 (put key n) := by unfold put; rw [if_neg h]
theorem mul_two (x : UInt8) : Gf.mul 2 x = Gf.dbl x := by
  revert x; apply Gf.all256; decide +kernel
/-- the mark at the head of word n -/
def markAt (n : Nat) : UInt8 := Ci.mark ((n - 1) / 4)

theorem markAt_low (n : Nat) (h : n < 4) : markAt (n + 1) = markAt n := by
  unfold markAt; congr 1; omega
theorem markAt_same (n : Nat) (h : n % 4 ≠ 0) : markAt (n + 1) = markAt n := by
  unfold markAt; congr 1; omega
theorem markAt_next (n : Nat) (h : n % 4 = 0) (hn : 4 ≤ n) : Gf.mul 2 (markAt n) = markAt (n + 1) := by
  rw [mul_two]
  unfold markAt
  rw [show (n + 1 - 1) / 4 = (n - 1) / 4 + 1 by omega]; rfl
theorem markAt_put (n : Nat) (h : n % 4 = 0) (hn : 4 ≤ n) : markAt n = Ci.mark (n / 4 - 1) := by
  unfold markAt; congr 1; omega
/-- the words as far as they are laid -/
def laid (key : Nat → UInt8) (n i : Nat) : Nat → UInt8 := upTo (fun _ => 0) (Ci.rounds key) (at4 n i)
theorem laid_start (key : Nat → UInt8) : blk 176 (fun _ => 0) = blk 176 (laid key 0 0) := (upTo_zero _ _ _).symm
theorem laid_end (key : Nat → UInt8) : blk 176 (laid key 44 0) = blk 176 (Ci.rounds key) := upTo_all _ _ _
theorem laid_word (key : Nat → UInt8) (n : Nat) : blk 176 (cpy (laid key n 0) (n * 4) (wd key n) 0 4) = blk 176 (laid key (n + 1) 0) := blk_congr fun i hi => by
  unfold cpy laid upTo at4 wd
  by_cases h : n * 4 ≤ i ∧ i < n * 4 + 4
  · rw [if_pos h, if_pos (by omega)]; congr 1; omega
  · rw [if_neg h]
    by_cases h2 : i < 4 * n + 0
    · rw [if_pos h2, if_pos (by omega)]
    · rw [if_neg h2, if_neg (by omega)]
theorem laid_get (key : Nat → UInt8) (n : Nat) (hn : 1 ≤ n) : blk 4 (fun j => laid key n 0 ((n - 1) * 4 + j)) = blk 4 (wd key (n - 1)) := blk_congr fun i hi => by
  unfold laid upTo at4 wd
  rw [if_pos (by omega)]; congr 1; omega
theorem laid_old (key : Nat → UInt8) (n j : Nat) (hn : 4 ≤ n) : laid key n j ((n - 4) * 4 + j) = wd key (n - 4) j := by
  unfold laid upTo at4 wd
  rw [if_pos (by omega)]; congr 1; omega
theorem laid_byte (key : Nat → UInt8) (n j : Nat) : blk 176 (upd (laid key n j) (n * 4 + j) (wd key n j)) = blk 176 (laid key n (j + 1)) := blk_congr fun i hi => by
  unfold upd laid upTo at4 wd
  by_cases h : i = n * 4 + j
  · rw [if_pos h, if_pos (by omega)]; congr 1; omega
  · rw [if_neg h]
    by_cases h2 : i < 4 * n + j
    · rw [if_pos h2, if_pos (by omega)]
    · rw [if_neg h2, if_neg (by omega)]
def quo4 (n : Nat) : Nat := n / 4
def rem4 (n : Nat) : Nat := n % 4
theorem laid_byte2 (key : Nat → UInt8) (n j : Nat) : blk 176 (upd (laid key n j) (quo4 n * 16 + at4 (rem4 n) j) (Ci.rounds key (n * 4 + j))) = blk 176 (laid key n (j + 1)) := by
  have h := laid_byte key n j
  unfold wd at h
  rw [show quo4 n * 16 + at4 (rem4 n) j = n * 4 + j by unfold at4 quo4 rem4; omega, show Ci.rounds key (n * 4 + j) = Ci.rounds key (4 * n + j) by congr 1; omega]
  exact h
theorem laid_on (key : Nat → UInt8) (n : Nat) : laid key n 4 = laid key (n + 1) 0 := rfl
theorem Pur.below {P : Program} {f : FuncId} {args : Array Value} {v : Value} (h : Pur P f args v) (w : World) : Calls P f args w fun e w' => e = .returned v ∧ Below w.heap.size w w' :=
  (h w).mono fun _ _ ⟨a, n, b⟩ => ⟨a, b ▸ drewN_below w n⟩
theorem blk_lit4 (x y z t : UInt8) : #[Value.int .u8 (B x), .int .u8 (B y), .int .u8 (B z), .int .u8 (B t)] = blk 4 (upd (upd (upd (upd (fun _ => 0) 0 x) 1 y) 2 z) 3 t) := rfl
theorem key_word (key : Nat → UInt8) (n : Nat) (hn : n < 4) : blk 4 (upd (upd (upd (upd (fun _ => 0) 0 (key (at4 n 0))) 1 (key (at4 n 1))) 2 (key (at4 n 2))) 3 (key (at4 n 3))) = blk 4 (wd key n) :=
  blk_congr fun i hi => by
    rw [wd_key key n i hn hi]
    rcases Ci.four_cases hi with rfl | rfl | rfl | rfl <;> rfl

set_option maxRecDepth 100000 in
set_option maxHeartbeats 4000000 in
theorem refExpand_any (key : Nat → UInt8) (w : World) : Calls Try.prog 26 #[.agg (blk 16 key)] w fun e w' => e = .returned (.agg (blk 176 (Ci.rounds key))) ∧ Below w.heap.size w w' := by
  have hz : Try.zeroCells77 = blk 176 (fun _ => 0) := by kernel_rfl
  have hz2 : Try.zeroCells48 = blk 176 (fun _ => 0) := by kernel_rfl
  have hz4 := zero4
  go_enter Try.func26, Try.ntmps26
  go_wp2_with fail
  go_loopw [4, 5] (fun c i wr => ∃ n : Nat, n ≤ 44 ∧ i = .int .i64 (n : Int) ∧ c = .int .u8 (B (markAt n)) ∧ Hid (St w [(w.heap.size + 1 + 1, blk 176 (laid key n 0)), (w.heap.size + 1, blk 176 (fun _ => 0)), (w.heap.size, blk 16 key)] wr)) (fun _ i _ => 44 - (intOf i).toNat)
  case atStart =>
    refine ⟨0, by omega, rfl, rfl, Lib.hid ?_⟩
    rw [← laid_start]
    exact (((St.nil w).pushA _ _ rfl).pushA _ _ (by simp)).pushA _ _ (by simp)
  case round =>
    obtain ⟨n, hn, rfl, rfl, HR⟩ := hrel
    have hC := HR.out
    by_cases hlt : n < 44
    · have hd : ((n : Int) < 44) := by omega
      have b1 : n * 4 + 4 ≤ 176 := by omega
      by_cases h4 : n < 4
      · have hd4 : ((n : Int) < 4) := by omega
        have v0 : IntKind.i64.wrap (4 * (n : Int)) = (at4 n 0 : Int) := by rw [IntWalk.i64_in _ (by omega)]; unfold at4; omega
        have v1 : IntKind.i64.wrap ((at4 n 0 : Int) + 1) = (at4 n 1 : Int) := by unfold at4; rw [IntWalk.i64_in _ (by omega)]; omega
        have v2 : IntKind.i64.wrap ((at4 n 0 : Int) + 2) = (at4 n 2 : Int) := by unfold at4; rw [IntWalk.i64_in _ (by omega)]; omega
        have v3 : IntKind.i64.wrap ((at4 n 0 : Int) + 3) = (at4 n 3 : Int) := by unfold at4; rw [IntWalk.i64_in _ (by omega)]; omega
        have c0 : at4 n 0 < 16 := by unfold at4; omega
        have c1 : at4 n 1 < 16 := by unfold at4; omega
        have c2 : at4 n 2 < 16 := by unfold at4; omega
        have c3 : at4 n 3 < 16 := by unfold at4; omega
        have d0 : (at4 n 0 : Int) < 16 := by omega
        have d1 : (at4 n 1 : Int) < 16 := by omega
        have d2 : (at4 n 2 : Int) < 16 := by omega
        have d3 : (at4 n 3 : Int) < 16 := by omega
        have hkw := key_word key n h4
        have hlw := laid_word key n
        have hm := markAt_low n h4
        go_wp2_with fail
        refine St.region_tail 22 HR.out (by kernel_rfl) (by decide +kernel) ?_
        (simp only [List.take, List.drop])
        clear hC
        (first
           | (apply head_skip rfl)
           | (apply head_step_g rfl
              focus
                intro w0 hC
                (fail))
           | (apply head_step_g rfl
              focus
                intro w0 hC
                have hC' := Lib.hid hC
                obtain ⟨⟨r1, f1, i1, b1, l1⟩, ⟨r2, f2, i2, b2, l2⟩, ⟨r3, f3, i3, b3, l3⟩, m12, m21, m13, m31, m23, m32⟩ := St.facts3 hC
                clear hC
                go_simp
                have hC := hC'.out
                (first
                   | with_reducible rfl
                   | (refine (Pur.below (refBox_pur _) _).mono ?_
                      rintro e w' ⟨rfl, hw⟩
                      exact ⟨rfl, St.call (by assumption) hw⟩)))
         try simp only [Act.put, List.setIfInBounds_toArray, List.set])
        (first
           | (apply head_skip rfl)
           | (apply head_step_g rfl
              focus
                intro w0 hC
                (fail))
           | (apply head_step_g rfl
              focus
                intro w0 hC
                have hC' := Lib.hid hC
                obtain ⟨⟨r1, f1, i1, b1, l1⟩, ⟨r2, f2, i2, b2, l2⟩, ⟨r3, f3, i3, b3, l3⟩, m12, m21, m13, m31, m23, m32⟩ := St.facts3 hC
                clear hC
                go_simp
                have hC := hC'.out
                (first
                   | with_reducible rfl
                   | (refine (Pur.below (refBox_pur _) _).mono ?_
                      rintro e w' ⟨rfl, hw⟩
                      exact ⟨rfl, St.call (by assumption) hw⟩)))
         try simp only [Act.put, List.setIfInBounds_toArray, List.set])
        (first
           | (apply head_skip rfl)
           | (apply head_step_g rfl
              focus
                intro w0 hC
                (fail))
           | (apply head_step_g rfl
              focus
                intro w0 hC
                have hC' := Lib.hid hC
                obtain ⟨⟨r1, f1, i1, b1, l1⟩, ⟨r2, f2, i2, b2, l2⟩, ⟨r3, f3, i3, b3, l3⟩, m12, m21, m13, m31, m23, m32⟩ := St.facts3 hC
                clear hC
                go_simp
                have hC := hC'.out
                (first
                   | with_reducible rfl
                   | (refine (Pur.below (refBox_pur _) _).mono ?_
                      rintro e w' ⟨rfl, hw⟩
                      exact ⟨rfl, St.call (by assumption) hw⟩)))
         try simp only [Act.put, List.setIfInBounds_toArray, List.set])
        (first
           | (apply head_skip rfl)
           | (apply head_step_g rfl
              focus
                intro w0 hC
                (fail))
           | (apply head_step_g rfl
              focus
                intro w0 hC
                have hC' := Lib.hid hC
                obtain ⟨⟨r1, f1, i1, b1, l1⟩, ⟨r2, f2, i2, b2, l2⟩, ⟨r3, f3, i3, b3, l3⟩, m12, m21, m13, m31, m23, m32⟩ := St.facts3 hC
                clear hC
                go_simp
                have hC := hC'.out
                (first
                   | with_reducible rfl
                   | (refine (Pur.below (refBox_pur _) _).mono ?_
                      rintro e w' ⟨rfl, hw⟩
                      exact ⟨rfl, St.call (by assumption) hw⟩)))
         try simp only [Act.put, List.setIfInBounds_toArray, List.set])
        (first
           | (apply head_skip rfl)
           | (apply head_step_g rfl
              focus
                intro w0 hC
                (fail))
           | (apply head_step_g rfl
              focus
                intro w0 hC
                have hC' := Lib.hid hC
                obtain ⟨⟨r1, f1, i1, b1, l1⟩, ⟨r2, f2, i2, b2, l2⟩, ⟨r3, f3, i3, b3, l3⟩, m12, m21, m13, m31, m23, m32⟩ := St.facts3 hC
                clear hC
                go_simp
                have hC := hC'.out
                (first
                   | with_reducible rfl
                   | (refine (Pur.below (refBox_pur _) _).mono ?_
                      rintro e w' ⟨rfl, hw⟩
                      exact ⟨rfl, St.call (by assumption) hw⟩)))
         try simp only [Act.put, List.setIfInBounds_toArray, List.set])
        (first
           | (apply head_skip rfl)
           | (apply head_step_g rfl
              focus
                intro w0 hC
                (fail))
           | (apply head_step_g rfl
              focus
                intro w0 hC
                have hC' := Lib.hid hC
                obtain ⟨⟨r1, f1, i1, b1, l1⟩, ⟨r2, f2, i2, b2, l2⟩, ⟨r3, f3, i3, b3, l3⟩, m12, m21, m13, m31, m23, m32⟩ := St.facts3 hC
                clear hC
                go_simp
                have hC := hC'.out
                (first
                   | with_reducible rfl
                   | (refine (Pur.below (refBox_pur _) _).mono ?_
                      rintro e w' ⟨rfl, hw⟩
                      exact ⟨rfl, St.call (by assumption) hw⟩)))
         try simp only [Act.put, List.setIfInBounds_toArray, List.set])
        (first
           | (apply head_skip rfl)
           | (apply head_step_g rfl
              focus
                intro w0 hC
                (fail))
           | (apply head_step_g rfl
              focus
                intro w0 hC
                have hC' := Lib.hid hC
                obtain ⟨⟨r1, f1, i1, b1, l1⟩, ⟨r2, f2, i2, b2, l2⟩, ⟨r3, f3, i3, b3, l3⟩, m12, m21, m13, m31, m23, m32⟩ := St.facts3 hC
                clear hC
                go_simp
                have hC := hC'.out
                (first
                   | with_reducible rfl
                   | (refine (Pur.below (refBox_pur _) _).mono ?_
                      rintro e w' ⟨rfl, hw⟩
                      exact ⟨rfl, St.call (by assumption) hw⟩)))
         try simp only [Act.put, List.setIfInBounds_toArray, List.set])
        (first
           | (apply head_skip rfl)
           | (apply head_step_g rfl
              focus
                intro w0 hC
                (fail))
           | (apply head_step_g rfl
              focus
                intro w0 hC
                have hC' := Lib.hid hC
                obtain ⟨⟨r1, f1, i1, b1, l1⟩, ⟨r2, f2, i2, b2, l2⟩, ⟨r3, f3, i3, b3, l3⟩, m12, m21, m13, m31, m23, m32⟩ := St.facts3 hC
                clear hC
                go_simp
                have hC := hC'.out
                (first
                   | with_reducible rfl
                   | (refine (Pur.below (refBox_pur _) _).mono ?_
                      rintro e w' ⟨rfl, hw⟩
                      exact ⟨rfl, St.call (by assumption) hw⟩)))
         try simp only [Act.put, List.setIfInBounds_toArray, List.set])
        (first
           | (apply head_skip rfl)
           | (apply head_step_g rfl
              focus
                intro w0 hC
                (fail))
           | (apply head_step_g rfl
              focus
                intro w0 hC
                have hC' := Lib.hid hC
                obtain ⟨⟨r1, f1, i1, b1, l1⟩, ⟨r2, f2, i2, b2, l2⟩, ⟨r3, f3, i3, b3, l3⟩, m12, m21, m13, m31, m23, m32⟩ := St.facts3 hC
                clear hC
                go_simp
                have hC := hC'.out
                (first
                   | with_reducible rfl
                   | (refine (Pur.below (refBox_pur _) _).mono ?_
                      rintro e w' ⟨rfl, hw⟩
                      exact ⟨rfl, St.call (by assumption) hw⟩)))
         try simp only [Act.put, List.setIfInBounds_toArray, List.set])
        (first
           | (apply head_skip rfl)
           | (apply head_step_g rfl
              focus
                intro w0 hC
                (fail))
           | (apply head_step_g rfl
              focus
                intro w0 hC
                have hC' := Lib.hid hC
                obtain ⟨⟨r1, f1, i1, b1, l1⟩, ⟨r2, f2, i2, b2, l2⟩, ⟨r3, f3, i3, b3, l3⟩, m12, m21, m13, m31, m23, m32⟩ := St.facts3 hC
                clear hC
                go_simp
                have hC := hC'.out
                (first
                   | with_reducible rfl
                   | (refine (Pur.below (refBox_pur _) _).mono ?_
                      rintro e w' ⟨rfl, hw⟩
                      exact ⟨rfl, St.call (by assumption) hw⟩)))
         try simp only [Act.put, List.setIfInBounds_toArray, List.set])
        (first
           | (apply head_skip rfl)
           | (apply head_step_g rfl
              focus
                intro w0 hC
                (fail))
           | (apply head_step_g rfl
              focus
                intro w0 hC
                have hC' := Lib.hid hC
                obtain ⟨⟨r1, f1, i1, b1, l1⟩, ⟨r2, f2, i2, b2, l2⟩, ⟨r3, f3, i3, b3, l3⟩, m12, m21, m13, m31, m23, m32⟩ := St.facts3 hC
                clear hC
                go_simp
                have hC := hC'.out
                (first
                   | with_reducible rfl
                   | (refine (Pur.below (refBox_pur _) _).mono ?_
                      rintro e w' ⟨rfl, hw⟩
                      exact ⟨rfl, St.call (by assumption) hw⟩)))
         try simp only [Act.put, List.setIfInBounds_toArray, List.set])
        (first
           | (apply head_skip rfl)
           | (apply head_step_g rfl
              focus
                intro w0 hC
                (fail))
           | (apply head_step_g rfl
              focus
                intro w0 hC
                have hC' := Lib.hid hC
                obtain ⟨⟨r1, f1, i1, b1, l1⟩, ⟨r2, f2, i2, b2, l2⟩, ⟨r3, f3, i3, b3, l3⟩, m12, m21, m13, m31, m23, m32⟩ := St.facts3 hC
                clear hC
                go_simp
                have hC := hC'.out
                (first
                   | with_reducible rfl
                   | (refine (Pur.below (refBox_pur _) _).mono ?_
                      rintro e w' ⟨rfl, hw⟩
                      exact ⟨rfl, St.call (by assumption) hw⟩)))
         try simp only [Act.put, List.setIfInBounds_toArray, List.set])
        (first
           | (apply head_skip rfl)
           | (apply head_step_g rfl
              focus
                intro w0 hC
                (fail))
           | (apply head_step_g rfl
              focus
                intro w0 hC
                have hC' := Lib.hid hC
                obtain ⟨⟨r1, f1, i1, b1, l1⟩, ⟨r2, f2, i2, b2, l2⟩, ⟨r3, f3, i3, b3, l3⟩, m12, m21, m13, m31, m23, m32⟩ := St.facts3 hC
                clear hC
                go_simp
                have hC := hC'.out
                (first
                   | with_reducible rfl
                   | (refine (Pur.below (refBox_pur _) _).mono ?_
                      rintro e w' ⟨rfl, hw⟩
                      exact ⟨rfl, St.call (by assumption) hw⟩)))
         try simp only [Act.put, List.setIfInBounds_toArray, List.set])
        (first
           | (apply head_skip rfl)
           | (apply head_step_g rfl
              focus
                intro w0 hC
                (fail))
           | (apply head_step_g rfl
              focus
                intro w0 hC
                have hC' := Lib.hid hC
                obtain ⟨⟨r1, f1, i1, b1, l1⟩, ⟨r2, f2, i2, b2, l2⟩, ⟨r3, f3, i3, b3, l3⟩, m12, m21, m13, m31, m23, m32⟩ := St.facts3 hC
                clear hC
                go_simp
                have hC := hC'.out
                (first
                   | with_reducible rfl
                   | (refine (Pur.below (refBox_pur _) _).mono ?_
                      rintro e w' ⟨rfl, hw⟩
                      exact ⟨rfl, St.call (by assumption) hw⟩)))
         try simp only [Act.put, List.setIfInBounds_toArray, List.set])
        (first
           | (apply head_skip rfl)
           | (apply head_step_g rfl
              focus
                intro w0 hC
                (fail))
           | (apply head_step_g rfl
              focus
                intro w0 hC
                have hC' := Lib.hid hC
                obtain ⟨⟨r1, f1, i1, b1, l1⟩, ⟨r2, f2, i2, b2, l2⟩, ⟨r3, f3, i3, b3, l3⟩, m12, m21, m13, m31, m23, m32⟩ := St.facts3 hC
                clear hC
                go_simp
                have hC := hC'.out
                (first
                   | with_reducible rfl
                   | (refine (Pur.below (refBox_pur _) _).mono ?_
                      rintro e w' ⟨rfl, hw⟩
                      exact ⟨rfl, St.call (by assumption) hw⟩)))
         try simp only [Act.put, List.setIfInBounds_toArray, List.set])
        (first
           | (apply head_skip rfl)
           | (apply head_step_g rfl
              focus
                intro w0 hC
                (fail))
           | (apply head_step_g rfl
              focus
                intro w0 hC
                have hC' := Lib.hid hC
                obtain ⟨⟨r1, f1, i1, b1, l1⟩, ⟨r2, f2, i2, b2, l2⟩, ⟨r3, f3, i3, b3, l3⟩, m12, m21, m13, m31, m23, m32⟩ := St.facts3 hC
                clear hC
                go_simp
                have hC := hC'.out
                (first
                   | with_reducible rfl
                   | (refine (Pur.below (refBox_pur _) _).mono ?_
                      rintro e w' ⟨rfl, hw⟩
                      exact ⟨rfl, St.call (by assumption) hw⟩)))
         try simp only [Act.put, List.setIfInBounds_toArray, List.set])
        (first
           | (apply head_skip rfl)
           | (apply head_step_g rfl
              focus
                intro w0 hC
                (fail))
           | (apply head_step_g rfl
              focus
                intro w0 hC
                have hC' := Lib.hid hC
                obtain ⟨⟨r1, f1, i1, b1, l1⟩, ⟨r2, f2, i2, b2, l2⟩, ⟨r3, f3, i3, b3, l3⟩, m12, m21, m13, m31, m23, m32⟩ := St.facts3 hC
                clear hC
                go_simp
                have hC := hC'.out
                (first
                   | with_reducible rfl
                   | (refine (Pur.below (refBox_pur _) _).mono ?_
                      rintro e w' ⟨rfl, hw⟩
                      exact ⟨rfl, St.call (by assumption) hw⟩)))
         try simp only [Act.put, List.setIfInBounds_toArray, List.set])
        (first
           | (apply head_skip rfl)
           | (apply head_step_g rfl
              focus
                intro w0 hC
                (fail))
           | (apply head_step_g rfl
              focus
                intro w0 hC
                have hC' := Lib.hid hC
                obtain ⟨⟨r1, f1, i1, b1, l1⟩, ⟨r2, f2, i2, b2, l2⟩, ⟨r3, f3, i3, b3, l3⟩, m12, m21, m13, m31, m23, m32⟩ := St.facts3 hC
                clear hC
                go_simp
                have hC := hC'.out
                (first
                   | with_reducible rfl
                   | (refine (Pur.below (refBox_pur _) _).mono ?_
                      rintro e w' ⟨rfl, hw⟩
                      exact ⟨rfl, St.call (by assumption) hw⟩)))
         try simp only [Act.put, List.setIfInBounds_toArray, List.set])
        (first
           | (apply head_skip rfl)
           | (apply head_step_g rfl
              focus
                intro w0 hC
                (fail))
           | (apply head_step_g rfl
              focus
                intro w0 hC
                have hC' := Lib.hid hC
                obtain ⟨⟨r1, f1, i1, b1, l1⟩, ⟨r2, f2, i2, b2, l2⟩, ⟨r3, f3, i3, b3, l3⟩, m12, m21, m13, m31, m23, m32⟩ := St.facts3 hC
                clear hC
                go_simp
                have hC := hC'.out
                (first
                   | with_reducible rfl
                   | (refine (Pur.below (refBox_pur _) _).mono ?_
                      rintro e w' ⟨rfl, hw⟩
                      exact ⟨rfl, St.call (by assumption) hw⟩)))
         try simp only [Act.put, List.setIfInBounds_toArray, List.set])
        (first
           | (apply head_skip rfl)
           | (apply head_step_g rfl
              focus
                intro w0 hC
                (fail))
           | (apply head_step_g rfl
              focus
                intro w0 hC
                have hC' := Lib.hid hC
                obtain ⟨⟨r1, f1, i1, b1, l1⟩, ⟨r2, f2, i2, b2, l2⟩, ⟨r3, f3, i3, b3, l3⟩, m12, m21, m13, m31, m23, m32⟩ := St.facts3 hC
                clear hC
                go_simp
                have hC := hC'.out
                (first
                   | with_reducible rfl
                   | (refine (Pur.below (refBox_pur _) _).mono ?_
                      rintro e w' ⟨rfl, hw⟩
                      exact ⟨rfl, St.call (by assumption) hw⟩)))
         try simp only [Act.put, List.setIfInBounds_toArray, List.set])
        (first
           | (apply head_skip rfl)
           | (apply head_step_g rfl
              focus
                intro w0 hC
                (fail))
           | (apply head_step_g rfl
              focus
                intro w0 hC
                have hC' := Lib.hid hC
                obtain ⟨⟨r1, f1, i1, b1, l1⟩, ⟨r2, f2, i2, b2, l2⟩, ⟨r3, f3, i3, b3, l3⟩, m12, m21, m13, m31, m23, m32⟩ := St.facts3 hC
                clear hC
                go_simp
                have hC := hC'.out
                (first
                   | with_reducible rfl
                   | (refine (Pur.below (refBox_pur _) _).mono ?_
                      rintro e w' ⟨rfl, hw⟩
                      exact ⟨rfl, St.call (by assumption) hw⟩)))
         try simp only [Act.put, List.setIfInBounds_toArray, List.set])
        (first
           | (apply head_skip rfl)
           | (apply head_step_g rfl
              focus
                intro w0 hC
                (fail))
           | (apply head_step_g rfl
              focus
                intro w0 hC
                have hC' := Lib.hid hC
                obtain ⟨⟨r1, f1, i1, b1, l1⟩, ⟨r2, f2, i2, b2, l2⟩, ⟨r3, f3, i3, b3, l3⟩, m12, m21, m13, m31, m23, m32⟩ := St.facts3 hC
                clear hC
                go_simp
                have hC := hC'.out
                (first
                   | with_reducible rfl
                   | (refine (Pur.below (refBox_pur _) _).mono ?_
                      rintro e w' ⟨rfl, hw⟩
                      exact ⟨rfl, St.call (by assumption) hw⟩)))
         try simp only [Act.put, List.setIfInBounds_toArray, List.set])
        refine wpQuiet_nil ?_
        intro w1 hC
        (have HC := Lib.hid hC
         have sos := hC.below.os
         obtain ⟨⟨r1, f1, i1, b1, l1⟩, ⟨r2, f2, i2, b2, l2⟩, ⟨r3, f3, i3, b3, l3⟩, m12, m21, m13, m31, m23, m32⟩ := St.facts3 hC
         clear hC)
        go_wp2_with fail
        have HC := HC.out.set_head (blk 176 (laid key (n + 1) 0))
        exact ⟨⟨n + 1, by omega, by go_num, by rw [hm], Lib.hid HC⟩, by simp [intOf]; omega⟩
      · have hd4 : ¬ ((n : Int) < 4) := by omega
        have v0 : IntKind.i64.wrap ((n : Int) - 1) = ((n - 1 : Nat) : Int) := by rw [IntWalk.i64_in _ (by omega)]; omega
        have b0 : (n - 1) * 4 + 4 ≤ 176 := by omega
        have c0 : n - 1 < 44 := by omega
        have c1 : ((n - 1 : Nat) : Int) < 44 := by omega
        have hg := laid_get key n (by omega)
        by_cases hm : n % 4 = 0
        · have ht : ((n : Int) % 4 == 0) = true := by simp; omega
          have hp := put_first key n hm (by omega) (markAt n) (markAt_put n hm (by omega))
          have hk := markAt_next n hm (by omega)
          (have HC := Lib.hid hC
           have sos := hC.below.os
           obtain ⟨⟨r1, f1, i1, b1, l1⟩, ⟨r2, f2, i2, b2, l2⟩, ⟨r3, f3, i3, b3, l3⟩, m12, m21, m13, m31, m23, m32⟩ := St.facts3 hC
           clear hC)
          go_wp2_with fail
          have HC := Lib.hid (HC.out.push (blk 4 (wd key (n - 1))) 76)
          (clear r1 f1 i1 b1 l1 r2 f2 i2 b2 l2 r3 f3 i3 b3 l3 m12 m21 m13 m31 m23 m32 sos)
          clear v0 b0 c0 c1 hg HR
          generalize wr.heap.size = g6 at HC ⊢
          refine St.region_tail 15 HC.out (by kernel_rfl) (by decide +kernel) ?_
          (simp only [List.take, List.drop])
          (first
             | (apply head_skip rfl)
             | (apply head_step_g rfl
                focus
                  intro w0 hC
                  (fail))
             | (apply head_step_g rfl
                focus
                  intro w0 hC
                  have hC' := Lib.hid hC
                  obtain ⟨⟨r1, f1, i1, b1, l1⟩, ⟨r2, f2, i2, b2, l2⟩, ⟨r3, f3, i3, b3, l3⟩, ⟨r4, f4, i4, b4, l4⟩, m12, m21, m13, m31, m14, m41, m23, m32, m24, m42, m34, m43⟩ := St.facts4 hC
                  clear hC
                  go_simp
                  have hC := hC'.out
                  (first
                     | with_reducible rfl
                     | (refine (Pur.below (refBox_pur _) _).mono ?_
                        rintro e w' ⟨rfl, hw⟩
                        exact ⟨rfl, St.call (by assumption) hw⟩)))
           try simp only [Act.put, List.setIfInBounds_toArray, List.set])
          (first
             | (apply head_skip rfl)
             | (apply head_step_g rfl
                focus
                  intro w0 hC
                  (fail))
             | (apply head_step_g rfl
                focus
                  intro w0 hC
                  have hC' := Lib.hid hC
                  obtain ⟨⟨r1, f1, i1, b1, l1⟩, ⟨r2, f2, i2, b2, l2⟩, ⟨r3, f3, i3, b3, l3⟩, ⟨r4, f4, i4, b4, l4⟩, m12, m21, m13, m31, m14, m41, m23, m32, m24, m42, m34, m43⟩ := St.facts4 hC
                  clear hC
                  go_simp
                  have hC := hC'.out
                  (first
                     | with_reducible rfl
                     | (refine (Pur.below (refBox_pur _) _).mono ?_
                        rintro e w' ⟨rfl, hw⟩
                        exact ⟨rfl, St.call (by assumption) hw⟩)))
           try simp only [Act.put, List.setIfInBounds_toArray, List.set])
          (first
             | (apply head_skip rfl)
             | (apply head_step_g rfl
                focus
                  intro w0 hC
                  (fail))
             | (apply head_step_g rfl
                focus
                  intro w0 hC
                  have hC' := Lib.hid hC
                  obtain ⟨⟨r1, f1, i1, b1, l1⟩, ⟨r2, f2, i2, b2, l2⟩, ⟨r3, f3, i3, b3, l3⟩, ⟨r4, f4, i4, b4, l4⟩, m12, m21, m13, m31, m14, m41, m23, m32, m24, m42, m34, m43⟩ := St.facts4 hC
                  clear hC
                  go_simp
                  have hC := hC'.out
                  (first
                     | with_reducible rfl
                     | (refine (Pur.below (refBox_pur _) _).mono ?_
                        rintro e w' ⟨rfl, hw⟩
                        exact ⟨rfl, St.call (by assumption) hw⟩)))
           try simp only [Act.put, List.setIfInBounds_toArray, List.set])
          (first
             | (apply head_skip rfl)
             | (apply head_step_g rfl
                focus
                  intro w0 hC
                  (fail))
             | (apply head_step_g rfl
                focus
                  intro w0 hC
                  have hC' := Lib.hid hC
                  obtain ⟨⟨r1, f1, i1, b1, l1⟩, ⟨r2, f2, i2, b2, l2⟩, ⟨r3, f3, i3, b3, l3⟩, ⟨r4, f4, i4, b4, l4⟩, m12, m21, m13, m31, m14, m41, m23, m32, m24, m42, m34, m43⟩ := St.facts4 hC
                  clear hC
                  go_simp
                  have hC := hC'.out
                  (first
                     | with_reducible rfl
                     | (refine (Pur.below (refBox_pur _) _).mono ?_
                        rintro e w' ⟨rfl, hw⟩
                        exact ⟨rfl, St.call (by assumption) hw⟩)))
           try simp only [Act.put, List.setIfInBounds_toArray, List.set])
          (first
             | (apply head_skip rfl)
             | (apply head_step_g rfl
                focus
                  intro w0 hC
                  (fail))
             | (apply head_step_g rfl
                focus
                  intro w0 hC
                  have hC' := Lib.hid hC
                  obtain ⟨⟨r1, f1, i1, b1, l1⟩, ⟨r2, f2, i2, b2, l2⟩, ⟨r3, f3, i3, b3, l3⟩, ⟨r4, f4, i4, b4, l4⟩, m12, m21, m13, m31, m14, m41, m23, m32, m24, m42, m34, m43⟩ := St.facts4 hC
                  clear hC
                  go_simp
                  have hC := hC'.out
                  (first
                     | with_reducible rfl
                     | (refine (Pur.below (refBox_pur _) _).mono ?_
                        rintro e w' ⟨rfl, hw⟩
                        exact ⟨rfl, St.call (by assumption) hw⟩)))
           try simp only [Act.put, List.setIfInBounds_toArray, List.set])
          (first
             | (apply head_skip rfl)
             | (apply head_step_g rfl
                focus
                  intro w0 hC
                  (fail))
             | (apply head_step_g rfl
                focus
                  intro w0 hC
                  have hC' := Lib.hid hC
                  obtain ⟨⟨r1, f1, i1, b1, l1⟩, ⟨r2, f2, i2, b2, l2⟩, ⟨r3, f3, i3, b3, l3⟩, ⟨r4, f4, i4, b4, l4⟩, m12, m21, m13, m31, m14, m41, m23, m32, m24, m42, m34, m43⟩ := St.facts4 hC
                  clear hC
                  go_simp
                  have hC := hC'.out
                  (first
                     | with_reducible rfl
                     | (refine (Pur.below (refBox_pur _) _).mono ?_
                        rintro e w' ⟨rfl, hw⟩
                        exact ⟨rfl, St.call (by assumption) hw⟩)))
           try simp only [Act.put, List.setIfInBounds_toArray, List.set])
          (first
             | (apply head_skip rfl)
             | (apply head_step_g rfl
                focus
                  intro w0 hC
                  (fail))
             | (apply head_step_g rfl
                focus
                  intro w0 hC
                  have hC' := Lib.hid hC
                  obtain ⟨⟨r1, f1, i1, b1, l1⟩, ⟨r2, f2, i2, b2, l2⟩, ⟨r3, f3, i3, b3, l3⟩, ⟨r4, f4, i4, b4, l4⟩, m12, m21, m13, m31, m14, m41, m23, m32, m24, m42, m34, m43⟩ := St.facts4 hC
                  clear hC
                  go_simp
                  have hC := hC'.out
                  (first
                     | with_reducible rfl
                     | (refine (Pur.below (refBox_pur _) _).mono ?_
                        rintro e w' ⟨rfl, hw⟩
                        exact ⟨rfl, St.call (by assumption) hw⟩)))
           try simp only [Act.put, List.setIfInBounds_toArray, List.set])
          (first
             | (apply head_skip rfl)
             | (apply head_step_g rfl
                focus
                  intro w0 hC
                  (fail))
             | (apply head_step_g rfl
                focus
                  intro w0 hC
                  have hC' := Lib.hid hC
                  obtain ⟨⟨r1, f1, i1, b1, l1⟩, ⟨r2, f2, i2, b2, l2⟩, ⟨r3, f3, i3, b3, l3⟩, ⟨r4, f4, i4, b4, l4⟩, m12, m21, m13, m31, m14, m41, m23, m32, m24, m42, m34, m43⟩ := St.facts4 hC
                  clear hC
                  go_simp
                  have hC := hC'.out
                  (first
                     | with_reducible rfl
                     | (refine (Pur.below (refBox_pur _) _).mono ?_
                        rintro e w' ⟨rfl, hw⟩
                        exact ⟨rfl, St.call (by assumption) hw⟩)))
           try simp only [Act.put, List.setIfInBounds_toArray, List.set])
          (first
             | (apply head_skip rfl)
             | (apply head_step_g rfl
                focus
                  intro w0 hC
                  (fail))
             | (apply head_step_g rfl
                focus
                  intro w0 hC
                  have hC' := Lib.hid hC
                  obtain ⟨⟨r1, f1, i1, b1, l1⟩, ⟨r2, f2, i2, b2, l2⟩, ⟨r3, f3, i3, b3, l3⟩, ⟨r4, f4, i4, b4, l4⟩, m12, m21, m13, m31, m14, m41, m23, m32, m24, m42, m34, m43⟩ := St.facts4 hC
                  clear hC
                  go_simp
                  have hC := hC'.out
                  (first
                     | with_reducible rfl
                     | (refine (Pur.below (refBox_pur _) _).mono ?_
                        rintro e w' ⟨rfl, hw⟩
                        exact ⟨rfl, St.call (by assumption) hw⟩)))
           try simp only [Act.put, List.setIfInBounds_toArray, List.set])
          (first
             | (apply head_skip rfl)
             | (apply head_step_g rfl
                focus
                  intro w0 hC
                  (fail))
             | (apply head_step_g rfl
                focus
                  intro w0 hC
                  have hC' := Lib.hid hC
                  obtain ⟨⟨r1, f1, i1, b1, l1⟩, ⟨r2, f2, i2, b2, l2⟩, ⟨r3, f3, i3, b3, l3⟩, ⟨r4, f4, i4, b4, l4⟩, m12, m21, m13, m31, m14, m41, m23, m32, m24, m42, m34, m43⟩ := St.facts4 hC
                  clear hC
                  go_simp
                  have hC := hC'.out
                  (first
                     | with_reducible rfl
                     | (refine (Pur.below (refBox_pur _) _).mono ?_
                        rintro e w' ⟨rfl, hw⟩
                        exact ⟨rfl, St.call (by assumption) hw⟩)))
           try simp only [Act.put, List.setIfInBounds_toArray, List.set])
          (first
             | (apply head_skip rfl)
             | (apply head_step_g rfl
                focus
                  intro w0 hC
                  (fail))
             | (apply head_step_g rfl
                focus
                  intro w0 hC
                  have hC' := Lib.hid hC
                  obtain ⟨⟨r1, f1, i1, b1, l1⟩, ⟨r2, f2, i2, b2, l2⟩, ⟨r3, f3, i3, b3, l3⟩, ⟨r4, f4, i4, b4, l4⟩, m12, m21, m13, m31, m14, m41, m23, m32, m24, m42, m34, m43⟩ := St.facts4 hC
                  clear hC
                  go_simp
                  have hC := hC'.out
                  (first
                     | with_reducible rfl
                     | (refine (Pur.below (refBox_pur _) _).mono ?_
                        rintro e w' ⟨rfl, hw⟩
                        exact ⟨rfl, St.call (by assumption) hw⟩)))
           try simp only [Act.put, List.setIfInBounds_toArray, List.set])
          (first
             | (apply head_skip rfl)
             | (apply head_step_g rfl
                focus
                  intro w0 hC
                  (fail))
             | (apply head_step_g rfl
                focus
                  intro w0 hC
                  have hC' := Lib.hid hC
                  obtain ⟨⟨r1, f1, i1, b1, l1⟩, ⟨r2, f2, i2, b2, l2⟩, ⟨r3, f3, i3, b3, l3⟩, ⟨r4, f4, i4, b4, l4⟩, m12, m21, m13, m31, m14, m41, m23, m32, m24, m42, m34, m43⟩ := St.facts4 hC
                  clear hC
                  go_simp
                  have hC := hC'.out
                  (first
                     | with_reducible rfl
                     | (refine (Pur.below (refBox_pur _) _).mono ?_
                        rintro e w' ⟨rfl, hw⟩
                        exact ⟨rfl, St.call (by assumption) hw⟩)))
           try simp only [Act.put, List.setIfInBounds_toArray, List.set])
          (first
             | (apply head_skip rfl)
             | (apply head_step_g rfl
                focus
                  intro w0 hC
                  (fail))
             | (apply head_step_g rfl
                focus
                  intro w0 hC
                  have hC' := Lib.hid hC
                  obtain ⟨⟨r1, f1, i1, b1, l1⟩, ⟨r2, f2, i2, b2, l2⟩, ⟨r3, f3, i3, b3, l3⟩, ⟨r4, f4, i4, b4, l4⟩, m12, m21, m13, m31, m14, m41, m23, m32, m24, m42, m34, m43⟩ := St.facts4 hC
                  clear hC
                  go_simp
                  have hC := hC'.out
                  (first
                     | with_reducible rfl
                     | (refine (Pur.below (refBox_pur _) _).mono ?_
                        rintro e w' ⟨rfl, hw⟩
                        exact ⟨rfl, St.call (by assumption) hw⟩)))
           try simp only [Act.put, List.setIfInBounds_toArray, List.set])
          (first
             | (apply head_skip rfl)
             | (apply head_step_g rfl
                focus
                  intro w0 hC
                  (fail))
             | (apply head_step_g rfl
                focus
                  intro w0 hC
                  have hC' := Lib.hid hC
                  obtain ⟨⟨r1, f1, i1, b1, l1⟩, ⟨r2, f2, i2, b2, l2⟩, ⟨r3, f3, i3, b3, l3⟩, ⟨r4, f4, i4, b4, l4⟩, m12, m21, m13, m31, m14, m41, m23, m32, m24, m42, m34, m43⟩ := St.facts4 hC
                  clear hC
                  go_simp
                  have hC := hC'.out
                  (first
                     | with_reducible rfl
                     | (refine (Pur.below (refBox_pur _) _).mono ?_
                        rintro e w' ⟨rfl, hw⟩
                        exact ⟨rfl, St.call (by assumption) hw⟩)))
           try simp only [Act.put, List.setIfInBounds_toArray, List.set])
          (first
             | (apply head_skip rfl)
             | (apply head_step_g rfl
                focus
                  intro w0 hC
                  (fail))
             | (apply head_step_g rfl
                focus
                  intro w0 hC
                  have hC' := Lib.hid hC
                  obtain ⟨⟨r1, f1, i1, b1, l1⟩, ⟨r2, f2, i2, b2, l2⟩, ⟨r3, f3, i3, b3, l3⟩, ⟨r4, f4, i4, b4, l4⟩, m12, m21, m13, m31, m14, m41, m23, m32, m24, m42, m34, m43⟩ := St.facts4 hC
                  clear hC
                  go_simp
                  have hC := hC'.out
                  (first
                     | with_reducible rfl
                     | (refine (Pur.below (refBox_pur _) _).mono ?_
                        rintro e w' ⟨rfl, hw⟩
                        exact ⟨rfl, St.call (by assumption) hw⟩)))
           try simp only [Act.put, List.setIfInBounds_toArray, List.set])
          refine wpQuiet_nil ?_
          intro w1 hC
          (have HC := Lib.hid hC
           have sos := hC.below.os
           obtain ⟨⟨r1, f1, i1, b1, l1⟩, ⟨r2, f2, i2, b2, l2⟩, ⟨r3, f3, i3, b3, l3⟩, ⟨r4, f4, i4, b4, l4⟩, m12, m21, m13, m31, m14, m41, m23, m32, m24, m42, m34, m43⟩ := St.facts4 hC
           clear hC)
          go_wp2_with fail
          have HC := Lib.hid (HC.out.set_head (blk 4 (put key n)))
          (clear r1 f1 i1 b1 l1 r2 f2 i2 b2 l2 r3 f3 i3 b3 l3 r4 f4 i4 b4 l4 m12 m21 m13 m31 m14 m41 m23 m32 m24 m42 m34 m43 sos)
          refine ((refMul_at 2 _ 2 (markAt n) rfl rfl).below _).mono ?_; rintro e w3 ⟨rfl, hw⟩
          have HC := Lib.hid (HC.out.call hw)
          clear hw
          have sos := HC.out.os
          go_wp2_with fail
          clear hp sos
          (go_loopw [7] (fun i wx => ∃ j : Nat, j ≤ 4 ∧ i = .int .i64 (j : Int) ∧ Hid (St w [(g6, blk 4 (put key n)), (w.heap.size + 1 + 1, blk 176 (laid key n j)), (w.heap.size + 1, blk 176 (fun _ => 0)), (w.heap.size, blk 16 key)] wx)) (fun i _ => 4 - (intOf i).toNat)
           case atStart => exact ⟨0, by omega, rfl, HC⟩
           case round =>
             clear HC
             obtain ⟨j, hj, rfl, HJ⟩ := hrel
             by_cases hjt : j < 4
             · have v4 : IntKind.i64.wrap ((n : Int) - 4) = ((n - 4 : Nat) : Int) := by rw [IntWalk.i64_in _ (by omega)]; omega
               have e1 : n - 4 < 44 := by omega
               have e2 : ((n - 4 : Nat) : Int) < 44 := by omega
               have e3 : (j : Int) < 4 := by omega
               have e4 : (n - 4) * 4 + j < 176 := by omega
               have e5 : n * 4 + j < 176 := by omega
               have e6 := laid_old key n j (by omega)
               have e7 : wd key (n - 4) j ^^^ put key n j = wd key n j := (wd_next key n j (by omega) hjt).symm
               have e8 := laid_byte key n j
               go_wp2_with fail
               refine St.region_tail 14 HJ.out (by kernel_rfl) (by decide +kernel) ?_
               (simp only [List.take, List.drop])
               (first
                  | (apply head_skip rfl)
                  | (apply head_step_g rfl
                     focus
                       intro w0 hC
                       (fail))
                  | (apply head_step_g rfl
                     focus
                       intro w0 hC
                       have hC' := Lib.hid hC
                       obtain ⟨⟨r1, f1, i1, b1, l1⟩, ⟨r2, f2, i2, b2, l2⟩, ⟨r3, f3, i3, b3, l3⟩, ⟨r4, f4, i4, b4, l4⟩, m12, m21, m13, m31, m14, m41, m23, m32, m24, m42, m34, m43⟩ := St.facts4 hC
                       clear hC
                       go_simp
                       have hC := hC'.out
                       (first
                          | with_reducible rfl
                          | (refine (Pur.below (refBox_pur _) _).mono ?_
                             rintro e w' ⟨rfl, hw⟩
                             exact ⟨rfl, St.call (by assumption) hw⟩)))
                try simp only [Act.put, List.setIfInBounds_toArray, List.set])
               (first
                  | (apply head_skip rfl)
                  | (apply head_step_g rfl
                     focus
                       intro w0 hC
                       (fail))
                  | (apply head_step_g rfl
                     focus
                       intro w0 hC
                       have hC' := Lib.hid hC
                       obtain ⟨⟨r1, f1, i1, b1, l1⟩, ⟨r2, f2, i2, b2, l2⟩, ⟨r3, f3, i3, b3, l3⟩, ⟨r4, f4, i4, b4, l4⟩, m12, m21, m13, m31, m14, m41, m23, m32, m24, m42, m34, m43⟩ := St.facts4 hC
                       clear hC
                       go_simp
                       have hC := hC'.out
                       (first
                          | with_reducible rfl
                          | (refine (Pur.below (refBox_pur _) _).mono ?_
                             rintro e w' ⟨rfl, hw⟩
                             exact ⟨rfl, St.call (by assumption) hw⟩)))
                try simp only [Act.put, List.setIfInBounds_toArray, List.set])
               (first
                  | (apply head_skip rfl)
                  | (apply head_step_g rfl
                     focus
                       intro w0 hC
                       (fail))
                  | (apply head_step_g rfl
                     focus
                       intro w0 hC
                       have hC' := Lib.hid hC
                       obtain ⟨⟨r1, f1, i1, b1, l1⟩, ⟨r2, f2, i2, b2, l2⟩, ⟨r3, f3, i3, b3, l3⟩, ⟨r4, f4, i4, b4, l4⟩, m12, m21, m13, m31, m14, m41, m23, m32, m24, m42, m34, m43⟩ := St.facts4 hC
                       clear hC
                       go_simp
                       have hC := hC'.out
                       (first
                          | with_reducible rfl
                          | (refine (Pur.below (refBox_pur _) _).mono ?_
                             rintro e w' ⟨rfl, hw⟩
                             exact ⟨rfl, St.call (by assumption) hw⟩)))
                try simp only [Act.put, List.setIfInBounds_toArray, List.set])
               (first
                  | (apply head_skip rfl)
                  | (apply head_step_g rfl
                     focus
                       intro w0 hC
                       (fail))
                  | (apply head_step_g rfl
                     focus
                       intro w0 hC
                       have hC' := Lib.hid hC
                       obtain ⟨⟨r1, f1, i1, b1, l1⟩, ⟨r2, f2, i2, b2, l2⟩, ⟨r3, f3, i3, b3, l3⟩, ⟨r4, f4, i4, b4, l4⟩, m12, m21, m13, m31, m14, m41, m23, m32, m24, m42, m34, m43⟩ := St.facts4 hC
                       clear hC
                       go_simp
                       have hC := hC'.out
                       (first
                          | with_reducible rfl
                          | (refine (Pur.below (refBox_pur _) _).mono ?_
                             rintro e w' ⟨rfl, hw⟩
                             exact ⟨rfl, St.call (by assumption) hw⟩)))
                try simp only [Act.put, List.setIfInBounds_toArray, List.set])
               (first
                  | (apply head_skip rfl)
                  | (apply head_step_g rfl
                     focus
                       intro w0 hC
                       (fail))
                  | (apply head_step_g rfl
                     focus
                       intro w0 hC
                       have hC' := Lib.hid hC
                       obtain ⟨⟨r1, f1, i1, b1, l1⟩, ⟨r2, f2, i2, b2, l2⟩, ⟨r3, f3, i3, b3, l3⟩, ⟨r4, f4, i4, b4, l4⟩, m12, m21, m13, m31, m14, m41, m23, m32, m24, m42, m34, m43⟩ := St.facts4 hC
                       clear hC
                       go_simp
                       have hC := hC'.out
                       (first
                          | with_reducible rfl
                          | (refine (Pur.below (refBox_pur _) _).mono ?_
                             rintro e w' ⟨rfl, hw⟩
                             exact ⟨rfl, St.call (by assumption) hw⟩)))
                try simp only [Act.put, List.setIfInBounds_toArray, List.set])
               (first
                  | (apply head_skip rfl)
                  | (apply head_step_g rfl
                     focus
                       intro w0 hC
                       (fail))
                  | (apply head_step_g rfl
                     focus
                       intro w0 hC
                       have hC' := Lib.hid hC
                       obtain ⟨⟨r1, f1, i1, b1, l1⟩, ⟨r2, f2, i2, b2, l2⟩, ⟨r3, f3, i3, b3, l3⟩, ⟨r4, f4, i4, b4, l4⟩, m12, m21, m13, m31, m14, m41, m23, m32, m24, m42, m34, m43⟩ := St.facts4 hC
                       clear hC
                       go_simp
                       have hC := hC'.out
                       (first
                          | with_reducible rfl
                          | (refine (Pur.below (refBox_pur _) _).mono ?_
                             rintro e w' ⟨rfl, hw⟩
                             exact ⟨rfl, St.call (by assumption) hw⟩)))
                try simp only [Act.put, List.setIfInBounds_toArray, List.set])
               (first
                  | (apply head_skip rfl)
                  | (apply head_step_g rfl
                     focus
                       intro w0 hC
                       (fail))
                  | (apply head_step_g rfl
                     focus
                       intro w0 hC
                       have hC' := Lib.hid hC
                       obtain ⟨⟨r1, f1, i1, b1, l1⟩, ⟨r2, f2, i2, b2, l2⟩, ⟨r3, f3, i3, b3, l3⟩, ⟨r4, f4, i4, b4, l4⟩, m12, m21, m13, m31, m14, m41, m23, m32, m24, m42, m34, m43⟩ := St.facts4 hC
                       clear hC
                       go_simp
                       have hC := hC'.out
                       (first
                          | with_reducible rfl
                          | (refine (Pur.below (refBox_pur _) _).mono ?_
                             rintro e w' ⟨rfl, hw⟩
                             exact ⟨rfl, St.call (by assumption) hw⟩)))
                try simp only [Act.put, List.setIfInBounds_toArray, List.set])
               (first
                  | (apply head_skip rfl)
                  | (apply head_step_g rfl
                     focus
                       intro w0 hC
                       (fail))
                  | (apply head_step_g rfl
                     focus
                       intro w0 hC
                       have hC' := Lib.hid hC
                       obtain ⟨⟨r1, f1, i1, b1, l1⟩, ⟨r2, f2, i2, b2, l2⟩, ⟨r3, f3, i3, b3, l3⟩, ⟨r4, f4, i4, b4, l4⟩, m12, m21, m13, m31, m14, m41, m23, m32, m24, m42, m34, m43⟩ := St.facts4 hC
                       clear hC
                       go_simp
                       have hC := hC'.out
                       (first
                          | with_reducible rfl
                          | (refine (Pur.below (refBox_pur _) _).mono ?_
                             rintro e w' ⟨rfl, hw⟩
                             exact ⟨rfl, St.call (by assumption) hw⟩)))
                try simp only [Act.put, List.setIfInBounds_toArray, List.set])
               (first
                  | (apply head_skip rfl)
                  | (apply head_step_g rfl
                     focus
                       intro w0 hC
                       (fail))
                  | (apply head_step_g rfl
                     focus
                       intro w0 hC
                       have hC' := Lib.hid hC
                       obtain ⟨⟨r1, f1, i1, b1, l1⟩, ⟨r2, f2, i2, b2, l2⟩, ⟨r3, f3, i3, b3, l3⟩, ⟨r4, f4, i4, b4, l4⟩, m12, m21, m13, m31, m14, m41, m23, m32, m24, m42, m34, m43⟩ := St.facts4 hC
                       clear hC
                       go_simp
                       have hC := hC'.out
                       (first
                          | with_reducible rfl
                          | (refine (Pur.below (refBox_pur _) _).mono ?_
                             rintro e w' ⟨rfl, hw⟩
                             exact ⟨rfl, St.call (by assumption) hw⟩)))
                try simp only [Act.put, List.setIfInBounds_toArray, List.set])
               (first
                  | (apply head_skip rfl)
                  | (apply head_step_g rfl
                     focus
                       intro w0 hC
                       (fail))
                  | (apply head_step_g rfl
                     focus
                       intro w0 hC
                       have hC' := Lib.hid hC
                       obtain ⟨⟨r1, f1, i1, b1, l1⟩, ⟨r2, f2, i2, b2, l2⟩, ⟨r3, f3, i3, b3, l3⟩, ⟨r4, f4, i4, b4, l4⟩, m12, m21, m13, m31, m14, m41, m23, m32, m24, m42, m34, m43⟩ := St.facts4 hC
                       clear hC
                       go_simp
                       have hC := hC'.out
                       (first
                          | with_reducible rfl
                          | (refine (Pur.below (refBox_pur _) _).mono ?_
                             rintro e w' ⟨rfl, hw⟩
                             exact ⟨rfl, St.call (by assumption) hw⟩)))
                try simp only [Act.put, List.setIfInBounds_toArray, List.set])
               (first
                  | (apply head_skip rfl)
                  | (apply head_step_g rfl
                     focus
                       intro w0 hC
                       (fail))
                  | (apply head_step_g rfl
                     focus
                       intro w0 hC
                       have hC' := Lib.hid hC
                       obtain ⟨⟨r1, f1, i1, b1, l1⟩, ⟨r2, f2, i2, b2, l2⟩, ⟨r3, f3, i3, b3, l3⟩, ⟨r4, f4, i4, b4, l4⟩, m12, m21, m13, m31, m14, m41, m23, m32, m24, m42, m34, m43⟩ := St.facts4 hC
                       clear hC
                       go_simp
                       have hC := hC'.out
                       (first
                          | with_reducible rfl
                          | (refine (Pur.below (refBox_pur _) _).mono ?_
                             rintro e w' ⟨rfl, hw⟩
                             exact ⟨rfl, St.call (by assumption) hw⟩)))
                try simp only [Act.put, List.setIfInBounds_toArray, List.set])
               (first
                  | (apply head_skip rfl)
                  | (apply head_step_g rfl
                     focus
                       intro w0 hC
                       (fail))
                  | (apply head_step_g rfl
                     focus
                       intro w0 hC
                       have hC' := Lib.hid hC
                       obtain ⟨⟨r1, f1, i1, b1, l1⟩, ⟨r2, f2, i2, b2, l2⟩, ⟨r3, f3, i3, b3, l3⟩, ⟨r4, f4, i4, b4, l4⟩, m12, m21, m13, m31, m14, m41, m23, m32, m24, m42, m34, m43⟩ := St.facts4 hC
                       clear hC
                       go_simp
                       have hC := hC'.out
                       (first
                          | with_reducible rfl
                          | (refine (Pur.below (refBox_pur _) _).mono ?_
                             rintro e w' ⟨rfl, hw⟩
                             exact ⟨rfl, St.call (by assumption) hw⟩)))
                try simp only [Act.put, List.setIfInBounds_toArray, List.set])
               (first
                  | (apply head_skip rfl)
                  | (apply head_step_g rfl
                     focus
                       intro w0 hC
                       (fail))
                  | (apply head_step_g rfl
                     focus
                       intro w0 hC
                       have hC' := Lib.hid hC
                       obtain ⟨⟨r1, f1, i1, b1, l1⟩, ⟨r2, f2, i2, b2, l2⟩, ⟨r3, f3, i3, b3, l3⟩, ⟨r4, f4, i4, b4, l4⟩, m12, m21, m13, m31, m14, m41, m23, m32, m24, m42, m34, m43⟩ := St.facts4 hC
                       clear hC
                       go_simp
                       have hC := hC'.out
                       (first
                          | with_reducible rfl
                          | (refine (Pur.below (refBox_pur _) _).mono ?_
                             rintro e w' ⟨rfl, hw⟩
                             exact ⟨rfl, St.call (by assumption) hw⟩)))
                try simp only [Act.put, List.setIfInBounds_toArray, List.set])
               (first
                  | (apply head_skip rfl)
                  | (apply head_step_g rfl
                     focus
                       intro w0 hC
                       (fail))
                  | (apply head_step_g rfl
                     focus
                       intro w0 hC
                       have hC' := Lib.hid hC
                       obtain ⟨⟨r1, f1, i1, b1, l1⟩, ⟨r2, f2, i2, b2, l2⟩, ⟨r3, f3, i3, b3, l3⟩, ⟨r4, f4, i4, b4, l4⟩, m12, m21, m13, m31, m14, m41, m23, m32, m24, m42, m34, m43⟩ := St.facts4 hC
                       clear hC
                       go_simp
                       have hC := hC'.out
                       (first
                          | with_reducible rfl
                          | (refine (Pur.below (refBox_pur _) _).mono ?_
                             rintro e w' ⟨rfl, hw⟩
                             exact ⟨rfl, St.call (by assumption) hw⟩)))
                try simp only [Act.put, List.setIfInBounds_toArray, List.set])
               refine wpQuiet_nil ?_
               intro w2 hC
               (have HC := Lib.hid hC
                have sos := hC.below.os
                obtain ⟨⟨r1, f1, i1, b1, l1⟩, ⟨r2, f2, i2, b2, l2⟩, ⟨r3, f3, i3, b3, l3⟩, ⟨r4, f4, i4, b4, l4⟩, m12, m21, m13, m31, m14, m41, m23, m32, m24, m42, m34, m43⟩ := St.facts4 hC
                clear hC)
               go_wp2_with fail
               have HC := Lib.hid (HC.out.swap.set_head (blk 176 (laid key n (j + 1)))).swap
               exact ⟨⟨j + 1, by omega, by go_num, HC⟩, by simp [intOf]; omega⟩
             · obtain rfl : j = 4 := by omega
               go_wp2_with fail
               exact ⟨⟨n + 1, by omega, by go_num, by first | rfl | rw [hk], Lib.hid HJ.out.tail⟩, by simp [intOf]; omega⟩)
        · have ht : ((n : Int) % 4 == 0) = false := by simp; omega
          have hp := put_other key n hm
          have hk := markAt_same n hm
          (have HC := Lib.hid hC
           have sos := hC.below.os
           obtain ⟨⟨r1, f1, i1, b1, l1⟩, ⟨r2, f2, i2, b2, l2⟩, ⟨r3, f3, i3, b3, l3⟩, m12, m21, m13, m31, m23, m32⟩ := St.facts3 hC
           clear hC)
          go_wp2_with fail
          have HC := Lib.hid (HC.out.push (blk 4 (put key n)) 76)
          (clear r1 f1 i1 b1 l1 r2 f2 i2 b2 l2 r3 f3 i3 b3 l3 m12 m21 m13 m31 m23 m32 sos)
          clear v0 b0 c0 c1 hg HR hp
          generalize wr.heap.size = g6 at HC ⊢
          (go_loopw [7] (fun i wx => ∃ j : Nat, j ≤ 4 ∧ i = .int .i64 (j : Int) ∧ Hid (St w [(g6, blk 4 (put key n)), (w.heap.size + 1 + 1, blk 176 (laid key n j)), (w.heap.size + 1, blk 176 (fun _ => 0)), (w.heap.size, blk 16 key)] wx)) (fun i _ => 4 - (intOf i).toNat)
           case atStart => exact ⟨0, by omega, rfl, HC⟩
           case round =>
             clear HC
             obtain ⟨j, hj, rfl, HJ⟩ := hrel
             by_cases hjt : j < 4
             · have v4 : IntKind.i64.wrap ((n : Int) - 4) = ((n - 4 : Nat) : Int) := by rw [IntWalk.i64_in _ (by omega)]; omega
               have e1 : n - 4 < 44 := by omega
               have e2 : ((n - 4 : Nat) : Int) < 44 := by omega
               have e3 : (j : Int) < 4 := by omega
               have e4 : (n - 4) * 4 + j < 176 := by omega
               have e5 : n * 4 + j < 176 := by omega
               have e6 := laid_old key n j (by omega)
               have e7 : wd key (n - 4) j ^^^ put key n j = wd key n j := (wd_next key n j (by omega) hjt).symm
               have e8 := laid_byte key n j
               go_wp2_with fail
               refine St.region_tail 14 HJ.out (by kernel_rfl) (by decide +kernel) ?_
               (simp only [List.take, List.drop])
               (first
                  | (apply head_skip rfl)
                  | (apply head_step_g rfl
                     focus
                       intro w0 hC
                       (fail))
                  | (apply head_step_g rfl
                     focus
                       intro w0 hC
                       have hC' := Lib.hid hC
                       obtain ⟨⟨r1, f1, i1, b1, l1⟩, ⟨r2, f2, i2, b2, l2⟩, ⟨r3, f3, i3, b3, l3⟩, ⟨r4, f4, i4, b4, l4⟩, m12, m21, m13, m31, m14, m41, m23, m32, m24, m42, m34, m43⟩ := St.facts4 hC
                       clear hC
                       go_simp
                       have hC := hC'.out
                       (first
                          | with_reducible rfl
                          | (refine (Pur.below (refBox_pur _) _).mono ?_
                             rintro e w' ⟨rfl, hw⟩
                             exact ⟨rfl, St.call (by assumption) hw⟩)))
                try simp only [Act.put, List.setIfInBounds_toArray, List.set])
               (first
                  | (apply head_skip rfl)
                  | (apply head_step_g rfl
                     focus
                       intro w0 hC
                       (fail))
                  | (apply head_step_g rfl
                     focus
                       intro w0 hC
                       have hC' := Lib.hid hC
                       obtain ⟨⟨r1, f1, i1, b1, l1⟩, ⟨r2, f2, i2, b2, l2⟩, ⟨r3, f3, i3, b3, l3⟩, ⟨r4, f4, i4, b4, l4⟩, m12, m21, m13, m31, m14, m41, m23, m32, m24, m42, m34, m43⟩ := St.facts4 hC
                       clear hC
                       go_simp
                       have hC := hC'.out
                       (first
                          | with_reducible rfl
                          | (refine (Pur.below (refBox_pur _) _).mono ?_
                             rintro e w' ⟨rfl, hw⟩
                             exact ⟨rfl, St.call (by assumption) hw⟩)))
                try simp only [Act.put, List.setIfInBounds_toArray, List.set])
               (first
                  | (apply head_skip rfl)
                  | (apply head_step_g rfl
                     focus
                       intro w0 hC
                       (fail))
                  | (apply head_step_g rfl
                     focus
                       intro w0 hC
                       have hC' := Lib.hid hC
                       obtain ⟨⟨r1, f1, i1, b1, l1⟩, ⟨r2, f2, i2, b2, l2⟩, ⟨r3, f3, i3, b3, l3⟩, ⟨r4, f4, i4, b4, l4⟩, m12, m21, m13, m31, m14, m41, m23, m32, m24, m42, m34, m43⟩ := St.facts4 hC
                       clear hC
                       go_simp
                       have hC := hC'.out
                       (first
                          | with_reducible rfl
                          | (refine (Pur.below (refBox_pur _) _).mono ?_
                             rintro e w' ⟨rfl, hw⟩
                             exact ⟨rfl, St.call (by assumption) hw⟩)))
                try simp only [Act.put, List.setIfInBounds_toArray, List.set])
               (first
                  | (apply head_skip rfl)
                  | (apply head_step_g rfl
                     focus
                       intro w0 hC
                       (fail))
                  | (apply head_step_g rfl
                     focus
                       intro w0 hC
                       have hC' := Lib.hid hC
                       obtain ⟨⟨r1, f1, i1, b1, l1⟩, ⟨r2, f2, i2, b2, l2⟩, ⟨r3, f3, i3, b3, l3⟩, ⟨r4, f4, i4, b4, l4⟩, m12, m21, m13, m31, m14, m41, m23, m32, m24, m42, m34, m43⟩ := St.facts4 hC
                       clear hC
                       go_simp
                       have hC := hC'.out
                       (first
                          | with_reducible rfl
                          | (refine (Pur.below (refBox_pur _) _).mono ?_
                             rintro e w' ⟨rfl, hw⟩
                             exact ⟨rfl, St.call (by assumption) hw⟩)))
                try simp only [Act.put, List.setIfInBounds_toArray, List.set])
               (first
                  | (apply head_skip rfl)
                  | (apply head_step_g rfl
                     focus
                       intro w0 hC
                       (fail))
                  | (apply head_step_g rfl
                     focus
                       intro w0 hC
                       have hC' := Lib.hid hC
                       obtain ⟨⟨r1, f1, i1, b1, l1⟩, ⟨r2, f2, i2, b2, l2⟩, ⟨r3, f3, i3, b3, l3⟩, ⟨r4, f4, i4, b4, l4⟩, m12, m21, m13, m31, m14, m41, m23, m32, m24, m42, m34, m43⟩ := St.facts4 hC
                       clear hC
                       go_simp
                       have hC := hC'.out
                       (first
                          | with_reducible rfl
                          | (refine (Pur.below (refBox_pur _) _).mono ?_
                             rintro e w' ⟨rfl, hw⟩
                             exact ⟨rfl, St.call (by assumption) hw⟩)))
                try simp only [Act.put, List.setIfInBounds_toArray, List.set])
               (first
                  | (apply head_skip rfl)
                  | (apply head_step_g rfl
                     focus
                       intro w0 hC
                       (fail))
                  | (apply head_step_g rfl
                     focus
                       intro w0 hC
                       have hC' := Lib.hid hC
                       obtain ⟨⟨r1, f1, i1, b1, l1⟩, ⟨r2, f2, i2, b2, l2⟩, ⟨r3, f3, i3, b3, l3⟩, ⟨r4, f4, i4, b4, l4⟩, m12, m21, m13, m31, m14, m41, m23, m32, m24, m42, m34, m43⟩ := St.facts4 hC
                       clear hC
                       go_simp
                       have hC := hC'.out
                       (first
                          | with_reducible rfl
                          | (refine (Pur.below (refBox_pur _) _).mono ?_
                             rintro e w' ⟨rfl, hw⟩
                             exact ⟨rfl, St.call (by assumption) hw⟩)))
                try simp only [Act.put, List.setIfInBounds_toArray, List.set])
               (first
                  | (apply head_skip rfl)
                  | (apply head_step_g rfl
                     focus
                       intro w0 hC
                       (fail))
                  | (apply head_step_g rfl
                     focus
                       intro w0 hC
                       have hC' := Lib.hid hC
                       obtain ⟨⟨r1, f1, i1, b1, l1⟩, ⟨r2, f2, i2, b2, l2⟩, ⟨r3, f3, i3, b3, l3⟩, ⟨r4, f4, i4, b4, l4⟩, m12, m21, m13, m31, m14, m41, m23, m32, m24, m42, m34, m43⟩ := St.facts4 hC
                       clear hC
                       go_simp
                       have hC := hC'.out
                       (first
                          | with_reducible rfl
                          | (refine (Pur.below (refBox_pur _) _).mono ?_
                             rintro e w' ⟨rfl, hw⟩
                             exact ⟨rfl, St.call (by assumption) hw⟩)))
                try simp only [Act.put, List.setIfInBounds_toArray, List.set])
               (first
                  | (apply head_skip rfl)
                  | (apply head_step_g rfl
                     focus
                       intro w0 hC
                       (fail))
                  | (apply head_step_g rfl
                     focus
                       intro w0 hC
                       have hC' := Lib.hid hC
                       obtain ⟨⟨r1, f1, i1, b1, l1⟩, ⟨r2, f2, i2, b2, l2⟩, ⟨r3, f3, i3, b3, l3⟩, ⟨r4, f4, i4, b4, l4⟩, m12, m21, m13, m31, m14, m41, m23, m32, m24, m42, m34, m43⟩ := St.facts4 hC
                       clear hC
                       go_simp
                       have hC := hC'.out
                       (first
                          | with_reducible rfl
                          | (refine (Pur.below (refBox_pur _) _).mono ?_
                             rintro e w' ⟨rfl, hw⟩
                             exact ⟨rfl, St.call (by assumption) hw⟩)))
                try simp only [Act.put, List.setIfInBounds_toArray, List.set])
               (first
                  | (apply head_skip rfl)
                  | (apply head_step_g rfl
                     focus
                       intro w0 hC
                       (fail))
                  | (apply head_step_g rfl
                     focus
                       intro w0 hC
                       have hC' := Lib.hid hC
                       obtain ⟨⟨r1, f1, i1, b1, l1⟩, ⟨r2, f2, i2, b2, l2⟩, ⟨r3, f3, i3, b3, l3⟩, ⟨r4, f4, i4, b4, l4⟩, m12, m21, m13, m31, m14, m41, m23, m32, m24, m42, m34, m43⟩ := St.facts4 hC
                       clear hC
                       go_simp
                       have hC := hC'.out
                       (first
                          | with_reducible rfl
                          | (refine (Pur.below (refBox_pur _) _).mono ?_
                             rintro e w' ⟨rfl, hw⟩
                             exact ⟨rfl, St.call (by assumption) hw⟩)))
                try simp only [Act.put, List.setIfInBounds_toArray, List.set])
               (first
                  | (apply head_skip rfl)
                  | (apply head_step_g rfl
                     focus
                       intro w0 hC
                       (fail))
                  | (apply head_step_g rfl
                     focus
                       intro w0 hC
                       have hC' := Lib.hid hC
                       obtain ⟨⟨r1, f1, i1, b1, l1⟩, ⟨r2, f2, i2, b2, l2⟩, ⟨r3, f3, i3, b3, l3⟩, ⟨r4, f4, i4, b4, l4⟩, m12, m21, m13, m31, m14, m41, m23, m32, m24, m42, m34, m43⟩ := St.facts4 hC
                       clear hC
                       go_simp
                       have hC := hC'.out
                       (first
                          | with_reducible rfl
                          | (refine (Pur.below (refBox_pur _) _).mono ?_
                             rintro e w' ⟨rfl, hw⟩
                             exact ⟨rfl, St.call (by assumption) hw⟩)))
                try simp only [Act.put, List.setIfInBounds_toArray, List.set])
               (first
                  | (apply head_skip rfl)
                  | (apply head_step_g rfl
                     focus
                       intro w0 hC
                       (fail))
                  | (apply head_step_g rfl
                     focus
                       intro w0 hC
                       have hC' := Lib.hid hC
                       obtain ⟨⟨r1, f1, i1, b1, l1⟩, ⟨r2, f2, i2, b2, l2⟩, ⟨r3, f3, i3, b3, l3⟩, ⟨r4, f4, i4, b4, l4⟩, m12, m21, m13, m31, m14, m41, m23, m32, m24, m42, m34, m43⟩ := St.facts4 hC
                       clear hC
                       go_simp
                       have hC := hC'.out
                       (first
                          | with_reducible rfl
                          | (refine (Pur.below (refBox_pur _) _).mono ?_
                             rintro e w' ⟨rfl, hw⟩
                             exact ⟨rfl, St.call (by assumption) hw⟩)))
                try simp only [Act.put, List.setIfInBounds_toArray, List.set])
               (first
                  | (apply head_skip rfl)
                  | (apply head_step_g rfl
                     focus
                       intro w0 hC
                       (fail))
                  | (apply head_step_g rfl
                     focus
                       intro w0 hC
                       have hC' := Lib.hid hC
                       obtain ⟨⟨r1, f1, i1, b1, l1⟩, ⟨r2, f2, i2, b2, l2⟩, ⟨r3, f3, i3, b3, l3⟩, ⟨r4, f4, i4, b4, l4⟩, m12, m21, m13, m31, m14, m41, m23, m32, m24, m42, m34, m43⟩ := St.facts4 hC
                       clear hC
                       go_simp
                       have hC := hC'.out
                       (first
                          | with_reducible rfl
                          | (refine (Pur.below (refBox_pur _) _).mono ?_
                             rintro e w' ⟨rfl, hw⟩
                             exact ⟨rfl, St.call (by assumption) hw⟩)))
                try simp only [Act.put, List.setIfInBounds_toArray, List.set])
               (first
                  | (apply head_skip rfl)
                  | (apply head_step_g rfl
                     focus
                       intro w0 hC
                       (fail))
                  | (apply head_step_g rfl
                     focus
                       intro w0 hC
                       have hC' := Lib.hid hC
                       obtain ⟨⟨r1, f1, i1, b1, l1⟩, ⟨r2, f2, i2, b2, l2⟩, ⟨r3, f3, i3, b3, l3⟩, ⟨r4, f4, i4, b4, l4⟩, m12, m21, m13, m31, m14, m41, m23, m32, m24, m42, m34, m43⟩ := St.facts4 hC
                       clear hC
                       go_simp
                       have hC := hC'.out
                       (first
                          | with_reducible rfl
                          | (refine (Pur.below (refBox_pur _) _).mono ?_
                             rintro e w' ⟨rfl, hw⟩
                             exact ⟨rfl, St.call (by assumption) hw⟩)))
                try simp only [Act.put, List.setIfInBounds_toArray, List.set])
               (first
                  | (apply head_skip rfl)
                  | (apply head_step_g rfl
                     focus
                       intro w0 hC
                       (fail))
                  | (apply head_step_g rfl
                     focus
                       intro w0 hC
                       have hC' := Lib.hid hC
                       obtain ⟨⟨r1, f1, i1, b1, l1⟩, ⟨r2, f2, i2, b2, l2⟩, ⟨r3, f3, i3, b3, l3⟩, ⟨r4, f4, i4, b4, l4⟩, m12, m21, m13, m31, m14, m41, m23, m32, m24, m42, m34, m43⟩ := St.facts4 hC
                       clear hC
                       go_simp
                       have hC := hC'.out
                       (first
                          | with_reducible rfl
                          | (refine (Pur.below (refBox_pur _) _).mono ?_
                             rintro e w' ⟨rfl, hw⟩
                             exact ⟨rfl, St.call (by assumption) hw⟩)))
                try simp only [Act.put, List.setIfInBounds_toArray, List.set])
               refine wpQuiet_nil ?_
               intro w2 hC
               (have HC := Lib.hid hC
                have sos := hC.below.os
                obtain ⟨⟨r1, f1, i1, b1, l1⟩, ⟨r2, f2, i2, b2, l2⟩, ⟨r3, f3, i3, b3, l3⟩, ⟨r4, f4, i4, b4, l4⟩, m12, m21, m13, m31, m14, m41, m23, m32, m24, m42, m34, m43⟩ := St.facts4 hC
                clear hC)
               go_wp2_with fail
               have HC := Lib.hid (HC.out.swap.set_head (blk 176 (laid key n (j + 1)))).swap
               exact ⟨⟨j + 1, by omega, by go_num, HC⟩, by simp [intOf]; omega⟩
             · obtain rfl : j = 4 := by omega
               go_wp2_with fail
               exact ⟨⟨n + 1, by omega, by go_num, by first | rfl | rw [hk], Lib.hid HJ.out.tail⟩, by simp [intOf]; omega⟩)
    · obtain rfl : n = 44 := by omega
      rw [laid_end] at HR hC
      (have HC := Lib.hid hC
       have sos := hC.below.os
       obtain ⟨⟨r1, f1, i1, b1, l1⟩, ⟨r2, f2, i2, b2, l2⟩, ⟨r3, f3, i3, b3, l3⟩, m12, m21, m13, m31, m23, m32⟩ := St.facts3 hC
       clear hC)
      go_wp2_with fail
      have HC := Lib.hid (HC.out.push (blk 176 (fun _ => 0)) 48)
      (clear r1 f1 i1 b1 l1 r2 f2 i2 b2 l2 r3 f3 i3 b3 l3 m12 m21 m13 m31 m23 m32 sos)
      clear HR
      generalize wr.heap.size = g8 at HC ⊢
      go_loopw [9] (fun i wx => ∃ n : Nat, n ≤ 44 ∧ i = .int .i64 (n : Int) ∧ Hid (St w [(g8, blk 176 (laid key n 0)), (w.heap.size + 1 + 1, blk 176 (Ci.rounds key)), (w.heap.size + 1, blk 176 (fun _ => 0)), (w.heap.size, blk 16 key)] wx)) (fun i _ => 44 - (intOf i).toNat)
      case atStart => exact ⟨0, by omega, rfl, by rw [← laid_start]; exact HC⟩
      case round =>
        clear HC
        obtain ⟨n, hn, rfl, HR⟩ := hrel
        by_cases hlt : n < 44
        · have hd : ((n : Int) < 44) := by omega
          go_wp2_with fail
          go_loopw [10] (fun i wx => ∃ j : Nat, j ≤ 4 ∧ i = .int .i64 (j : Int) ∧ Hid (St w [(g8, blk 176 (laid key n j)), (w.heap.size + 1 + 1, blk 176 (Ci.rounds key)), (w.heap.size + 1, blk 176 (fun _ => 0)), (w.heap.size, blk 16 key)] wx)) (fun i _ => 4 - (intOf i).toNat)
          case atStart => exact ⟨0, by omega, rfl, HR⟩
          case round =>
            clear HR
            obtain ⟨j, hj, rfl, HJ⟩ := hrel
            by_cases hjt : j < 4
            · have v1 : (n : Int) / 4 = (quo4 n : Int) := by unfold quo4; omega
              have v5 : IntKind.i64.wrap (quo4 n : Int) = (quo4 n : Int) := IntWalk.i64_in _ (by unfold quo4; omega)
              have v2 : (n : Int) % 4 = (rem4 n : Int) := by unfold rem4; omega
              have v6 : (n : Int).tmod 4 = (rem4 n : Int) := by rw [Int.tmod_eq_emod_of_nonneg (by omega)]; exact v2
              have v7 : (n : Int).tdiv 4 = (quo4 n : Int) := by rw [Int.tdiv_eq_ediv_of_nonneg (by omega)]; exact v1
              have v3 : IntKind.i64.wrap (4 * (rem4 n : Int)) = (at4 (rem4 n) 0 : Int) := by rw [IntWalk.i64_in _ (by unfold rem4; omega)]; unfold at4; omega
              have v4 : IntKind.i64.wrap ((at4 (rem4 n) 0 : Int) + (j : Int)) = (at4 (rem4 n) j : Int) := by unfold at4 rem4; rw [IntWalk.i64_in _ (by omega)]; omega
              have e1 : quo4 n < 11 := by unfold quo4; omega
              have e2 : (quo4 n : Int) < 11 := by omega
              have e3 : (j : Int) < 4 := by omega
              have e4 : at4 (rem4 n) j < 16 := by unfold at4 rem4; omega
              have e5 : (at4 (rem4 n) j : Int) < 16 := by omega
              have e6 : n * 4 + j < 176 := by omega
              have e7 : quo4 n * 16 + at4 (rem4 n) j < 176 := by unfold at4 quo4 rem4; omega
              have e8 := laid_byte2 key n j
              go_wp2_with fail
              refine St.region_tail 14 HJ.out (by kernel_rfl) (by decide +kernel) ?_
              (simp only [List.take, List.drop])
              (first
                 | (apply head_skip rfl)
                 | (apply head_step_g rfl
                    focus
                      intro w0 hC
                      (fail))
                 | (apply head_step_g rfl
                    focus
                      intro w0 hC
                      have hC' := Lib.hid hC
                      obtain ⟨⟨r1, f1, i1, b1, l1⟩, ⟨r2, f2, i2, b2, l2⟩, ⟨r3, f3, i3, b3, l3⟩, ⟨r4, f4, i4, b4, l4⟩, m12, m21, m13, m31, m14, m41, m23, m32, m24, m42, m34, m43⟩ := St.facts4 hC
                      clear hC
                      go_simp
                      have hC := hC'.out
                      (first
                         | with_reducible rfl
                         | (refine (Pur.below (refBox_pur _) _).mono ?_
                            rintro e w' ⟨rfl, hw⟩
                            exact ⟨rfl, St.call (by assumption) hw⟩)))
               try simp only [Act.put, List.setIfInBounds_toArray, List.set])
              (first
                 | (apply head_skip rfl)
                 | (apply head_step_g rfl
                    focus
                      intro w0 hC
                      (fail))
                 | (apply head_step_g rfl
                    focus
                      intro w0 hC
                      have hC' := Lib.hid hC
                      obtain ⟨⟨r1, f1, i1, b1, l1⟩, ⟨r2, f2, i2, b2, l2⟩, ⟨r3, f3, i3, b3, l3⟩, ⟨r4, f4, i4, b4, l4⟩, m12, m21, m13, m31, m14, m41, m23, m32, m24, m42, m34, m43⟩ := St.facts4 hC
                      clear hC
                      go_simp
                      have hC := hC'.out
                      (first
                         | with_reducible rfl
                         | (refine (Pur.below (refBox_pur _) _).mono ?_
                            rintro e w' ⟨rfl, hw⟩
                            exact ⟨rfl, St.call (by assumption) hw⟩)))
               try simp only [Act.put, List.setIfInBounds_toArray, List.set])
              (first
                 | (apply head_skip rfl)
                 | (apply head_step_g rfl
                    focus
                      intro w0 hC
                      (fail))
                 | (apply head_step_g rfl
                    focus
                      intro w0 hC
                      have hC' := Lib.hid hC
                      obtain ⟨⟨r1, f1, i1, b1, l1⟩, ⟨r2, f2, i2, b2, l2⟩, ⟨r3, f3, i3, b3, l3⟩, ⟨r4, f4, i4, b4, l4⟩, m12, m21, m13, m31, m14, m41, m23, m32, m24, m42, m34, m43⟩ := St.facts4 hC
                      clear hC
                      go_simp
                      have hC := hC'.out
                      (first
                         | with_reducible rfl
                         | (refine (Pur.below (refBox_pur _) _).mono ?_
                            rintro e w' ⟨rfl, hw⟩
                            exact ⟨rfl, St.call (by assumption) hw⟩)))
               try simp only [Act.put, List.setIfInBounds_toArray, List.set])
              (first
                 | (apply head_skip rfl)
                 | (apply head_step_g rfl
                    focus
                      intro w0 hC
                      (fail))
                 | (apply head_step_g rfl
                    focus
                      intro w0 hC
                      have hC' := Lib.hid hC
                      obtain ⟨⟨r1, f1, i1, b1, l1⟩, ⟨r2, f2, i2, b2, l2⟩, ⟨r3, f3, i3, b3, l3⟩, ⟨r4, f4, i4, b4, l4⟩, m12, m21, m13, m31, m14, m41, m23, m32, m24, m42, m34, m43⟩ := St.facts4 hC
                      clear hC
                      go_simp
                      have hC := hC'.out
                      (first
                         | with_reducible rfl
                         | (refine (Pur.below (refBox_pur _) _).mono ?_
                            rintro e w' ⟨rfl, hw⟩
                            exact ⟨rfl, St.call (by assumption) hw⟩)))
               try simp only [Act.put, List.setIfInBounds_toArray, List.set])
              (first
                 | (apply head_skip rfl)
                 | (apply head_step_g rfl
                    focus
                      intro w0 hC
                      (fail))
                 | (apply head_step_g rfl
                    focus
                      intro w0 hC
                      have hC' := Lib.hid hC
                      obtain ⟨⟨r1, f1, i1, b1, l1⟩, ⟨r2, f2, i2, b2, l2⟩, ⟨r3, f3, i3, b3, l3⟩, ⟨r4, f4, i4, b4, l4⟩, m12, m21, m13, m31, m14, m41, m23, m32, m24, m42, m34, m43⟩ := St.facts4 hC
                      clear hC
                      go_simp
                      have hC := hC'.out
                      (first
                         | with_reducible rfl
                         | (refine (Pur.below (refBox_pur _) _).mono ?_
                            rintro e w' ⟨rfl, hw⟩
                            exact ⟨rfl, St.call (by assumption) hw⟩)))
               try simp only [Act.put, List.setIfInBounds_toArray, List.set])
              (first
                 | (apply head_skip rfl)
                 | (apply head_step_g rfl
                    focus
                      intro w0 hC
                      (fail))
                 | (apply head_step_g rfl
                    focus
                      intro w0 hC
                      have hC' := Lib.hid hC
                      obtain ⟨⟨r1, f1, i1, b1, l1⟩, ⟨r2, f2, i2, b2, l2⟩, ⟨r3, f3, i3, b3, l3⟩, ⟨r4, f4, i4, b4, l4⟩, m12, m21, m13, m31, m14, m41, m23, m32, m24, m42, m34, m43⟩ := St.facts4 hC
                      clear hC
                      go_simp
                      have hC := hC'.out
                      (first
                         | with_reducible rfl
                         | (refine (Pur.below (refBox_pur _) _).mono ?_
                            rintro e w' ⟨rfl, hw⟩
                            exact ⟨rfl, St.call (by assumption) hw⟩)))
               try simp only [Act.put, List.setIfInBounds_toArray, List.set])
              (first
                 | (apply head_skip rfl)
                 | (apply head_step_g rfl
                    focus
                      intro w0 hC
                      (fail))
                 | (apply head_step_g rfl
                    focus
                      intro w0 hC
                      have hC' := Lib.hid hC
                      obtain ⟨⟨r1, f1, i1, b1, l1⟩, ⟨r2, f2, i2, b2, l2⟩, ⟨r3, f3, i3, b3, l3⟩, ⟨r4, f4, i4, b4, l4⟩, m12, m21, m13, m31, m14, m41, m23, m32, m24, m42, m34, m43⟩ := St.facts4 hC
                      clear hC
                      go_simp
                      have hC := hC'.out
                      (first
                         | with_reducible rfl
                         | (refine (Pur.below (refBox_pur _) _).mono ?_
                            rintro e w' ⟨rfl, hw⟩
                            exact ⟨rfl, St.call (by assumption) hw⟩)))
               try simp only [Act.put, List.setIfInBounds_toArray, List.set])
              (first
                 | (apply head_skip rfl)
                 | (apply head_step_g rfl
                    focus
                      intro w0 hC
                      (fail))
                 | (apply head_step_g rfl
                    focus
                      intro w0 hC
                      have hC' := Lib.hid hC
                      obtain ⟨⟨r1, f1, i1, b1, l1⟩, ⟨r2, f2, i2, b2, l2⟩, ⟨r3, f3, i3, b3, l3⟩, ⟨r4, f4, i4, b4, l4⟩, m12, m21, m13, m31, m14, m41, m23, m32, m24, m42, m34, m43⟩ := St.facts4 hC
                      clear hC
                      go_simp
                      have hC := hC'.out
                      (first
                         | with_reducible rfl
                         | (refine (Pur.below (refBox_pur _) _).mono ?_
                            rintro e w' ⟨rfl, hw⟩
                            exact ⟨rfl, St.call (by assumption) hw⟩)))
               try simp only [Act.put, List.setIfInBounds_toArray, List.set])
              (first
                 | (apply head_skip rfl)
                 | (apply head_step_g rfl
                    focus
                      intro w0 hC
                      (fail))
                 | (apply head_step_g rfl
                    focus
                      intro w0 hC
                      have hC' := Lib.hid hC
                      obtain ⟨⟨r1, f1, i1, b1, l1⟩, ⟨r2, f2, i2, b2, l2⟩, ⟨r3, f3, i3, b3, l3⟩, ⟨r4, f4, i4, b4, l4⟩, m12, m21, m13, m31, m14, m41, m23, m32, m24, m42, m34, m43⟩ := St.facts4 hC
                      clear hC
                      go_simp
                      have hC := hC'.out
                      (first
                         | with_reducible rfl
                         | (refine (Pur.below (refBox_pur _) _).mono ?_
                            rintro e w' ⟨rfl, hw⟩
                            exact ⟨rfl, St.call (by assumption) hw⟩)))
               try simp only [Act.put, List.setIfInBounds_toArray, List.set])
              (first
                 | (apply head_skip rfl)
                 | (apply head_step_g rfl
                    focus
                      intro w0 hC
                      (fail))
                 | (apply head_step_g rfl
                    focus
                      intro w0 hC
                      have hC' := Lib.hid hC
                      obtain ⟨⟨r1, f1, i1, b1, l1⟩, ⟨r2, f2, i2, b2, l2⟩, ⟨r3, f3, i3, b3, l3⟩, ⟨r4, f4, i4, b4, l4⟩, m12, m21, m13, m31, m14, m41, m23, m32, m24, m42, m34, m43⟩ := St.facts4 hC
                      clear hC
                      go_simp
                      have hC := hC'.out
                      (first
                         | with_reducible rfl
                         | (refine (Pur.below (refBox_pur _) _).mono ?_
                            rintro e w' ⟨rfl, hw⟩
                            exact ⟨rfl, St.call (by assumption) hw⟩)))
               try simp only [Act.put, List.setIfInBounds_toArray, List.set])
              (first
                 | (apply head_skip rfl)
                 | (apply head_step_g rfl
                    focus
                      intro w0 hC
                      (fail))
                 | (apply head_step_g rfl
                    focus
                      intro w0 hC
                      have hC' := Lib.hid hC
                      obtain ⟨⟨r1, f1, i1, b1, l1⟩, ⟨r2, f2, i2, b2, l2⟩, ⟨r3, f3, i3, b3, l3⟩, ⟨r4, f4, i4, b4, l4⟩, m12, m21, m13, m31, m14, m41, m23, m32, m24, m42, m34, m43⟩ := St.facts4 hC
                      clear hC
                      go_simp
                      have hC := hC'.out
                      (first
                         | with_reducible rfl
                         | (refine (Pur.below (refBox_pur _) _).mono ?_
                            rintro e w' ⟨rfl, hw⟩
                            exact ⟨rfl, St.call (by assumption) hw⟩)))
               try simp only [Act.put, List.setIfInBounds_toArray, List.set])
              (first
                 | (apply head_skip rfl)
                 | (apply head_step_g rfl
                    focus
                      intro w0 hC
                      (fail))
                 | (apply head_step_g rfl
                    focus
                      intro w0 hC
                      have hC' := Lib.hid hC
                      obtain ⟨⟨r1, f1, i1, b1, l1⟩, ⟨r2, f2, i2, b2, l2⟩, ⟨r3, f3, i3, b3, l3⟩, ⟨r4, f4, i4, b4, l4⟩, m12, m21, m13, m31, m14, m41, m23, m32, m24, m42, m34, m43⟩ := St.facts4 hC
                      clear hC
                      go_simp
                      have hC := hC'.out
                      (first
                         | with_reducible rfl
                         | (refine (Pur.below (refBox_pur _) _).mono ?_
                            rintro e w' ⟨rfl, hw⟩
                            exact ⟨rfl, St.call (by assumption) hw⟩)))
               try simp only [Act.put, List.setIfInBounds_toArray, List.set])
              (first
                 | (apply head_skip rfl)
                 | (apply head_step_g rfl
                    focus
                      intro w0 hC
                      (fail))
                 | (apply head_step_g rfl
                    focus
                      intro w0 hC
                      have hC' := Lib.hid hC
                      obtain ⟨⟨r1, f1, i1, b1, l1⟩, ⟨r2, f2, i2, b2, l2⟩, ⟨r3, f3, i3, b3, l3⟩, ⟨r4, f4, i4, b4, l4⟩, m12, m21, m13, m31, m14, m41, m23, m32, m24, m42, m34, m43⟩ := St.facts4 hC
                      clear hC
                      go_simp
                      have hC := hC'.out
                      (first
                         | with_reducible rfl
                         | (refine (Pur.below (refBox_pur _) _).mono ?_
                            rintro e w' ⟨rfl, hw⟩
                            exact ⟨rfl, St.call (by assumption) hw⟩)))
               try simp only [Act.put, List.setIfInBounds_toArray, List.set])
              (first
                 | (apply head_skip rfl)
                 | (apply head_step_g rfl
                    focus
                      intro w0 hC
                      (fail))
                 | (apply head_step_g rfl
                    focus
                      intro w0 hC
                      have hC' := Lib.hid hC
                      obtain ⟨⟨r1, f1, i1, b1, l1⟩, ⟨r2, f2, i2, b2, l2⟩, ⟨r3, f3, i3, b3, l3⟩, ⟨r4, f4, i4, b4, l4⟩, m12, m21, m13, m31, m14, m41, m23, m32, m24, m42, m34, m43⟩ := St.facts4 hC
                      clear hC
                      go_simp
                      have hC := hC'.out
                      (first
                         | with_reducible rfl
                         | (refine (Pur.below (refBox_pur _) _).mono ?_
                            rintro e w' ⟨rfl, hw⟩
                            exact ⟨rfl, St.call (by assumption) hw⟩)))
               try simp only [Act.put, List.setIfInBounds_toArray, List.set])
              refine wpQuiet_nil ?_
              intro w2 hC
              (have HC := Lib.hid hC
               have sos := hC.below.os
               obtain ⟨⟨r1, f1, i1, b1, l1⟩, ⟨r2, f2, i2, b2, l2⟩, ⟨r3, f3, i3, b3, l3⟩, ⟨r4, f4, i4, b4, l4⟩, m12, m21, m13, m31, m14, m41, m23, m32, m24, m42, m34, m43⟩ := St.facts4 hC
               clear hC)
              go_wp2_with fail
              have HC := Lib.hid (HC.out.set_head (blk 176 (laid key n (j + 1))))
              exact ⟨⟨j + 1, by omega, by go_num, HC⟩, by simp [intOf]; omega⟩
            · obtain rfl : j = 4 := by omega
              go_wp2_with fail
              exact ⟨⟨n + 1, by omega, by go_num, HJ⟩, by simp [intOf]; omega⟩
        · obtain rfl : n = 44 := by omega
          rw [laid_end] at HR
          have hC := HR.out
          (have HC := Lib.hid hC
           have sos := hC.below.os
           obtain ⟨⟨r1, f1, i1, b1, l1⟩, ⟨r2, f2, i2, b2, l2⟩, ⟨r3, f3, i3, b3, l3⟩, ⟨r4, f4, i4, b4, l4⟩, m12, m21, m13, m31, m14, m41, m23, m32, m24, m42, m34, m43⟩ := St.facts4 hC
           clear hC)
          go_wp2_with fail
          refine bodyPost_ret (results_row rfl _ (w.heap.size + 1) rfl (blk 176 (Ci.rounds key)) ?_ ?_ ?_ ?_) rfl ⟨rfl, ?_⟩
          · simp [go_sem, *]
          · simp [go_sem]
          · simp [go_sem]
          · simp [go_sem, *]
          · exact below_setRow' HR.out.below (by omega) _
end Go.Proofs.Ytepooocdpifcfaa
