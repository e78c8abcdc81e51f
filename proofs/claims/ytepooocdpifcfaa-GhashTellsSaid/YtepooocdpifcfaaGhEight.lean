/- The reference's number in eight bytes. Numbers below 2 to 62. -/
import Derived.Test.YtepooocdpifcfaaGhRefFold
namespace Go.Proofs.Ytepooocdpifcfaa
open Go.RowKit
attribute [local go_sem] B_xor B_or B_and
attribute [local go_sem] blk_set blk_size blk_get blk_getE upd_same oneCells_blk paste_blk cut_blk szOf
attribute [local go_sem high] paste_all cut_head
attribute [local go_sem] rowAt_alloc rowAt_drew rowAt_drewN isRow_alloc isRow_drew isRow_drewN freeRow_alloc freeRow_end freeRow_drew freeRow_drewN
attribute [local go_sem] setRow_alloc setRow_drew setRow_drewN setCell_drewN alloc_drewN rowAt_put isRow_setRow freeRow_put
attribute [local go_sem ↓] loadS_in storeS_in indexS_in copyS_in
attribute [local go_sem] loadS_row loadS_one storeS_row storeS_one indexS_blk copyS_rows run_equalIn_blk same_refl arrayAt_row
attribute [local go_sem] cell_row frozen_row st_setCell st_blk_ne stepAt stepUpon
attribute [local go_sem high] run_eql_blk run_neq_blk
attribute [local go_sem ↓] convBS_in
attribute [local go_sem] convBS_row convBS_nil allBytes_blk bytesOf_blk

def laidE (n k : Nat) : Nat → UInt8 := fun i => if k ≤ i then byteN n 8 i else 0
theorem laidE_none (n : Nat) : blk 8 (laidE n 8) = blk 8 (fun _ => 0) := blk_congr fun i hi => by unfold laidE; rw [if_neg (by omega)]
theorem laidE_all (n : Nat) : blk 8 (laidE n 0) = blk 8 (byteN n 8) := blk_congr fun i _ => by unfold laidE; rw [if_pos (by omega)]
def q256 (n k : Nat) : Nat := n / 256 ^ (8 - k)
def r256 (n k : Nat) : Nat := n / 256 ^ (8 - k) % 256
theorem q256_next (n k : Nat) (hk : k < 8) : q256 n (k + 1) / 256 = q256 n k := by
  unfold q256
  rw [Nat.div_div_eq_div_mul, show 8 - k = (8 - (k + 1)) + 1 by omega, Nat.pow_succ]
theorem laidE_next (n k : Nat) (hk : k < 8) : blk 8 (upd (laidE n (k + 1)) k (UInt8.ofNat (q256 n (k + 1)))) = blk 8 (laidE n k) := blk_congr fun i _ => by
  unfold upd laidE
  by_cases h : i = k
  · subst h
    rw [if_pos rfl, if_pos (Nat.le_refl _)]
    unfold byteN q256
    rw [show 8 - (i + 1) = 8 - 1 - i by omega]
  · rw [if_neg h]
    by_cases h2 : k ≤ i
    · rw [if_pos h2, if_pos (by omega)]
    · rw [if_neg h2, if_neg (by omega)]
theorem q256_le (n k : Nat) : q256 n k ≤ n := Nat.div_le_self _ _
theorem q256_byte (n k : Nat) : ((q256 n k % 256 : Nat) : Int) = B (UInt8.ofNat (q256 n k)) := by
  unfold B; rw [UInt8.toNat_ofNat']
theorem zero8 : #[Value.int .u8 0, .int .u8 0, .int .u8 0, .int .u8 0, .int .u8 0, .int .u8 0, .int .u8 0, .int .u8 0] = blk 8 (fun _ => 0) := by kernel_rfl
set_option maxRecDepth 100000 in
set_option maxHeartbeats 2000000 in
theorem eight_any (n : Nat) (hn : n < 2 ^ 62) (w : World) : Calls Try.prog 43 #[.int .i64 (n : Int)] w fun e w' => e = .returned (.string (strOf 8 (byteN n 8))) ∧ Below w.heap.size w w' := by
  have hz := zero8
  go_enter Try.func43, Try.ntmps43
  go_wp2_with fail
  go_loopw [0, 4] (fun v x wr => ∃ k : Nat, k ≤ 8 ∧ x = .int .i64 ((k : Int) - 1) ∧ v = .int .i64 (q256 n k : Int) ∧ Hid (St w [(w.heap.size, blk 8 (laidE n k))] wr)) (fun _ x _ => (intOf x + 1).toNat)
  case atStart =>
    refine ⟨8, by omega, rfl, by unfold q256; simp, Lib.hid ?_⟩
    rw [laidE_none]
    exact (St.nil w).pushA _ _ rfl
  case round =>
    obtain ⟨k, hk, rfl, rfl, HR⟩ := hrel
    cases k with
    | zero =>
      have hC := HR.out
      rw [laidE_all] at hC
      have HR := Lib.hid hC
      obtain ⟨r1, f1, i1, b1, l1⟩ := St.facts1 hC
      go_wp2_with fail
      go_ret
      exact ⟨rfl, HR.out.below⟩
    | succ k =>
      rw [show (((k + 1 : Nat) : Int) - 1) = (k : Int) by omega]
      have hle := q256_le n (k + 1)
      have hq := q256_next n k (by omega)
      have hl := laidE_next n k (by omega)
      have hb := q256_byte n (k + 1)
      generalize q256 n (k + 1) = q at hle hq hl hb ⊢
      have e1 : (q : Int) ≤ 4611686018427387904 := by omega
      have v1 : (q : Int) % (256 : Int) = B (UInt8.ofNat q) := by rw [← hb]; omega
      have v2 : (q : Int) / (256 : Int) = (q256 n k : Int) := by rw [← hq]; omega
      have v3 : IntKind.u8.wrap (B (UInt8.ofNat q)) = B (UInt8.ofNat q) := by rw [wrap8]; have := B_bd (UInt8.ofNat q); omega
      have v4 : IntKind.i64.wrap ((k : Int) - 1) = (k : Int) - 1 := IntWalk.i64_in _ (by omega)
      have e2 : (k : Int) < 8 := by omega
      have e3 : k < 8 := by omega
      have e4 : (0 : Int) ≤ (k : Int) := by omega
      have hC := HR.out
      obtain ⟨r1, f1, i1, b1, l1⟩ := St.facts1 hC
      clear hq hb
      go_wp2_with fail
      have HC := Lib.hid (hC.set_head (blk 8 (laidE n k)))
      exact ⟨⟨k, by omega, rfl, rfl, HC⟩, by simp [intOf]⟩
end Go.Proofs.Ytepooocdpifcfaa
