/- All rounds of a key, as the program tells them. No condition on bytes. -/
import Derived.Test.YtepooocdpifcfaaCiNext
import Derived.KernelRfl
namespace Go.Proofs.Ytepooocdpifcfaa
open Go.RowKit
attribute [local go_sem] B_xor B_or B_and
attribute [local go_sem] blk_set blk_size blk_get blk_getE upd_same oneCells_blk paste_blk cut_blk szOf
attribute [local go_sem high] paste_all cut_head
attribute [local go_sem] rowAt_alloc rowAt_drew rowAt_drewN isRow_alloc isRow_drew isRow_drewN freeRow_alloc freeRow_end freeRow_drew freeRow_drewN
attribute [local go_sem] setRow_alloc setRow_drew setRow_drewN setCell_drewN alloc_drewN rowAt_put isRow_setRow freeRow_put
attribute [local go_sem ↓] loadS_in storeS_in indexS_in copyS_in
attribute [local go_sem] loadS_row loadS_one storeS_row storeS_one indexS_blk copyS_rows run_equalIn_blk same_refl arrayAt_row

theorem zero176 : Try.zeroCells46 = blk 176 (fun _ => 0) := by kernel_rfl

theorem rounds_get (f key : Nat → UInt8) (k : Nat) : blk 16 (fun j => upTo f (Ci.rounds key) (16 * (k + 1)) (k * 16 + j)) = blk 16 (Ci.expand key k) := blk_congr fun i hi => by
  unfold upTo Ci.rounds
  rw [if_pos (by omega), show (k * 16 + i) / 16 = k by omega, show (k * 16 + i) % 16 = i by omega]
theorem rounds_put (f key : Nat → UInt8) (k : Nat) : blk 176 (cpy (upTo f (Ci.rounds key) (16 * (k + 1))) ((k + 1) * 16) (Ci.next (Ci.expand key k) (Ci.mark k)) 0 16) = blk 176 (upTo f (Ci.rounds key) (16 * (k + 1 + 1))) := blk_congr fun i hi => by
  unfold cpy upTo
  by_cases h : (k + 1) * 16 ≤ i ∧ i < (k + 1) * 16 + 16
  · rw [if_pos h, if_pos (by omega)]
    unfold Ci.rounds
    rw [show i / 16 = k + 1 by omega]
    show Ci.next (Ci.expand key k) (Ci.mark k) _ = Ci.next (Ci.expand key k) (Ci.mark k) _
    congr 1; omega
  · rw [if_neg h]
    by_cases h2 : i < 16 * (k + 1)
    · rw [if_pos h2, if_pos (by omega)]
    · rw [if_neg h2, if_neg (by omega)]

def ExpAt (w : World) (key : Nat → UInt8) (k : Nat) (wr : World) : Prop :=
  rowAt wr (w.heap.size + 1 + 1) = blk 176 (upTo (fun _ => 0) (Ci.rounds key) (16 * (k + 1))) ∧ freeRow wr (w.heap.size + 1 + 1) = true ∧ isRow wr (w.heap.size + 1 + 1) = true ∧ rowAt wr (w.heap.size + 1) = blk 176 (fun _ => 0) ∧ freeRow wr (w.heap.size + 1) = true ∧ isRow wr (w.heap.size + 1) = true ∧
    w.heap.size + 3 ≤ wr.heap.size ∧ Below w.heap.size w wr

theorem rounds_first (key : Nat → UInt8) : blk 176 (cpy (fun _ => 0) 0 key 0 16) = blk 176 (upTo (fun _ => 0) (Ci.rounds key) (16 * (0 + 1))) := blk_congr fun i hi => by
  unfold cpy upTo
  by_cases h : 0 ≤ i ∧ i < 0 + 16
  · rw [if_pos h, if_pos (by omega)]
    unfold Ci.rounds
    rw [show i / 16 = 0 by omega, show i % 16 = i by omega, show 0 + (i - 0) = i by omega]; rfl
  · rw [if_neg h, if_neg (by omega)]

set_option maxRecDepth 100000 in
set_option maxHeartbeats 1000000 in
theorem expand_any (key : Nat → UInt8) (w : World) : Calls Try.prog 25 #[.agg (blk 16 key)] w fun e w' => e = .returned (.agg (blk 176 (Ci.rounds key))) ∧ Below w.heap.size w w' := by
  have hz := zero176
  have hf := rounds_first key
  go_enter Try.func25, Try.ntmps25
  go_wp2_with fail
  go_loopw [4, 5] (fun m i wr => ∃ k : Nat, k ≤ 10 ∧ i = .int .i64 ((k : Int) + 1) ∧ m = .int .u8 (B (Ci.mark k)) ∧ Hid (ExpAt w key k wr)) (fun _ i _ => 11 - (intOf i).toNat)
  case atStart =>
    refine ⟨0, by omega, rfl, rfl, Lib.hid ⟨?_, ?_, ?_, ?_, ?_, ?_, ?_, ?_⟩⟩
    all_goals first | (simp [go_sem, *]; done) | skip
    exact (((Below.refl _ _).alloc (Nat.le_refl _) _).alloc (by simp) _).alloc (by simp; omega) _
  case round =>
    clear hf
    obtain ⟨k, hk, rfl, rfl, HR⟩ := hrel
    obtain ⟨r1, r2, r3, r4, r5, r6, r7, hB⟩ := HR.out
    have HB := Lib.hid hB; clear hB HR
    by_cases hlt : k < 10
    · have v1 : IntKind.i64.wrap ((k : Int) + 1 - 1) = (k : Int) := by rw [IntWalk.i64_in _ (by omega)]; omega
      have v2 : IntKind.i64.wrap ((k : Int) + 1 + 1) = ((k : Int) + 1 + 1) := IntWalk.i64_in _ (by omega)
      have hd : ((k : Int) + 1 ≤ 10) := by omega
      have b1 : k * 16 + 16 ≤ 176 := by omega
      have b2 : (k + 1) * 16 + 16 ≤ 176 := by omega
      have hg := rounds_get (fun _ => 0) key k
      have hp := rounds_put (fun _ => 0) key k
      go_wp2_with fail
      refine (next_any _ _ _).mono ?_; rintro e w3 ⟨rfl, hw⟩
      have s1 := hw.1
      have s3 := hw.size
      have y1 := (below_rowAt hw (g := w.heap.size + 1 + 1) (by omega)).trans r1
      have y2 := (below_freeRow hw (g := w.heap.size + 1 + 1) (by omega)).trans r2
      have y3 := (below_isRow hw (g := w.heap.size + 1 + 1) (by omega)).trans r3
      have y4 := (below_rowAt hw (g := w.heap.size + 1) (by omega)).trans r4
      have y5 := (below_freeRow hw (g := w.heap.size + 1) (by omega)).trans r5
      have y6 := (below_isRow hw (g := w.heap.size + 1) (by omega)).trans r6
      have hB' := Lib.hid (HB.out.trans (hw.mono (by omega)))
      clear hw HB r1 r2 r3 r4 r5 r6 hg
      go_wp2_with fail
      refine ((cdouble_pur _).go _).mono ?_; rintro e w4 ⟨rfl, k1, rfl⟩
      go_wp2_with fail
      refine ⟨⟨k + 1, by omega, by go_num, rfl, Lib.hid ⟨?_, ?_, ?_, ?_, ?_, ?_, ?_, ?_⟩⟩, by simp [intOf]; omega⟩
      all_goals first | (simp [go_sem, *]; done) | skip
      · simp [go_sem]; omega
      · exact below_drewN (below_setRow' hB'.out (by omega) _)
    · obtain rfl : k = 10 := by omega
      have ha : blk 176 (upTo (fun _ => 0) (Ci.rounds key) (16 * (10 + 1))) = blk 176 (Ci.rounds key) := upTo_all _ _ _
      rw [ha] at r1; clear ha
      go_wp2_with fail
      refine bodyPost_ret (results_row rfl _ (w.heap.size + 1) rfl (blk 176 (Ci.rounds key)) ?_ ?_ ?_ ?_) rfl ⟨rfl, ?_⟩
      · simp [go_sem, r6]
      · simp [go_sem]
      · simp [go_sem]
      · simp [go_sem, r6]
      · exact below_setRow' HB.out (by omega) _
end Go.Proofs.Ytepooocdpifcfaa
