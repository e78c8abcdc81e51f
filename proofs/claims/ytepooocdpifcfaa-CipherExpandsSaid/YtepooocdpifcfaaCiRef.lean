/- The reference's cipher: blocks put together, turned, boxed, mixed. No condition on bytes. -/
import Derived.Test.YtepooocdpifcfaaCiOf
import Derived.Test.YtepooocdpifcfaaGfMix3
namespace Go.Proofs.Ytepooocdpifcfaa
open Go.RowKit
attribute [local go_sem] B_xor B_or B_and
attribute [local go_sem] blk_set blk_size blk_get blk_getE upd_same oneCells_blk paste_blk cut_blk szOf
attribute [local go_sem high] paste_all cut_head
attribute [local go_sem] rowAt_alloc rowAt_drew rowAt_drewN isRow_alloc isRow_drew isRow_drewN freeRow_alloc freeRow_drew freeRow_drewN
attribute [local go_sem] setRow_alloc setRow_drew setRow_drewN setCell_drewN alloc_drewN rowAt_setRow isRow_setRow freeRow_setRow
attribute [local go_sem ↓] loadS_in storeS_in indexS_in copyS_in
attribute [local go_sem] loadS_row loadS_one storeS_row storeS_one indexS_blk copyS_rows run_equalIn_blk same_refl arrayAt_row

theorem own_put (f r : Nat → UInt8) (k : Nat) : blk 176 (cpy (upTo f r (k * 16)) (k * 16) (fun j => r (k * 16 + j)) 0 16) = blk 176 (upTo f r ((k + 1) * 16)) := blk_congr fun i hi => by
  unfold cpy upTo
  by_cases h : k * 16 ≤ i ∧ i < k * 16 + 16
  · rw [if_pos h, if_pos (by omega)]
    show r (k * 16 + (0 + (i - k * 16))) = r i
    congr 1; omega
  · rw [if_neg h]
    by_cases h2 : i < k * 16
    · rw [if_pos h2, if_pos (by omega)]
    · rw [if_neg h2, if_neg (by omega)]

set_option maxRecDepth 100000 in
set_option maxHeartbeats 1000000 in
theorem own_any (r : Nat → UInt8) (w : World) : Calls Try.prog 27 #[.agg (blk 176 r)] w fun e w' => e = .returned (.agg (blk 176 r)) ∧ Below w.heap.size w w' := by
  have hz := zero176
  go_enter Try.func27, Try.ntmps27
  go_wp2_with fail
  go_loopw [4] (fun i wr => ∃ k : Nat, k ≤ 11 ∧ i = .int .i64 (k : Int) ∧ wr = ((w.alloc (.cells (blk 176 r) 48)).alloc (.cells (blk 176 fun _ => 0) 46)).alloc (.cells (blk 176 (upTo (fun _ => 0) r (k * 16))) 46)) (fun i _ => 11 - (intOf i).toNat)
  case atStart => exact ⟨0, by omega, rfl, by rw [upTo_zero]⟩
  case round =>
    obtain ⟨k, hk, rfl, rfl⟩ := hrel
    by_cases hlt : k < 11
    · have b2 : k * 16 + 16 ≤ 176 := by omega
      have hp := own_put (fun _ => 0) r k
      go_wp2_with fail
      go_roundw
      case rel => exact ⟨k + 1, by omega, by go_num, rfl⟩
      case measure => simp [intOf]; omega
    · go_wp2_with fail
      obtain rfl : k = 11 := by omega
      refine bodyPost_ret (results_row rfl _ (w.heap.size + 1) rfl (blk 176 r) (by simp [go_sem, upTo_all]) (by simp [go_sem]) (by simp [go_sem]) (by simp [go_sem])) rfl ⟨rfl, ?_⟩
      repeat (first | exact Below.refl _ _ | refine below_drewN ?_ | refine Below.alloc ?_ (by (try simp only [World.size_alloc]); omega) _)

set_option maxHeartbeats 400000 in
theorem refXor_any (a b : Nat → UInt8) (w : World) : Calls Try.prog 31 #[.agg (blk 16 a), .agg (blk 16 b)] w fun e w' => e = .returned (.agg (blk 16 (Ci.xorB a b))) ∧ Below w.heap.size w w' := by
  have hz := zero16
  go_enter Try.func31, Try.ntmps31
  go_wp2_with fail
  go_loopw [5] (fun i wr => ∃ k n : Nat, k ≤ 16 ∧ i = .int .i64 (k : Int) ∧ wr = (((w.alloc (.cells (blk 16 (upTo a (Ci.xorB a b) k)) 22)).alloc (.cells (blk 16 b) 22)).alloc (.cells (blk 16 fun _ => 0) 22)).drewN n) (fun i _ => 16 - (intOf i).toNat)
  case atStart => exact ⟨0, 0, by omega, rfl, by rw [upTo_zero]; rfl⟩
  case round =>
    obtain ⟨k, n, hk, rfl, rfl⟩ := hrel
    by_cases hlt : k < 16
    · have hat := upTo_at a (Ci.xorB a b) k
      have ht : (a k ^^^ b k) = Ci.xorB a b k := rfl
      have hn := upTo_next 16 a (Ci.xorB a b) k
      go_wp2_with fail
      go_region
      go_wp2_with fail
      go_roundw
      case rel => exact ⟨k + 1, n + 1, by omega, by go_num, by first | rfl | (simp [go_sem]; done)⟩
      case measure => simp [intOf]; omega
    · go_wp2_with fail
      obtain rfl : k = 16 := by omega
      refine bodyPost_ret (results_row rfl _ (w.heap.size + 1 + 1) rfl (blk 16 (Ci.xorB a b)) (by simp [go_sem, upTo_all]) (by simp [go_sem]) (by simp [go_sem]) (by simp [go_sem])) rfl ⟨rfl, ?_⟩
      repeat (first | exact Below.refl _ _ | refine below_drewN ?_ | refine Below.alloc ?_ (by (try simp only [World.size_alloc]); omega) _)

theorem turn_at (b : Nat → UInt8) (c i : Nat) (hc : c < 4) (hi : i < 4) : Ci.turn b (at4 c i) = b (at4 (on4 c i) i) := by
  have h : ∀ c < 4, ∀ i < 4, Ci.turnAt (at4 c i) = at4 (on4 c i) i := by decide
  show b (Ci.turnAt (at4 c i)) = _
  rw [h c hc i hi]
set_option maxHeartbeats 1000000 in
theorem refTurn_any (b : Nat → UInt8) (w : World) : Calls Try.prog 29 #[.agg (blk 16 b)] w fun e w' => e = .returned (.agg (blk 16 (Ci.turn b))) ∧ Below w.heap.size w w' := by
  have hz := zero16
  go_enter Try.func29, Try.ntmps29
  go_wp2_with fail
  go_loopw [4] (fun i wr => ∃ c : Nat, c ≤ 4 ∧ i = .int .i64 (c : Int) ∧ wr = ((w.alloc (.cells (blk 16 b) 22)).alloc (.cells (blk 16 fun _ => 0) 22)).alloc (.cells (blk 16 (upTo (fun _ => 0) (Ci.turn b) (at4 c 0))) 22)) (fun i _ => 4 - (intOf i).toNat)
  case atStart => exact ⟨0, by omega, rfl, by rw [show at4 0 0 = 0 from rfl, upTo_zero]⟩
  case round =>
    obtain ⟨c, hc, rfl, rfl⟩ := hrel
    by_cases hlt : c < 4
    · have hd : decide ((c : Int) < 4) = true := by simp; omega
      go_wp2_with fail
      go_loopw [5] (fun i wr => ∃ j : Nat, j ≤ 4 ∧ i = .int .i64 (j : Int) ∧ wr = ((w.alloc (.cells (blk 16 b) 22)).alloc (.cells (blk 16 fun _ => 0) 22)).alloc (.cells (blk 16 (upTo (fun _ => 0) (Ci.turn b) (at4 c j))) 22)) (fun i _ => 4 - (intOf i).toNat)
      case atStart => exact ⟨0, by omega, rfl, rfl⟩
      case round =>
        obtain ⟨j, hj, rfl, rfl⟩ := hrel
        by_cases hjt : j < 4
        · have h4 := on4_lt c j
          have v1 : IntKind.i64.wrap (4 * (c : Int)) = 4 * (c : Int) := IntWalk.i64_in _ (by omega)
          have v2 : IntKind.i64.wrap (4 * (c : Int) + (j : Int)) = (at4 c j : Int) := by
            rw [IntWalk.i64_in _ (by omega)]; unfold at4; omega
          have v3 : IntKind.i64.wrap ((c : Int) + (j : Int)) = (c : Int) + (j : Int) := IntWalk.i64_in _ (by omega)
          have v4 : ((c : Int) + (j : Int)).tmod 4 = (on4 c j : Int) := on4_tmod c j
          have v5 : ((c : Int) + (j : Int)) % 4 = (on4 c j : Int) := by rw [← v4, Int.tmod_eq_emod_of_nonneg (by omega)]
          have v6 : IntKind.i64.wrap (on4 c j : Int) = (on4 c j : Int) := IntWalk.i64_in _ (by omega)
          have v7 : IntKind.i64.wrap (4 * (on4 c j : Int)) = 4 * (on4 c j : Int) := IntWalk.i64_in _ (by omega)
          have v8 : IntKind.i64.wrap (4 * (on4 c j : Int) + (j : Int)) = (at4 (on4 c j) j : Int) := by
            rw [IntWalk.i64_in _ (by omega)]; unfold at4; omega
          have c1 : at4 c j < 16 := by unfold at4; omega
          have c2 : (at4 c j : Int) < 16 := by omega
          have c3 : at4 (on4 c j) j < 16 := by unfold at4; omega
          have c4 : (at4 (on4 c j) j : Int) < 16 := by omega
          have ht := turn_at b c j hlt hjt
          have hn := upTo_next 16 (fun _ => 0) (Ci.turn b) (at4 c j)
          rw [ht] at hn
          have hn' : blk 16 (upTo (fun _ => 0) (Ci.turn b) (at4 c j + 1)) = blk 16 (upTo (fun _ => 0) (Ci.turn b) (at4 c (j + 1))) := rfl
          rw [hn'] at hn
          go_wp2_with fail
          try go_region
          try go_wp2_with fail
          go_roundw
          case rel => exact ⟨j + 1, by omega, by go_num, by first | rfl | (simp [go_sem, *]; done)⟩
          case measure => simp [intOf]; omega
        · obtain rfl : j = 4 := by omega
          go_wp2_with fail
          go_roundw
          case rel => exact ⟨c + 1, by omega, by go_num, rfl⟩
          case measure => simp [intOf]; omega
    · go_wp2_with fail
      obtain rfl : c = 4 := by omega
      have ha : blk 16 (upTo (fun _ => 0) (Ci.turn b) (at4 4 0)) = blk 16 (Ci.turn b) := upTo_all _ _ _
      refine bodyPost_ret (results_row rfl _ (w.heap.size + 1) rfl (blk 16 (Ci.turn b)) (by simp [go_sem, ha]) (by simp [go_sem]) (by simp [go_sem]) (by simp [go_sem])) rfl ⟨rfl, ?_⟩
      repeat (first | exact Below.refl _ _ | refine below_drewN ?_ | refine Below.alloc ?_ (by (try simp only [World.size_alloc]); omega) _)

set_option maxHeartbeats 400000 in
theorem refBoxes_any (b : Nat → UInt8) (w : World) : Calls Try.prog 55 #[.agg (blk 16 b)] w fun e w' => e = .returned (.agg (blk 16 (Ci.each Gf.box b))) ∧ Below w.heap.size w w' := by
  have hz := zero16
  go_enter Try.func55, Try.ntmps55
  go_wp2_with fail
  go_loopw [3] (fun i wr => ∃ k n : Nat, k ≤ 16 ∧ i = .int .i64 (k : Int) ∧ wr = ((w.alloc (.cells (blk 16 (upTo b (Ci.each Gf.box b) k)) 22)).alloc (.cells (blk 16 fun _ => 0) 22)).drewN n) (fun i _ => 16 - (intOf i).toNat)
  case atStart => exact ⟨0, 0, by omega, rfl, by rw [upTo_zero]; rfl⟩
  case round =>
    obtain ⟨k, n, hk, rfl, rfl⟩ := hrel
    by_cases hlt : k < 16
    · have hat := upTo_at b (Ci.each Gf.box b) k
      go_wp2_with fail
      refine ((refBox_pur _).go _).mono ?_; rintro e w' ⟨rfl, k1, rfl⟩
      go_wp2_with fail
      go_roundw
      case rel => exact ⟨k + 1, n + k1, by omega, by go_num, by rw [← upTo_next]; rfl⟩
      case measure => simp [intOf]; omega
    · go_wp2_with fail
      obtain rfl : k = 16 := by omega
      refine bodyPost_ret (results_row rfl _ (w.heap.size + 1) rfl (blk 16 (Ci.each Gf.box b)) (by simp [go_sem, upTo_all]) (by simp [go_sem]) (by simp [go_sem]) (by simp [go_sem])) rfl ⟨rfl, ?_⟩
      repeat (first | exact Below.refl _ _ | refine below_drewN ?_ | refine Below.alloc ?_ (by (try simp only [World.size_alloc]); omega) _)
end Go.Proofs.Ytepooocdpifcfaa
