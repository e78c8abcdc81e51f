/- The reference's cipher: blocks put together, turned, boxed, mixed. No condition on bytes. * The reference's columns mixed. No condition on bytes. * The reference's block in secret. No condition on bytes. * A key and a block in secret, reckoned round by round in literals. No program stands in this text; no condition. * The zero key's rounds, and what two blocks are in secret by them, round by round in literals. No program stands in this text; no condition. * padlocklaw07.awake returns true. * CipherTurns, CipherBack return true at every pair of blocks, whatever the rounds. No condition. * CipherKeys returns true at every two keys. No condition. * The reference's rounds of a key. No condition on bytes. -/
import Derived.Test.YtgaecjhghpkcoaaGreatMCip
import Derived.Deep.CutRange
import Derived.Test.YtgaecjhghpkcoaaGreatMGround
section
namespace Go.Proofs.YtgaecjhghpkcoaaGreat
open Go.RowKit
attribute [local go_sem] B_xor B_or B_and
attribute [local go_sem] blk_set blk_size blk_get blk_getE upd_same oneCells_blk paste_blk cut_blk szOf
attribute [local go_sem high] paste_all cut_head
attribute [local go_sem] rowAt_alloc rowAt_drew rowAt_drewN isRow_alloc isRow_drew isRow_drewN freeRow_alloc freeRow_end freeRow_drew freeRow_drewN
attribute [local go_sem] setRow_alloc setRow_drew setRow_drewN setCell_drewN alloc_drewN rowAt_put isRow_setRow freeRow_put
attribute [local go_sem ↓] loadS_in storeS_in indexS_in copyS_in
attribute [local go_sem] loadS_row loadS_one storeS_row storeS_one indexS_blk copyS_rows run_equalIn_blk same_refl arrayAt_row

theorem own_put (f r : Nat → UInt8) (k : Nat) : blk 176 (cpy (upTo f r (k * 16)) (k * 16) (fun j => r (k * 16 + j)) 0 16) = blk 176 (upTo f r ((k + 1) * 16)) := blk_congr fun i hi => by
  unfold cpy upTo
  by_cases h : k * 16 ≤ i ∧ i < k * 16 + 16
  · rw [if_pos h, if_pos (by omega)]
    show r (k * 16 + (0 + (i - k * 16))) = r i
    congr 1; omega
  · rw [if_neg h]
    by_cases h2 : i < k * 16
    · rw [if_pos h2, if_pos (by omega)]
    · rw [if_neg h2, if_neg (by omega)]

set_option maxHeartbeats 400000 in
theorem refXor_any (a b : Nat → UInt8) (w : World) : Calls Tryz.prog 105 #[.agg (blk 16 a), .agg (blk 16 b)] w fun e w' => e = .returned (.agg (blk 16 (Ci.xorB a b))) ∧ Below w.heap.size w w' := by
  have hz := zero16
  go_enter Tryz.func105, Tryz.ntmps105
  go_wp2_with fail
  go_loopw [5] (fun i wr => ∃ k n : Nat, k ≤ 16 ∧ i = .int .i64 (k : Int) ∧ wr = (((w.alloc (.cells (blk 16 (upTo a (Ci.xorB a b) k)) 22)).alloc (.cells (blk 16 b) 22)).alloc (.cells (blk 16 fun _ => 0) 22)).drewN n) (fun i _ => 16 - (intOf i).toNat)
  case atStart => exact ⟨0, 0, by omega, rfl, by rw [upTo_zero]; rfl⟩
  case round =>
    obtain ⟨k, n, hk, rfl, rfl⟩ := hrel
    by_cases hlt : k < 16
    · have hat := upTo_at a (Ci.xorB a b) k
      have ht : (a k ^^^ b k) = Ci.xorB a b k := rfl
      have hn := upTo_next 16 a (Ci.xorB a b) k
      go_wp2_with fail
      go_region
      go_wp2_with fail
      go_roundw
      case rel => exact ⟨k + 1, n + 1, by omega, by go_num, by first | rfl | (simp [go_sem]; done)⟩
      case measure => simp [intOf]; omega
    · go_wp2_with fail
      obtain rfl : k = 16 := by omega
      refine bodyPost_ret (results_row rfl _ (w.heap.size + 1 + 1) rfl (blk 16 (Ci.xorB a b)) (by simp [go_sem, upTo_all]) (by simp [go_sem]) (by simp [go_sem]) (by simp [go_sem])) rfl ⟨rfl, ?_⟩
      repeat (first | exact Below.refl _ _ | refine below_drewN ?_ | refine Below.alloc ?_ (by (try simp only [World.size_alloc]); omega) _)

theorem turn_at (b : Nat → UInt8) (c i : Nat) (hc : c < 4) (hi : i < 4) : Ci.turn b (at4 c i) = b (at4 (on4 c i) i) := by
  have h : ∀ c < 4, ∀ i < 4, Ci.turnAt (at4 c i) = at4 (on4 c i) i := by decide
  show b (Ci.turnAt (at4 c i)) = _
  rw [h c hc i hi]
set_option maxHeartbeats 1000000 in
theorem refTurn_any (b : Nat → UInt8) (w : World) : Calls Tryz.prog 117 #[.agg (blk 16 b)] w fun e w' => e = .returned (.agg (blk 16 (Ci.turn b))) ∧ Below w.heap.size w w' := by
  have hz := zero16
  go_enter Tryz.func117, Tryz.ntmps117
  go_wp2_with fail
  go_loopw [4] (fun i wr => ∃ c : Nat, c ≤ 4 ∧ i = .int .i64 (c : Int) ∧ wr = ((w.alloc (.cells (blk 16 b) 22)).alloc (.cells (blk 16 fun _ => 0) 22)).alloc (.cells (blk 16 (upTo (fun _ => 0) (Ci.turn b) (at4 c 0))) 22)) (fun i _ => 4 - (intOf i).toNat)
  case atStart => exact ⟨0, by omega, rfl, by rw [show at4 0 0 = 0 from rfl, upTo_zero]⟩
  case round =>
    obtain ⟨c, hc, rfl, rfl⟩ := hrel
    by_cases hlt : c < 4
    · have hd : decide ((c : Int) < 4) = true := by simp; omega
      go_wp2_with fail
      go_loopw [5] (fun i wr => ∃ j : Nat, j ≤ 4 ∧ i = .int .i64 (j : Int) ∧ wr = ((w.alloc (.cells (blk 16 b) 22)).alloc (.cells (blk 16 fun _ => 0) 22)).alloc (.cells (blk 16 (upTo (fun _ => 0) (Ci.turn b) (at4 c j))) 22)) (fun i _ => 4 - (intOf i).toNat)
      case atStart => exact ⟨0, by omega, rfl, rfl⟩
      case round =>
        obtain ⟨j, hj, rfl, rfl⟩ := hrel
        by_cases hjt : j < 4
        · have h4 := on4_lt c j
          have v1 : IntKind.i64.wrap (4 * (c : Int)) = 4 * (c : Int) := IntWalk.i64_in _ (by omega)
          have v2 : IntKind.i64.wrap (4 * (c : Int) + (j : Int)) = (at4 c j : Int) := by
            rw [IntWalk.i64_in _ (by omega)]; unfold at4; omega
          have v3 : IntKind.i64.wrap ((c : Int) + (j : Int)) = (c : Int) + (j : Int) := IntWalk.i64_in _ (by omega)
          have v4 : ((c : Int) + (j : Int)).tmod 4 = (on4 c j : Int) := on4_tmod c j
          have v5 : ((c : Int) + (j : Int)) % 4 = (on4 c j : Int) := by rw [← v4, Int.tmod_eq_emod_of_nonneg (by omega)]
          have v6 : IntKind.i64.wrap (on4 c j : Int) = (on4 c j : Int) := IntWalk.i64_in _ (by omega)
          have v7 : IntKind.i64.wrap (4 * (on4 c j : Int)) = 4 * (on4 c j : Int) := IntWalk.i64_in _ (by omega)
          have v8 : IntKind.i64.wrap (4 * (on4 c j : Int) + (j : Int)) = (at4 (on4 c j) j : Int) := by
            rw [IntWalk.i64_in _ (by omega)]; unfold at4; omega
          have c1 : at4 c j < 16 := by unfold at4; omega
          have c2 : (at4 c j : Int) < 16 := by omega
          have c3 : at4 (on4 c j) j < 16 := by unfold at4; omega
          have c4 : (at4 (on4 c j) j : Int) < 16 := by omega
          have ht := turn_at b c j hlt hjt
          have hn := upTo_next 16 (fun _ => 0) (Ci.turn b) (at4 c j)
          rw [ht] at hn
          have hn' : blk 16 (upTo (fun _ => 0) (Ci.turn b) (at4 c j + 1)) = blk 16 (upTo (fun _ => 0) (Ci.turn b) (at4 c (j + 1))) := rfl
          rw [hn'] at hn
          go_wp2_with fail
          try go_region
          try go_wp2_with fail
          go_roundw
          case rel => exact ⟨j + 1, by omega, by go_num, by first | rfl | (simp [go_sem, *]; done)⟩
          case measure => simp [intOf]; omega
        · obtain rfl : j = 4 := by omega
          go_wp2_with fail
          go_roundw
          case rel => exact ⟨c + 1, by omega, by go_num, rfl⟩
          case measure => simp [intOf]; omega
    · go_wp2_with fail
      obtain rfl : c = 4 := by omega
      have ha : blk 16 (upTo (fun _ => 0) (Ci.turn b) (at4 4 0)) = blk 16 (Ci.turn b) := upTo_all _ _ _
      refine bodyPost_ret (results_row rfl _ (w.heap.size + 1) rfl (blk 16 (Ci.turn b)) (by simp [go_sem, ha]) (by simp [go_sem]) (by simp [go_sem]) (by simp [go_sem])) rfl ⟨rfl, ?_⟩
      repeat (first | exact Below.refl _ _ | refine below_drewN ?_ | refine Below.alloc ?_ (by (try simp only [World.size_alloc]); omega) _)

set_option maxHeartbeats 400000 in
theorem refBoxes_any (b : Nat → UInt8) (w : World) : Calls Tryz.prog 118 #[.agg (blk 16 b)] w fun e w' => e = .returned (.agg (blk 16 (Ci.each Gf.box b))) ∧ Below w.heap.size w w' := by
  have hz := zero16
  go_enter Tryz.func118, Tryz.ntmps118
  go_wp2_with fail
  go_loopw [3] (fun i wr => ∃ k n : Nat, k ≤ 16 ∧ i = .int .i64 (k : Int) ∧ wr = ((w.alloc (.cells (blk 16 (upTo b (Ci.each Gf.box b) k)) 22)).alloc (.cells (blk 16 fun _ => 0) 22)).drewN n) (fun i _ => 16 - (intOf i).toNat)
  case atStart => exact ⟨0, 0, by omega, rfl, by rw [upTo_zero]; rfl⟩
  case round =>
    obtain ⟨k, n, hk, rfl, rfl⟩ := hrel
    by_cases hlt : k < 16
    · have hat := upTo_at b (Ci.each Gf.box b) k
      go_wp2_with fail
      refine ((refBox_pur _).go _).mono ?_; rintro e w' ⟨rfl, k1, rfl⟩
      go_wp2_with fail
      go_roundw
      case rel => exact ⟨k + 1, n + k1, by omega, by go_num, by rw [← upTo_next]; rfl⟩
      case measure => simp [intOf]; omega
    · go_wp2_with fail
      obtain rfl : k = 16 := by omega
      refine bodyPost_ret (results_row rfl _ (w.heap.size + 1) rfl (blk 16 (Ci.each Gf.box b)) (by simp [go_sem, upTo_all]) (by simp [go_sem]) (by simp [go_sem]) (by simp [go_sem])) rfl ⟨rfl, ?_⟩
      repeat (first | exact Below.refl _ _ | refine below_drewN ?_ | refine Below.alloc ?_ (by (try simp only [World.size_alloc]); omega) _)
end Go.Proofs.YtgaecjhghpkcoaaGreat
end

section
namespace Go.Proofs.YtgaecjhghpkcoaaGreat
open Go.RowKit
attribute [local go_sem] B_xor B_or B_and
attribute [local go_sem] blk_set blk_size blk_get blk_getE upd_same oneCells_blk paste_blk cut_blk szOf
attribute [local go_sem high] paste_all cut_head
attribute [local go_sem] rowAt_alloc rowAt_drew rowAt_drewN isRow_alloc isRow_drew isRow_drewN freeRow_alloc freeRow_end freeRow_drew freeRow_drewN
attribute [local go_sem] setRow_alloc setRow_drew setRow_drewN setCell_drewN alloc_drewN rowAt_put isRow_setRow freeRow_put
attribute [local go_sem ↓] loadS_in storeS_in indexS_in copyS_in
attribute [local go_sem] loadS_row loadS_one storeS_row storeS_one indexS_blk copyS_rows run_equalIn_blk same_refl arrayAt_row
attribute [local go_sem] cell_row frozen_row setCell_row blk_ne

@[reducible] def MxAt (w : World) (b : Nat → UInt8) (n : Nat) (wr : World) : Prop :=
  rowAt wr w.heap.size = blk 16 (upTo b (Ci.columns Gf.mix b) n) ∧ freeRow wr w.heap.size = true ∧ isRow wr w.heap.size = true ∧ rowAt wr (w.heap.size + 1) = blk 16 (fun _ => 0) ∧ freeRow wr (w.heap.size + 1) = true ∧ isRow wr (w.heap.size + 1) = true ∧
    w.heap.size + 2 ≤ wr.heap.size ∧ Below w.heap.size w wr
def MxG (w : World) (b : Nat → UInt8) (c n g : Nat) (wr : World) : Prop :=
  MxAt w b n wr ∧ rowAt wr g = blk 4 (Gf.mix (Ci.col b c)) ∧ isRow wr g = true ∧ w.heap.size + 2 ≤ g ∧ g < wr.heap.size
theorem mxAt_call {w a c : World} {b : Nat → UInt8} {n : Nat} (h : MxAt w b n a) (hb : Below a.heap.size a c) : MxAt w b n c := by
  obtain ⟨r1, r2, r3, r4, r5, r6, r9, hB⟩ := h
  exact ⟨(below_rowAt hb (by omega)).trans r1, (below_freeRow hb (by omega)).trans r2, (below_isRow hb (by omega)).trans r3, (below_rowAt hb (by omega)).trans r4, (below_freeRow hb (by omega)).trans r5, (below_isRow hb (by omega)).trans r6,
    Nat.le_trans r9 hb.size, hB.trans (hb.mono (by omega))⟩
theorem mxAt_drew {w a : World} {b : Nat → UInt8} {n : Nat} (h : MxAt w b n a) : MxAt w b n a.drew := by
  obtain ⟨r1, r2, r3, r4, r5, r6, r9, hB⟩ := h
  exact ⟨r1, r2, r3, r4, r5, r6, r9, hB.drew⟩
theorem mxAt_alloc {w a : World} {b : Nat → UInt8} {n : Nat} (h : MxAt w b n a) (c : Array Value) (t : TypeId) : MxAt w b n (a.alloc (.cells c t)) := by
  have hsz := h.2.2.2.2.2.2.1
  exact mxAt_call h ((Below.refl _ _).alloc (Nat.le_refl _) _)
theorem mxAt_set {w a : World} {b : Nat → UInt8} {n g : Nat} (h : MxAt w b n a) (hg : w.heap.size + 2 ≤ g) (_hr : isRow a g = true) (cs : Array Value) (hs : cs.size = (rowAt a g).size) : MxAt w b n (a.setRow g cs) := by
  obtain ⟨r1, r2, r3, r4, r5, r6, r9, hB⟩ := h
  have m1 : (w.heap.size = g) = False := by simp; omega
  have m2 : (w.heap.size + 1 = g) = False := by simp; omega
  refine ⟨?_, ?_, ?_, ?_, ?_, ?_, ?_, ?_⟩
  all_goals first | (simp [go_sem, *]; done) | exact below_setRow' hB (by omega) _
theorem mxAt_step {w a : World} {b : Nat → UInt8} {n m : Nat} (h : MxAt w b n a) : MxAt w b m (a.setRow w.heap.size (blk 16 (upTo b (Ci.columns Gf.mix b) m))) := by
  obtain ⟨r1, r2, r3, r4, r5, r6, r9, hB⟩ := h
  refine ⟨?_, ?_, ?_, ?_, ?_, ?_, ?_, ?_⟩
  all_goals first | (simp [go_sem, *]; done) | exact below_setRow' hB (Nat.le_refl _) _
theorem col4 (b : Nat → UInt8) (f : Nat → UInt8) (c : Nat) : blk 4 (upd (upd (upd (upd (fun _ => 0) 0 (upTo b f (at4 c 0) (at4 c 0))) 1 (upTo b f (at4 c 0) (at4 c 1))) 2 (upTo b f (at4 c 0) (at4 c 2))) 3 (upTo b f (at4 c 0) (at4 c 3))) = blk 4 (Ci.col b c) := blk_congr fun i hi => by
  have h : ∀ j, upTo b f (at4 c 0) (at4 c j) = b (at4 c j) := fun j => by unfold upTo at4; rw [if_neg (by omega)]
  rw [h, h, h, h]
  rcases Ci.four_cases hi with rfl | rfl | rfl | rfl <;> rfl
theorem columns_at (b : Nat → UInt8) (c j : Nat) (hj : j < 4) : Ci.columns Gf.mix b (at4 c j) = Gf.mix (Ci.col b c) j := by
  unfold Ci.columns at4
  rw [show (4 * c + j) / 4 = c by omega, show (4 * c + j) % 4 = j by omega]

set_option maxRecDepth 100000 in
set_option maxHeartbeats 1000000 in
theorem refMixes_any (b : Nat → UInt8) (w : World) : Calls Tryz.prog 119 #[.agg (blk 16 b)] w fun e w' => e = .returned (.agg (blk 16 (Ci.columns Gf.mix b))) ∧ Below w.heap.size w w' := by
  have hz := zero16
  have hz4 := zero4
  go_enter Tryz.func119, Tryz.ntmps119
  go_wp2_with fail
  go_loopw [3] (fun i wr => ∃ c : Nat, c ≤ 4 ∧ i = .int .i64 (c : Int) ∧ Hid (MxAt w b (at4 c 0) wr)) (fun i _ => 4 - (intOf i).toNat)
  case atStart =>
    refine ⟨0, by omega, rfl, Lib.hid ⟨?_, ?_, ?_, ?_, ?_, ?_, ?_, ?_⟩⟩
    · simp [go_sem]; exact (upTo_zero _ _ _).symm
    all_goals first | exact ((Below.refl _ _).alloc (Nat.le_refl _) _).alloc (by simp) _ | (simp [go_sem]; done) | skip
  case round =>
    obtain ⟨c, hc, rfl, HR⟩ := hrel
    by_cases hlt : c < 4
    · have hd : decide ((c : Int) < 4) = true := by simp; omega
      have v0 : IntKind.i64.wrap (4 * (c : Int)) = (at4 c 0 : Int) := by rw [IntWalk.i64_in _ (by omega)]; unfold at4; omega
      have v1 : IntKind.i64.wrap ((at4 c 0 : Int) + 1) = (at4 c 1 : Int) := by unfold at4; rw [IntWalk.i64_in _ (by omega)]; omega
      have v2 : IntKind.i64.wrap ((at4 c 0 : Int) + 2) = (at4 c 2 : Int) := by unfold at4; rw [IntWalk.i64_in _ (by omega)]; omega
      have v3 : IntKind.i64.wrap ((at4 c 0 : Int) + 3) = (at4 c 3 : Int) := by unfold at4; rw [IntWalk.i64_in _ (by omega)]; omega
      have c0 : at4 c 0 < 16 := by unfold at4; omega
      have c1 : at4 c 1 < 16 := by unfold at4; omega
      have c2 : at4 c 2 < 16 := by unfold at4; omega
      have c3 : at4 c 3 < 16 := by unfold at4; omega
      have d0 : (at4 c 0 : Int) < 16 := by omega
      have d1 : (at4 c 1 : Int) < 16 := by omega
      have d2 : (at4 c 2 : Int) < 16 := by omega
      have d3 : (at4 c 3 : Int) < 16 := by omega
      have hcol := col4 b (Ci.columns Gf.mix b) c
      go_wp2_with fail
      go_upto_region 4 with fail
      go_cut [4] from 6 to 42 (fun p wx => ∃ g, p = .pointer (some ⟨g, 0, none⟩) ∧ Hid (MxG w b c (at4 c 0) g wx))
      case first =>
        have hm := HR.out
        have s1 := hm.2.2.2.2.2.2.2.os
        obtain ⟨r1, r2, r3, r4, r5, r6, r9, hB⟩ := hm
        clear hB
        have HM := HR.out
        go_region_held3 (fun w' => rowAt w' w.heap.size = blk 16 (upTo b (Ci.columns Gf.mix b) (at4 c 0)) ∧ freeRow w' w.heap.size = true ∧ isRow w' w.heap.size = true ∧ rowAt w' (w.heap.size + 1) = blk 16 (fun _ => 0) ∧ freeRow w' (w.heap.size + 1) = true ∧ isRow w' (w.heap.size + 1) = true ∧ w.heap.size + 2 ≤ w'.heap.size ∧ Below w.heap.size w w')
          (first | (with_reducible exact mxAt_drew HM) | (with_reducible exact q4.out) | (with_reducible exact mxAt_alloc q4.out _ _) | (with_reducible exact mxAt_drew (mxAt_alloc HM _ _)) | (apply mxAt_call <;> assumption) | (apply mxAt_alloc; assumption) | (apply mxAt_set <;> first | assumption | omega | (simp [go_sem, *]; done)))
          (first | (go_at_call 138; refine (refMix_any _ _).mono ?_; rintro e w' ⟨rfl, hw⟩; have q4 : Hid (MxAt w b (at4 c 0) w') := Lib.hid (by apply mxAt_call <;> assumption); have q1 := fun g hg => below_freeRow hw (g := g) hg; have q2 := fun g hg => below_isRow hw (g := g) hg; have q3 := fun g hg => below_rowAt hw (g := g) hg))
        all_goals
          go_wp2_with fail
          go_meet
          refine ⟨_, rfl, Lib.hid ⟨by assumption, ?_, ?_, ?_, ?_⟩⟩
          · simp [go_sem, *]
          · simp [go_sem, *]
          · first | exact r9 | exact q4.out.2.2.2.2.2.2.1
          · first | (simp [go_sem]; done) | (simp [go_sem]; have := hw.size; simp at this; omega)
      case rest =>
        obtain ⟨g, rfl, HG⟩ := hcut
        clear hcol v1 v2 v3 c0 c1 c2 c3 d0 d1 d2 d3 HR
        go_wp2_with fail
        go_loopw [5] (fun i wr => ∃ j : Nat, j ≤ 4 ∧ i = .int .i64 (j : Int) ∧ Hid (MxG w b c (at4 c j) g wr)) (fun i _ => 4 - (intOf i).toNat)
        case atStart => exact ⟨0, by omega, rfl, HG⟩
        case round =>
          clear HG
          obtain ⟨j, hj, rfl, HJ⟩ := hrel
          by_cases hjt : j < 4
          · have hm := HJ.out
            obtain ⟨hm1, g1, g2, g3, g4⟩ := hm
            have HM := Lib.hid hm1
            obtain ⟨r1, r2, r3, r4, r5, r6, r9, hB⟩ := hm1
            have HB := Lib.hid hB; clear hB HJ r4 r5 r6
            have v2 : IntKind.i64.wrap ((at4 c 0 : Int) + (j : Int)) = (at4 c j : Int) := by unfold at4; rw [IntWalk.i64_in _ (by omega)]; omega
            have c1 : at4 c j < 16 := by unfold at4; omega
            have c2 : (at4 c j : Int) < 16 := by omega
            have hca := columns_at b c j hjt
            have hn := upTo_next 16 b (Ci.columns Gf.mix b) (at4 c j)
            rw [hca] at hn
            have hn' : blk 16 (upTo b (Ci.columns Gf.mix b) (at4 c j + 1)) = blk 16 (upTo b (Ci.columns Gf.mix b) (at4 c (j + 1))) := rfl
            rw [hn'] at hn
            go_wp2_with fail
            have m1 : (g = w.heap.size) = False := by simp; omega
            refine ⟨⟨j + 1, by omega, by go_num, Lib.hid ⟨mxAt_step HM.out, ?_, ?_, g3, ?_⟩⟩, by simp [intOf]; omega⟩
            · simp [go_sem, *]
            · simp [go_sem, *]
            · simp [go_sem]; omega
          · obtain rfl : j = 4 := by omega
            have hm := HJ.out.1
            go_wp2_with fail
            exact ⟨⟨c + 1, by omega, by go_num, Lib.hid hm⟩, by simp [intOf]; omega⟩
    · obtain rfl : c = 4 := by omega
      have hm := HR.out
      obtain ⟨r1, r2, r3, r4, r5, r6, r9, hB⟩ := hm
      have HB := Lib.hid hB; clear hB HR
      have ha : blk 16 (upTo b (Ci.columns Gf.mix b) (at4 4 0)) = blk 16 (Ci.columns Gf.mix b) := upTo_all _ _ _
      rw [ha] at r1; clear ha
      go_wp2_with fail
      refine bodyPost_ret (results_row rfl _ (w.heap.size + 1) rfl (blk 16 (Ci.columns Gf.mix b)) ?_ ?_ ?_ ?_) rfl ⟨rfl, ?_⟩
      · simp [go_sem, r6]
      · simp [go_sem]
      · simp [go_sem]
      · simp [go_sem, r6]
      · exact below_setRow' HB.out (by omega) _
end Go.Proofs.YtgaecjhghpkcoaaGreat
end

section
namespace Go.Proofs.YtgaecjhghpkcoaaGreat
open Go.RowKit
attribute [local go_sem] B_xor B_or B_and
attribute [local go_sem] blk_set blk_size blk_get blk_getE upd_same oneCells_blk paste_blk cut_blk szOf
attribute [local go_sem high] paste_all cut_head
attribute [local go_sem] rowAt_alloc rowAt_drew rowAt_drewN isRow_alloc isRow_drew isRow_drewN freeRow_alloc freeRow_end freeRow_drew freeRow_drewN
attribute [local go_sem] setRow_alloc setRow_drew setRow_drewN setCell_drewN alloc_drewN rowAt_put isRow_setRow freeRow_put
attribute [local go_sem ↓] loadS_in storeS_in indexS_in copyS_in
attribute [local go_sem] loadS_row loadS_one storeS_row storeS_one indexS_blk copyS_rows run_equalIn_blk same_refl arrayAt_row

def refTo (r b : Nat → UInt8) (k : Nat) : Nat → UInt8 := if k ≤ 9 then Ci.sealTo r b k else Ci.sealB r b
theorem refTo_le (r b : Nat → UInt8) (k : Nat) (h : k ≤ 9) : refTo r b k = Ci.sealTo r b k := by unfold refTo; rw [if_pos h]


set_option maxRecDepth 100000 in
set_option maxHeartbeats 1000000 in
theorem refSeal_any (r b : Nat → UInt8) (w : World) : Calls Tryz.prog 91 #[.agg (blk 176 r), .agg (blk 16 b)] w fun e w' => e = .returned (.agg (blk 16 (Ci.sealB r b))) ∧ Below w.heap.size w w' := by
  have hz := zero16
  have hr0 := rd_zero r
  go_enter Tryz.func91, Tryz.ntmps91
  go_wp2_with fail
  have hst : SealAt w r b (((w.alloc (.cells (blk 176 r) 155)).alloc (.cells (blk 16 b) 22)).alloc (.cells (blk 16 fun _ => 0) 22)) := by
    refine ⟨?_, ?_, ?_, ?_, ?_, ?_, ?_, ?_, ?_, ?_⟩
    all_goals first | exact (((Below.refl _ _).alloc (Nat.le_refl _) _).alloc (by simp) _).alloc (by simp; omega) _ | (simp [go_sem]; done) | (simp [go_sem]; omega)
  refine (refXor_any _ _ _).mono ?_; rintro e w1 ⟨rfl, hw⟩
  have hs := sealAt_call hst hw
  have HS := Lib.hid hs
  have s1 := hw.1
  obtain ⟨r1, r2, r3, r4, r5, r6, r7, r8, r9, hB⟩ := hs
  clear hst hw hB
  go_wp2_with fail
  have HS := Lib.hid (sealAt_set (refTo r b 0) HS.out)
  clear r1 r2 r3 r4 r5 r6 r7 r8 s1
  go_loopw [5] (fun i wr => ∃ k : Nat, k ≤ 10 ∧ i = .int .i64 ((k : Int) + 1) ∧ Hid (SealAt w r (refTo r b k) wr)) (fun i _ => 11 - (intOf i).toNat)
  case atStart => exact ⟨0, by omega, rfl, HS⟩
  case round =>
    clear HS hr0
    obtain ⟨k, hk, rfl, HR⟩ := hrel
    by_cases hlt : k < 10
    · have v2 : IntKind.i64.wrap ((k : Int) + 1 + 1) = ((k : Int) + 1 + 1) := IntWalk.i64_in _ (by omega)
      have hd : ((k : Int) + 1 ≤ 10) := by omega
      have hd2 : ((k : Int) + 1 < 11) := by omega
      have hd3 : (0 ≤ (k : Int) + 1) := by omega
      have b2 : (k + 1) * 16 + 16 ≤ 176 := by omega
      have hrd := rd_at r (k + 1)
      rw [refTo_le r b k (by omega)] at HR
      have hC := HR.out
      have s1 := hC.2.2.2.2.2.2.2.2.2.os
      obtain ⟨r1, r2, r3, r4, r5, r6, r7, r8, r9, hB⟩ := hC
      clear hB
      go_wp2_with fail
      refine (refBoxes_any _ _).mono ?_; rintro e w3 ⟨rfl, hw⟩
      have h3 := sealAt_call HR.out hw
      clear r1 r2 r3 r4 r5 r6 r7 r8 r9 s1 hw
      have H3 := Lib.hid h3
      have s1 := h3.2.2.2.2.2.2.2.2.2.os
      obtain ⟨r1, r2, r3, r4, r5, r6, r7, r8, r9, hB⟩ := h3
      clear hB
      go_wp2_with fail
      refine (refTurn_any _ _).mono ?_; rintro e w4 ⟨rfl, hw⟩
      have h4 := sealAt_call H3.out hw
      clear r1 r2 r3 r4 r5 r6 r7 r8 r9 s1 hw
      have H4 := Lib.hid (sealAt_set (Ci.turn (Ci.each Gf.box (Ci.sealTo r b k))) h4)
      have s1 := h4.2.2.2.2.2.2.2.2.2.os
      obtain ⟨r1, r2, r3, r4, r5, r6, r7, r8, r9, hB⟩ := h4
      clear hB H3
      by_cases h9 : k < 9
      · have hd4 : ((k : Int) + 1 < 10) := by omega
        go_wp2_with fail
        refine (refMixes_any _ _).mono ?_; rintro e w5 ⟨rfl, hw⟩
        have h5 := sealAt_call H4.out hw
        clear r1 r2 r3 r4 r5 r6 r7 r8 r9 s1 hw
        have H5 := Lib.hid (sealAt_set (Ci.columns Gf.mix (Ci.turn (Ci.each Gf.box (Ci.sealTo r b k)))) h5)
        have s1 := h5.2.2.2.2.2.2.2.2.2.os
        obtain ⟨r1, r2, r3, r4, r5, r6, r7, r8, r9, hB⟩ := h5
        clear hB H4
        go_wp2_with fail
        refine wp_region_tail (C := SealAt w r (Ci.columns Gf.mix (Ci.turn (Ci.each Gf.box (Ci.sealTo r b k))))) 5 (by kernel_rfl) (by kernel_rfl) (sealAt_drew H5.out) ?_
        simp only [List.take_succ_cons, List.take_zero, List.drop_succ_cons, List.drop_zero]
        clear r1 r2 r3 r4 r5 r6 r7 r8 r9 s1
        (apply head_step rfl
         focus
           intro w0 hC
           have hC' := Lib.hid hC
           obtain ⟨r1, r2, r3, r4, r5, r6, r7, r8, r9, hB⟩ := hC
           have HB := Lib.hid hB; clear hB
           go_simp
           have hC := hC'.out
           first
             | with_reducible rfl
             | (refine (refXor_any _ _ _).mono ?_
                rintro e w' ⟨rfl, hw⟩
                exact ⟨rfl, sealAt_call (by assumption) hw⟩)
         try simp only [Act.put, List.setIfInBounds_toArray, List.set])
        (apply head_step rfl
         focus
           intro w0 hC
           have hC' := Lib.hid hC
           obtain ⟨r1, r2, r3, r4, r5, r6, r7, r8, r9, hB⟩ := hC
           have HB := Lib.hid hB; clear hB
           go_simp
           have hC := hC'.out
           first
             | with_reducible rfl
             | (refine (refXor_any _ _ _).mono ?_
                rintro e w' ⟨rfl, hw⟩
                exact ⟨rfl, sealAt_call (by assumption) hw⟩)
         try simp only [Act.put, List.setIfInBounds_toArray, List.set])
        (apply head_step rfl
         focus
           intro w0 hC
           have hC' := Lib.hid hC
           obtain ⟨r1, r2, r3, r4, r5, r6, r7, r8, r9, hB⟩ := hC
           have HB := Lib.hid hB; clear hB
           go_simp
           have hC := hC'.out
           first
             | with_reducible rfl
             | (refine (refXor_any _ _ _).mono ?_
                rintro e w' ⟨rfl, hw⟩
                exact ⟨rfl, sealAt_call (by assumption) hw⟩)
         try simp only [Act.put, List.setIfInBounds_toArray, List.set])
        (apply head_step rfl
         focus
           intro w0 hC
           have hC' := Lib.hid hC
           obtain ⟨r1, r2, r3, r4, r5, r6, r7, r8, r9, hB⟩ := hC
           have HB := Lib.hid hB; clear hB
           go_simp
           have hC := hC'.out
           first
             | with_reducible rfl
             | (refine (refXor_any _ _ _).mono ?_
                rintro e w' ⟨rfl, hw⟩
                exact ⟨rfl, sealAt_call (by assumption) hw⟩)
         try simp only [Act.put, List.setIfInBounds_toArray, List.set])
        (apply head_step rfl
         focus
           intro w0 hC
           have hC' := Lib.hid hC
           obtain ⟨r1, r2, r3, r4, r5, r6, r7, r8, r9, hB⟩ := hC
           have HB := Lib.hid hB; clear hB
           go_simp
           have hC := hC'.out
           first
             | with_reducible rfl
             | (refine (refXor_any _ _ _).mono ?_
                rintro e w' ⟨rfl, hw⟩
                exact ⟨rfl, sealAt_call (by assumption) hw⟩)
         try simp only [Act.put, List.setIfInBounds_toArray, List.set])
        refine wpQuiet_nil ?_
        intro w6 hC
        have HC := Lib.hid hC
        have s1 := hC.2.2.2.2.2.2.2.2.2.os
        obtain ⟨r1, r2, r3, r4, r5, r6, r7, r8, r9, hB⟩ := hC
        clear hB
        go_wp2_with fail
        refine ⟨⟨k + 1, by omega, by go_num, Lib.hid ?_⟩, by simp [intOf]; omega⟩
        rw [refTo_le r b (k + 1) (by omega)]
        exact sealAt_set _ HC.out
      · obtain rfl : k = 9 := by omega
        go_wp2_with fail
        refine wp_region_tail (C := SealAt w r (Ci.turn (Ci.each Gf.box (Ci.sealTo r b 9)))) 5 (by kernel_rfl) (by kernel_rfl) (sealAt_drew H4.out) ?_
        simp only [List.take_succ_cons, List.take_zero, List.drop_succ_cons, List.drop_zero]
        clear r1 r2 r3 r4 r5 r6 r7 r8 r9 s1
        (apply head_step rfl
         focus
           intro w0 hC
           have hC' := Lib.hid hC
           obtain ⟨r1, r2, r3, r4, r5, r6, r7, r8, r9, hB⟩ := hC
           have HB := Lib.hid hB; clear hB
           go_simp
           have hC := hC'.out
           first
             | with_reducible rfl
             | (refine (refXor_any _ _ _).mono ?_
                rintro e w' ⟨rfl, hw⟩
                exact ⟨rfl, sealAt_call (by assumption) hw⟩)
         try simp only [Act.put, List.setIfInBounds_toArray, List.set])
        (apply head_step rfl
         focus
           intro w0 hC
           have hC' := Lib.hid hC
           obtain ⟨r1, r2, r3, r4, r5, r6, r7, r8, r9, hB⟩ := hC
           have HB := Lib.hid hB; clear hB
           go_simp
           have hC := hC'.out
           first
             | with_reducible rfl
             | (refine (refXor_any _ _ _).mono ?_
                rintro e w' ⟨rfl, hw⟩
                exact ⟨rfl, sealAt_call (by assumption) hw⟩)
         try simp only [Act.put, List.setIfInBounds_toArray, List.set])
        (apply head_step rfl
         focus
           intro w0 hC
           have hC' := Lib.hid hC
           obtain ⟨r1, r2, r3, r4, r5, r6, r7, r8, r9, hB⟩ := hC
           have HB := Lib.hid hB; clear hB
           go_simp
           have hC := hC'.out
           first
             | with_reducible rfl
             | (refine (refXor_any _ _ _).mono ?_
                rintro e w' ⟨rfl, hw⟩
                exact ⟨rfl, sealAt_call (by assumption) hw⟩)
         try simp only [Act.put, List.setIfInBounds_toArray, List.set])
        (apply head_step rfl
         focus
           intro w0 hC
           have hC' := Lib.hid hC
           obtain ⟨r1, r2, r3, r4, r5, r6, r7, r8, r9, hB⟩ := hC
           have HB := Lib.hid hB; clear hB
           go_simp
           have hC := hC'.out
           first
             | with_reducible rfl
             | (refine (refXor_any _ _ _).mono ?_
                rintro e w' ⟨rfl, hw⟩
                exact ⟨rfl, sealAt_call (by assumption) hw⟩)
         try simp only [Act.put, List.setIfInBounds_toArray, List.set])
        (apply head_step rfl
         focus
           intro w0 hC
           have hC' := Lib.hid hC
           obtain ⟨r1, r2, r3, r4, r5, r6, r7, r8, r9, hB⟩ := hC
           have HB := Lib.hid hB; clear hB
           go_simp
           have hC := hC'.out
           first
             | with_reducible rfl
             | (refine (refXor_any _ _ _).mono ?_
                rintro e w' ⟨rfl, hw⟩
                exact ⟨rfl, sealAt_call (by assumption) hw⟩)
         try simp only [Act.put, List.setIfInBounds_toArray, List.set])
        refine wpQuiet_nil ?_
        intro w6 hC
        have HC := Lib.hid hC
        have s1 := hC.2.2.2.2.2.2.2.2.2.os
        obtain ⟨r1, r2, r3, r4, r5, r6, r7, r8, r9, hB⟩ := hC
        clear hB
        go_wp2_with fail
        refine ⟨⟨10, by omega, by go_num, Lib.hid ?_⟩, by simp [intOf]⟩
        exact sealAt_set _ HC.out
    · obtain rfl : k = 10 := by omega
      have hC := HR.out
      have s1 := hC.2.2.2.2.2.2.2.2.2.os
      obtain ⟨r1, r2, r3, r4, r5, r6, r7, r8, r9, hB⟩ := hC
      have HB := Lib.hid hB; clear hB
      have ha : refTo r b 10 = Ci.sealB r b := rfl
      rw [ha] at r3
      go_wp2_with fail
      refine bodyPost_ret (results_row rfl _ (w.heap.size + 1 + 1) rfl (blk 16 (Ci.sealB r b)) ?_ ?_ ?_ ?_) rfl ⟨rfl, ?_⟩
      · simp [go_sem, r8]
      · simp [go_sem]
      · simp [go_sem]
      · simp [go_sem, r8]
      · exact below_setRow' HB.out (by omega) _
end Go.Proofs.YtgaecjhghpkcoaaGreat
end

section
namespace Go.Proofs.YtgaecjhghpkcoaaGreat.Ci
open Gf

def lit (l : List UInt8) : Nat → UInt8 := fun i => l.getD i 0
def eqB (f g : Nat → UInt8) : Bool := (List.range 16).all fun i => f i == g i
theorem of_eqB {f g : Nat → UInt8} (h : eqB f g = true) : EqB f g := fun i hi => by
  have := List.all_eq_true.1 h i (List.mem_range.2 hi)
  simpa using this
theorem nextAt_congr {a b s t : Nat → UInt8} (h : EqB a b) (k : ∀ i, i < 4 → s i = t i) : ∀ n i, n < 4 → i < 4 → nextAt a s n i = nextAt b t n i
  | 0, i, _, hi => by unfold nextAt; rw [h i (by omega), k i hi]
  | n + 1, i, hn, hi => by unfold nextAt; rw [h _ (by omega), nextAt_congr h k n i (by omega) hi]
theorem first_congr {a b : Nat → UInt8} (h : EqB a b) (m : UInt8) : ∀ i, i < 4 → first a m i = first b m i := fun i hi => by
  rcases four_cases hi with rfl | rfl | rfl | rfl <;> simp only [first] <;> rw [h _ (by decide)]
theorem next_congr {a b : Nat → UInt8} (h : EqB a b) (m : UInt8) : EqB (next a m) (next b m) := fun i hi => by
  unfold next
  exact nextAt_congr h (first_congr h m) _ _ (by omega) (by omega)
def bx (a : UInt8) : UInt8 := boxTab.getD a.toNat 0
theorem box_bx : box = bx := funext box_tab
def firstT (b : Nat → UInt8) (m : UInt8) : Nat → UInt8 := lit [bx (b 13) ^^^ m, bx (b 14), bx (b 15), bx (b 12)]
theorem first_tab (b : Nat → UInt8) (m : UInt8) : ∀ i, i < 4 → first b m i = firstT b m i := fun i hi => by
  rcases four_cases hi with rfl | rfl | rfl | rfl <;> simp only [first, box_bx] <;> rfl
def nextT (b : Nat → UInt8) (m : UInt8) : Nat → UInt8 := fun j => nextAt b (firstT b m) (j / 4) (j % 4)
theorem next_tab (b : Nat → UInt8) (m : UInt8) : EqB (next b m) (nextT b m) := fun i hi => by
  unfold next nextT
  exact nextAt_congr (EqB.refl _) (first_tab b m) _ _ (by omega) (by omega)
theorem expand_step {key : Nat → UInt8} {n : Nat} {l m : List UInt8} (x : UInt8) (hx : mark n = x) (h : EqB (expand key n) (lit l)) (hn : eqB (nextT (lit l) x) (lit m) = true) : EqB (expand key (n + 1)) (lit m) := by
  show EqB (next (expand key n) (mark n)) _
  rw [hx]
  exact ((next_congr h x).trans (next_tab _ _)).trans (of_eqB hn)
theorem seal_step {r b : Nat → UInt8} {n : Nat} {s e k m : List UInt8} (h : EqB (sealTo r b n) (lit s)) (hk : EqB (rd r (n + 1)) (lit k)) (he : eqB (each bx (lit s)) (lit e) = true) (hm : eqB (xorB (columns mix (turn (lit e))) (lit k)) (lit m) = true) : EqB (sealTo r b (n + 1)) (lit m) := by
  show EqB (xorB (columns mix (turn (each box (sealTo r b n)))) (rd r (n + 1))) _
  rw [box_bx]
  exact (EqB.xor (EqB.columns mix_congr (((h.each bx).trans (of_eqB he)).turn)) hk).trans (of_eqB hm)
theorem seal_last {r b : Nat → UInt8} {s e k m : List UInt8} (h : EqB (sealTo r b 9) (lit s)) (hk : EqB (rd r 10) (lit k)) (he : eqB (each bx (lit s)) (lit e) = true) (hm : eqB (xorB (turn (lit e)) (lit k)) (lit m) = true) : EqB (sealB r b) (lit m) := by
  show EqB (xorB (turn (each box (sealTo r b 9))) (rd r 10)) _
  rw [box_bx]
  exact (EqB.xor (((h.each bx).trans (of_eqB he)).turn) hk).trans (of_eqB hm)
theorem rd_rounds (key : Nat → UInt8) (n : Nat) : EqB (rd (rounds key) n) (expand key n) := fun i hi => by
  unfold rd rounds
  rw [show (16 * n + i) / 16 = n by omega, show (16 * n + i) % 16 = i by omega]

def testKey : Nat → UInt8 := fun i => UInt8.ofNat i
def testBlock : Nat → UInt8 := fun i => UInt8.ofNat (17 * i)

theorem key0 : EqB (expand testKey 0) (lit [0, 1, 2, 3, 4, 5, 6, 7, 8, 9, 10, 11, 12, 13, 14, 15]) := of_eqB (by decide +kernel)
theorem key1 : EqB (expand testKey 1) (lit [214, 170, 116, 253, 210, 175, 114, 250, 218, 166, 120, 241, 214, 171, 118, 254]) := expand_step 1 (by decide +kernel) key0 (by decide +kernel)
theorem key2 : EqB (expand testKey 2) (lit [182, 146, 207, 11, 100, 61, 189, 241, 190, 155, 197, 0, 104, 48, 179, 254]) := expand_step 2 (by decide +kernel) key1 (by decide +kernel)
theorem key3 : EqB (expand testKey 3) (lit [182, 255, 116, 78, 210, 194, 201, 191, 108, 89, 12, 191, 4, 105, 191, 65]) := expand_step 4 (by decide +kernel) key2 (by decide +kernel)
theorem key4 : EqB (expand testKey 4) (lit [71, 247, 247, 188, 149, 53, 62, 3, 249, 108, 50, 188, 253, 5, 141, 253]) := expand_step 8 (by decide +kernel) key3 (by decide +kernel)
theorem key5 : EqB (expand testKey 5) (lit [60, 170, 163, 232, 169, 159, 157, 235, 80, 243, 175, 87, 173, 246, 34, 170]) := expand_step 16 (by decide +kernel) key4 (by decide +kernel)
theorem key6 : EqB (expand testKey 6) (lit [94, 57, 15, 125, 247, 166, 146, 150, 167, 85, 61, 193, 10, 163, 31, 107]) := expand_step 32 (by decide +kernel) key5 (by decide +kernel)
theorem key7 : EqB (expand testKey 7) (lit [20, 249, 112, 26, 227, 95, 226, 140, 68, 10, 223, 77, 78, 169, 192, 38]) := expand_step 64 (by decide +kernel) key6 (by decide +kernel)
theorem key8 : EqB (expand testKey 8) (lit [71, 67, 135, 53, 164, 28, 101, 185, 224, 22, 186, 244, 174, 191, 122, 210]) := expand_step 128 (by decide +kernel) key7 (by decide +kernel)
theorem key9 : EqB (expand testKey 9) (lit [84, 153, 50, 209, 240, 133, 87, 104, 16, 147, 237, 156, 190, 44, 151, 78]) := expand_step 27 (by decide +kernel) key8 (by decide +kernel)
theorem key10 : EqB (expand testKey 10) (lit [19, 17, 29, 127, 227, 148, 74, 23, 243, 7, 167, 139, 77, 43, 48, 197]) := expand_step 54 (by decide +kernel) key9 (by decide +kernel)
theorem st0 : EqB (sealTo (rounds testKey) testBlock 0) (lit [0, 16, 32, 48, 64, 80, 96, 112, 128, 144, 160, 176, 192, 208, 224, 240]) := (EqB.xor (EqB.refl testBlock) ((rd_rounds testKey 0).trans key0)).trans (of_eqB (by decide +kernel))
theorem st1 : EqB (sealTo (rounds testKey) testBlock 1) (lit [137, 216, 16, 232, 133, 90, 206, 104, 45, 24, 67, 216, 203, 18, 143, 228]) := seal_step (e := [99, 202, 183, 4, 9, 83, 208, 81, 205, 96, 224, 231, 186, 112, 225, 140]) st0 ((rd_rounds testKey 1).trans key1) (by decide +kernel) (by decide +kernel)
theorem st2 : EqB (sealTo (rounds testKey) testBlock 2) (lit [73, 21, 89, 143, 85, 229, 215, 160, 218, 202, 148, 250, 31, 10, 99, 247]) := seal_step (e := [167, 97, 202, 155, 151, 190, 139, 69, 216, 173, 26, 97, 31, 201, 115, 105]) st1 ((rd_rounds testKey 2).trans key2) (by decide +kernel) (by decide +kernel)
theorem st3 : EqB (sealTo (rounds testKey) testBlock 3) (lit [250, 99, 106, 40, 37, 179, 57, 201, 64, 102, 138, 49, 87, 36, 77, 23]) := seal_step (e := [59, 89, 203, 115, 252, 217, 14, 224, 87, 116, 34, 45, 192, 103, 251, 104]) st2 ((rd_rounds testKey 3).trans key3) (by decide +kernel) (by decide +kernel)
theorem st4 : EqB (sealTo (rounds testKey) testBlock 4) (lit [36, 114, 64, 35, 105, 102, 179, 250, 110, 210, 117, 50, 136, 66, 91, 108]) := seal_step (e := [45, 251, 2, 52, 63, 109, 18, 221, 9, 51, 126, 199, 91, 54, 227, 240]) st3 ((rd_rounds testKey 4).trans key4) (by decide +kernel) (by decide +kernel)
theorem st5 : EqB (sealTo (rounds testKey) testBlock 5) (lit [200, 22, 119, 188, 155, 122, 201, 59, 37, 2, 121, 146, 176, 38, 25, 150]) := seal_step (e := [54, 64, 9, 38, 249, 51, 109, 45, 159, 181, 157, 35, 196, 44, 57, 80]) st4 ((rd_rounds testKey 5).trans key5) (by decide +kernel) (by decide +kernel)
theorem st6 : EqB (sealTo (rounds testKey) testBlock 6) (lit [198, 47, 225, 9, 247, 94, 237, 195, 204, 121, 57, 93, 132, 249, 207, 93]) := seal_step (e := [232, 71, 245, 101, 20, 218, 221, 226, 63, 119, 182, 79, 231, 247, 212, 144]) st5 ((rd_rounds testKey 6).trans key6) (by decide +kernel) (by decide +kernel)
theorem st7 : EqB (sealTo (rounds testKey) testBlock 7) (lit [209, 135, 108, 15, 121, 196, 48, 10, 180, 85, 148, 173, 214, 111, 244, 31]) := seal_step (e := [180, 21, 248, 1, 104, 88, 85, 46, 75, 182, 18, 76, 95, 153, 138, 76]) st6 ((rd_rounds testKey 7).trans key7) (by decide +kernel) (by decide +kernel)
theorem st8 : EqB (sealTo (rounds testKey) testBlock 8) (lit [253, 227, 186, 210, 5, 229, 208, 215, 53, 71, 150, 78, 241, 254, 55, 241]) := seal_step (e := [62, 23, 80, 118, 182, 28, 4, 103, 141, 252, 34, 149, 246, 168, 191, 192]) st7 ((rd_rounds testKey 8).trans key8) (by decide +kernel) (by decide +kernel)
theorem st9 : EqB (sealTo (rounds testKey) testBlock 9) (lit [189, 110, 124, 61, 242, 181, 119, 158, 11, 97, 33, 110, 139, 16, 182, 137]) := seal_step (e := [84, 17, 244, 181, 107, 217, 112, 14, 150, 160, 144, 47, 161, 187, 154, 161]) st8 ((rd_rounds testKey 9).trans key9) (by decide +kernel) (by decide +kernel)
theorem test_seal : EqB (sealB (rounds testKey) testBlock) (lit [105, 196, 224, 216, 106, 123, 4, 48, 216, 205, 183, 128, 112, 180, 197, 90]) := seal_last (e := [122, 159, 16, 39, 137, 213, 245, 11, 43, 239, 253, 159, 61, 202, 78, 167]) st9 ((rd_rounds testKey 10).trans key10) (by decide +kernel) (by decide +kernel)
end Go.Proofs.YtgaecjhghpkcoaaGreat.Ci
end

section
namespace Go.Proofs.YtgaecjhghpkcoaaGreat.Ci
open Gf

def zeroB : Nat → UInt8 := fun _ => 0
def oneB : Nat → UInt8 := fun i => if i = 15 then 1 else 0
theorem zkey0 : EqB (expand zeroB 0) (lit [0, 0, 0, 0, 0, 0, 0, 0, 0, 0, 0, 0, 0, 0, 0, 0]) := of_eqB (by decide +kernel)
theorem zkey1 : EqB (expand zeroB 1) (lit [98, 99, 99, 99, 98, 99, 99, 99, 98, 99, 99, 99, 98, 99, 99, 99]) := expand_step 1 (by decide +kernel) zkey0 (by decide +kernel)
theorem zkey2 : EqB (expand zeroB 2) (lit [155, 152, 152, 201, 249, 251, 251, 170, 155, 152, 152, 201, 249, 251, 251, 170]) := expand_step 2 (by decide +kernel) zkey1 (by decide +kernel)
theorem zkey3 : EqB (expand zeroB 3) (lit [144, 151, 52, 80, 105, 108, 207, 250, 242, 244, 87, 51, 11, 15, 172, 153]) := expand_step 4 (by decide +kernel) zkey2 (by decide +kernel)
theorem zkey4 : EqB (expand zeroB 4) (lit [238, 6, 218, 123, 135, 106, 21, 129, 117, 158, 66, 178, 126, 145, 238, 43]) := expand_step 8 (by decide +kernel) zkey3 (by decide +kernel)
theorem zkey5 : EqB (expand zeroB 5) (lit [127, 46, 43, 136, 248, 68, 62, 9, 141, 218, 124, 187, 243, 75, 146, 144]) := expand_step 16 (by decide +kernel) zkey4 (by decide +kernel)
theorem zkey6 : EqB (expand zeroB 6) (lit [236, 97, 75, 133, 20, 37, 117, 140, 153, 255, 9, 55, 106, 180, 155, 167]) := expand_step 32 (by decide +kernel) zkey5 (by decide +kernel)
theorem zkey7 : EqB (expand zeroB 7) (lit [33, 117, 23, 135, 53, 80, 98, 11, 172, 175, 107, 60, 198, 27, 240, 155]) := expand_step 64 (by decide +kernel) zkey6 (by decide +kernel)
theorem zkey8 : EqB (expand zeroB 8) (lit [14, 249, 3, 51, 59, 169, 97, 56, 151, 6, 10, 4, 81, 29, 250, 159]) := expand_step 128 (by decide +kernel) zkey7 (by decide +kernel)
theorem zkey9 : EqB (expand zeroB 9) (lit [177, 212, 216, 226, 138, 125, 185, 218, 29, 123, 179, 222, 76, 102, 73, 65]) := expand_step 27 (by decide +kernel) zkey8 (by decide +kernel)
theorem zkey10 : EqB (expand zeroB 10) (lit [180, 239, 91, 203, 62, 146, 226, 17, 35, 233, 81, 207, 111, 143, 24, 142]) := expand_step 54 (by decide +kernel) zkey9 (by decide +kernel)
theorem zst0 : EqB (sealTo (rounds zeroB) zeroB 0) (lit [0, 0, 0, 0, 0, 0, 0, 0, 0, 0, 0, 0, 0, 0, 0, 0]) := (EqB.xor (EqB.refl zeroB) ((rd_rounds zeroB 0).trans zkey0)).trans (of_eqB (by decide +kernel))
theorem zst1 : EqB (sealTo (rounds zeroB) zeroB 1) (lit [1, 0, 0, 0, 1, 0, 0, 0, 1, 0, 0, 0, 1, 0, 0, 0]) := seal_step (e := [99, 99, 99, 99, 99, 99, 99, 99, 99, 99, 99, 99, 99, 99, 99, 99]) zst0 ((rd_rounds zeroB 1).trans zkey1) (by decide +kernel) (by decide +kernel)
theorem zst2 : EqB (sealTo (rounds zeroB) zeroB 2) (lit [198, 228, 228, 139, 164, 135, 135, 232, 198, 228, 228, 139, 164, 135, 135, 232]) := seal_step (e := [124, 99, 99, 99, 124, 99, 99, 99, 124, 99, 99, 99, 124, 99, 99, 99]) zst1 ((rd_rounds zeroB 2).trans zkey2) (by decide +kernel) (by decide +kernel)
theorem zst3 : EqB (sealTo (rounds zeroB) zeroB 3) (lit [40, 45, 243, 196, 106, 243, 134, 37, 74, 78, 144, 167, 8, 144, 229, 70]) := seal_step (e := [180, 105, 105, 61, 73, 23, 23, 155, 180, 105, 105, 61, 73, 23, 23, 155]) zst2 ((rd_rounds zeroB 3).trans zkey3) (by decide +kernel) (by decide +kernel)
theorem zst4 : EqB (sealTo (rounds zeroB) zeroB 4) (lit [171, 210, 205, 254, 55, 90, 181, 73, 80, 160, 175, 192, 117, 154, 106, 95]) := seal_step (e := [52, 216, 13, 28, 2, 13, 68, 63, 214, 47, 96, 92, 48, 96, 217, 90]) zst3 ((rd_rounds zeroB 4).trans zkey4) (by decide +kernel) (by decide +kernel)
theorem zst5 : EqB (sealTo (rounds zeroB) zeroB 5) (lit [212, 111, 79, 108, 85, 184, 150, 51, 126, 5, 187, 61, 121, 121, 222, 35]) := seal_step (e := [98, 181, 189, 187, 154, 190, 213, 59, 83, 224, 121, 186, 157, 184, 2, 207]) zst4 ((rd_rounds zeroB 5).trans zkey5) (by decide +kernel) (by decide +kernel)
theorem zst6 : EqB (sealTo (rounds zeroB) zeroB 6) (lit [4, 242, 202, 151, 7, 120, 40, 69, 226, 47, 1, 150, 73, 197, 215, 16]) := seal_step (e := [72, 168, 132, 80, 252, 108, 144, 195, 243, 107, 234, 39, 182, 182, 29, 38]) zst5 ((rd_rounds zeroB 6).trans zkey6) (by decide +kernel) (by decide +kernel)
theorem zst7 : EqB (sealTo (rounds zeroB) zeroB 7) (lit [183, 170, 228, 197, 29, 37, 45, 79, 108, 146, 15, 129, 148, 229, 129, 80]) := seal_step (e := [242, 137, 116, 136, 197, 188, 52, 110, 152, 21, 124, 144, 59, 166, 14, 202]) zst6 ((rd_rounds zeroB 7).trans zkey7) (by decide +kernel) (by decide +kernel)
theorem zst8 : EqB (sealTo (rounds zeroB) zeroB 8) (lit [35, 231, 140, 60, 19, 33, 99, 219, 170, 192, 198, 87, 46, 3, 203, 149]) := seal_step (e := [169, 172, 105, 166, 164, 63, 216, 132, 80, 79, 118, 12, 34, 217, 12, 83]) zst7 ((rd_rounds zeroB 8).trans zkey8) (by decide +kernel) (by decide +kernel)
theorem zst9 : EqB (sealTo (rounds zeroB) zeroB 9) (lit [127, 254, 14, 149, 81, 165, 102, 53, 14, 52, 124, 71, 41, 41, 236, 203]) := seal_step (e := [38, 148, 100, 235, 125, 253, 251, 185, 172, 186, 180, 91, 49, 123, 31, 42]) zst8 ((rd_rounds zeroB 9).trans zkey9) (by decide +kernel) (by decide +kernel)
theorem zsealed : EqB (sealB (rounds zeroB) zeroB) (lit [102, 233, 75, 212, 239, 138, 44, 59, 136, 76, 250, 89, 202, 52, 43, 46]) := seal_last (e := [210, 187, 171, 42, 209, 6, 51, 150, 171, 24, 16, 160, 165, 165, 206, 31]) zst9 ((rd_rounds zeroB 10).trans zkey10) (by decide +kernel) (by decide +kernel)
theorem ost0 : EqB (sealTo (rounds zeroB) oneB 0) (lit [0, 0, 0, 0, 0, 0, 0, 0, 0, 0, 0, 0, 0, 0, 0, 1]) := (EqB.xor (EqB.refl oneB) ((rd_rounds zeroB 0).trans zkey0)).trans (of_eqB (by decide +kernel))
theorem ost1 : EqB (sealTo (rounds zeroB) oneB 1) (lit [30, 31, 33, 62, 1, 0, 0, 0, 1, 0, 0, 0, 1, 0, 0, 0]) := seal_step (e := [99, 99, 99, 99, 99, 99, 99, 99, 99, 99, 99, 99, 99, 99, 99, 124]) ost0 ((rd_rounds zeroB 1).trans zkey1) (by decide +kernel) (by decide +kernel)
theorem ost2 : EqB (sealTo (rounds zeroB) oneB 2) (lit [218, 234, 234, 153, 117, 86, 239, 81, 88, 93, 195, 21, 90, 218, 36, 75]) := seal_step (e := [114, 192, 253, 178, 124, 99, 99, 99, 124, 99, 99, 99, 124, 99, 99, 99]) ost1 ((rd_rounds zeroB 2).trans zkey2) (by decide +kernel) (by decide +kernel)
theorem ost3 : EqB (sealTo (rounds zeroB) oneB 3) (lit [107, 120, 64, 75, 68, 221, 91, 251, 137, 115, 23, 228, 120, 135, 219, 170]) := seal_step (e := [87, 135, 135, 238, 157, 177, 223, 209, 106, 76, 46, 89, 190, 87, 54, 179]) ost2 ((rd_rounds zeroB 3).trans zkey3) (by decide +kernel) (by decide +kernel)
theorem ost4 : EqB (sealTo (rounds zeroB) oneB 4) (lit [20, 71, 112, 136, 49, 23, 38, 231, 31, 3, 241, 64, 146, 108, 39, 163]) := seal_step (e := [127, 188, 9, 179, 27, 193, 57, 15, 167, 143, 240, 105, 188, 23, 185, 172]) ost3 ((rd_rounds zeroB 4).trans zkey4) (by decide +kernel) (by decide +kernel)
theorem ost5 : EqB (sealTo (rounds zeroB) oneB 5) (lit [48, 221, 102, 216, 232, 254, 86, 127, 35, 221, 233, 210, 104, 84, 147, 4]) := seal_step (e := [250, 160, 81, 196, 199, 240, 247, 148, 192, 123, 161, 9, 79, 80, 204, 10]) ost4 ((rd_rounds zeroB 5).trans zkey5) (by decide +kernel) (by decide +kernel)
theorem ost6 : EqB (sealTo (rounds zeroB) oneB 6) (lit [222, 216, 197, 211, 220, 57, 47, 229, 84, 30, 4, 241, 188, 21, 162, 105]) := seal_step (e := [4, 193, 51, 97, 155, 187, 177, 210, 38, 193, 30, 181, 69, 32, 220, 242]) ost5 ((rd_rounds zeroB 6).trans zkey6) (by decide +kernel) (by decide +kernel)
theorem ost7 : EqB (sealTo (rounds zeroB) oneB 7) (lit [38, 184, 247, 169, 232, 26, 72, 30, 120, 21, 53, 10, 27, 34, 38, 25]) := seal_step (e := [29, 97, 166, 102, 134, 18, 21, 217, 32, 114, 242, 161, 101, 89, 58, 249]) ost6 ((rd_rounds zeroB 7).trans zkey7) (by decide +kernel) (by decide +kernel)
theorem ost8 : EqB (sealTo (rounds zeroB) oneB 8) (lit [68, 36, 6, 182, 217, 81, 56, 157, 64, 77, 99, 196, 149, 251, 52, 133]) := seal_step (e := [247, 108, 104, 211, 155, 162, 82, 114, 188, 89, 150, 103, 175, 147, 247, 212]) ost7 ((rd_rounds zeroB 8).trans zkey8) (by decide +kernel) (by decide +kernel)
theorem ost9 : EqB (sealTo (rounds zeroB) oneB 9) (lit [131, 247, 93, 208, 136, 243, 141, 226, 47, 131, 137, 25, 89, 53, 127, 54]) := seal_step (e := [27, 54, 111, 78, 53, 209, 7, 94, 9, 227, 251, 28, 42, 15, 24, 151]) ost8 ((rd_rounds zeroB 9).trans zkey9) (by decide +kernel) (by decide +kernel)
theorem osealed : EqB (sealB (rounds zeroB) oneB) (lit [88, 226, 252, 206, 250, 126, 48, 97, 54, 127, 29, 87, 164, 231, 69, 90]) := seal_last (e := [236, 104, 76, 112, 196, 13, 93, 152, 21, 236, 167, 212, 203, 150, 210, 5]) ost9 ((rd_rounds zeroB 10).trans zkey10) (by decide +kernel) (by decide +kernel)
end Go.Proofs.YtgaecjhghpkcoaaGreat.Ci
end

section
namespace Go.Proofs.YtgaecjhghpkcoaaGreat
open Go.RowKit
attribute [local go_sem] B_xor B_or B_and
attribute [local go_sem] blk_set blk_size blk_get blk_getE upd_same oneCells_blk paste_blk cut_blk szOf
attribute [local go_sem high] paste_all cut_head
attribute [local go_sem] rowAt_alloc rowAt_drew rowAt_drewN isRow_alloc isRow_drew isRow_drewN freeRow_alloc freeRow_end freeRow_drew freeRow_drewN
attribute [local go_sem] setRow_alloc setRow_drew setRow_drewN setCell_drewN alloc_drewN rowAt_put isRow_setRow freeRow_put
attribute [local go_sem ↓] loadS_in storeS_in indexS_in copyS_in
attribute [local go_sem] loadS_row loadS_one storeS_row storeS_one indexS_blk copyS_rows run_equalIn_blk same_refl arrayAt_row
attribute [local go_sem] cell_row frozen_row st_setCell st_blk_ne stepAt stepUpon
attribute [local go_sem high] run_eql_blk run_neq_blk

theorem testKey_B (k : Nat) (h : k < 16) : B (Ci.testKey k) = (k : Int) := by
  have : ∀ k < 16, B (Ci.testKey k) = (k : Int) := by decide
  exact this k h
theorem testBlock_B (k : Nat) (h : k < 16) : B (Ci.testBlock k) = 17 * (k : Int) := by
  have : ∀ k < 16, B (Ci.testBlock k) = 17 * (k : Int) := by decide
  exact this k h

def digits : ByteArray := { data := #[48, 49, 50, 51, 52, 53, 54, 55, 56, 57, 97, 98, 99, 100, 101, 102] }

end Go.Proofs.YtgaecjhghpkcoaaGreat
end

section
namespace Go.Proofs.YtgaecjhghpkcoaaGreat
open Go.RowKit
attribute [local go_sem] B_xor B_or B_and
attribute [local go_sem] blk_set blk_size blk_get blk_getE upd_same oneCells_blk paste_blk cut_blk szOf
attribute [local go_sem high] paste_all cut_head
attribute [local go_sem] rowAt_alloc rowAt_drew rowAt_drewN isRow_alloc isRow_drew isRow_drewN freeRow_alloc freeRow_end freeRow_drew freeRow_drewN
attribute [local go_sem] setRow_alloc setRow_drew setRow_drewN setCell_drewN alloc_drewN rowAt_put isRow_setRow freeRow_put
attribute [local go_sem ↓] loadS_in storeS_in indexS_in copyS_in
attribute [local go_sem] loadS_row loadS_one storeS_row storeS_one indexS_blk copyS_rows run_equalIn_blk same_refl arrayAt_row
attribute [local go_sem] cell_row frozen_row st_setCell st_blk_ne stepAt stepUpon
attribute [local go_sem high] run_eql_blk run_neq_blk


theorem xorB_self (b : Nat → UInt8) : Ci.xorB b b = fun _ => 0 := by funext i; exact UInt8.xor_self
theorem turn4 (b : Nat → UInt8) : Ci.EqB (Ci.turn (Ci.turn (Ci.turn (Ci.turn b)))) b := fun i hi => by
  have : ∀ i < 16, Ci.turnAt (Ci.turnAt (Ci.turnAt (Ci.turnAt i))) = i := by decide
  unfold Ci.turn
  rw [this i hi]
theorem turn_xor (a b : Nat → UInt8) : Ci.turn (Ci.xorB a b) = Ci.xorB (Ci.turn a) (Ci.turn b) := rfl

theorem sealed_same (r a b : Nat → UInt8) : same 16 (Ci.sealB r a) (Ci.sealB r b) = same 16 a b := by
  rw [Bool.eq_iff_iff, same_iff, same_iff]
  exact ⟨fun h => Ci.seal_inj h, fun h => Ci.seal_congr h⟩
end Go.Proofs.YtgaecjhghpkcoaaGreat
end

section
namespace Go.Proofs.YtgaecjhghpkcoaaGreat
open Go.RowKit
attribute [local go_sem] B_xor B_or B_and
attribute [local go_sem] blk_set blk_size blk_get blk_getE upd_same oneCells_blk paste_blk cut_blk szOf
attribute [local go_sem high] paste_all cut_head
attribute [local go_sem] rowAt_alloc rowAt_drew rowAt_drewN isRow_alloc isRow_drew isRow_drewN freeRow_alloc freeRow_end freeRow_drew freeRow_drewN
attribute [local go_sem] setRow_alloc setRow_drew setRow_drewN setCell_drewN alloc_drewN rowAt_put isRow_setRow freeRow_put
attribute [local go_sem ↓] loadS_in storeS_in indexS_in copyS_in
attribute [local go_sem] loadS_row loadS_one storeS_row storeS_one indexS_blk copyS_rows run_equalIn_blk same_refl arrayAt_row
attribute [local go_sem] cell_row frozen_row st_setCell st_blk_ne stepAt stepUpon
attribute [local go_sem high] run_eql_blk run_neq_blk

/-! ### each round tells the one ahead of it -/
theorem next_inj {b c : Nat → UInt8} {m : UInt8} (h : Ci.EqB (Ci.next b m) (Ci.next c m)) : Ci.EqB b c := by
  have hn : ∀ (b : Nat → UInt8) (n i : Nat), i < 4 → n < 3 → Ci.next b m (4 * (n + 1) + i) = b (4 * (n + 1) + i) ^^^ Ci.next b m (4 * n + i) := fun b n i hi hn => by
    unfold Ci.next
    rw [show (4 * (n + 1) + i) / 4 = n + 1 by omega, show (4 * (n + 1) + i) % 4 = i by omega, show (4 * n + i) / 4 = n by omega, show (4 * n + i) % 4 = i by omega]
    rfl
  have h0 : ∀ (b : Nat → UInt8) (i : Nat), i < 4 → Ci.next b m i = b i ^^^ Ci.first b m i := fun b i hi => by
    unfold Ci.next
    rw [show i / 4 = 0 by omega, show i % 4 = i by omega]
    rfl
  have hup : ∀ i, 4 ≤ i → i < 16 → b i = c i := fun i h1 h2 => by
    have e1 := hn b (i / 4 - 1) (i % 4) (by omega) (by omega)
    have e2 := hn c (i / 4 - 1) (i % 4) (by omega) (by omega)
    rw [show 4 * (i / 4 - 1 + 1) + i % 4 = i by omega] at e1 e2
    rw [h i h2, h (4 * (i / 4 - 1) + i % 4) (by omega), e2] at e1
    have := congrArg (· ^^^ Ci.next c m (4 * (i / 4 - 1) + i % 4)) e1
    simp only [Ci.xor_cancel] at this
    exact this.symm
  intro i hi
  by_cases h4 : 4 ≤ i
  · exact hup i h4 hi
  · have e1 := h0 b i (by omega)
    have e2 := h0 c i (by omega)
    rw [h i hi, e2] at e1
    have hf : Ci.first b m i = Ci.first c m i := by
      unfold Ci.first
      rcases Ci.four_cases (show i < 4 by omega) with rfl | rfl | rfl | rfl <;> simp only [hup 12 (by decide) (by decide), hup 13 (by decide) (by decide), hup 14 (by decide) (by decide), hup 15 (by decide) (by decide)]
    rw [hf] at e1
    have := congrArg (· ^^^ Ci.first c m i) e1
    simp only [Ci.xor_cancel] at this
    exact this.symm
theorem first_congr {b c : Nat → UInt8} (m : UInt8) (h : Ci.EqB b c) (i : Nat) : Ci.first b m i = Ci.first c m i := by
  unfold Ci.first
  rw [h 12 (by decide), h 13 (by decide), h 14 (by decide), h 15 (by decide)]
theorem next_congr {b c : Nat → UInt8} (m : UInt8) (h : Ci.EqB b c) : Ci.EqB (Ci.next b m) (Ci.next c m) := fun j hj => by
  have : ∀ n i, i < 4 → n < 4 → Ci.nextAt b (Ci.first b m) n i = Ci.nextAt c (Ci.first c m) n i := fun n => by
    induction n with
    | zero => intro i hi _; show b i ^^^ _ = c i ^^^ _; rw [h i (by omega), first_congr m h]
    | succ n ih => intro i hi hn; show b _ ^^^ _ = c _ ^^^ _; rw [h _ (by omega), ih i hi (by omega)]
  exact this _ _ (Nat.mod_lt _ (by decide)) (by omega)
theorem expand_same (a b : Nat → UInt8) (n : Nat) : same 16 (Ci.expand a n) (Ci.expand b n) = same 16 a b := by
  rw [Bool.eq_iff_iff, same_iff, same_iff]
  induction n with
  | zero => exact Iff.rfl
  | succ n ih => exact ⟨fun h => ih.1 (next_inj h), fun h => next_congr _ (ih.2 h)⟩
theorem rd_rounds (a : Nat → UInt8) (n : Nat) : Ci.EqB (Ci.rd (Ci.rounds a) n) (Ci.expand a n) := fun i hi => by
  unfold Ci.rd Ci.rounds
  rw [show (16 * n + i) / 16 = n by omega, show (16 * n + i) % 16 = i by omega]
theorem rd_same (a b : Nat → UInt8) (n : Nat) : same 16 (Ci.rd (Ci.rounds a) n) (Ci.rd (Ci.rounds b) n) = same 16 a b := by
  rw [← expand_same a b n, Bool.eq_iff_iff, same_iff, same_iff]
  exact ⟨fun h => ((show Ci.EqB _ _ from (rd_rounds a n)).symm.trans h).trans (rd_rounds b n), fun h => ((rd_rounds a n).trans h).trans (Ci.EqB.symm (rd_rounds b n))⟩
theorem rounds_same (a b : Nat → UInt8) : same 176 (Ci.rounds a) (Ci.rounds b) = same 16 a b := by
  rw [Bool.eq_iff_iff]
  constructor
  · intro h
    rw [← rd_same a b 0, same_iff]
    exact fun i hi => (same_iff _ _ _).1 h _ (by omega)
  · intro h
    rw [same_iff]
    intro j hj
    have h1 := rd_same a b (j / 16)
    rw [h] at h1
    have h2 := (same_iff _ _ _).1 h1 (j % 16) (by omega)
    unfold Ci.rd at h2
    rwa [Nat.div_add_mod] at h2
theorem rounds_key (a : Nat → UInt8) : same 16 (Ci.rd (Ci.rounds a) 0) a = true := (same_iff _ _ _).2 (rd_rounds a 0)

end Go.Proofs.YtgaecjhghpkcoaaGreat
end

section
namespace Go.Proofs.YtgaecjhghpkcoaaGreat
open Go.RowKit
attribute [local go_sem] B_xor B_or B_and
attribute [local go_sem] blk_set blk_size blk_get blk_getE upd_same oneCells_blk paste_blk cut_blk szOf
attribute [local go_sem high] paste_all cut_head
attribute [local go_sem] rowAt_alloc rowAt_drew rowAt_drewN isRow_alloc isRow_drew isRow_drewN freeRow_alloc freeRow_end freeRow_drew freeRow_drewN
attribute [local go_sem] setRow_alloc setRow_drew setRow_drewN setCell_drewN alloc_drewN rowAt_put isRow_setRow freeRow_put
attribute [local go_sem ↓] loadS_in storeS_in indexS_in copyS_in
attribute [local go_sem] loadS_row loadS_one storeS_row storeS_one indexS_blk copyS_rows run_equalIn_blk same_refl arrayAt_row
attribute [local go_sem] cell_row frozen_row st_setCell st_blk_ne stepAt stepUpon
attribute [local go_sem high] run_eql_blk run_neq_blk

/-! ### word by word -/
/-- word n of the rounds, byte i -/
def wd (key : Nat → UInt8) (n i : Nat) : UInt8 := Ci.rounds key (4 * n + i)
/-- what is put to word n -/
def put (key : Nat → UInt8) (n : Nat) : Nat → UInt8 := if n % 4 = 0 then Ci.first (Ci.expand key (n / 4 - 1)) (Ci.mark (n / 4 - 1)) else fun i => wd key (n - 1) i
theorem wd_at (key : Nat → UInt8) (n i : Nat) (hi : i < 4) : wd key n i = Ci.expand key (n / 4) (4 * (n % 4) + i) := by
  unfold wd Ci.rounds
  rw [show (4 * n + i) / 16 = n / 4 by omega, show (4 * n + i) % 16 = 4 * (n % 4) + i by omega]
theorem wd_key (key : Nat → UInt8) (n i : Nat) (hn : n < 4) (hi : i < 4) : wd key n i = key (4 * n + i) := by
  rw [wd_at key n i hi, show n / 4 = 0 by omega, show n % 4 = n by omega]; rfl
theorem wd_next (key : Nat → UInt8) (n i : Nat) (hn : 4 ≤ n) (hi : i < 4) : wd key n i = wd key (n - 4) i ^^^ put key n i := by
  obtain ⟨m, hm⟩ : ∃ m, n / 4 = m + 1 := ⟨n / 4 - 1, by omega⟩
  rw [wd_at key n i hi, wd_at key (n - 4) i hi, hm, show (n - 4) / 4 = m by omega, show (n - 4) % 4 = n % 4 by omega]
  unfold put
  rw [hm, show m + 1 - 1 = m by omega]
  show Ci.next (Ci.expand key m) (Ci.mark m) (4 * (n % 4) + i) = _
  unfold Ci.next
  rw [show (4 * (n % 4) + i) / 4 = n % 4 by omega, show (4 * (n % 4) + i) % 4 = i by omega]
  by_cases h0 : n % 4 = 0
  · rw [if_pos h0, h0]
    show Ci.expand key m i ^^^ _ = Ci.expand key m (4 * 0 + i) ^^^ _
    rw [show 4 * 0 + i = i by omega]
  · rw [if_neg h0, wd_at key (n - 1) i hi]
    obtain ⟨k, hk⟩ : ∃ k, n % 4 = k + 1 := ⟨n % 4 - 1, by omega⟩
    rw [hk, show (n - 1) / 4 = m + 1 by omega, show (n - 1) % 4 = k by omega]
    show Ci.expand key m (4 * (k + 1) + i) ^^^ Ci.nextAt _ _ k i = _
    congr 1
    show _ = Ci.next (Ci.expand key m) (Ci.mark m) (4 * k + i)
    unfold Ci.next
    rw [show (4 * k + i) / 4 = k by omega, show (4 * k + i) % 4 = i by omega]
theorem put_first (key : Nat → UInt8) (n : Nat) (h : n % 4 = 0) (hn : 4 ≤ n) (c : UInt8) (hc : c = Ci.mark (n / 4 - 1)) : blk 4 (upd (upd (upd (upd (fun _ => 0) 0 (Gf.box (wd key (n - 1) 1) ^^^ c)) 1 (Gf.box (wd key (n - 1) 2))) 2 (Gf.box (wd key (n - 1) 3))) 3 (Gf.box (wd key (n - 1) 0))) = blk 4 (put key n) := blk_congr fun i hi => by
  subst hc
  unfold put
  rw [if_pos h]
  have e : ∀ j, j < 4 → wd key (n - 1) j = Ci.expand key (n / 4 - 1) (12 + j) := fun j hj => by
    rw [wd_at key (n - 1) j hj, show (n - 1) / 4 = n / 4 - 1 by omega, show (n - 1) % 4 = 3 by omega]
  rw [e 0 (by decide), e 1 (by decide), e 2 (by decide), e 3 (by decide)]
  rcases Ci.four_cases hi with rfl | rfl | rfl | rfl <;> rfl
theorem put_other (key : Nat → UInt8) (n : Nat) (h : n % 4 ≠ 0) : blk 4 (fun i => wd key (n - 1) i) = blk 4 (put key n) := by unfold put; rw [if_neg h]
theorem mul_two (x : UInt8) : Gf.mul 2 x = Gf.dbl x := by
  revert x; apply Gf.all256; decide +kernel
/-- the mark at the head of word n -/
def markAt (n : Nat) : UInt8 := Ci.mark ((n - 1) / 4)

theorem markAt_low (n : Nat) (h : n < 4) : markAt (n + 1) = markAt n := by
  unfold markAt; congr 1; omega
theorem markAt_same (n : Nat) (h : n % 4 ≠ 0) : markAt (n + 1) = markAt n := by
  unfold markAt; congr 1; omega
theorem markAt_next (n : Nat) (h : n % 4 = 0) (hn : 4 ≤ n) : Gf.mul 2 (markAt n) = markAt (n + 1) := by
  rw [mul_two]
  unfold markAt
  rw [show (n + 1 - 1) / 4 = (n - 1) / 4 + 1 by omega]; rfl
theorem markAt_put (n : Nat) (h : n % 4 = 0) (hn : 4 ≤ n) : markAt n = Ci.mark (n / 4 - 1) := by
  unfold markAt; congr 1; omega
/-- the words as far as they are laid -/
def laid (key : Nat → UInt8) (n i : Nat) : Nat → UInt8 := upTo (fun _ => 0) (Ci.rounds key) (at4 n i)
theorem laid_start (key : Nat → UInt8) : blk 176 (fun _ => 0) = blk 176 (laid key 0 0) := (upTo_zero _ _ _).symm
theorem laid_end (key : Nat → UInt8) : blk 176 (laid key 44 0) = blk 176 (Ci.rounds key) := upTo_all _ _ _
theorem laid_word (key : Nat → UInt8) (n : Nat) : blk 176 (cpy (laid key n 0) (n * 4) (wd key n) 0 4) = blk 176 (laid key (n + 1) 0) := blk_congr fun i hi => by
  unfold cpy laid upTo at4 wd
  by_cases h : n * 4 ≤ i ∧ i < n * 4 + 4
  · rw [if_pos h, if_pos (by omega)]; congr 1; omega
  · rw [if_neg h]
    by_cases h2 : i < 4 * n + 0
    · rw [if_pos h2, if_pos (by omega)]
    · rw [if_neg h2, if_neg (by omega)]
theorem laid_get (key : Nat → UInt8) (n : Nat) (hn : 1 ≤ n) : blk 4 (fun j => laid key n 0 ((n - 1) * 4 + j)) = blk 4 (wd key (n - 1)) := blk_congr fun i hi => by
  unfold laid upTo at4 wd
  rw [if_pos (by omega)]; congr 1; omega
theorem laid_old (key : Nat → UInt8) (n j : Nat) (hn : 4 ≤ n) : laid key n j ((n - 4) * 4 + j) = wd key (n - 4) j := by
  unfold laid upTo at4 wd
  rw [if_pos (by omega)]; congr 1; omega
theorem laid_byte (key : Nat → UInt8) (n j : Nat) : blk 176 (upd (laid key n j) (n * 4 + j) (wd key n j)) = blk 176 (laid key n (j + 1)) := blk_congr fun i hi => by
  unfold upd laid upTo at4 wd
  by_cases h : i = n * 4 + j
  · rw [if_pos h, if_pos (by omega)]; congr 1; omega
  · rw [if_neg h]
    by_cases h2 : i < 4 * n + j
    · rw [if_pos h2, if_pos (by omega)]
    · rw [if_neg h2, if_neg (by omega)]
def quo4 (n : Nat) : Nat := n / 4
def rem4 (n : Nat) : Nat := n % 4
theorem laid_byte2 (key : Nat → UInt8) (n j : Nat) : blk 176 (upd (laid key n j) (quo4 n * 16 + at4 (rem4 n) j) (Ci.rounds key (n * 4 + j))) = blk 176 (laid key n (j + 1)) := by
  have h := laid_byte key n j
  unfold wd at h
  rw [show quo4 n * 16 + at4 (rem4 n) j = n * 4 + j by unfold at4 quo4 rem4; omega, show Ci.rounds key (n * 4 + j) = Ci.rounds key (4 * n + j) by congr 1; omega]
  exact h
theorem laid_on (key : Nat → UInt8) (n : Nat) : laid key n 4 = laid key (n + 1) 0 := rfl
theorem Pur.below {P : Program} {f : FuncId} {args : Array Value} {v : Value} (h : Pur P f args v) (w : World) : Calls P f args w fun e w' => e = .returned v ∧ Below w.heap.size w w' :=
  (h w).mono fun _ _ ⟨a, n, b⟩ => ⟨a, b ▸ drewN_below w n⟩
theorem blk_lit4 (x y z t : UInt8) : #[Value.int .u8 (B x), .int .u8 (B y), .int .u8 (B z), .int .u8 (B t)] = blk 4 (upd (upd (upd (upd (fun _ => 0) 0 x) 1 y) 2 z) 3 t) := rfl
theorem key_word (key : Nat → UInt8) (n : Nat) (hn : n < 4) : blk 4 (upd (upd (upd (upd (fun _ => 0) 0 (key (at4 n 0))) 1 (key (at4 n 1))) 2 (key (at4 n 2))) 3 (key (at4 n 3))) = blk 4 (wd key n) :=
  blk_congr fun i hi => by
    rw [wd_key key n i hn hi]
    rcases Ci.four_cases hi with rfl | rfl | rfl | rfl <;> rfl

set_option maxRecDepth 100000 in
set_option maxHeartbeats 4000000 in
theorem refExpand_any (key : Nat → UInt8) (w : World) : Calls Tryz.prog 92 #[.agg (blk 16 key)] w fun e w' => e = .returned (.agg (blk 176 (Ci.rounds key))) ∧ Below w.heap.size w w' := by
  have hz : Tryz.zeroCells183 = blk 176 (fun _ => 0) := by kernel_rfl
  have hz2 : Tryz.zeroCells155 = blk 176 (fun _ => 0) := by kernel_rfl
  have hz4 := zero4
  go_enter Tryz.func92, Tryz.ntmps92
  go_wp2_with fail
  go_loopw [4, 5] (fun c i wr => ∃ n : Nat, n ≤ 44 ∧ i = .int .i64 (n : Int) ∧ c = .int .u8 (B (markAt n)) ∧ Hid (St w [(w.heap.size + 1 + 1, blk 176 (laid key n 0)), (w.heap.size + 1, blk 176 (fun _ => 0)), (w.heap.size, blk 16 key)] wr)) (fun _ i _ => 44 - (intOf i).toNat)
  case atStart =>
    refine ⟨0, by omega, rfl, rfl, Lib.hid ?_⟩
    rw [← laid_start]
    exact (((St.nil w).pushA _ _ rfl).pushA _ _ (by simp)).pushA _ _ (by simp)
  case round =>
    obtain ⟨n, hn, rfl, rfl, HR⟩ := hrel
    have hC := HR.out
    by_cases hlt : n < 44
    · have hd : ((n : Int) < 44) := by omega
      have b1 : n * 4 + 4 ≤ 176 := by omega
      by_cases h4 : n < 4
      · have hd4 : ((n : Int) < 4) := by omega
        have v0 : IntKind.i64.wrap (4 * (n : Int)) = (at4 n 0 : Int) := by rw [IntWalk.i64_in _ (by omega)]; unfold at4; omega
        have v1 : IntKind.i64.wrap ((at4 n 0 : Int) + 1) = (at4 n 1 : Int) := by unfold at4; rw [IntWalk.i64_in _ (by omega)]; omega
        have v2 : IntKind.i64.wrap ((at4 n 0 : Int) + 2) = (at4 n 2 : Int) := by unfold at4; rw [IntWalk.i64_in _ (by omega)]; omega
        have v3 : IntKind.i64.wrap ((at4 n 0 : Int) + 3) = (at4 n 3 : Int) := by unfold at4; rw [IntWalk.i64_in _ (by omega)]; omega
        have c0 : at4 n 0 < 16 := by unfold at4; omega
        have c1 : at4 n 1 < 16 := by unfold at4; omega
        have c2 : at4 n 2 < 16 := by unfold at4; omega
        have c3 : at4 n 3 < 16 := by unfold at4; omega
        have d0 : (at4 n 0 : Int) < 16 := by omega
        have d1 : (at4 n 1 : Int) < 16 := by omega
        have d2 : (at4 n 2 : Int) < 16 := by omega
        have d3 : (at4 n 3 : Int) < 16 := by omega
        have hkw := key_word key n h4
        have hlw := laid_word key n
        have hm := markAt_low n h4
        go_wp2_with fail
        refine St.region_tail 22 HR.out (by kernel_rfl) (by decide +kernel) ?_
        (simp only [List.take, List.drop])
        clear hC
        (first
           | (apply head_skip rfl)
           | (apply head_step_g rfl
              focus
                intro w0 hC
                (fail))
           | (apply head_step_g rfl
              focus
                intro w0 hC
                have hC' := Lib.hid hC
                obtain ⟨⟨r1, f1, i1, b1, l1⟩, ⟨r2, f2, i2, b2, l2⟩, ⟨r3, f3, i3, b3, l3⟩, m12, m21, m13, m31, m23, m32⟩ := St.facts3 hC
                clear hC
                go_simp
                have hC := hC'.out
                (first
                   | with_reducible rfl
                   | (refine (Pur.below (refBox_pur _) _).mono ?_
                      rintro e w' ⟨rfl, hw⟩
                      exact ⟨rfl, St.call (by assumption) hw⟩)))
         try simp only [Act.put, List.setIfInBounds_toArray, List.set])
        (first
           | (apply head_skip rfl)
           | (apply head_step_g rfl
              focus
                intro w0 hC
                (fail))
           | (apply head_step_g rfl
              focus
                intro w0 hC
                have hC' := Lib.hid hC
                obtain ⟨⟨r1, f1, i1, b1, l1⟩, ⟨r2, f2, i2, b2, l2⟩, ⟨r3, f3, i3, b3, l3⟩, m12, m21, m13, m31, m23, m32⟩ := St.facts3 hC
                clear hC
                go_simp
                have hC := hC'.out
                (first
                   | with_reducible rfl
                   | (refine (Pur.below (refBox_pur _) _).mono ?_
                      rintro e w' ⟨rfl, hw⟩
                      exact ⟨rfl, St.call (by assumption) hw⟩)))
         try simp only [Act.put, List.setIfInBounds_toArray, List.set])
        (first
           | (apply head_skip rfl)
           | (apply head_step_g rfl
              focus
                intro w0 hC
                (fail))
           | (apply head_step_g rfl
              focus
                intro w0 hC
                have hC' := Lib.hid hC
                obtain ⟨⟨r1, f1, i1, b1, l1⟩, ⟨r2, f2, i2, b2, l2⟩, ⟨r3, f3, i3, b3, l3⟩, m12, m21, m13, m31, m23, m32⟩ := St.facts3 hC
                clear hC
                go_simp
                have hC := hC'.out
                (first
                   | with_reducible rfl
                   | (refine (Pur.below (refBox_pur _) _).mono ?_
                      rintro e w' ⟨rfl, hw⟩
                      exact ⟨rfl, St.call (by assumption) hw⟩)))
         try simp only [Act.put, List.setIfInBounds_toArray, List.set])
        (first
           | (apply head_skip rfl)
           | (apply head_step_g rfl
              focus
                intro w0 hC
                (fail))
           | (apply head_step_g rfl
              focus
                intro w0 hC
                have hC' := Lib.hid hC
                obtain ⟨⟨r1, f1, i1, b1, l1⟩, ⟨r2, f2, i2, b2, l2⟩, ⟨r3, f3, i3, b3, l3⟩, m12, m21, m13, m31, m23, m32⟩ := St.facts3 hC
                clear hC
                go_simp
                have hC := hC'.out
                (first
                   | with_reducible rfl
                   | (refine (Pur.below (refBox_pur _) _).mono ?_
                      rintro e w' ⟨rfl, hw⟩
                      exact ⟨rfl, St.call (by assumption) hw⟩)))
         try simp only [Act.put, List.setIfInBounds_toArray, List.set])
        (first
           | (apply head_skip rfl)
           | (apply head_step_g rfl
              focus
                intro w0 hC
                (fail))
           | (apply head_step_g rfl
              focus
                intro w0 hC
                have hC' := Lib.hid hC
                obtain ⟨⟨r1, f1, i1, b1, l1⟩, ⟨r2, f2, i2, b2, l2⟩, ⟨r3, f3, i3, b3, l3⟩, m12, m21, m13, m31, m23, m32⟩ := St.facts3 hC
                clear hC
                go_simp
                have hC := hC'.out
                (first
                   | with_reducible rfl
                   | (refine (Pur.below (refBox_pur _) _).mono ?_
                      rintro e w' ⟨rfl, hw⟩
                      exact ⟨rfl, St.call (by assumption) hw⟩)))
         try simp only [Act.put, List.setIfInBounds_toArray, List.set])
        (first
           | (apply head_skip rfl)
           | (apply head_step_g rfl
              focus
                intro w0 hC
                (fail))
           | (apply head_step_g rfl
              focus
                intro w0 hC
                have hC' := Lib.hid hC
                obtain ⟨⟨r1, f1, i1, b1, l1⟩, ⟨r2, f2, i2, b2, l2⟩, ⟨r3, f3, i3, b3, l3⟩, m12, m21, m13, m31, m23, m32⟩ := St.facts3 hC
                clear hC
                go_simp
                have hC := hC'.out
                (first
                   | with_reducible rfl
                   | (refine (Pur.below (refBox_pur _) _).mono ?_
                      rintro e w' ⟨rfl, hw⟩
                      exact ⟨rfl, St.call (by assumption) hw⟩)))
         try simp only [Act.put, List.setIfInBounds_toArray, List.set])
        (first
           | (apply head_skip rfl)
           | (apply head_step_g rfl
              focus
                intro w0 hC
                (fail))
           | (apply head_step_g rfl
              focus
                intro w0 hC
                have hC' := Lib.hid hC
                obtain ⟨⟨r1, f1, i1, b1, l1⟩, ⟨r2, f2, i2, b2, l2⟩, ⟨r3, f3, i3, b3, l3⟩, m12, m21, m13, m31, m23, m32⟩ := St.facts3 hC
                clear hC
                go_simp
                have hC := hC'.out
                (first
                   | with_reducible rfl
                   | (refine (Pur.below (refBox_pur _) _).mono ?_
                      rintro e w' ⟨rfl, hw⟩
                      exact ⟨rfl, St.call (by assumption) hw⟩)))
         try simp only [Act.put, List.setIfInBounds_toArray, List.set])
        (first
           | (apply head_skip rfl)
           | (apply head_step_g rfl
              focus
                intro w0 hC
                (fail))
           | (apply head_step_g rfl
              focus
                intro w0 hC
                have hC' := Lib.hid hC
                obtain ⟨⟨r1, f1, i1, b1, l1⟩, ⟨r2, f2, i2, b2, l2⟩, ⟨r3, f3, i3, b3, l3⟩, m12, m21, m13, m31, m23, m32⟩ := St.facts3 hC
                clear hC
                go_simp
                have hC := hC'.out
                (first
                   | with_reducible rfl
                   | (refine (Pur.below (refBox_pur _) _).mono ?_
                      rintro e w' ⟨rfl, hw⟩
                      exact ⟨rfl, St.call (by assumption) hw⟩)))
         try simp only [Act.put, List.setIfInBounds_toArray, List.set])
        (first
           | (apply head_skip rfl)
           | (apply head_step_g rfl
              focus
                intro w0 hC
                (fail))
           | (apply head_step_g rfl
              focus
                intro w0 hC
                have hC' := Lib.hid hC
                obtain ⟨⟨r1, f1, i1, b1, l1⟩, ⟨r2, f2, i2, b2, l2⟩, ⟨r3, f3, i3, b3, l3⟩, m12, m21, m13, m31, m23, m32⟩ := St.facts3 hC
                clear hC
                go_simp
                have hC := hC'.out
                (first
                   | with_reducible rfl
                   | (refine (Pur.below (refBox_pur _) _).mono ?_
                      rintro e w' ⟨rfl, hw⟩
                      exact ⟨rfl, St.call (by assumption) hw⟩)))
         try simp only [Act.put, List.setIfInBounds_toArray, List.set])
        (first
           | (apply head_skip rfl)
           | (apply head_step_g rfl
              focus
                intro w0 hC
                (fail))
           | (apply head_step_g rfl
              focus
                intro w0 hC
                have hC' := Lib.hid hC
                obtain ⟨⟨r1, f1, i1, b1, l1⟩, ⟨r2, f2, i2, b2, l2⟩, ⟨r3, f3, i3, b3, l3⟩, m12, m21, m13, m31, m23, m32⟩ := St.facts3 hC
                clear hC
                go_simp
                have hC := hC'.out
                (first
                   | with_reducible rfl
                   | (refine (Pur.below (refBox_pur _) _).mono ?_
                      rintro e w' ⟨rfl, hw⟩
                      exact ⟨rfl, St.call (by assumption) hw⟩)))
         try simp only [Act.put, List.setIfInBounds_toArray, List.set])
        (first
           | (apply head_skip rfl)
           | (apply head_step_g rfl
              focus
                intro w0 hC
                (fail))
           | (apply head_step_g rfl
              focus
                intro w0 hC
                have hC' := Lib.hid hC
                obtain ⟨⟨r1, f1, i1, b1, l1⟩, ⟨r2, f2, i2, b2, l2⟩, ⟨r3, f3, i3, b3, l3⟩, m12, m21, m13, m31, m23, m32⟩ := St.facts3 hC
                clear hC
                go_simp
                have hC := hC'.out
                (first
                   | with_reducible rfl
                   | (refine (Pur.below (refBox_pur _) _).mono ?_
                      rintro e w' ⟨rfl, hw⟩
                      exact ⟨rfl, St.call (by assumption) hw⟩)))
         try simp only [Act.put, List.setIfInBounds_toArray, List.set])
        (first
           | (apply head_skip rfl)
           | (apply head_step_g rfl
              focus
                intro w0 hC
                (fail))
           | (apply head_step_g rfl
              focus
                intro w0 hC
                have hC' := Lib.hid hC
                obtain ⟨⟨r1, f1, i1, b1, l1⟩, ⟨r2, f2, i2, b2, l2⟩, ⟨r3, f3, i3, b3, l3⟩, m12, m21, m13, m31, m23, m32⟩ := St.facts3 hC
                clear hC
                go_simp
                have hC := hC'.out
                (first
                   | with_reducible rfl
                   | (refine (Pur.below (refBox_pur _) _).mono ?_
                      rintro e w' ⟨rfl, hw⟩
                      exact ⟨rfl, St.call (by assumption) hw⟩)))
         try simp only [Act.put, List.setIfInBounds_toArray, List.set])
        (first
           | (apply head_skip rfl)
           | (apply head_step_g rfl
              focus
                intro w0 hC
                (fail))
           | (apply head_step_g rfl
              focus
                intro w0 hC
                have hC' := Lib.hid hC
                obtain ⟨⟨r1, f1, i1, b1, l1⟩, ⟨r2, f2, i2, b2, l2⟩, ⟨r3, f3, i3, b3, l3⟩, m12, m21, m13, m31, m23, m32⟩ := St.facts3 hC
                clear hC
                go_simp
                have hC := hC'.out
                (first
                   | with_reducible rfl
                   | (refine (Pur.below (refBox_pur _) _).mono ?_
                      rintro e w' ⟨rfl, hw⟩
                      exact ⟨rfl, St.call (by assumption) hw⟩)))
         try simp only [Act.put, List.setIfInBounds_toArray, List.set])
        (first
           | (apply head_skip rfl)
           | (apply head_step_g rfl
              focus
                intro w0 hC
                (fail))
           | (apply head_step_g rfl
              focus
                intro w0 hC
                have hC' := Lib.hid hC
                obtain ⟨⟨r1, f1, i1, b1, l1⟩, ⟨r2, f2, i2, b2, l2⟩, ⟨r3, f3, i3, b3, l3⟩, m12, m21, m13, m31, m23, m32⟩ := St.facts3 hC
                clear hC
                go_simp
                have hC := hC'.out
                (first
                   | with_reducible rfl
                   | (refine (Pur.below (refBox_pur _) _).mono ?_
                      rintro e w' ⟨rfl, hw⟩
                      exact ⟨rfl, St.call (by assumption) hw⟩)))
         try simp only [Act.put, List.setIfInBounds_toArray, List.set])
        (first
           | (apply head_skip rfl)
           | (apply head_step_g rfl
              focus
                intro w0 hC
                (fail))
           | (apply head_step_g rfl
              focus
                intro w0 hC
                have hC' := Lib.hid hC
                obtain ⟨⟨r1, f1, i1, b1, l1⟩, ⟨r2, f2, i2, b2, l2⟩, ⟨r3, f3, i3, b3, l3⟩, m12, m21, m13, m31, m23, m32⟩ := St.facts3 hC
                clear hC
                go_simp
                have hC := hC'.out
                (first
                   | with_reducible rfl
                   | (refine (Pur.below (refBox_pur _) _).mono ?_
                      rintro e w' ⟨rfl, hw⟩
                      exact ⟨rfl, St.call (by assumption) hw⟩)))
         try simp only [Act.put, List.setIfInBounds_toArray, List.set])
        (first
           | (apply head_skip rfl)
           | (apply head_step_g rfl
              focus
                intro w0 hC
                (fail))
           | (apply head_step_g rfl
              focus
                intro w0 hC
                have hC' := Lib.hid hC
                obtain ⟨⟨r1, f1, i1, b1, l1⟩, ⟨r2, f2, i2, b2, l2⟩, ⟨r3, f3, i3, b3, l3⟩, m12, m21, m13, m31, m23, m32⟩ := St.facts3 hC
                clear hC
                go_simp
                have hC := hC'.out
                (first
                   | with_reducible rfl
                   | (refine (Pur.below (refBox_pur _) _).mono ?_
                      rintro e w' ⟨rfl, hw⟩
                      exact ⟨rfl, St.call (by assumption) hw⟩)))
         try simp only [Act.put, List.setIfInBounds_toArray, List.set])
        (first
           | (apply head_skip rfl)
           | (apply head_step_g rfl
              focus
                intro w0 hC
                (fail))
           | (apply head_step_g rfl
              focus
                intro w0 hC
                have hC' := Lib.hid hC
                obtain ⟨⟨r1, f1, i1, b1, l1⟩, ⟨r2, f2, i2, b2, l2⟩, ⟨r3, f3, i3, b3, l3⟩, m12, m21, m13, m31, m23, m32⟩ := St.facts3 hC
                clear hC
                go_simp
                have hC := hC'.out
                (first
                   | with_reducible rfl
                   | (refine (Pur.below (refBox_pur _) _).mono ?_
                      rintro e w' ⟨rfl, hw⟩
                      exact ⟨rfl, St.call (by assumption) hw⟩)))
         try simp only [Act.put, List.setIfInBounds_toArray, List.set])
        (first
           | (apply head_skip rfl)
           | (apply head_step_g rfl
              focus
                intro w0 hC
                (fail))
           | (apply head_step_g rfl
              focus
                intro w0 hC
                have hC' := Lib.hid hC
                obtain ⟨⟨r1, f1, i1, b1, l1⟩, ⟨r2, f2, i2, b2, l2⟩, ⟨r3, f3, i3, b3, l3⟩, m12, m21, m13, m31, m23, m32⟩ := St.facts3 hC
                clear hC
                go_simp
                have hC := hC'.out
                (first
                   | with_reducible rfl
                   | (refine (Pur.below (refBox_pur _) _).mono ?_
                      rintro e w' ⟨rfl, hw⟩
                      exact ⟨rfl, St.call (by assumption) hw⟩)))
         try simp only [Act.put, List.setIfInBounds_toArray, List.set])
        (first
           | (apply head_skip rfl)
           | (apply head_step_g rfl
              focus
                intro w0 hC
                (fail))
           | (apply head_step_g rfl
              focus
                intro w0 hC
                have hC' := Lib.hid hC
                obtain ⟨⟨r1, f1, i1, b1, l1⟩, ⟨r2, f2, i2, b2, l2⟩, ⟨r3, f3, i3, b3, l3⟩, m12, m21, m13, m31, m23, m32⟩ := St.facts3 hC
                clear hC
                go_simp
                have hC := hC'.out
                (first
                   | with_reducible rfl
                   | (refine (Pur.below (refBox_pur _) _).mono ?_
                      rintro e w' ⟨rfl, hw⟩
                      exact ⟨rfl, St.call (by assumption) hw⟩)))
         try simp only [Act.put, List.setIfInBounds_toArray, List.set])
        (first
           | (apply head_skip rfl)
           | (apply head_step_g rfl
              focus
                intro w0 hC
                (fail))
           | (apply head_step_g rfl
              focus
                intro w0 hC
                have hC' := Lib.hid hC
                obtain ⟨⟨r1, f1, i1, b1, l1⟩, ⟨r2, f2, i2, b2, l2⟩, ⟨r3, f3, i3, b3, l3⟩, m12, m21, m13, m31, m23, m32⟩ := St.facts3 hC
                clear hC
                go_simp
                have hC := hC'.out
                (first
                   | with_reducible rfl
                   | (refine (Pur.below (refBox_pur _) _).mono ?_
                      rintro e w' ⟨rfl, hw⟩
                      exact ⟨rfl, St.call (by assumption) hw⟩)))
         try simp only [Act.put, List.setIfInBounds_toArray, List.set])
        (first
           | (apply head_skip rfl)
           | (apply head_step_g rfl
              focus
                intro w0 hC
                (fail))
           | (apply head_step_g rfl
              focus
                intro w0 hC
                have hC' := Lib.hid hC
                obtain ⟨⟨r1, f1, i1, b1, l1⟩, ⟨r2, f2, i2, b2, l2⟩, ⟨r3, f3, i3, b3, l3⟩, m12, m21, m13, m31, m23, m32⟩ := St.facts3 hC
                clear hC
                go_simp
                have hC := hC'.out
                (first
                   | with_reducible rfl
                   | (refine (Pur.below (refBox_pur _) _).mono ?_
                      rintro e w' ⟨rfl, hw⟩
                      exact ⟨rfl, St.call (by assumption) hw⟩)))
         try simp only [Act.put, List.setIfInBounds_toArray, List.set])
        (first
           | (apply head_skip rfl)
           | (apply head_step_g rfl
              focus
                intro w0 hC
                (fail))
           | (apply head_step_g rfl
              focus
                intro w0 hC
                have hC' := Lib.hid hC
                obtain ⟨⟨r1, f1, i1, b1, l1⟩, ⟨r2, f2, i2, b2, l2⟩, ⟨r3, f3, i3, b3, l3⟩, m12, m21, m13, m31, m23, m32⟩ := St.facts3 hC
                clear hC
                go_simp
                have hC := hC'.out
                (first
                   | with_reducible rfl
                   | (refine (Pur.below (refBox_pur _) _).mono ?_
                      rintro e w' ⟨rfl, hw⟩
                      exact ⟨rfl, St.call (by assumption) hw⟩)))
         try simp only [Act.put, List.setIfInBounds_toArray, List.set])
        refine wpQuiet_nil ?_
        intro w1 hC
        (have HC := Lib.hid hC
         have sos := hC.below.os
         obtain ⟨⟨r1, f1, i1, b1, l1⟩, ⟨r2, f2, i2, b2, l2⟩, ⟨r3, f3, i3, b3, l3⟩, m12, m21, m13, m31, m23, m32⟩ := St.facts3 hC
         clear hC)
        go_wp2_with fail
        have HC := HC.out.set_head (blk 176 (laid key (n + 1) 0))
        exact ⟨⟨n + 1, by omega, by go_num, by rw [hm], Lib.hid HC⟩, by simp [intOf]; omega⟩
      · have hd4 : ¬ ((n : Int) < 4) := by omega
        have v0 : IntKind.i64.wrap ((n : Int) - 1) = ((n - 1 : Nat) : Int) := by rw [IntWalk.i64_in _ (by omega)]; omega
        have b0 : (n - 1) * 4 + 4 ≤ 176 := by omega
        have c0 : n - 1 < 44 := by omega
        have c1 : ((n - 1 : Nat) : Int) < 44 := by omega
        have hg := laid_get key n (by omega)
        by_cases hm : n % 4 = 0
        · have ht : ((n : Int) % 4 == 0) = true := by simp; omega
          have hp := put_first key n hm (by omega) (markAt n) (markAt_put n hm (by omega))
          have hk := markAt_next n hm (by omega)
          (have HC := Lib.hid hC
           have sos := hC.below.os
           obtain ⟨⟨r1, f1, i1, b1, l1⟩, ⟨r2, f2, i2, b2, l2⟩, ⟨r3, f3, i3, b3, l3⟩, m12, m21, m13, m31, m23, m32⟩ := St.facts3 hC
           clear hC)
          go_wp2_with fail
          have HC := Lib.hid (HC.out.push (blk 4 (wd key (n - 1))) 182)
          (clear r1 f1 i1 b1 l1 r2 f2 i2 b2 l2 r3 f3 i3 b3 l3 m12 m21 m13 m31 m23 m32 sos)
          clear v0 b0 c0 c1 hg HR
          generalize wr.heap.size = g6 at HC ⊢
          refine St.region_tail 15 HC.out (by kernel_rfl) (by decide +kernel) ?_
          (simp only [List.take, List.drop])
          (first
             | (apply head_skip rfl)
             | (apply head_step_g rfl
                focus
                  intro w0 hC
                  (fail))
             | (apply head_step_g rfl
                focus
                  intro w0 hC
                  have hC' := Lib.hid hC
                  obtain ⟨⟨r1, f1, i1, b1, l1⟩, ⟨r2, f2, i2, b2, l2⟩, ⟨r3, f3, i3, b3, l3⟩, ⟨r4, f4, i4, b4, l4⟩, m12, m21, m13, m31, m14, m41, m23, m32, m24, m42, m34, m43⟩ := St.facts4 hC
                  clear hC
                  go_simp
                  have hC := hC'.out
                  (first
                     | with_reducible rfl
                     | (refine (Pur.below (refBox_pur _) _).mono ?_
                        rintro e w' ⟨rfl, hw⟩
                        exact ⟨rfl, St.call (by assumption) hw⟩)))
           try simp only [Act.put, List.setIfInBounds_toArray, List.set])
          (first
             | (apply head_skip rfl)
             | (apply head_step_g rfl
                focus
                  intro w0 hC
                  (fail))
             | (apply head_step_g rfl
                focus
                  intro w0 hC
                  have hC' := Lib.hid hC
                  obtain ⟨⟨r1, f1, i1, b1, l1⟩, ⟨r2, f2, i2, b2, l2⟩, ⟨r3, f3, i3, b3, l3⟩, ⟨r4, f4, i4, b4, l4⟩, m12, m21, m13, m31, m14, m41, m23, m32, m24, m42, m34, m43⟩ := St.facts4 hC
                  clear hC
                  go_simp
                  have hC := hC'.out
                  (first
                     | with_reducible rfl
                     | (refine (Pur.below (refBox_pur _) _).mono ?_
                        rintro e w' ⟨rfl, hw⟩
                        exact ⟨rfl, St.call (by assumption) hw⟩)))
           try simp only [Act.put, List.setIfInBounds_toArray, List.set])
          (first
             | (apply head_skip rfl)
             | (apply head_step_g rfl
                focus
                  intro w0 hC
                  (fail))
             | (apply head_step_g rfl
                focus
                  intro w0 hC
                  have hC' := Lib.hid hC
                  obtain ⟨⟨r1, f1, i1, b1, l1⟩, ⟨r2, f2, i2, b2, l2⟩, ⟨r3, f3, i3, b3, l3⟩, ⟨r4, f4, i4, b4, l4⟩, m12, m21, m13, m31, m14, m41, m23, m32, m24, m42, m34, m43⟩ := St.facts4 hC
                  clear hC
                  go_simp
                  have hC := hC'.out
                  (first
                     | with_reducible rfl
                     | (refine (Pur.below (refBox_pur _) _).mono ?_
                        rintro e w' ⟨rfl, hw⟩
                        exact ⟨rfl, St.call (by assumption) hw⟩)))
           try simp only [Act.put, List.setIfInBounds_toArray, List.set])
          (first
             | (apply head_skip rfl)
             | (apply head_step_g rfl
                focus
                  intro w0 hC
                  (fail))
             | (apply head_step_g rfl
                focus
                  intro w0 hC
                  have hC' := Lib.hid hC
                  obtain ⟨⟨r1, f1, i1, b1, l1⟩, ⟨r2, f2, i2, b2, l2⟩, ⟨r3, f3, i3, b3, l3⟩, ⟨r4, f4, i4, b4, l4⟩, m12, m21, m13, m31, m14, m41, m23, m32, m24, m42, m34, m43⟩ := St.facts4 hC
                  clear hC
                  go_simp
                  have hC := hC'.out
                  (first
                     | with_reducible rfl
                     | (refine (Pur.below (refBox_pur _) _).mono ?_
                        rintro e w' ⟨rfl, hw⟩
                        exact ⟨rfl, St.call (by assumption) hw⟩)))
           try simp only [Act.put, List.setIfInBounds_toArray, List.set])
          (first
             | (apply head_skip rfl)
             | (apply head_step_g rfl
                focus
                  intro w0 hC
                  (fail))
             | (apply head_step_g rfl
                focus
                  intro w0 hC
                  have hC' := Lib.hid hC
                  obtain ⟨⟨r1, f1, i1, b1, l1⟩, ⟨r2, f2, i2, b2, l2⟩, ⟨r3, f3, i3, b3, l3⟩, ⟨r4, f4, i4, b4, l4⟩, m12, m21, m13, m31, m14, m41, m23, m32, m24, m42, m34, m43⟩ := St.facts4 hC
                  clear hC
                  go_simp
                  have hC := hC'.out
                  (first
                     | with_reducible rfl
                     | (refine (Pur.below (refBox_pur _) _).mono ?_
                        rintro e w' ⟨rfl, hw⟩
                        exact ⟨rfl, St.call (by assumption) hw⟩)))
           try simp only [Act.put, List.setIfInBounds_toArray, List.set])
          (first
             | (apply head_skip rfl)
             | (apply head_step_g rfl
                focus
                  intro w0 hC
                  (fail))
             | (apply head_step_g rfl
                focus
                  intro w0 hC
                  have hC' := Lib.hid hC
                  obtain ⟨⟨r1, f1, i1, b1, l1⟩, ⟨r2, f2, i2, b2, l2⟩, ⟨r3, f3, i3, b3, l3⟩, ⟨r4, f4, i4, b4, l4⟩, m12, m21, m13, m31, m14, m41, m23, m32, m24, m42, m34, m43⟩ := St.facts4 hC
                  clear hC
                  go_simp
                  have hC := hC'.out
                  (first
                     | with_reducible rfl
                     | (refine (Pur.below (refBox_pur _) _).mono ?_
                        rintro e w' ⟨rfl, hw⟩
                        exact ⟨rfl, St.call (by assumption) hw⟩)))
           try simp only [Act.put, List.setIfInBounds_toArray, List.set])
          (first
             | (apply head_skip rfl)
             | (apply head_step_g rfl
                focus
                  intro w0 hC
                  (fail))
             | (apply head_step_g rfl
                focus
                  intro w0 hC
                  have hC' := Lib.hid hC
                  obtain ⟨⟨r1, f1, i1, b1, l1⟩, ⟨r2, f2, i2, b2, l2⟩, ⟨r3, f3, i3, b3, l3⟩, ⟨r4, f4, i4, b4, l4⟩, m12, m21, m13, m31, m14, m41, m23, m32, m24, m42, m34, m43⟩ := St.facts4 hC
                  clear hC
                  go_simp
                  have hC := hC'.out
                  (first
                     | with_reducible rfl
                     | (refine (Pur.below (refBox_pur _) _).mono ?_
                        rintro e w' ⟨rfl, hw⟩
                        exact ⟨rfl, St.call (by assumption) hw⟩)))
           try simp only [Act.put, List.setIfInBounds_toArray, List.set])
          (first
             | (apply head_skip rfl)
             | (apply head_step_g rfl
                focus
                  intro w0 hC
                  (fail))
             | (apply head_step_g rfl
                focus
                  intro w0 hC
                  have hC' := Lib.hid hC
                  obtain ⟨⟨r1, f1, i1, b1, l1⟩, ⟨r2, f2, i2, b2, l2⟩, ⟨r3, f3, i3, b3, l3⟩, ⟨r4, f4, i4, b4, l4⟩, m12, m21, m13, m31, m14, m41, m23, m32, m24, m42, m34, m43⟩ := St.facts4 hC
                  clear hC
                  go_simp
                  have hC := hC'.out
                  (first
                     | with_reducible rfl
                     | (refine (Pur.below (refBox_pur _) _).mono ?_
                        rintro e w' ⟨rfl, hw⟩
                        exact ⟨rfl, St.call (by assumption) hw⟩)))
           try simp only [Act.put, List.setIfInBounds_toArray, List.set])
          (first
             | (apply head_skip rfl)
             | (apply head_step_g rfl
                focus
                  intro w0 hC
                  (fail))
             | (apply head_step_g rfl
                focus
                  intro w0 hC
                  have hC' := Lib.hid hC
                  obtain ⟨⟨r1, f1, i1, b1, l1⟩, ⟨r2, f2, i2, b2, l2⟩, ⟨r3, f3, i3, b3, l3⟩, ⟨r4, f4, i4, b4, l4⟩, m12, m21, m13, m31, m14, m41, m23, m32, m24, m42, m34, m43⟩ := St.facts4 hC
                  clear hC
                  go_simp
                  have hC := hC'.out
                  (first
                     | with_reducible rfl
                     | (refine (Pur.below (refBox_pur _) _).mono ?_
                        rintro e w' ⟨rfl, hw⟩
                        exact ⟨rfl, St.call (by assumption) hw⟩)))
           try simp only [Act.put, List.setIfInBounds_toArray, List.set])
          (first
             | (apply head_skip rfl)
             | (apply head_step_g rfl
                focus
                  intro w0 hC
                  (fail))
             | (apply head_step_g rfl
                focus
                  intro w0 hC
                  have hC' := Lib.hid hC
                  obtain ⟨⟨r1, f1, i1, b1, l1⟩, ⟨r2, f2, i2, b2, l2⟩, ⟨r3, f3, i3, b3, l3⟩, ⟨r4, f4, i4, b4, l4⟩, m12, m21, m13, m31, m14, m41, m23, m32, m24, m42, m34, m43⟩ := St.facts4 hC
                  clear hC
                  go_simp
                  have hC := hC'.out
                  (first
                     | with_reducible rfl
                     | (refine (Pur.below (refBox_pur _) _).mono ?_
                        rintro e w' ⟨rfl, hw⟩
                        exact ⟨rfl, St.call (by assumption) hw⟩)))
           try simp only [Act.put, List.setIfInBounds_toArray, List.set])
          (first
             | (apply head_skip rfl)
             | (apply head_step_g rfl
                focus
                  intro w0 hC
                  (fail))
             | (apply head_step_g rfl
                focus
                  intro w0 hC
                  have hC' := Lib.hid hC
                  obtain ⟨⟨r1, f1, i1, b1, l1⟩, ⟨r2, f2, i2, b2, l2⟩, ⟨r3, f3, i3, b3, l3⟩, ⟨r4, f4, i4, b4, l4⟩, m12, m21, m13, m31, m14, m41, m23, m32, m24, m42, m34, m43⟩ := St.facts4 hC
                  clear hC
                  go_simp
                  have hC := hC'.out
                  (first
                     | with_reducible rfl
                     | (refine (Pur.below (refBox_pur _) _).mono ?_
                        rintro e w' ⟨rfl, hw⟩
                        exact ⟨rfl, St.call (by assumption) hw⟩)))
           try simp only [Act.put, List.setIfInBounds_toArray, List.set])
          (first
             | (apply head_skip rfl)
             | (apply head_step_g rfl
                focus
                  intro w0 hC
                  (fail))
             | (apply head_step_g rfl
                focus
                  intro w0 hC
                  have hC' := Lib.hid hC
                  obtain ⟨⟨r1, f1, i1, b1, l1⟩, ⟨r2, f2, i2, b2, l2⟩, ⟨r3, f3, i3, b3, l3⟩, ⟨r4, f4, i4, b4, l4⟩, m12, m21, m13, m31, m14, m41, m23, m32, m24, m42, m34, m43⟩ := St.facts4 hC
                  clear hC
                  go_simp
                  have hC := hC'.out
                  (first
                     | with_reducible rfl
                     | (refine (Pur.below (refBox_pur _) _).mono ?_
                        rintro e w' ⟨rfl, hw⟩
                        exact ⟨rfl, St.call (by assumption) hw⟩)))
           try simp only [Act.put, List.setIfInBounds_toArray, List.set])
          (first
             | (apply head_skip rfl)
             | (apply head_step_g rfl
                focus
                  intro w0 hC
                  (fail))
             | (apply head_step_g rfl
                focus
                  intro w0 hC
                  have hC' := Lib.hid hC
                  obtain ⟨⟨r1, f1, i1, b1, l1⟩, ⟨r2, f2, i2, b2, l2⟩, ⟨r3, f3, i3, b3, l3⟩, ⟨r4, f4, i4, b4, l4⟩, m12, m21, m13, m31, m14, m41, m23, m32, m24, m42, m34, m43⟩ := St.facts4 hC
                  clear hC
                  go_simp
                  have hC := hC'.out
                  (first
                     | with_reducible rfl
                     | (refine (Pur.below (refBox_pur _) _).mono ?_
                        rintro e w' ⟨rfl, hw⟩
                        exact ⟨rfl, St.call (by assumption) hw⟩)))
           try simp only [Act.put, List.setIfInBounds_toArray, List.set])
          (first
             | (apply head_skip rfl)
             | (apply head_step_g rfl
                focus
                  intro w0 hC
                  (fail))
             | (apply head_step_g rfl
                focus
                  intro w0 hC
                  have hC' := Lib.hid hC
                  obtain ⟨⟨r1, f1, i1, b1, l1⟩, ⟨r2, f2, i2, b2, l2⟩, ⟨r3, f3, i3, b3, l3⟩, ⟨r4, f4, i4, b4, l4⟩, m12, m21, m13, m31, m14, m41, m23, m32, m24, m42, m34, m43⟩ := St.facts4 hC
                  clear hC
                  go_simp
                  have hC := hC'.out
                  (first
                     | with_reducible rfl
                     | (refine (Pur.below (refBox_pur _) _).mono ?_
                        rintro e w' ⟨rfl, hw⟩
                        exact ⟨rfl, St.call (by assumption) hw⟩)))
           try simp only [Act.put, List.setIfInBounds_toArray, List.set])
          (first
             | (apply head_skip rfl)
             | (apply head_step_g rfl
                focus
                  intro w0 hC
                  (fail))
             | (apply head_step_g rfl
                focus
                  intro w0 hC
                  have hC' := Lib.hid hC
                  obtain ⟨⟨r1, f1, i1, b1, l1⟩, ⟨r2, f2, i2, b2, l2⟩, ⟨r3, f3, i3, b3, l3⟩, ⟨r4, f4, i4, b4, l4⟩, m12, m21, m13, m31, m14, m41, m23, m32, m24, m42, m34, m43⟩ := St.facts4 hC
                  clear hC
                  go_simp
                  have hC := hC'.out
                  (first
                     | with_reducible rfl
                     | (refine (Pur.below (refBox_pur _) _).mono ?_
                        rintro e w' ⟨rfl, hw⟩
                        exact ⟨rfl, St.call (by assumption) hw⟩)))
           try simp only [Act.put, List.setIfInBounds_toArray, List.set])
          refine wpQuiet_nil ?_
          intro w1 hC
          (have HC := Lib.hid hC
           have sos := hC.below.os
           obtain ⟨⟨r1, f1, i1, b1, l1⟩, ⟨r2, f2, i2, b2, l2⟩, ⟨r3, f3, i3, b3, l3⟩, ⟨r4, f4, i4, b4, l4⟩, m12, m21, m13, m31, m14, m41, m23, m32, m24, m42, m34, m43⟩ := St.facts4 hC
           clear hC)
          go_wp2_with fail
          have HC := Lib.hid (HC.out.set_head (blk 4 (put key n)))
          (clear r1 f1 i1 b1 l1 r2 f2 i2 b2 l2 r3 f3 i3 b3 l3 r4 f4 i4 b4 l4 m12 m21 m13 m31 m14 m41 m23 m32 m24 m42 m34 m43 sos)
          refine ((refMul_at 2 _ 2 (markAt n) rfl rfl).below _).mono ?_; rintro e w3 ⟨rfl, hw⟩
          have HC := Lib.hid (HC.out.call hw)
          clear hw
          have sos := HC.out.os
          go_wp2_with fail
          clear hp sos
          (go_loopw [7] (fun i wx => ∃ j : Nat, j ≤ 4 ∧ i = .int .i64 (j : Int) ∧ Hid (St w [(g6, blk 4 (put key n)), (w.heap.size + 1 + 1, blk 176 (laid key n j)), (w.heap.size + 1, blk 176 (fun _ => 0)), (w.heap.size, blk 16 key)] wx)) (fun i _ => 4 - (intOf i).toNat)
           case atStart => exact ⟨0, by omega, rfl, HC⟩
           case round =>
             clear HC
             obtain ⟨j, hj, rfl, HJ⟩ := hrel
             by_cases hjt : j < 4
             · have v4 : IntKind.i64.wrap ((n : Int) - 4) = ((n - 4 : Nat) : Int) := by rw [IntWalk.i64_in _ (by omega)]; omega
               have e1 : n - 4 < 44 := by omega
               have e2 : ((n - 4 : Nat) : Int) < 44 := by omega
               have e3 : (j : Int) < 4 := by omega
               have e4 : (n - 4) * 4 + j < 176 := by omega
               have e5 : n * 4 + j < 176 := by omega
               have e6 := laid_old key n j (by omega)
               have e7 : wd key (n - 4) j ^^^ put key n j = wd key n j := (wd_next key n j (by omega) hjt).symm
               have e8 := laid_byte key n j
               go_wp2_with fail
               refine St.region_tail 14 HJ.out (by kernel_rfl) (by decide +kernel) ?_
               (simp only [List.take, List.drop])
               (first
                  | (apply head_skip rfl)
                  | (apply head_step_g rfl
                     focus
                       intro w0 hC
                       (fail))
                  | (apply head_step_g rfl
                     focus
                       intro w0 hC
                       have hC' := Lib.hid hC
                       obtain ⟨⟨r1, f1, i1, b1, l1⟩, ⟨r2, f2, i2, b2, l2⟩, ⟨r3, f3, i3, b3, l3⟩, ⟨r4, f4, i4, b4, l4⟩, m12, m21, m13, m31, m14, m41, m23, m32, m24, m42, m34, m43⟩ := St.facts4 hC
                       clear hC
                       go_simp
                       have hC := hC'.out
                       (first
                          | with_reducible rfl
                          | (refine (Pur.below (refBox_pur _) _).mono ?_
                             rintro e w' ⟨rfl, hw⟩
                             exact ⟨rfl, St.call (by assumption) hw⟩)))
                try simp only [Act.put, List.setIfInBounds_toArray, List.set])
               (first
                  | (apply head_skip rfl)
                  | (apply head_step_g rfl
                     focus
                       intro w0 hC
                       (fail))
                  | (apply head_step_g rfl
                     focus
                       intro w0 hC
                       have hC' := Lib.hid hC
                       obtain ⟨⟨r1, f1, i1, b1, l1⟩, ⟨r2, f2, i2, b2, l2⟩, ⟨r3, f3, i3, b3, l3⟩, ⟨r4, f4, i4, b4, l4⟩, m12, m21, m13, m31, m14, m41, m23, m32, m24, m42, m34, m43⟩ := St.facts4 hC
                       clear hC
                       go_simp
                       have hC := hC'.out
                       (first
                          | with_reducible rfl
                          | (refine (Pur.below (refBox_pur _) _).mono ?_
                             rintro e w' ⟨rfl, hw⟩
                             exact ⟨rfl, St.call (by assumption) hw⟩)))
                try simp only [Act.put, List.setIfInBounds_toArray, List.set])
               (first
                  | (apply head_skip rfl)
                  | (apply head_step_g rfl
                     focus
                       intro w0 hC
                       (fail))
                  | (apply head_step_g rfl
                     focus
                       intro w0 hC
                       have hC' := Lib.hid hC
                       obtain ⟨⟨r1, f1, i1, b1, l1⟩, ⟨r2, f2, i2, b2, l2⟩, ⟨r3, f3, i3, b3, l3⟩, ⟨r4, f4, i4, b4, l4⟩, m12, m21, m13, m31, m14, m41, m23, m32, m24, m42, m34, m43⟩ := St.facts4 hC
                       clear hC
                       go_simp
                       have hC := hC'.out
                       (first
                          | with_reducible rfl
                          | (refine (Pur.below (refBox_pur _) _).mono ?_
                             rintro e w' ⟨rfl, hw⟩
                             exact ⟨rfl, St.call (by assumption) hw⟩)))
                try simp only [Act.put, List.setIfInBounds_toArray, List.set])
               (first
                  | (apply head_skip rfl)
                  | (apply head_step_g rfl
                     focus
                       intro w0 hC
                       (fail))
                  | (apply head_step_g rfl
                     focus
                       intro w0 hC
                       have hC' := Lib.hid hC
                       obtain ⟨⟨r1, f1, i1, b1, l1⟩, ⟨r2, f2, i2, b2, l2⟩, ⟨r3, f3, i3, b3, l3⟩, ⟨r4, f4, i4, b4, l4⟩, m12, m21, m13, m31, m14, m41, m23, m32, m24, m42, m34, m43⟩ := St.facts4 hC
                       clear hC
                       go_simp
                       have hC := hC'.out
                       (first
                          | with_reducible rfl
                          | (refine (Pur.below (refBox_pur _) _).mono ?_
                             rintro e w' ⟨rfl, hw⟩
                             exact ⟨rfl, St.call (by assumption) hw⟩)))
                try simp only [Act.put, List.setIfInBounds_toArray, List.set])
               (first
                  | (apply head_skip rfl)
                  | (apply head_step_g rfl
                     focus
                       intro w0 hC
                       (fail))
                  | (apply head_step_g rfl
                     focus
                       intro w0 hC
                       have hC' := Lib.hid hC
                       obtain ⟨⟨r1, f1, i1, b1, l1⟩, ⟨r2, f2, i2, b2, l2⟩, ⟨r3, f3, i3, b3, l3⟩, ⟨r4, f4, i4, b4, l4⟩, m12, m21, m13, m31, m14, m41, m23, m32, m24, m42, m34, m43⟩ := St.facts4 hC
                       clear hC
                       go_simp
                       have hC := hC'.out
                       (first
                          | with_reducible rfl
                          | (refine (Pur.below (refBox_pur _) _).mono ?_
                             rintro e w' ⟨rfl, hw⟩
                             exact ⟨rfl, St.call (by assumption) hw⟩)))
                try simp only [Act.put, List.setIfInBounds_toArray, List.set])
               (first
                  | (apply head_skip rfl)
                  | (apply head_step_g rfl
                     focus
                       intro w0 hC
                       (fail))
                  | (apply head_step_g rfl
                     focus
                       intro w0 hC
                       have hC' := Lib.hid hC
                       obtain ⟨⟨r1, f1, i1, b1, l1⟩, ⟨r2, f2, i2, b2, l2⟩, ⟨r3, f3, i3, b3, l3⟩, ⟨r4, f4, i4, b4, l4⟩, m12, m21, m13, m31, m14, m41, m23, m32, m24, m42, m34, m43⟩ := St.facts4 hC
                       clear hC
                       go_simp
                       have hC := hC'.out
                       (first
                          | with_reducible rfl
                          | (refine (Pur.below (refBox_pur _) _).mono ?_
                             rintro e w' ⟨rfl, hw⟩
                             exact ⟨rfl, St.call (by assumption) hw⟩)))
                try simp only [Act.put, List.setIfInBounds_toArray, List.set])
               (first
                  | (apply head_skip rfl)
                  | (apply head_step_g rfl
                     focus
                       intro w0 hC
                       (fail))
                  | (apply head_step_g rfl
                     focus
                       intro w0 hC
                       have hC' := Lib.hid hC
                       obtain ⟨⟨r1, f1, i1, b1, l1⟩, ⟨r2, f2, i2, b2, l2⟩, ⟨r3, f3, i3, b3, l3⟩, ⟨r4, f4, i4, b4, l4⟩, m12, m21, m13, m31, m14, m41, m23, m32, m24, m42, m34, m43⟩ := St.facts4 hC
                       clear hC
                       go_simp
                       have hC := hC'.out
                       (first
                          | with_reducible rfl
                          | (refine (Pur.below (refBox_pur _) _).mono ?_
                             rintro e w' ⟨rfl, hw⟩
                             exact ⟨rfl, St.call (by assumption) hw⟩)))
                try simp only [Act.put, List.setIfInBounds_toArray, List.set])
               (first
                  | (apply head_skip rfl)
                  | (apply head_step_g rfl
                     focus
                       intro w0 hC
                       (fail))
                  | (apply head_step_g rfl
                     focus
                       intro w0 hC
                       have hC' := Lib.hid hC
                       obtain ⟨⟨r1, f1, i1, b1, l1⟩, ⟨r2, f2, i2, b2, l2⟩, ⟨r3, f3, i3, b3, l3⟩, ⟨r4, f4, i4, b4, l4⟩, m12, m21, m13, m31, m14, m41, m23, m32, m24, m42, m34, m43⟩ := St.facts4 hC
                       clear hC
                       go_simp
                       have hC := hC'.out
                       (first
                          | with_reducible rfl
                          | (refine (Pur.below (refBox_pur _) _).mono ?_
                             rintro e w' ⟨rfl, hw⟩
                             exact ⟨rfl, St.call (by assumption) hw⟩)))
                try simp only [Act.put, List.setIfInBounds_toArray, List.set])
               (first
                  | (apply head_skip rfl)
                  | (apply head_step_g rfl
                     focus
                       intro w0 hC
                       (fail))
                  | (apply head_step_g rfl
                     focus
                       intro w0 hC
                       have hC' := Lib.hid hC
                       obtain ⟨⟨r1, f1, i1, b1, l1⟩, ⟨r2, f2, i2, b2, l2⟩, ⟨r3, f3, i3, b3, l3⟩, ⟨r4, f4, i4, b4, l4⟩, m12, m21, m13, m31, m14, m41, m23, m32, m24, m42, m34, m43⟩ := St.facts4 hC
                       clear hC
                       go_simp
                       have hC := hC'.out
                       (first
                          | with_reducible rfl
                          | (refine (Pur.below (refBox_pur _) _).mono ?_
                             rintro e w' ⟨rfl, hw⟩
                             exact ⟨rfl, St.call (by assumption) hw⟩)))
                try simp only [Act.put, List.setIfInBounds_toArray, List.set])
               (first
                  | (apply head_skip rfl)
                  | (apply head_step_g rfl
                     focus
                       intro w0 hC
                       (fail))
                  | (apply head_step_g rfl
                     focus
                       intro w0 hC
                       have hC' := Lib.hid hC
                       obtain ⟨⟨r1, f1, i1, b1, l1⟩, ⟨r2, f2, i2, b2, l2⟩, ⟨r3, f3, i3, b3, l3⟩, ⟨r4, f4, i4, b4, l4⟩, m12, m21, m13, m31, m14, m41, m23, m32, m24, m42, m34, m43⟩ := St.facts4 hC
                       clear hC
                       go_simp
                       have hC := hC'.out
                       (first
                          | with_reducible rfl
                          | (refine (Pur.below (refBox_pur _) _).mono ?_
                             rintro e w' ⟨rfl, hw⟩
                             exact ⟨rfl, St.call (by assumption) hw⟩)))
                try simp only [Act.put, List.setIfInBounds_toArray, List.set])
               (first
                  | (apply head_skip rfl)
                  | (apply head_step_g rfl
                     focus
                       intro w0 hC
                       (fail))
                  | (apply head_step_g rfl
                     focus
                       intro w0 hC
                       have hC' := Lib.hid hC
                       obtain ⟨⟨r1, f1, i1, b1, l1⟩, ⟨r2, f2, i2, b2, l2⟩, ⟨r3, f3, i3, b3, l3⟩, ⟨r4, f4, i4, b4, l4⟩, m12, m21, m13, m31, m14, m41, m23, m32, m24, m42, m34, m43⟩ := St.facts4 hC
                       clear hC
                       go_simp
                       have hC := hC'.out
                       (first
                          | with_reducible rfl
                          | (refine (Pur.below (refBox_pur _) _).mono ?_
                             rintro e w' ⟨rfl, hw⟩
                             exact ⟨rfl, St.call (by assumption) hw⟩)))
                try simp only [Act.put, List.setIfInBounds_toArray, List.set])
               (first
                  | (apply head_skip rfl)
                  | (apply head_step_g rfl
                     focus
                       intro w0 hC
                       (fail))
                  | (apply head_step_g rfl
                     focus
                       intro w0 hC
                       have hC' := Lib.hid hC
                       obtain ⟨⟨r1, f1, i1, b1, l1⟩, ⟨r2, f2, i2, b2, l2⟩, ⟨r3, f3, i3, b3, l3⟩, ⟨r4, f4, i4, b4, l4⟩, m12, m21, m13, m31, m14, m41, m23, m32, m24, m42, m34, m43⟩ := St.facts4 hC
                       clear hC
                       go_simp
                       have hC := hC'.out
                       (first
                          | with_reducible rfl
                          | (refine (Pur.below (refBox_pur _) _).mono ?_
                             rintro e w' ⟨rfl, hw⟩
                             exact ⟨rfl, St.call (by assumption) hw⟩)))
                try simp only [Act.put, List.setIfInBounds_toArray, List.set])
               (first
                  | (apply head_skip rfl)
                  | (apply head_step_g rfl
                     focus
                       intro w0 hC
                       (fail))
                  | (apply head_step_g rfl
                     focus
                       intro w0 hC
                       have hC' := Lib.hid hC
                       obtain ⟨⟨r1, f1, i1, b1, l1⟩, ⟨r2, f2, i2, b2, l2⟩, ⟨r3, f3, i3, b3, l3⟩, ⟨r4, f4, i4, b4, l4⟩, m12, m21, m13, m31, m14, m41, m23, m32, m24, m42, m34, m43⟩ := St.facts4 hC
                       clear hC
                       go_simp
                       have hC := hC'.out
                       (first
                          | with_reducible rfl
                          | (refine (Pur.below (refBox_pur _) _).mono ?_
                             rintro e w' ⟨rfl, hw⟩
                             exact ⟨rfl, St.call (by assumption) hw⟩)))
                try simp only [Act.put, List.setIfInBounds_toArray, List.set])
               (first
                  | (apply head_skip rfl)
                  | (apply head_step_g rfl
                     focus
                       intro w0 hC
                       (fail))
                  | (apply head_step_g rfl
                     focus
                       intro w0 hC
                       have hC' := Lib.hid hC
                       obtain ⟨⟨r1, f1, i1, b1, l1⟩, ⟨r2, f2, i2, b2, l2⟩, ⟨r3, f3, i3, b3, l3⟩, ⟨r4, f4, i4, b4, l4⟩, m12, m21, m13, m31, m14, m41, m23, m32, m24, m42, m34, m43⟩ := St.facts4 hC
                       clear hC
                       go_simp
                       have hC := hC'.out
                       (first
                          | with_reducible rfl
                          | (refine (Pur.below (refBox_pur _) _).mono ?_
                             rintro e w' ⟨rfl, hw⟩
                             exact ⟨rfl, St.call (by assumption) hw⟩)))
                try simp only [Act.put, List.setIfInBounds_toArray, List.set])
               refine wpQuiet_nil ?_
               intro w2 hC
               (have HC := Lib.hid hC
                have sos := hC.below.os
                obtain ⟨⟨r1, f1, i1, b1, l1⟩, ⟨r2, f2, i2, b2, l2⟩, ⟨r3, f3, i3, b3, l3⟩, ⟨r4, f4, i4, b4, l4⟩, m12, m21, m13, m31, m14, m41, m23, m32, m24, m42, m34, m43⟩ := St.facts4 hC
                clear hC)
               go_wp2_with fail
               have HC := Lib.hid (HC.out.swap.set_head (blk 176 (laid key n (j + 1)))).swap
               exact ⟨⟨j + 1, by omega, by go_num, HC⟩, by simp [intOf]; omega⟩
             · obtain rfl : j = 4 := by omega
               go_wp2_with fail
               exact ⟨⟨n + 1, by omega, by go_num, by first | rfl | rw [hk], Lib.hid HJ.out.tail⟩, by simp [intOf]; omega⟩)
        · have ht : ((n : Int) % 4 == 0) = false := by simp; omega
          have hp := put_other key n hm
          have hk := markAt_same n hm
          (have HC := Lib.hid hC
           have sos := hC.below.os
           obtain ⟨⟨r1, f1, i1, b1, l1⟩, ⟨r2, f2, i2, b2, l2⟩, ⟨r3, f3, i3, b3, l3⟩, m12, m21, m13, m31, m23, m32⟩ := St.facts3 hC
           clear hC)
          go_wp2_with fail
          have HC := Lib.hid (HC.out.push (blk 4 (put key n)) 182)
          (clear r1 f1 i1 b1 l1 r2 f2 i2 b2 l2 r3 f3 i3 b3 l3 m12 m21 m13 m31 m23 m32 sos)
          clear v0 b0 c0 c1 hg HR hp
          generalize wr.heap.size = g6 at HC ⊢
          (go_loopw [7] (fun i wx => ∃ j : Nat, j ≤ 4 ∧ i = .int .i64 (j : Int) ∧ Hid (St w [(g6, blk 4 (put key n)), (w.heap.size + 1 + 1, blk 176 (laid key n j)), (w.heap.size + 1, blk 176 (fun _ => 0)), (w.heap.size, blk 16 key)] wx)) (fun i _ => 4 - (intOf i).toNat)
           case atStart => exact ⟨0, by omega, rfl, HC⟩
           case round =>
             clear HC
             obtain ⟨j, hj, rfl, HJ⟩ := hrel
             by_cases hjt : j < 4
             · have v4 : IntKind.i64.wrap ((n : Int) - 4) = ((n - 4 : Nat) : Int) := by rw [IntWalk.i64_in _ (by omega)]; omega
               have e1 : n - 4 < 44 := by omega
               have e2 : ((n - 4 : Nat) : Int) < 44 := by omega
               have e3 : (j : Int) < 4 := by omega
               have e4 : (n - 4) * 4 + j < 176 := by omega
               have e5 : n * 4 + j < 176 := by omega
               have e6 := laid_old key n j (by omega)
               have e7 : wd key (n - 4) j ^^^ put key n j = wd key n j := (wd_next key n j (by omega) hjt).symm
               have e8 := laid_byte key n j
               go_wp2_with fail
               refine St.region_tail 14 HJ.out (by kernel_rfl) (by decide +kernel) ?_
               (simp only [List.take, List.drop])
               (first
                  | (apply head_skip rfl)
                  | (apply head_step_g rfl
                     focus
                       intro w0 hC
                       (fail))
                  | (apply head_step_g rfl
                     focus
                       intro w0 hC
                       have hC' := Lib.hid hC
                       obtain ⟨⟨r1, f1, i1, b1, l1⟩, ⟨r2, f2, i2, b2, l2⟩, ⟨r3, f3, i3, b3, l3⟩, ⟨r4, f4, i4, b4, l4⟩, m12, m21, m13, m31, m14, m41, m23, m32, m24, m42, m34, m43⟩ := St.facts4 hC
                       clear hC
                       go_simp
                       have hC := hC'.out
                       (first
                          | with_reducible rfl
                          | (refine (Pur.below (refBox_pur _) _).mono ?_
                             rintro e w' ⟨rfl, hw⟩
                             exact ⟨rfl, St.call (by assumption) hw⟩)))
                try simp only [Act.put, List.setIfInBounds_toArray, List.set])
               (first
                  | (apply head_skip rfl)
                  | (apply head_step_g rfl
                     focus
                       intro w0 hC
                       (fail))
                  | (apply head_step_g rfl
                     focus
                       intro w0 hC
                       have hC' := Lib.hid hC
                       obtain ⟨⟨r1, f1, i1, b1, l1⟩, ⟨r2, f2, i2, b2, l2⟩, ⟨r3, f3, i3, b3, l3⟩, ⟨r4, f4, i4, b4, l4⟩, m12, m21, m13, m31, m14, m41, m23, m32, m24, m42, m34, m43⟩ := St.facts4 hC
                       clear hC
                       go_simp
                       have hC := hC'.out
                       (first
                          | with_reducible rfl
                          | (refine (Pur.below (refBox_pur _) _).mono ?_
                             rintro e w' ⟨rfl, hw⟩
                             exact ⟨rfl, St.call (by assumption) hw⟩)))
                try simp only [Act.put, List.setIfInBounds_toArray, List.set])
               (first
                  | (apply head_skip rfl)
                  | (apply head_step_g rfl
                     focus
                       intro w0 hC
                       (fail))
                  | (apply head_step_g rfl
                     focus
                       intro w0 hC
                       have hC' := Lib.hid hC
                       obtain ⟨⟨r1, f1, i1, b1, l1⟩, ⟨r2, f2, i2, b2, l2⟩, ⟨r3, f3, i3, b3, l3⟩, ⟨r4, f4, i4, b4, l4⟩, m12, m21, m13, m31, m14, m41, m23, m32, m24, m42, m34, m43⟩ := St.facts4 hC
                       clear hC
                       go_simp
                       have hC := hC'.out
                       (first
                          | with_reducible rfl
                          | (refine (Pur.below (refBox_pur _) _).mono ?_
                             rintro e w' ⟨rfl, hw⟩
                             exact ⟨rfl, St.call (by assumption) hw⟩)))
                try simp only [Act.put, List.setIfInBounds_toArray, List.set])
               (first
                  | (apply head_skip rfl)
                  | (apply head_step_g rfl
                     focus
                       intro w0 hC
                       (fail))
                  | (apply head_step_g rfl
                     focus
                       intro w0 hC
                       have hC' := Lib.hid hC
                       obtain ⟨⟨r1, f1, i1, b1, l1⟩, ⟨r2, f2, i2, b2, l2⟩, ⟨r3, f3, i3, b3, l3⟩, ⟨r4, f4, i4, b4, l4⟩, m12, m21, m13, m31, m14, m41, m23, m32, m24, m42, m34, m43⟩ := St.facts4 hC
                       clear hC
                       go_simp
                       have hC := hC'.out
                       (first
                          | with_reducible rfl
                          | (refine (Pur.below (refBox_pur _) _).mono ?_
                             rintro e w' ⟨rfl, hw⟩
                             exact ⟨rfl, St.call (by assumption) hw⟩)))
                try simp only [Act.put, List.setIfInBounds_toArray, List.set])
               (first
                  | (apply head_skip rfl)
                  | (apply head_step_g rfl
                     focus
                       intro w0 hC
                       (fail))
                  | (apply head_step_g rfl
                     focus
                       intro w0 hC
                       have hC' := Lib.hid hC
                       obtain ⟨⟨r1, f1, i1, b1, l1⟩, ⟨r2, f2, i2, b2, l2⟩, ⟨r3, f3, i3, b3, l3⟩, ⟨r4, f4, i4, b4, l4⟩, m12, m21, m13, m31, m14, m41, m23, m32, m24, m42, m34, m43⟩ := St.facts4 hC
                       clear hC
                       go_simp
                       have hC := hC'.out
                       (first
                          | with_reducible rfl
                          | (refine (Pur.below (refBox_pur _) _).mono ?_
                             rintro e w' ⟨rfl, hw⟩
                             exact ⟨rfl, St.call (by assumption) hw⟩)))
                try simp only [Act.put, List.setIfInBounds_toArray, List.set])
               (first
                  | (apply head_skip rfl)
                  | (apply head_step_g rfl
                     focus
                       intro w0 hC
                       (fail))
                  | (apply head_step_g rfl
                     focus
                       intro w0 hC
                       have hC' := Lib.hid hC
                       obtain ⟨⟨r1, f1, i1, b1, l1⟩, ⟨r2, f2, i2, b2, l2⟩, ⟨r3, f3, i3, b3, l3⟩, ⟨r4, f4, i4, b4, l4⟩, m12, m21, m13, m31, m14, m41, m23, m32, m24, m42, m34, m43⟩ := St.facts4 hC
                       clear hC
                       go_simp
                       have hC := hC'.out
                       (first
                          | with_reducible rfl
                          | (refine (Pur.below (refBox_pur _) _).mono ?_
                             rintro e w' ⟨rfl, hw⟩
                             exact ⟨rfl, St.call (by assumption) hw⟩)))
                try simp only [Act.put, List.setIfInBounds_toArray, List.set])
               (first
                  | (apply head_skip rfl)
                  | (apply head_step_g rfl
                     focus
                       intro w0 hC
                       (fail))
                  | (apply head_step_g rfl
                     focus
                       intro w0 hC
                       have hC' := Lib.hid hC
                       obtain ⟨⟨r1, f1, i1, b1, l1⟩, ⟨r2, f2, i2, b2, l2⟩, ⟨r3, f3, i3, b3, l3⟩, ⟨r4, f4, i4, b4, l4⟩, m12, m21, m13, m31, m14, m41, m23, m32, m24, m42, m34, m43⟩ := St.facts4 hC
                       clear hC
                       go_simp
                       have hC := hC'.out
                       (first
                          | with_reducible rfl
                          | (refine (Pur.below (refBox_pur _) _).mono ?_
                             rintro e w' ⟨rfl, hw⟩
                             exact ⟨rfl, St.call (by assumption) hw⟩)))
                try simp only [Act.put, List.setIfInBounds_toArray, List.set])
               (first
                  | (apply head_skip rfl)
                  | (apply head_step_g rfl
                     focus
                       intro w0 hC
                       (fail))
                  | (apply head_step_g rfl
                     focus
                       intro w0 hC
                       have hC' := Lib.hid hC
                       obtain ⟨⟨r1, f1, i1, b1, l1⟩, ⟨r2, f2, i2, b2, l2⟩, ⟨r3, f3, i3, b3, l3⟩, ⟨r4, f4, i4, b4, l4⟩, m12, m21, m13, m31, m14, m41, m23, m32, m24, m42, m34, m43⟩ := St.facts4 hC
                       clear hC
                       go_simp
                       have hC := hC'.out
                       (first
                          | with_reducible rfl
                          | (refine (Pur.below (refBox_pur _) _).mono ?_
                             rintro e w' ⟨rfl, hw⟩
                             exact ⟨rfl, St.call (by assumption) hw⟩)))
                try simp only [Act.put, List.setIfInBounds_toArray, List.set])
               (first
                  | (apply head_skip rfl)
                  | (apply head_step_g rfl
                     focus
                       intro w0 hC
                       (fail))
                  | (apply head_step_g rfl
                     focus
                       intro w0 hC
                       have hC' := Lib.hid hC
                       obtain ⟨⟨r1, f1, i1, b1, l1⟩, ⟨r2, f2, i2, b2, l2⟩, ⟨r3, f3, i3, b3, l3⟩, ⟨r4, f4, i4, b4, l4⟩, m12, m21, m13, m31, m14, m41, m23, m32, m24, m42, m34, m43⟩ := St.facts4 hC
                       clear hC
                       go_simp
                       have hC := hC'.out
                       (first
                          | with_reducible rfl
                          | (refine (Pur.below (refBox_pur _) _).mono ?_
                             rintro e w' ⟨rfl, hw⟩
                             exact ⟨rfl, St.call (by assumption) hw⟩)))
                try simp only [Act.put, List.setIfInBounds_toArray, List.set])
               (first
                  | (apply head_skip rfl)
                  | (apply head_step_g rfl
                     focus
                       intro w0 hC
                       (fail))
                  | (apply head_step_g rfl
                     focus
                       intro w0 hC
                       have hC' := Lib.hid hC
                       obtain ⟨⟨r1, f1, i1, b1, l1⟩, ⟨r2, f2, i2, b2, l2⟩, ⟨r3, f3, i3, b3, l3⟩, ⟨r4, f4, i4, b4, l4⟩, m12, m21, m13, m31, m14, m41, m23, m32, m24, m42, m34, m43⟩ := St.facts4 hC
                       clear hC
                       go_simp
                       have hC := hC'.out
                       (first
                          | with_reducible rfl
                          | (refine (Pur.below (refBox_pur _) _).mono ?_
                             rintro e w' ⟨rfl, hw⟩
                             exact ⟨rfl, St.call (by assumption) hw⟩)))
                try simp only [Act.put, List.setIfInBounds_toArray, List.set])
               (first
                  | (apply head_skip rfl)
                  | (apply head_step_g rfl
                     focus
                       intro w0 hC
                       (fail))
                  | (apply head_step_g rfl
                     focus
                       intro w0 hC
                       have hC' := Lib.hid hC
                       obtain ⟨⟨r1, f1, i1, b1, l1⟩, ⟨r2, f2, i2, b2, l2⟩, ⟨r3, f3, i3, b3, l3⟩, ⟨r4, f4, i4, b4, l4⟩, m12, m21, m13, m31, m14, m41, m23, m32, m24, m42, m34, m43⟩ := St.facts4 hC
                       clear hC
                       go_simp
                       have hC := hC'.out
                       (first
                          | with_reducible rfl
                          | (refine (Pur.below (refBox_pur _) _).mono ?_
                             rintro e w' ⟨rfl, hw⟩
                             exact ⟨rfl, St.call (by assumption) hw⟩)))
                try simp only [Act.put, List.setIfInBounds_toArray, List.set])
               (first
                  | (apply head_skip rfl)
                  | (apply head_step_g rfl
                     focus
                       intro w0 hC
                       (fail))
                  | (apply head_step_g rfl
                     focus
                       intro w0 hC
                       have hC' := Lib.hid hC
                       obtain ⟨⟨r1, f1, i1, b1, l1⟩, ⟨r2, f2, i2, b2, l2⟩, ⟨r3, f3, i3, b3, l3⟩, ⟨r4, f4, i4, b4, l4⟩, m12, m21, m13, m31, m14, m41, m23, m32, m24, m42, m34, m43⟩ := St.facts4 hC
                       clear hC
                       go_simp
                       have hC := hC'.out
                       (first
                          | with_reducible rfl
                          | (refine (Pur.below (refBox_pur _) _).mono ?_
                             rintro e w' ⟨rfl, hw⟩
                             exact ⟨rfl, St.call (by assumption) hw⟩)))
                try simp only [Act.put, List.setIfInBounds_toArray, List.set])
               (first
                  | (apply head_skip rfl)
                  | (apply head_step_g rfl
                     focus
                       intro w0 hC
                       (fail))
                  | (apply head_step_g rfl
                     focus
                       intro w0 hC
                       have hC' := Lib.hid hC
                       obtain ⟨⟨r1, f1, i1, b1, l1⟩, ⟨r2, f2, i2, b2, l2⟩, ⟨r3, f3, i3, b3, l3⟩, ⟨r4, f4, i4, b4, l4⟩, m12, m21, m13, m31, m14, m41, m23, m32, m24, m42, m34, m43⟩ := St.facts4 hC
                       clear hC
                       go_simp
                       have hC := hC'.out
                       (first
                          | with_reducible rfl
                          | (refine (Pur.below (refBox_pur _) _).mono ?_
                             rintro e w' ⟨rfl, hw⟩
                             exact ⟨rfl, St.call (by assumption) hw⟩)))
                try simp only [Act.put, List.setIfInBounds_toArray, List.set])
               (first
                  | (apply head_skip rfl)
                  | (apply head_step_g rfl
                     focus
                       intro w0 hC
                       (fail))
                  | (apply head_step_g rfl
                     focus
                       intro w0 hC
                       have hC' := Lib.hid hC
                       obtain ⟨⟨r1, f1, i1, b1, l1⟩, ⟨r2, f2, i2, b2, l2⟩, ⟨r3, f3, i3, b3, l3⟩, ⟨r4, f4, i4, b4, l4⟩, m12, m21, m13, m31, m14, m41, m23, m32, m24, m42, m34, m43⟩ := St.facts4 hC
                       clear hC
                       go_simp
                       have hC := hC'.out
                       (first
                          | with_reducible rfl
                          | (refine (Pur.below (refBox_pur _) _).mono ?_
                             rintro e w' ⟨rfl, hw⟩
                             exact ⟨rfl, St.call (by assumption) hw⟩)))
                try simp only [Act.put, List.setIfInBounds_toArray, List.set])
               refine wpQuiet_nil ?_
               intro w2 hC
               (have HC := Lib.hid hC
                have sos := hC.below.os
                obtain ⟨⟨r1, f1, i1, b1, l1⟩, ⟨r2, f2, i2, b2, l2⟩, ⟨r3, f3, i3, b3, l3⟩, ⟨r4, f4, i4, b4, l4⟩, m12, m21, m13, m31, m14, m41, m23, m32, m24, m42, m34, m43⟩ := St.facts4 hC
                clear hC)
               go_wp2_with fail
               have HC := Lib.hid (HC.out.swap.set_head (blk 176 (laid key n (j + 1)))).swap
               exact ⟨⟨j + 1, by omega, by go_num, HC⟩, by simp [intOf]; omega⟩
             · obtain rfl : j = 4 := by omega
               go_wp2_with fail
               exact ⟨⟨n + 1, by omega, by go_num, by first | rfl | rw [hk], Lib.hid HJ.out.tail⟩, by simp [intOf]; omega⟩)
    · obtain rfl : n = 44 := by omega
      rw [laid_end] at HR hC
      (have HC := Lib.hid hC
       have sos := hC.below.os
       obtain ⟨⟨r1, f1, i1, b1, l1⟩, ⟨r2, f2, i2, b2, l2⟩, ⟨r3, f3, i3, b3, l3⟩, m12, m21, m13, m31, m23, m32⟩ := St.facts3 hC
       clear hC)
      go_wp2_with fail
      have HC := Lib.hid (HC.out.push (blk 176 (fun _ => 0)) 155)
      (clear r1 f1 i1 b1 l1 r2 f2 i2 b2 l2 r3 f3 i3 b3 l3 m12 m21 m13 m31 m23 m32 sos)
      clear HR
      generalize wr.heap.size = g8 at HC ⊢
      go_loopw [9] (fun i wx => ∃ n : Nat, n ≤ 44 ∧ i = .int .i64 (n : Int) ∧ Hid (St w [(g8, blk 176 (laid key n 0)), (w.heap.size + 1 + 1, blk 176 (Ci.rounds key)), (w.heap.size + 1, blk 176 (fun _ => 0)), (w.heap.size, blk 16 key)] wx)) (fun i _ => 44 - (intOf i).toNat)
      case atStart => exact ⟨0, by omega, rfl, by rw [← laid_start]; exact HC⟩
      case round =>
        clear HC
        obtain ⟨n, hn, rfl, HR⟩ := hrel
        by_cases hlt : n < 44
        · have hd : ((n : Int) < 44) := by omega
          go_wp2_with fail
          go_loopw [10] (fun i wx => ∃ j : Nat, j ≤ 4 ∧ i = .int .i64 (j : Int) ∧ Hid (St w [(g8, blk 176 (laid key n j)), (w.heap.size + 1 + 1, blk 176 (Ci.rounds key)), (w.heap.size + 1, blk 176 (fun _ => 0)), (w.heap.size, blk 16 key)] wx)) (fun i _ => 4 - (intOf i).toNat)
          case atStart => exact ⟨0, by omega, rfl, HR⟩
          case round =>
            clear HR
            obtain ⟨j, hj, rfl, HJ⟩ := hrel
            by_cases hjt : j < 4
            · have v1 : (n : Int) / 4 = (quo4 n : Int) := by unfold quo4; omega
              have v5 : IntKind.i64.wrap (quo4 n : Int) = (quo4 n : Int) := IntWalk.i64_in _ (by unfold quo4; omega)
              have v2 : (n : Int) % 4 = (rem4 n : Int) := by unfold rem4; omega
              have v6 : (n : Int).tmod 4 = (rem4 n : Int) := by rw [Int.tmod_eq_emod_of_nonneg (by omega)]; exact v2
              have v7 : (n : Int).tdiv 4 = (quo4 n : Int) := by rw [Int.tdiv_eq_ediv_of_nonneg (by omega)]; exact v1
              have v3 : IntKind.i64.wrap (4 * (rem4 n : Int)) = (at4 (rem4 n) 0 : Int) := by rw [IntWalk.i64_in _ (by unfold rem4; omega)]; unfold at4; omega
              have v4 : IntKind.i64.wrap ((at4 (rem4 n) 0 : Int) + (j : Int)) = (at4 (rem4 n) j : Int) := by unfold at4 rem4; rw [IntWalk.i64_in _ (by omega)]; omega
              have e1 : quo4 n < 11 := by unfold quo4; omega
              have e2 : (quo4 n : Int) < 11 := by omega
              have e3 : (j : Int) < 4 := by omega
              have e4 : at4 (rem4 n) j < 16 := by unfold at4 rem4; omega
              have e5 : (at4 (rem4 n) j : Int) < 16 := by omega
              have e6 : n * 4 + j < 176 := by omega
              have e7 : quo4 n * 16 + at4 (rem4 n) j < 176 := by unfold at4 quo4 rem4; omega
              have e8 := laid_byte2 key n j
              go_wp2_with fail
              refine St.region_tail 14 HJ.out (by kernel_rfl) (by decide +kernel) ?_
              (simp only [List.take, List.drop])
              (first
                 | (apply head_skip rfl)
                 | (apply head_step_g rfl
                    focus
                      intro w0 hC
                      (fail))
                 | (apply head_step_g rfl
                    focus
                      intro w0 hC
                      have hC' := Lib.hid hC
                      obtain ⟨⟨r1, f1, i1, b1, l1⟩, ⟨r2, f2, i2, b2, l2⟩, ⟨r3, f3, i3, b3, l3⟩, ⟨r4, f4, i4, b4, l4⟩, m12, m21, m13, m31, m14, m41, m23, m32, m24, m42, m34, m43⟩ := St.facts4 hC
                      clear hC
                      go_simp
                      have hC := hC'.out
                      (first
                         | with_reducible rfl
                         | (refine (Pur.below (refBox_pur _) _).mono ?_
                            rintro e w' ⟨rfl, hw⟩
                            exact ⟨rfl, St.call (by assumption) hw⟩)))
               try simp only [Act.put, List.setIfInBounds_toArray, List.set])
              (first
                 | (apply head_skip rfl)
                 | (apply head_step_g rfl
                    focus
                      intro w0 hC
                      (fail))
                 | (apply head_step_g rfl
                    focus
                      intro w0 hC
                      have hC' := Lib.hid hC
                      obtain ⟨⟨r1, f1, i1, b1, l1⟩, ⟨r2, f2, i2, b2, l2⟩, ⟨r3, f3, i3, b3, l3⟩, ⟨r4, f4, i4, b4, l4⟩, m12, m21, m13, m31, m14, m41, m23, m32, m24, m42, m34, m43⟩ := St.facts4 hC
                      clear hC
                      go_simp
                      have hC := hC'.out
                      (first
                         | with_reducible rfl
                         | (refine (Pur.below (refBox_pur _) _).mono ?_
                            rintro e w' ⟨rfl, hw⟩
                            exact ⟨rfl, St.call (by assumption) hw⟩)))
               try simp only [Act.put, List.setIfInBounds_toArray, List.set])
              (first
                 | (apply head_skip rfl)
                 | (apply head_step_g rfl
                    focus
                      intro w0 hC
                      (fail))
                 | (apply head_step_g rfl
                    focus
                      intro w0 hC
                      have hC' := Lib.hid hC
                      obtain ⟨⟨r1, f1, i1, b1, l1⟩, ⟨r2, f2, i2, b2, l2⟩, ⟨r3, f3, i3, b3, l3⟩, ⟨r4, f4, i4, b4, l4⟩, m12, m21, m13, m31, m14, m41, m23, m32, m24, m42, m34, m43⟩ := St.facts4 hC
                      clear hC
                      go_simp
                      have hC := hC'.out
                      (first
                         | with_reducible rfl
                         | (refine (Pur.below (refBox_pur _) _).mono ?_
                            rintro e w' ⟨rfl, hw⟩
                            exact ⟨rfl, St.call (by assumption) hw⟩)))
               try simp only [Act.put, List.setIfInBounds_toArray, List.set])
              (first
                 | (apply head_skip rfl)
                 | (apply head_step_g rfl
                    focus
                      intro w0 hC
                      (fail))
                 | (apply head_step_g rfl
                    focus
                      intro w0 hC
                      have hC' := Lib.hid hC
                      obtain ⟨⟨r1, f1, i1, b1, l1⟩, ⟨r2, f2, i2, b2, l2⟩, ⟨r3, f3, i3, b3, l3⟩, ⟨r4, f4, i4, b4, l4⟩, m12, m21, m13, m31, m14, m41, m23, m32, m24, m42, m34, m43⟩ := St.facts4 hC
                      clear hC
                      go_simp
                      have hC := hC'.out
                      (first
                         | with_reducible rfl
                         | (refine (Pur.below (refBox_pur _) _).mono ?_
                            rintro e w' ⟨rfl, hw⟩
                            exact ⟨rfl, St.call (by assumption) hw⟩)))
               try simp only [Act.put, List.setIfInBounds_toArray, List.set])
              (first
                 | (apply head_skip rfl)
                 | (apply head_step_g rfl
                    focus
                      intro w0 hC
                      (fail))
                 | (apply head_step_g rfl
                    focus
                      intro w0 hC
                      have hC' := Lib.hid hC
                      obtain ⟨⟨r1, f1, i1, b1, l1⟩, ⟨r2, f2, i2, b2, l2⟩, ⟨r3, f3, i3, b3, l3⟩, ⟨r4, f4, i4, b4, l4⟩, m12, m21, m13, m31, m14, m41, m23, m32, m24, m42, m34, m43⟩ := St.facts4 hC
                      clear hC
                      go_simp
                      have hC := hC'.out
                      (first
                         | with_reducible rfl
                         | (refine (Pur.below (refBox_pur _) _).mono ?_
                            rintro e w' ⟨rfl, hw⟩
                            exact ⟨rfl, St.call (by assumption) hw⟩)))
               try simp only [Act.put, List.setIfInBounds_toArray, List.set])
              (first
                 | (apply head_skip rfl)
                 | (apply head_step_g rfl
                    focus
                      intro w0 hC
                      (fail))
                 | (apply head_step_g rfl
                    focus
                      intro w0 hC
                      have hC' := Lib.hid hC
                      obtain ⟨⟨r1, f1, i1, b1, l1⟩, ⟨r2, f2, i2, b2, l2⟩, ⟨r3, f3, i3, b3, l3⟩, ⟨r4, f4, i4, b4, l4⟩, m12, m21, m13, m31, m14, m41, m23, m32, m24, m42, m34, m43⟩ := St.facts4 hC
                      clear hC
                      go_simp
                      have hC := hC'.out
                      (first
                         | with_reducible rfl
                         | (refine (Pur.below (refBox_pur _) _).mono ?_
                            rintro e w' ⟨rfl, hw⟩
                            exact ⟨rfl, St.call (by assumption) hw⟩)))
               try simp only [Act.put, List.setIfInBounds_toArray, List.set])
              (first
                 | (apply head_skip rfl)
                 | (apply head_step_g rfl
                    focus
                      intro w0 hC
                      (fail))
                 | (apply head_step_g rfl
                    focus
                      intro w0 hC
                      have hC' := Lib.hid hC
                      obtain ⟨⟨r1, f1, i1, b1, l1⟩, ⟨r2, f2, i2, b2, l2⟩, ⟨r3, f3, i3, b3, l3⟩, ⟨r4, f4, i4, b4, l4⟩, m12, m21, m13, m31, m14, m41, m23, m32, m24, m42, m34, m43⟩ := St.facts4 hC
                      clear hC
                      go_simp
                      have hC := hC'.out
                      (first
                         | with_reducible rfl
                         | (refine (Pur.below (refBox_pur _) _).mono ?_
                            rintro e w' ⟨rfl, hw⟩
                            exact ⟨rfl, St.call (by assumption) hw⟩)))
               try simp only [Act.put, List.setIfInBounds_toArray, List.set])
              (first
                 | (apply head_skip rfl)
                 | (apply head_step_g rfl
                    focus
                      intro w0 hC
                      (fail))
                 | (apply head_step_g rfl
                    focus
                      intro w0 hC
                      have hC' := Lib.hid hC
                      obtain ⟨⟨r1, f1, i1, b1, l1⟩, ⟨r2, f2, i2, b2, l2⟩, ⟨r3, f3, i3, b3, l3⟩, ⟨r4, f4, i4, b4, l4⟩, m12, m21, m13, m31, m14, m41, m23, m32, m24, m42, m34, m43⟩ := St.facts4 hC
                      clear hC
                      go_simp
                      have hC := hC'.out
                      (first
                         | with_reducible rfl
                         | (refine (Pur.below (refBox_pur _) _).mono ?_
                            rintro e w' ⟨rfl, hw⟩
                            exact ⟨rfl, St.call (by assumption) hw⟩)))
               try simp only [Act.put, List.setIfInBounds_toArray, List.set])
              (first
                 | (apply head_skip rfl)
                 | (apply head_step_g rfl
                    focus
                      intro w0 hC
                      (fail))
                 | (apply head_step_g rfl
                    focus
                      intro w0 hC
                      have hC' := Lib.hid hC
                      obtain ⟨⟨r1, f1, i1, b1, l1⟩, ⟨r2, f2, i2, b2, l2⟩, ⟨r3, f3, i3, b3, l3⟩, ⟨r4, f4, i4, b4, l4⟩, m12, m21, m13, m31, m14, m41, m23, m32, m24, m42, m34, m43⟩ := St.facts4 hC
                      clear hC
                      go_simp
                      have hC := hC'.out
                      (first
                         | with_reducible rfl
                         | (refine (Pur.below (refBox_pur _) _).mono ?_
                            rintro e w' ⟨rfl, hw⟩
                            exact ⟨rfl, St.call (by assumption) hw⟩)))
               try simp only [Act.put, List.setIfInBounds_toArray, List.set])
              (first
                 | (apply head_skip rfl)
                 | (apply head_step_g rfl
                    focus
                      intro w0 hC
                      (fail))
                 | (apply head_step_g rfl
                    focus
                      intro w0 hC
                      have hC' := Lib.hid hC
                      obtain ⟨⟨r1, f1, i1, b1, l1⟩, ⟨r2, f2, i2, b2, l2⟩, ⟨r3, f3, i3, b3, l3⟩, ⟨r4, f4, i4, b4, l4⟩, m12, m21, m13, m31, m14, m41, m23, m32, m24, m42, m34, m43⟩ := St.facts4 hC
                      clear hC
                      go_simp
                      have hC := hC'.out
                      (first
                         | with_reducible rfl
                         | (refine (Pur.below (refBox_pur _) _).mono ?_
                            rintro e w' ⟨rfl, hw⟩
                            exact ⟨rfl, St.call (by assumption) hw⟩)))
               try simp only [Act.put, List.setIfInBounds_toArray, List.set])
              (first
                 | (apply head_skip rfl)
                 | (apply head_step_g rfl
                    focus
                      intro w0 hC
                      (fail))
                 | (apply head_step_g rfl
                    focus
                      intro w0 hC
                      have hC' := Lib.hid hC
                      obtain ⟨⟨r1, f1, i1, b1, l1⟩, ⟨r2, f2, i2, b2, l2⟩, ⟨r3, f3, i3, b3, l3⟩, ⟨r4, f4, i4, b4, l4⟩, m12, m21, m13, m31, m14, m41, m23, m32, m24, m42, m34, m43⟩ := St.facts4 hC
                      clear hC
                      go_simp
                      have hC := hC'.out
                      (first
                         | with_reducible rfl
                         | (refine (Pur.below (refBox_pur _) _).mono ?_
                            rintro e w' ⟨rfl, hw⟩
                            exact ⟨rfl, St.call (by assumption) hw⟩)))
               try simp only [Act.put, List.setIfInBounds_toArray, List.set])
              (first
                 | (apply head_skip rfl)
                 | (apply head_step_g rfl
                    focus
                      intro w0 hC
                      (fail))
                 | (apply head_step_g rfl
                    focus
                      intro w0 hC
                      have hC' := Lib.hid hC
                      obtain ⟨⟨r1, f1, i1, b1, l1⟩, ⟨r2, f2, i2, b2, l2⟩, ⟨r3, f3, i3, b3, l3⟩, ⟨r4, f4, i4, b4, l4⟩, m12, m21, m13, m31, m14, m41, m23, m32, m24, m42, m34, m43⟩ := St.facts4 hC
                      clear hC
                      go_simp
                      have hC := hC'.out
                      (first
                         | with_reducible rfl
                         | (refine (Pur.below (refBox_pur _) _).mono ?_
                            rintro e w' ⟨rfl, hw⟩
                            exact ⟨rfl, St.call (by assumption) hw⟩)))
               try simp only [Act.put, List.setIfInBounds_toArray, List.set])
              (first
                 | (apply head_skip rfl)
                 | (apply head_step_g rfl
                    focus
                      intro w0 hC
                      (fail))
                 | (apply head_step_g rfl
                    focus
                      intro w0 hC
                      have hC' := Lib.hid hC
                      obtain ⟨⟨r1, f1, i1, b1, l1⟩, ⟨r2, f2, i2, b2, l2⟩, ⟨r3, f3, i3, b3, l3⟩, ⟨r4, f4, i4, b4, l4⟩, m12, m21, m13, m31, m14, m41, m23, m32, m24, m42, m34, m43⟩ := St.facts4 hC
                      clear hC
                      go_simp
                      have hC := hC'.out
                      (first
                         | with_reducible rfl
                         | (refine (Pur.below (refBox_pur _) _).mono ?_
                            rintro e w' ⟨rfl, hw⟩
                            exact ⟨rfl, St.call (by assumption) hw⟩)))
               try simp only [Act.put, List.setIfInBounds_toArray, List.set])
              (first
                 | (apply head_skip rfl)
                 | (apply head_step_g rfl
                    focus
                      intro w0 hC
                      (fail))
                 | (apply head_step_g rfl
                    focus
                      intro w0 hC
                      have hC' := Lib.hid hC
                      obtain ⟨⟨r1, f1, i1, b1, l1⟩, ⟨r2, f2, i2, b2, l2⟩, ⟨r3, f3, i3, b3, l3⟩, ⟨r4, f4, i4, b4, l4⟩, m12, m21, m13, m31, m14, m41, m23, m32, m24, m42, m34, m43⟩ := St.facts4 hC
                      clear hC
                      go_simp
                      have hC := hC'.out
                      (first
                         | with_reducible rfl
                         | (refine (Pur.below (refBox_pur _) _).mono ?_
                            rintro e w' ⟨rfl, hw⟩
                            exact ⟨rfl, St.call (by assumption) hw⟩)))
               try simp only [Act.put, List.setIfInBounds_toArray, List.set])
              refine wpQuiet_nil ?_
              intro w2 hC
              (have HC := Lib.hid hC
               have sos := hC.below.os
               obtain ⟨⟨r1, f1, i1, b1, l1⟩, ⟨r2, f2, i2, b2, l2⟩, ⟨r3, f3, i3, b3, l3⟩, ⟨r4, f4, i4, b4, l4⟩, m12, m21, m13, m31, m14, m41, m23, m32, m24, m42, m34, m43⟩ := St.facts4 hC
               clear hC)
              go_wp2_with fail
              have HC := Lib.hid (HC.out.set_head (blk 176 (laid key n (j + 1))))
              exact ⟨⟨j + 1, by omega, by go_num, HC⟩, by simp [intOf]; omega⟩
            · obtain rfl : j = 4 := by omega
              go_wp2_with fail
              exact ⟨⟨n + 1, by omega, by go_num, HJ⟩, by simp [intOf]; omega⟩
        · obtain rfl : n = 44 := by omega
          rw [laid_end] at HR
          have hC := HR.out
          (have HC := Lib.hid hC
           have sos := hC.below.os
           obtain ⟨⟨r1, f1, i1, b1, l1⟩, ⟨r2, f2, i2, b2, l2⟩, ⟨r3, f3, i3, b3, l3⟩, ⟨r4, f4, i4, b4, l4⟩, m12, m21, m13, m31, m14, m41, m23, m32, m24, m42, m34, m43⟩ := St.facts4 hC
           clear hC)
          go_wp2_with fail
          refine bodyPost_ret (results_row rfl _ (w.heap.size + 1) rfl (blk 176 (Ci.rounds key)) ?_ ?_ ?_ ?_) rfl ⟨rfl, ?_⟩
          · simp [go_sem, *]
          · simp [go_sem]
          · simp [go_sem]
          · simp [go_sem, *]
          · exact below_setRow' HR.out.below (by omega) _
end Go.Proofs.YtgaecjhghpkcoaaGreat
end
