/- The reference's columns mixed. No condition on bytes. -/
import Derived.Test.YtepooocdpifcfaaCiRef
import Derived.Deep.CutRange
namespace Go.Proofs.Ytepooocdpifcfaa
open Go.RowKit
attribute [local go_sem] B_xor B_or B_and
attribute [local go_sem] blk_set blk_size blk_get blk_getE upd_same oneCells_blk paste_blk cut_blk szOf
attribute [local go_sem high] paste_all cut_head
attribute [local go_sem] rowAt_alloc rowAt_drew rowAt_drewN isRow_alloc isRow_drew isRow_drewN freeRow_alloc freeRow_drew freeRow_drewN
attribute [local go_sem] setRow_alloc setRow_drew setRow_drewN setCell_drewN alloc_drewN rowAt_setRow isRow_setRow freeRow_setRow
attribute [local go_sem ↓] loadS_in storeS_in indexS_in copyS_in
attribute [local go_sem] loadS_row loadS_one storeS_row storeS_one indexS_blk copyS_rows run_equalIn_blk same_refl arrayAt_row
attribute [local go_sem] cell_row frozen_row setCell_row blk_ne

@[reducible] def MxAt (w : World) (b : Nat → UInt8) (n : Nat) (wr : World) : Prop :=
  rowAt wr w.heap.size = blk 16 (upTo b (Ci.columns Gf.mix b) n) ∧ freeRow wr w.heap.size = true ∧ isRow wr w.heap.size = true ∧ rowAt wr (w.heap.size + 1) = blk 16 (fun _ => 0) ∧ freeRow wr (w.heap.size + 1) = true ∧ isRow wr (w.heap.size + 1) = true ∧
    w.heap.size + 2 ≤ wr.heap.size ∧ Below w.heap.size w wr
def MxG (w : World) (b : Nat → UInt8) (c n g : Nat) (wr : World) : Prop :=
  MxAt w b n wr ∧ rowAt wr g = blk 4 (Gf.mix (Ci.col b c)) ∧ isRow wr g = true ∧ w.heap.size + 2 ≤ g ∧ g < wr.heap.size
theorem mxAt_call {w a c : World} {b : Nat → UInt8} {n : Nat} (h : MxAt w b n a) (hb : Below a.heap.size a c) : MxAt w b n c := by
  obtain ⟨r1, r2, r3, r4, r5, r6, r9, hB⟩ := h
  exact ⟨(below_rowAt hb (by omega)).trans r1, (below_freeRow hb (by omega)).trans r2, (below_isRow hb (by omega)).trans r3, (below_rowAt hb (by omega)).trans r4, (below_freeRow hb (by omega)).trans r5, (below_isRow hb (by omega)).trans r6,
    Nat.le_trans r9 hb.size, hB.trans (hb.mono (by omega))⟩
theorem mxAt_drew {w a : World} {b : Nat → UInt8} {n : Nat} (h : MxAt w b n a) : MxAt w b n a.drew := by
  obtain ⟨r1, r2, r3, r4, r5, r6, r9, hB⟩ := h
  exact ⟨r1, r2, r3, r4, r5, r6, r9, hB.drew⟩
theorem mxAt_alloc {w a : World} {b : Nat → UInt8} {n : Nat} (h : MxAt w b n a) (c : Array Value) (t : TypeId) : MxAt w b n (a.alloc (.cells c t)) := by
  have hsz := h.2.2.2.2.2.2.1
  exact mxAt_call h ((Below.refl _ _).alloc (Nat.le_refl _) _)
theorem mxAt_set {w a : World} {b : Nat → UInt8} {n g : Nat} (h : MxAt w b n a) (hg : w.heap.size + 2 ≤ g) (hr : isRow a g = true) (cs : Array Value) : MxAt w b n (a.setRow g cs) := by
  obtain ⟨r1, r2, r3, r4, r5, r6, r9, hB⟩ := h
  have m1 : (w.heap.size = g) = False := by simp; omega
  have m2 : (w.heap.size + 1 = g) = False := by simp; omega
  refine ⟨?_, ?_, ?_, ?_, ?_, ?_, ?_, ?_⟩
  all_goals first | (simp [go_sem, *]; done) | exact below_setRow' hB (by omega) _
theorem mxAt_step {w a : World} {b : Nat → UInt8} {n m : Nat} (h : MxAt w b n a) : MxAt w b m (a.setRow w.heap.size (blk 16 (upTo b (Ci.columns Gf.mix b) m))) := by
  obtain ⟨r1, r2, r3, r4, r5, r6, r9, hB⟩ := h
  refine ⟨?_, ?_, ?_, ?_, ?_, ?_, ?_, ?_⟩
  all_goals first | (simp [go_sem, *]; done) | exact below_setRow' hB (Nat.le_refl _) _
theorem col4 (b : Nat → UInt8) (f : Nat → UInt8) (c : Nat) : blk 4 (upd (upd (upd (upd (fun _ => 0) 0 (upTo b f (at4 c 0) (at4 c 0))) 1 (upTo b f (at4 c 0) (at4 c 1))) 2 (upTo b f (at4 c 0) (at4 c 2))) 3 (upTo b f (at4 c 0) (at4 c 3))) = blk 4 (Ci.col b c) := blk_congr fun i hi => by
  have h : ∀ j, upTo b f (at4 c 0) (at4 c j) = b (at4 c j) := fun j => by unfold upTo at4; rw [if_neg (by omega)]
  rw [h, h, h, h]
  rcases Ci.four_cases hi with rfl | rfl | rfl | rfl <;> rfl
theorem columns_at (b : Nat → UInt8) (c j : Nat) (hj : j < 4) : Ci.columns Gf.mix b (at4 c j) = Gf.mix (Ci.col b c) j := by
  unfold Ci.columns at4
  rw [show (4 * c + j) / 4 = c by omega, show (4 * c + j) % 4 = j by omega]

set_option maxRecDepth 100000 in
set_option maxHeartbeats 1000000 in
theorem refMixes_any (b : Nat → UInt8) (w : World) : Calls Try.prog 56 #[.agg (blk 16 b)] w fun e w' => e = .returned (.agg (blk 16 (Ci.columns Gf.mix b))) ∧ Below w.heap.size w w' := by
  have hz := zero16
  have hz4 := zero4
  go_enter Try.func56, Try.ntmps56
  go_wp2_with fail
  go_loopw [3] (fun i wr => ∃ c : Nat, c ≤ 4 ∧ i = .int .i64 (c : Int) ∧ Hid (MxAt w b (at4 c 0) wr)) (fun i _ => 4 - (intOf i).toNat)
  case atStart =>
    refine ⟨0, by omega, rfl, Lib.hid ⟨?_, ?_, ?_, ?_, ?_, ?_, ?_, ?_⟩⟩
    · simp [go_sem]; exact (upTo_zero _ _ _).symm
    all_goals first | exact ((Below.refl _ _).alloc (Nat.le_refl _) _).alloc (by simp) _ | (simp [go_sem]; done) | skip
  case round =>
    obtain ⟨c, hc, rfl, HR⟩ := hrel
    by_cases hlt : c < 4
    · have hd : decide ((c : Int) < 4) = true := by simp; omega
      have v0 : IntKind.i64.wrap (4 * (c : Int)) = (at4 c 0 : Int) := by rw [IntWalk.i64_in _ (by omega)]; unfold at4; omega
      have v1 : IntKind.i64.wrap ((at4 c 0 : Int) + 1) = (at4 c 1 : Int) := by unfold at4; rw [IntWalk.i64_in _ (by omega)]; omega
      have v2 : IntKind.i64.wrap ((at4 c 0 : Int) + 2) = (at4 c 2 : Int) := by unfold at4; rw [IntWalk.i64_in _ (by omega)]; omega
      have v3 : IntKind.i64.wrap ((at4 c 0 : Int) + 3) = (at4 c 3 : Int) := by unfold at4; rw [IntWalk.i64_in _ (by omega)]; omega
      have c0 : at4 c 0 < 16 := by unfold at4; omega
      have c1 : at4 c 1 < 16 := by unfold at4; omega
      have c2 : at4 c 2 < 16 := by unfold at4; omega
      have c3 : at4 c 3 < 16 := by unfold at4; omega
      have d0 : (at4 c 0 : Int) < 16 := by omega
      have d1 : (at4 c 1 : Int) < 16 := by omega
      have d2 : (at4 c 2 : Int) < 16 := by omega
      have d3 : (at4 c 3 : Int) < 16 := by omega
      have hcol := col4 b (Ci.columns Gf.mix b) c
      go_wp2_with fail
      go_upto_region 4 with fail
      go_cut [4] from 6 to 42 (fun p wx => ∃ g, p = .pointer (some ⟨g, 0, none⟩) ∧ Hid (MxG w b c (at4 c 0) g wx))
      case first =>
        have hm := HR.out
        have s1 := hm.2.2.2.2.2.2.2.os
        obtain ⟨r1, r2, r3, r4, r5, r6, r9, hB⟩ := hm
        clear hB
        have HM := HR.out
        go_region_held3 (fun w' => rowAt w' w.heap.size = blk 16 (upTo b (Ci.columns Gf.mix b) (at4 c 0)) ∧ freeRow w' w.heap.size = true ∧ isRow w' w.heap.size = true ∧ rowAt w' (w.heap.size + 1) = blk 16 (fun _ => 0) ∧ freeRow w' (w.heap.size + 1) = true ∧ isRow w' (w.heap.size + 1) = true ∧ w.heap.size + 2 ≤ w'.heap.size ∧ Below w.heap.size w w')
          (first | (with_reducible exact mxAt_drew HM) | (with_reducible exact q4.out) | (with_reducible exact mxAt_alloc q4.out _ _) | (with_reducible exact mxAt_drew (mxAt_alloc HM _ _)) | (apply mxAt_call <;> assumption) | (apply mxAt_alloc; assumption) | (apply mxAt_set <;> first | assumption | omega | (simp [go_sem, *]; done)))
          (first | (go_at_call 63; refine (refMix_any _ _).mono ?_; rintro e w' ⟨rfl, hw⟩; have q4 : Hid (MxAt w b (at4 c 0) w') := Lib.hid (by apply mxAt_call <;> assumption); have q1 := fun g hg => below_freeRow hw (g := g) hg; have q2 := fun g hg => below_isRow hw (g := g) hg; have q3 := fun g hg => below_rowAt hw (g := g) hg))
        all_goals
          go_wp2_with fail
          go_meet
          refine ⟨_, rfl, Lib.hid ⟨by assumption, ?_, ?_, ?_, ?_⟩⟩
          · simp [go_sem, *]
          · simp [go_sem, *]
          · first | exact r9 | exact q4.out.2.2.2.2.2.2.1
          · first | (simp [go_sem]; done) | (simp [go_sem]; have := hw.size; simp at this; omega)
      case rest =>
        obtain ⟨g, rfl, HG⟩ := hcut
        clear hcol v1 v2 v3 c0 c1 c2 c3 d0 d1 d2 d3 HR
        go_wp2_with fail
        go_loopw [5] (fun i wr => ∃ j : Nat, j ≤ 4 ∧ i = .int .i64 (j : Int) ∧ Hid (MxG w b c (at4 c j) g wr)) (fun i _ => 4 - (intOf i).toNat)
        case atStart => exact ⟨0, by omega, rfl, HG⟩
        case round =>
          clear HG
          obtain ⟨j, hj, rfl, HJ⟩ := hrel
          by_cases hjt : j < 4
          · have hm := HJ.out
            obtain ⟨hm1, g1, g2, g3, g4⟩ := hm
            have HM := Lib.hid hm1
            obtain ⟨r1, r2, r3, r4, r5, r6, r9, hB⟩ := hm1
            have HB := Lib.hid hB; clear hB HJ r4 r5 r6
            have v2 : IntKind.i64.wrap ((at4 c 0 : Int) + (j : Int)) = (at4 c j : Int) := by unfold at4; rw [IntWalk.i64_in _ (by omega)]; omega
            have c1 : at4 c j < 16 := by unfold at4; omega
            have c2 : (at4 c j : Int) < 16 := by omega
            have hca := columns_at b c j hjt
            have hn := upTo_next 16 b (Ci.columns Gf.mix b) (at4 c j)
            rw [hca] at hn
            have hn' : blk 16 (upTo b (Ci.columns Gf.mix b) (at4 c j + 1)) = blk 16 (upTo b (Ci.columns Gf.mix b) (at4 c (j + 1))) := rfl
            rw [hn'] at hn
            go_wp2_with fail
            have m1 : (g = w.heap.size) = False := by simp; omega
            refine ⟨⟨j + 1, by omega, by go_num, Lib.hid ⟨mxAt_step HM.out, ?_, ?_, g3, ?_⟩⟩, by simp [intOf]; omega⟩
            · simp [go_sem, *]
            · simp [go_sem, *]
            · simp [go_sem]; omega
          · obtain rfl : j = 4 := by omega
            have hm := HJ.out.1
            go_wp2_with fail
            exact ⟨⟨c + 1, by omega, by go_num, Lib.hid hm⟩, by simp [intOf]; omega⟩
    · obtain rfl : c = 4 := by omega
      have hm := HR.out
      obtain ⟨r1, r2, r3, r4, r5, r6, r9, hB⟩ := hm
      have HB := Lib.hid hB; clear hB HR
      have ha : blk 16 (upTo b (Ci.columns Gf.mix b) (at4 4 0)) = blk 16 (Ci.columns Gf.mix b) := upTo_all _ _ _
      rw [ha] at r1; clear ha
      go_wp2_with fail
      refine bodyPost_ret (results_row rfl _ (w.heap.size + 1) rfl (blk 16 (Ci.columns Gf.mix b)) ?_ ?_ ?_ ?_) rfl ⟨rfl, ?_⟩
      · simp [go_sem, r6]
      · simp [go_sem]
      · simp [go_sem]
      · simp [go_sem, r6]
      · exact below_setRow' HB.out (by omega) _
end Go.Proofs.Ytepooocdpifcfaa
