/- The box, powers by the reference, and mixed columns, as the program's package gf reckons them. No condition on bytes. -/
import Derived.Test.YtmkaemnjfaofdaaGfMix3
namespace Go.Proofs.Ytmkaemnjfaofdaa
open Go.RowKit
attribute [local go_sem] B_xor B_or B_and
attribute [local go_sem] blk_set blk_size blk_get blk_getE upd_same oneCells_blk paste_blk cut_blk szOf
attribute [local go_sem high] paste_all cut_head
attribute [local go_sem] rowAt_alloc rowAt_drew rowAt_drewN isRow_alloc isRow_drew isRow_drewN freeRow_alloc freeRow_drew freeRow_drewN
attribute [local go_sem] setRow_alloc setRow_drew setRow_drewN setCell_drewN alloc_drewN rowAt_setRow isRow_setRow freeRow_setRow
attribute [local go_sem ↓] loadS_in storeS_in indexS_in copyS_in
attribute [local go_sem] loadS_row loadS_one storeS_row storeS_one indexS_blk copyS_rows

set_option maxHeartbeats 400000 in
theorem box_pur (a : UInt8) : Pur Try.prog 15 #[.int .u8 (B a)] (.int .u8 (B (Gf.box a))) := by
  intro w
  go_enter Try.func15, Try.ntmps15
  go_wp2_with fail
  refine (inv_pur a).go _ |>.mono ?_; rintro e w' ⟨rfl, k1, rfl⟩
  go_wp2_with fail
  refine (turned_pur _ 1 (by omega) (by omega)).go _ |>.mono ?_; rintro e w' ⟨rfl, k2, rfl⟩
  go_wp2_with fail
  refine (turned_pur _ 2 (by omega) (by omega)).go _ |>.mono ?_; rintro e w' ⟨rfl, k3, rfl⟩
  go_wp2_with fail
  refine (turned_pur _ 3 (by omega) (by omega)).go _ |>.mono ?_; rintro e w' ⟨rfl, k4, rfl⟩
  go_wp2_with fail
  refine (turned_pur _ 4 (by omega) (by omega)).go _ |>.mono ?_; rintro e w' ⟨rfl, k5, rfl⟩
  go_wp2_with fail
  go_ret
  refine ⟨?_, _, rfl⟩
  have h99 : (99 : Int) = B 99 := rfl
  simp only [h99, B_xor]
  rfl

set_option maxHeartbeats 400000 in
theorem refPow_pur (a : UInt8) (n : Int) (h0 : 0 ≤ n) (h1 : n ≤ 1099511627776) : Pur Try.prog 13 #[.int .u8 (B a), .int .i64 n] (.int .u8 (B (Gf.pow a n.toNat))) := by
  obtain ⟨n, rfl⟩ := Int.eq_ofNat_of_zero_le h0
  rw [Int.toNat_natCast]
  intro w
  go_enter Try.func13, Try.ntmps13
  go_wp2_with fail
  go_loopw [5, 6] (fun o i wr => ∃ k : Nat, k ≤ n ∧ i = .int .i64 (k : Int) ∧ o = .int .u8 (B (Gf.pow a k)) ∧ Hid (∃ k, wr = w.drewN k)) (fun _ i _ => n - (intOf i).toNat)
  case atStart => exact ⟨0, by omega, rfl, rfl, 0, rfl⟩
  case round =>
    obtain ⟨k, hk, rfl, rfl, HW⟩ := hrel
    by_cases hlt : k < n
    · go_wp2_with fail
      refine (refMul_pur _ _).go _ |>.mono ?_; rintro e w' ⟨rfl, k1, rfl⟩
      go_wp2_with fail
      go_roundw
      case rel =>
        refine ⟨k + 1, by omega, by go_num, rfl, ?_⟩
        exact drew_on HW _
      case measure => simp [intOf]; omega
    · go_wp2_with fail
      go_ret
      obtain rfl : k = n := by omega
      exact ⟨rfl, HW.out⟩

theorem built_mix : ((((blk 4 fun _ => 0).setIfInBounds 0 (Value.int .u8 2)).setIfInBounds 1 (Value.int .u8 3)).setIfInBounds 2 (Value.int .u8 1)).setIfInBounds 3 (Value.int .u8 1) = blk 4 (four 2 3 1 1) := rfl
set_option maxHeartbeats 400000 in
theorem mix_any (c : Nat → UInt8) (w : World) : Calls Try.prog 17 #[.agg (blk 4 c)] w fun e w' => e = .returned (.agg (blk 4 (Gf.mix c))) ∧ Below w.heap.size w w' := by
  have hz := zero4
  have hb := built_mix
  go_enter Try.func17, Try.ntmps17
  go_wp2_with fail
  refine (column_any _ _ _).mono ?_; rintro e w1 ⟨rfl, hw⟩
  rw [colOut_mix]
  have r1 : rowAt w1 (w.heap.size + 1) = blk 4 (fun _ => 0) := (below_rowAt hw (by simp)).trans (by simp [go_sem])
  have r2 : freeRow w1 (w.heap.size + 1) = true := (below_freeRow hw (by simp)).trans (by simp [go_sem])
  have r3 : isRow w1 (w.heap.size + 1) = true := (below_isRow hw (by simp)).trans (by simp [go_sem])
  have HW := Lib.hid hw; clear hw
  go_wp2_with fail
  refine bodyPost_ret (results_row rfl _ (w.heap.size + 1) rfl (blk 4 (Gf.mix c)) (by simp [go_sem, r3]) (by simp [go_sem]) (by simp [go_sem]) (by simp [go_sem, r3])) rfl ⟨rfl, ?_⟩
  refine below_setRow' ?_ (by omega) _
  exact (((Below.refl _ _).alloc (Nat.le_refl _) _).alloc (by simp) _).trans (HW.out.mono (by simp; omega))

end Go.Proofs.Ytmkaemnjfaofdaa
