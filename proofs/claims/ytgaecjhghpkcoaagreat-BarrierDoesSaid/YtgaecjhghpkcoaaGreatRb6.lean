/- The reference's numbers, taken: Stands, TakeNum of four bytes. -/
import Derived.Test.YtgaecjhghpkcoaaGreatRb5
import Derived.Test.YtgaecjhghpkcoaaGreatMBar2
namespace Go.Proofs.YtgaecjhghpkcoaaGreat
open Go.RowKit
attribute [local go_sem] B_xor B_or B_and
attribute [local go_sem] blk_set blk_size blk_get blk_getE upd_same oneCells_blk paste_blk cut_blk szOf
attribute [local go_sem high] paste_all cut_head
attribute [local go_sem] rowAt_alloc rowAt_drew rowAt_drewN isRow_alloc isRow_drew isRow_drewN freeRow_alloc freeRow_end freeRow_drew freeRow_drewN
attribute [local go_sem] setRow_alloc setRow_drew setRow_drewN setCell_drewN alloc_drewN rowAt_put isRow_setRow freeRow_put
attribute [local go_sem ↓] loadS_in storeS_in indexS_in copyS_in
attribute [local go_sem] loadS_row loadS_one storeS_row storeS_one indexS_blk copyS_rows run_equalIn_blk same_refl arrayAt_row
attribute [local go_sem] cell_row frozen_row st_setCell st_blk_ne stepAt stepUpon
attribute [local go_sem high] run_eql_blk run_neq_blk
attribute [local go_sem ↓] convBS_in
attribute [local go_sem] convBS_row convBS_nil allBytes_blk bytesOf_blk
theorem size_rsc (w : World) : (sizeOf 101).run Tryz.prog w = .ok 3 w := by simp [go_sem]
theorem agg_rsc (w : World) : (isAgg 101).run Tryz.prog w = .ok true w := by simp [go_sem]
attribute [local go_sem] size_rsc agg_rsc sc_size sc_get0 sc_get1 sc_get2 sc_getE0 sc_getE1 sc_getE2 sc_set1 sc_set2 sc_ne sc_one sc_cut sc_paste
theorem sc_made (s : ByteArray) (p e : Nat) : #[Value.string s, .int .i64 (p : Int), .int .i64 (e : Int)] = sc s p e := rfl
theorem sc_nought : #[Value.string ⟨#[]⟩, .int .i64 0, .int .i64 0] = sc ⟨#[]⟩ 0 0 := rfl
theorem refStands0 (s : ByteArray) (w : World) : Calls Tryz.prog 75 #[.agg (sc s 0 0)] w fun e w' => e = .returned (.bool true) ∧ Below w.heap.size w w' := by
  have HC := Lib.hid ((St.nil w).pushA (sc s 0 0) 101 rfl)
  have hn : decide ((0 : Int) ≤ (s.size : Int)) = true := decide_eq_true (by omega)
  go_enter Tryz.func75, Tryz.ntmps75
  (obtain ⟨r1, f1, i1, b1, l1⟩ := St.facts1 (HC.out.pick [0] (by decide) rfl))
  go_wp2_with fail
  go_ret
  exact ⟨rfl, HC.out.below⟩
set_option maxRecDepth 100000 in
set_option maxHeartbeats 2000000 in
theorem refTake4 (s : ByteArray) (h : 4 ≤ s.size) (hs : s.size < 2 ^ 40) (w : World) : Calls Tryz.prog 47 #[.agg (sc s 0 0), .int .i64 4] w fun e w' => e = .returned (.tuple #[.int .u64 ((numAt s 0 4 : Nat) : Int), .agg (sc s 4 0)]) ∧ Below w.heap.size w w' := by
  have hz := sc_nought
  have hN : numAt s 0 4 = numTo (ofText s) 4 := by unfold numAt; exact numTo_congr fun i _ => by rw [Nat.zero_add]
  rw [hN]
  have T1 := Lib.hid (refStands0 s)
  have HC := Lib.hid (((St.nil w).pushA (sc s 0 0) 101 rfl).pushA (sc ⟨#[]⟩ 0 0) 101 (g := w.heap.size + 1) (by simp))
  have n1 : (4 : Int) ≤ (s.size : Int) := by omega
  have n2 : (s.size : Int) ≤ 1099511627776 := by omega
  clear hN
  go_enter Tryz.func47, Tryz.ntmps47
  (obtain ⟨⟨r1, f1, i1, b1, l1⟩, ⟨r2, f2, i2, b2, l2⟩, m12, m21⟩ := St.facts2 (HC.out.pick [0, 1] (by decide) rfl))
  go_wp2_with fail
  (clear r1 f1 i1 b1 l1 r2 f2 i2 b2 l2 m12 m21)
  refine (T1.out _).mono ?_; rintro e w1 ⟨rfl, hw⟩
  have HC := Lib.hid (HC.out.call hw)
  clear hw
  (obtain ⟨⟨r1, f1, i1, b1, l1⟩, ⟨r2, f2, i2, b2, l2⟩, m12, m21⟩ := St.facts2 (HC.out.pick [0, 1] (by decide) rfl))
  go_wp2_with fail
  go_loopw [6, 7] (fun n i wr => ∃ k : Nat, k ≤ 4 ∧ i = .int .i64 (k : Int) ∧ n = .int .u64 ((numTo (ofText s) k : Nat) : Int) ∧ wr = w1) (fun _ i _ => (4 - intOf i).toNat)
  case atStart => exact ⟨0, by omega, rfl, rfl, rfl⟩
  case round =>
    obtain ⟨k, hk, rfl, rfl, rfl⟩ := hrel
    by_cases hlt : k < 4
    · have d1 : (k : Int) < 4 := by omega
      have hb := numTo_lt (ofText s) k
      have hp : 256 ^ k ≤ 256 ^ 3 := Nat.pow_le_pow_right (by omega) (by omega)
      have hstep : numTo (ofText s) (k + 1) = 256 * numTo (ofText s) k + (ofText s k).toNat := by show numTo (ofText s) k * 256 + _ = _; omega
      obtain ⟨N, hN⟩ : ∃ N, numTo (ofText s) k = N := ⟨_, rfl⟩
      rw [hN] at hb hstep ⊢
      have nb : (N : Int) ≤ 16777216 := by omega
      have hidx := indexS_text (P := Tryz.prog) (w := wr) 9 s k Tryz.underlying9 (by omega)
      obtain ⟨b, hB⟩ : ∃ b : Nat, (ofText s k).toNat = b := ⟨_, rfl⟩
      have hb8 : b < 256 := hB ▸ UInt8.toNat_lt _
      have hBB : B (ofText s k) = (b : Int) := by rw [← hB]; rfl
      rw [hB] at hstep
      rw [hBB] at hidx
      have hb9 : (b : Int) ≤ 255 := by omega
      have n3 : (k : Int) < (s.size : Int) := by omega
      clear hb hp hN hB hBB
      go_wp2_with fail
      go_roundw
      case rel => exact ⟨k + 1, by omega, by go_num, by rw [hstep]; go_num, trivial⟩
      case measure => simp [intOf]; omega
    · obtain rfl : k = 4 := by omega
      go_wp2_with fail
      have hbld : ((((sc ⟨#[]⟩ 0 0).setIfInBounds 0 (.string s)).setIfInBounds 1 (.int .i64 4)).setIfInBounds 2 (.int .i64 0)) = sc s 4 0 := by simp [sc]
      (obtain ⟨⟨r1, f1, i1, b1, l1⟩, ⟨r2, f2, i2, b2, l2⟩, m12, m21⟩ := St.facts2 (HC.out.pick [0, 1] (by decide) rfl))
      go_region
      all_goals
        go_wp2_with fail
        refine bodyPost_ret (results_qp rfl _ (w.heap.size + 1) rfl (sc s 4 0) ?_ ?_ ?_ ?_ (.int .u64 ((numTo (ofText s) 4 : Nat) : Int)) rfl) rfl ⟨rfl, ?_⟩
        · simp [go_sem, *]
        · simp [go_sem]
        · simp [go_sem]
        · simp [go_sem, *]
        · repeat
            first
              | (with_reducible exact HC.out.below)
              | (with_reducible refine Below.drew ?_)
              | (with_reducible refine below_setRow' ?_ (by omega) _)
end Go.Proofs.YtgaecjhghpkcoaaGreat
