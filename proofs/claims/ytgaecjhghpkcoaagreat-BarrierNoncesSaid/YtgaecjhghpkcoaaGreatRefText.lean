/- The reference's Text of a list of keys. Lists of no more than six keys. -/
import Derived.Test.YtgaecjhghpkcoaaGreatRef20
namespace Go.Proofs.YtgaecjhghpkcoaaGreat
open Go.RowKit
attribute [local go_sem] B_xor B_or B_and
attribute [local go_sem] blk_set blk_size blk_get blk_getE upd_same oneCells_blk paste_blk cut_blk szOf
attribute [local go_sem high] paste_all cut_head
attribute [local go_sem] rowAt_alloc rowAt_drew rowAt_drewN isRow_alloc isRow_drew isRow_drewN freeRow_alloc freeRow_end freeRow_drew freeRow_drewN
attribute [local go_sem] setRow_alloc setRow_drew setRow_drewN setCell_drewN alloc_drewN rowAt_put isRow_setRow freeRow_put
attribute [local go_sem ↓] loadS_in storeS_in indexS_in copyS_in
attribute [local go_sem] loadS_row loadS_one storeS_row storeS_one indexS_blk copyS_rows run_equalIn_blk same_refl arrayAt_row
attribute [local go_sem] cell_row frozen_row st_setCell st_blk_ne stepAt stepUpon
attribute [local go_sem high] run_eql_blk run_neq_blk
attribute [local go_sem ↓] convBS_in
attribute [local go_sem] convBS_row convBS_nil allBytes_blk bytesOf_blk

theorem Keys16.form {w : World} {v : Value} {n : Nat} {f : Nat → UInt8} (h : Keys16 w v n f) : ∃ a c, v = .slice a n c := by
  rcases h with ⟨rfl, rfl⟩ | ⟨g, c, F, rfl, _⟩
  · exact ⟨_, _, rfl⟩
  · exact ⟨_, _, rfl⟩
theorem Keys16.open {w : World} {a : Option Addr} {n c : Nat} {f : Nat → UInt8} (h : Keys16 w (.slice a n c) n f) (hn : 0 < n) : ∃ g F, a = some ⟨g, 0, none⟩ ∧ n ≤ c ∧ g < w.heap.size ∧ rowAt w g = blk (c * 16) F ∧ isRow w g = true ∧ ∀ i, i < n * 16 → F i = f i := by
  rcases h with ⟨_, h⟩ | ⟨g, c', F, h, h1, h2, h3, h4, h5⟩
  · omega
  · injection h with h6 _ h7
    subst h7
    exact ⟨g, F, h6, h1, h2, h3, h4, h5⟩
theorem blk_one (x : UInt8) : #[Value.int .u8 (B x)] = blk 1 fun _ => x := rfl
theorem ringB_snoc {m : Nat} {f F F2 : Nat → UInt8} {n : Nat} {x : UInt8} (h : ∀ i, i < 1 + m → F i = ringB n f i) (h2 : ∀ i, i < 1 + m + 1 → F2 i = glue (1 + m) F (fun _ => x) i) (hx : x = f m) : ∀ i, i < 1 + (m + 1) → F2 i = ringB n f i := by
  intro i hi
  rw [h2 i (by omega)]
  unfold glue
  split
  · rename_i h3; exact h i h3
  · rename_i h3
    rw [hx]
    unfold ringB glue
    rw [if_neg (by omega)]
    rw [show i - 1 = m by omega]
set_option maxRecDepth 100000 in
set_option maxHeartbeats 2000000 in
theorem refText_any (v : Value) (n : Nat) (f : Nat → UInt8) (h : n ≤ 6) (w : World) (hv : Keys16 w v n f) : Calls Tryz.prog 58 #[v] w fun e w' => e = .returned (.string (strOf (1 + n * 16) (ringB n f))) ∧ Below w.heap.size w w' := by
  have n6 : (n : Int) ≤ 6 := by omega
  have v0 := byte_of n
  have HV := Lib.hid hv
  obtain ⟨a, c, rfl⟩ := hv.form
  clear hv
  have HC := Lib.hid ((St.nil w).push (blk 1 fun _ => UInt8.ofNat n) 5)
  go_enter Tryz.func58, Tryz.ntmps58
  go_wp2_with fail
  rw [blk_one]
  go_loopw [3, 4, 5] (fun b i _ wr => ∃ j : Nat, j ≤ n ∧ i = .int .i64 (j : Int) ∧ ∃ g' c' F', b = .slice (some ⟨g', 0, none⟩) (1 + j * 16) c' ∧ Hid (1 + j * 16 ≤ c') ∧ Hid (∀ i, i < 1 + j * 16 → F' i = ringB n f i) ∧ Hid (St w [(g', blk c' F')] wr)) (fun _ i _ _ => n - (intOf i).toNat)
  case atStart => exact ⟨0, by omega, rfl, _, _, _, rfl, Lib.hid (by omega), Lib.hid (fun i hi => by unfold ringB glue; rw [if_pos (by omega)]), HC⟩
  case round =>
    clear HC
    obtain ⟨j, hj, rfl, g', c', F', rfl, HM, HF, HJ⟩ := hrel
    by_cases hlt : j < n
    · have d1 : (j : Int) < (n : Int) := by omega
      obtain ⟨g0, F0, rfl, q1, q2, q3, q4, q5⟩ := HV.out.open (by omega)
      have Q := Lib.hid (And.intro q1 (And.intro q2 (And.intro q3 (And.intro q4 q5))))
      clear q1 q2 q3 q4 q5
      go_wp2_with fail
      obtain ⟨wo, rfl⟩ : ∃ wo : World, wo = wr := ⟨_, rfl⟩
      go_loopw [3, 5] (fun b i wr => ∃ k : Nat, k ≤ 16 ∧ i = .int .i64 (k : Int) ∧ ∃ g' c' F', b = .slice (some ⟨g', 0, none⟩) (1 + (j * 16 + k)) c' ∧ Hid (1 + (j * 16 + k) ≤ c') ∧ Hid (∀ i, i < 1 + (j * 16 + k) → F' i = ringB n f i) ∧ Hid (St w [(g', blk c' F')] wr)) (fun _ i _ => 16 - (intOf i).toNat)
      case atStart => exact ⟨0, by omega, rfl, g', c', F', rfl, HM, HF, HJ⟩
      case round =>
        clear HJ HM HF
        obtain ⟨k, hk, rfl, g2, c2, F2, rfl, HM, HF, HJ⟩ := hrel
        by_cases hlk : k < 16
        · have d2 : (k : Int) < 16 := by omega
          obtain ⟨q1, q2, q3, q4, q5⟩ := Q.out
          have r0 := (below_rowAt HJ.out.below q2).trans q3
          have i0 := (below_isRow HJ.out.below q2).trans q4
          have hjk : j * 16 + k < c * 16 := by omega
          have x1 := q5 (j * 16 + k) (by omega)
          clear q1 q2 q3 q4 q5
          have X1 := Lib.hid x1
          clear x1
          go_wp2_with (at_builtin; refine stop_list ?_)
          rw [blk_one]
          have HC := Lib.hid (HJ.out.push (blk 1 fun _ => F0 (j * 16 + k)) 5).swap
          refine wpList_append_bytes (w0 := w) rfl (.tmp 20) (.tmp 27) rfl g2 (1 + (j * 16 + k)) c2 F2 rfl HC.out HM.out _ 0 1 1 (fun _ => F0 (j * 16 + k)) rfl (by simp [isRow_alloc]) (by simp [rowAt_alloc, blk_size]) (by simp [rowAt_alloc]; exact cut_head 1 _ 1 (Nat.le_refl _)) (by omega) ?_
          clear HC r0 i0
          intro g3 c3 F3 w3 hc3 hF3 hw3
          have HC := Lib.hid hw3.over
          have HF3 := Lib.hid (ringB_snoc HF.out hF3 X1.out)
          have HC3 := Lib.hid hc3
          clear hF3 hw3 hc3
          go_wp2_with fail
          go_roundw
          case rel => exact ⟨k + 1, by omega, by go_num, g3, c3, F3, by go_num, Lib.hid (by have := HC3.out; omega), Lib.hid (fun i hi => HF3.out i (by omega)), HC⟩
          case measure => simp [intOf]; omega
        · obtain rfl : k = 16 := by omega
          go_wp2_with fail
          go_roundw
          case rel => exact ⟨j + 1, by omega, by go_num, g2, c2, F2, by go_num, Lib.hid (by have := HM.out; omega), Lib.hid (fun i hi => HF.out i (by omega)), HJ⟩
          case measure => simp [intOf]; omega
    · obtain rfl : j = n := by omega
      have hcs := HM.out
      have hC := HJ.out
      (have HC := Lib.hid hC
       have sos := hC.below.os
       obtain ⟨r1, f1, i1, b1, l1⟩ := St.facts1 hC
       clear hC)
      go_wp2_with fail
      go_ret
      exact ⟨congrArg (fun x => Ending.returned (.string x)) (strOf_congr HF.out), HC.out.below⟩
end Go.Proofs.YtgaecjhghpkcoaaGreat
