/- The program's Ring.Text: a byte with how many keys there are, then the keys. Rings of no more than six keys. -/
import Derived.Test.YtgaecjhghpkcoaaGreatLay
namespace Go.Proofs.YtgaecjhghpkcoaaGreat
open Go.RowKit
attribute [local go_sem] B_xor B_or B_and
attribute [local go_sem] blk_set blk_size blk_get blk_getE upd_same oneCells_blk paste_blk cut_blk szOf
attribute [local go_sem high] paste_all cut_head
attribute [local go_sem] rowAt_alloc rowAt_drew rowAt_drewN isRow_alloc isRow_drew isRow_drewN freeRow_alloc freeRow_end freeRow_drew freeRow_drewN
attribute [local go_sem] setRow_alloc setRow_drew setRow_drewN setCell_drewN alloc_drewN rowAt_put isRow_setRow freeRow_put
attribute [local go_sem ↓] loadS_in storeS_in indexS_in copyS_in
attribute [local go_sem] loadS_row loadS_one storeS_row storeS_one indexS_blk copyS_rows run_equalIn_blk same_refl arrayAt_row
attribute [local go_sem] cell_row frozen_row st_setCell st_blk_ne stepAt stepUpon
attribute [local go_sem high] run_eql_blk run_neq_blk
attribute [local go_sem ↓] convBS_in
attribute [local go_sem] convBS_row convBS_nil allBytes_blk bytesOf_blk
attribute [local go_sem] rg_size rg_get0 rg_getE0 rg_ne rg_set0 rg_one rg_cut rg_key rg_put rg_paste part_rg0 part_rg1

/-- the bytes of a ring's text -/
def ringB (n : Nat) (f : Nat → UInt8) : Nat → UInt8 := glue 1 (fun _ => UInt8.ofNat n) f
theorem ringB_step {m : Nat} {f F F2 G : Nat → UInt8} {n : Nat} (h : ∀ i, i < 1 + m → F i = ringB n f i) (h2 : ∀ i, i < 1 + m + 16 → F2 i = glue (1 + m) F G i) (hG : ∀ j, j < 16 → G j = f (m + j)) : ∀ i, i < 1 + m + 16 → F2 i = ringB n f i := by
  intro i hi
  rw [h2 i hi]
  unfold glue
  split
  · rename_i h3; exact h i h3
  · rename_i h3
    rw [hG _ (by omega)]
    unfold ringB glue
    rw [if_neg (by omega)]
    congr 1; omega
theorem ringB_zero (n : Nat) (f : Nat → UInt8) (i : Nat) (h : i < 1) : beB n 1 i = ringB n f i := by
  obtain rfl : i = 0 := by omega
  simp [beB, ringB, glue]
set_option maxRecDepth 100000 in
set_option maxHeartbeats 2000000 in
theorem text_any (n : Nat) (f : Nat → UInt8) (h : n ≤ 6) (w : World) : Calls Tryz.prog 54 #[.agg (rg n f)] w fun e w' => e = .returned (.string (strOf (1 + n * 16) (ringB n f))) ∧ Below w.heap.size w w' := by
  have n6 : (n : Int) ≤ 6 := by omega
  have hz := zero16
  have HC := Lib.hid ((St.nil w).pushA (rg n f) 44 rfl)
  go_enter Tryz.func54, Tryz.ntmps54
  go_wp2_with fail
  refine (num_nil 1 n (by omega) (by omega) w _ _ HC.out).mono ?_; rintro e w1 ⟨g, c, F, rfl, h1, h2, hw⟩
  have H1 := Lib.hid h1
  have H2 := Lib.hid h2
  have HC := Lib.hid hw
  clear h1 h2 hw
  have hC := HC.out
  (have HC := Lib.hid hC
   have sos := hC.below.os
   obtain ⟨⟨r1, f1, i1, b1, l1⟩, ⟨r2, f2, i2, b2, l2⟩, m12, m21⟩ := St.facts2 hC
   clear hC)
  go_wp2_with fail
  (clear r1 f1 i1 b1 l1 r2 f2 i2 b2 l2 m12 m21 sos)
  go_loopw [3, 15] (fun b i wr => ∃ j : Nat, j ≤ n ∧ i = .int .i64 (j : Int) ∧ ∃ g' c' F', b = .slice (some ⟨g', 0, none⟩) (1 + j * 16) c' ∧ Hid (1 + j * 16 ≤ c') ∧ Hid (∀ i, i < 1 + j * 16 → F' i = ringB n f i) ∧ Hid (St w [(g', blk c' F'), (w.heap.size, rg n f)] wr)) (fun _ i _ => n - (intOf i).toNat)
  case atStart => exact ⟨0, by omega, rfl, g, c, F, rfl, H1, Lib.hid (fun i hi => by rw [H2.out i (by omega)]; exact ringB_zero n f i (by omega)), HC⟩
  case round =>
    clear HC H1 H2
    obtain ⟨j, hj, rfl, g', c', F', rfl, HM, HF, HJ⟩ := hrel
    have hC := HJ.out
    by_cases hlt : j < n
    · have d1 : (j : Int) < (n : Int) := by omega
      have b1 : j * 16 + 16 ≤ 96 := by omega
      have b2 : 1 + j * 16 + 16 ≤ 97 := by omega
      (have HC := Lib.hid hC
       have sos := hC.below.os
       obtain ⟨⟨r1, f1, i1, b1, l1⟩, ⟨r2, f2, i2, b2, l2⟩, m12, m21⟩ := St.facts2 hC
       clear hC)
      go_wp2_with (at_builtin; refine stop_list ?_)
      (clear r1 f1 i1 b1 l1 r2 f2 i2 b2 l2 m12 m21 sos)
      have HC := Lib.hid (HJ.out.push (blk 16 fun u => f (j * 16 + u)) 41).swap
      refine wpList_append_bytes (w0 := w) rfl (.tmp 19) (.tmp 20) rfl g' (1 + j * 16) c' F' rfl HC.out HM.out wr.heap.size 0 16 16 (fun u => f (j * 16 + u)) rfl (by simp [isRow_alloc]) (by simp [rowAt_alloc, blk_size]) (by simp [rowAt_alloc]; exact cut_head 16 _ 16 (Nat.le_refl _)) (by omega) ?_
      clear HC
      intro g2 c2 F2 w2 hc2 hF2 hw2
      have HC := Lib.hid hw2.over
      have HF2 := Lib.hid (ringB_step HF.out hF2 (fun _ _ => rfl))
      have HC2 := Lib.hid hc2
      clear hF2 hw2 hc2
      go_wp2_with fail
      go_roundw
      case rel => exact ⟨j + 1, by omega, by go_num, g2, c2, F2, by go_num, Lib.hid (by have := HC2.out; omega), Lib.hid (fun i hi => HF2.out i (by omega)), HC⟩
      case measure => simp [intOf]; omega
    · obtain rfl : j = n := by omega
      have hcs := HM.out
      (have HC := Lib.hid hC
       have sos := hC.below.os
       obtain ⟨⟨r1, f1, i1, b1, l1⟩, ⟨r2, f2, i2, b2, l2⟩, m12, m21⟩ := St.facts2 hC
       clear hC)
      go_wp2_with fail
      go_ret
      exact ⟨congrArg (fun x => Ending.returned (.string x)) (strOf_congr HF.out), HC.out.below⟩
end Go.Proofs.YtgaecjhghpkcoaaGreat
