/- A barrier that nobody made: Seal, Fork; notes that nobody made; the reference's noughts, Unlock. -/
import Derived.Test.YtgaecjhghpkcoaaGreatBar7
import Derived.Test.YtgaecjhghpkcoaaGreatLike
import Derived.WalkSpells
namespace Go.Proofs.YtgaecjhghpkcoaaGreat
open Go.RowKit
attribute [local go_sem] B_xor B_or B_and
attribute [local go_sem] blk_set blk_size blk_get blk_getE upd_same oneCells_blk paste_blk cut_blk szOf
attribute [local go_sem high] paste_all cut_head
attribute [local go_sem] rowAt_alloc rowAt_drew rowAt_drewN isRow_alloc isRow_drew isRow_drewN freeRow_alloc freeRow_end freeRow_drew freeRow_drewN
attribute [local go_sem] setRow_alloc setRow_drew setRow_drewN setCell_drewN alloc_drewN rowAt_put isRow_setRow freeRow_put
attribute [local go_sem ↓] loadS_in storeS_in indexS_in copyS_in
attribute [local go_sem] loadS_row loadS_one storeS_row storeS_one indexS_blk copyS_rows run_equalIn_blk same_refl arrayAt_row
attribute [local go_sem] cell_row frozen_row st_setCell st_blk_ne stepAt stepUpon
attribute [local go_sem high] run_eql_blk run_neq_blk
attribute [local go_sem ↓] convBS_in
attribute [local go_sem] convBS_row convBS_nil allBytes_blk bytesOf_blk
attribute [local go_sem] rg_size rg_get0 rg_getE0 rg_ne rg_set0 rg_one rg_cut rg_key rg_put rg_paste part_rg0 part_rg1
attribute [local go_sem] size_cn agg_cn cn_size cn_get0 cn_get1 cn_getE0 cn_getE1 cn_set0 cn_set1 cn_ne cn_one cn_cut cn_paste
attribute [local go_sem] br_size br_get0 br_get1 br_get2 br_getE0 br_getE1 br_getE2 br_ne br_ring br_count br_whole br_put_ring br_put_count br_paste br_one size_br agg_br
attribute [local go_sem] run_make_bytes

theorem seal_nil (w : World) : Calls Tryz.prog 16 #[.pointer none] w fun e w' => e = .returned (.tuple #[]) ∧ Below w.heap.size w w' := by
  go_enter Tryz.func16, Tryz.ntmps16
  go_wp2_with fail
  go_end0
  exact ⟨rfl, Below.refl _ _⟩
theorem fork_dead (p : Value) (w : World) (h : Dead w p) : Calls Tryz.prog 22 #[p] w fun e w' => e = .returned (.pointer none) ∧ Below w.heap.size w w' := by
  rcases h with rfl | ⟨g, b, rfl, h2, h3, h4, h5⟩
  · go_enter Tryz.func22, Tryz.ntmps22
    go_wp2_with fail
    go_ret
    exact ⟨rfl, Below.refl _ _⟩
  · go_enter Tryz.func22, Tryz.ntmps22
    go_wp2_with fail
    go_ret
    exact ⟨rfl, Below.refl _ _⟩
theorem ok_nil (w : World) : Calls Tryz.prog 40 #[.pointer none] w fun e w' => e = .returned (.bool false) ∧ Below w.heap.size w w' := by
  go_enter Tryz.func40, Tryz.ntmps40
  go_wp2_with fail
  go_ret
  exact ⟨rfl, Below.refl _ _⟩
theorem ok_zero (g : Nat) (w : World) (hg : rowAt w g = #[.map none]) (hi : isRow w g = true) : Calls Tryz.prog 40 #[.pointer (some ⟨g, 0, none⟩)] w fun e w' => e = .returned (.bool false) ∧ Below w.heap.size w w' := by
  have hq := fun w => run_neq_map_nil (P := Tryz.prog) w 76 9 97 none Tryz.underlying76
  go_enter Tryz.func40, Tryz.ntmps40
  go_wp2_with fail
  go_ret
  exact ⟨rfl, Below.refl _ _⟩
theorem notesFork_no (p : Value) (w : World) (hO : Calls Tryz.prog 40 #[p] w fun e w' => e = .returned (.bool false) ∧ Below w.heap.size w w') : Calls Tryz.prog 32 #[p] w fun e w' => e = .returned (.pointer none) ∧ Below w.heap.size w w' := by
  have HO := Lib.hid hO
  have HC := Lib.hid (St.nil w)
  clear hO
  go_enter Tryz.func32, Tryz.ntmps32
  go_wp2_with fail
  refine (HO.out).mono ?_; rintro e w1 ⟨rfl, hw⟩
  have HC := Lib.hid (HC.out.call hw)
  clear hw
  go_wp2_with fail
  go_ret
  exact ⟨rfl, HC.out.below⟩
/-- so many bytes of 0 -/
def nilS (n : Nat) : ByteArray := strOf n fun _ => 0
set_option maxRecDepth 100000 in
theorem noughts_any (n : Nat) (h : n ≤ 2 ^ 40) (w : World) : Calls Tryz.prog 49 #[.int .i64 (n : Int)] w fun e w' => e = .returned (.string (nilS n)) ∧ Below w.heap.size w w' := by
  have hn : n ≤ n := Nat.le_refl _
  have h' : n ≤ 1099511627776 := by omega
  have HC := Lib.hid ((St.nil w).pushA (blk n fun _ => 0) 5 rfl)
  go_enter Tryz.func49, Tryz.ntmps49
  go_wp2_with fail
  go_ret
  exact ⟨rfl, HC.out.below⟩
end Go.Proofs.YtgaecjhghpkcoaaGreat
