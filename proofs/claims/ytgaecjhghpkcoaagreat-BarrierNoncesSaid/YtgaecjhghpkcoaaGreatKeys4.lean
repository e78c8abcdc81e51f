/- The program's keys: Same. Rings of any number of keys. -/
import Derived.Test.YtgaecjhghpkcoaaGreatKeys3
namespace Go.Proofs.YtgaecjhghpkcoaaGreat
open Go.RowKit
attribute [local go_sem] B_xor B_or B_and
attribute [local go_sem] blk_set blk_size blk_get blk_getE upd_same oneCells_blk paste_blk cut_blk szOf
attribute [local go_sem high] paste_all cut_head
attribute [local go_sem] rowAt_alloc rowAt_drew rowAt_drewN isRow_alloc isRow_drew isRow_drewN freeRow_alloc freeRow_end freeRow_drew freeRow_drewN
attribute [local go_sem] setRow_alloc setRow_drew setRow_drewN setCell_drewN alloc_drewN rowAt_put isRow_setRow freeRow_put
attribute [local go_sem ↓] loadS_in storeS_in indexS_in copyS_in
attribute [local go_sem] loadS_row loadS_one storeS_row storeS_one indexS_blk copyS_rows run_equalIn_blk same_refl arrayAt_row
attribute [local go_sem] cell_row frozen_row st_setCell st_blk_ne stepAt stepUpon
attribute [local go_sem high] run_eql_blk run_neq_blk
attribute [local go_sem] rg_size rg_get0 rg_getE0 rg_ne rg_set0 rg_one rg_cut rg_key rg_put rg_paste part_rg0 part_rg1

theorem eq96 {P : Program} {w : World} (d : Nat) (t : TypeId) (f g : Nat → UInt8) (hu : P.underlying t = some (.array 6 (P.elem t))) (hz : (sizeOf (P.elem t)).run P w = .ok 16 w) (hag : (isAgg (P.elem t)).run P w = .ok true w)
    (hu2 : P.underlying (P.elem t) = some (.array 16 (P.elem (P.elem t)))) (hz2 : (sizeOf (P.elem (P.elem t))).run P w = .ok 1 w) (ha : P.underlying (P.elem (P.elem t)) = some (.int .u8)) :
    (Op.equalIn (d + 3) t (.agg (blk 96 f)) (.agg (blk 96 g))).run P w = .ok (same 96 f g) w := run_equalIn_rows d t _ 6 16 f g hu hz hag hu2 rfl hz2 ha
theorem rg_extract (n : Nat) (f : Nat → UInt8) : (rg n f).extract 1 97 = blk 96 f := by
  apply Array.ext_getElem?
  intro j
  rw [Array.getElem?_extract, rg_size]
  by_cases hj : j < 96
  · rw [if_pos (by omega), rg_get]
  · rw [if_neg (by omega), Array.getElem?_eq_none (by rw [blk_size]; omega)]
attribute [local go_sem] eq96 rg_extract
end Go.Proofs.YtgaecjhghpkcoaaGreat
