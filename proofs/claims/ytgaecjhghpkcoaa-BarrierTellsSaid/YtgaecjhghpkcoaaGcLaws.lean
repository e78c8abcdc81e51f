/- GcmStreams and GcmSeals return true. No condition. -/
import Derived.Test.YtgaecjhghpkcoaaMGcmRef
namespace Go.Proofs.Ytgaecjhghpkcoaa
open Go.RowKit
attribute [local go_sem] B_xor B_or B_and
attribute [local go_sem] blk_set blk_size blk_get blk_getE upd_same oneCells_blk paste_blk cut_blk szOf
attribute [local go_sem high] paste_all cut_head
attribute [local go_sem] rowAt_alloc rowAt_drew rowAt_drewN isRow_alloc isRow_drew isRow_drewN freeRow_alloc freeRow_end freeRow_drew freeRow_drewN
attribute [local go_sem] setRow_alloc setRow_drew setRow_drewN setCell_drewN alloc_drewN rowAt_put isRow_setRow freeRow_put
attribute [local go_sem ↓] loadS_in storeS_in indexS_in copyS_in
attribute [local go_sem] loadS_row loadS_one storeS_row storeS_one indexS_blk copyS_rows run_equalIn_blk same_refl arrayAt_row
attribute [local go_sem] cell_row frozen_row st_setCell st_blk_ne stepAt stepUpon
attribute [local go_sem high] run_eql_blk run_neq_blk
attribute [local go_sem ↓] convBS_in
attribute [local go_sem] convBS_row convBS_nil allBytes_blk bytesOf_blk

/-- an iv, what a text belongs to, a text -/
def tx (a b c : ByteArray) : Array Value := #[.string a, .string b, .string c]
theorem tx_size (a b c : ByteArray) : (tx a b c).size = 3 := rfl
theorem tx_get0 (a b c : ByteArray) : (tx a b c)[0]? = some (.string a) := rfl
theorem tx_get1 (a b c : ByteArray) : (tx a b c)[1]? = some (.string b) := rfl
theorem tx_get2 (a b c : ByteArray) : (tx a b c)[2]? = some (.string c) := rfl
theorem tx_cut (a b c : ByteArray) : cut (tx a b c) 0 3 = tx a b c := by simp [cut, tx]
theorem tx_ne (a b c : ByteArray) : (tx a b c = #[]) = False := by simp [tx]
theorem tx_one (a b c : ByteArray) : oneCells (tx a b c) = true := by simp [oneCells, tx, Value.oneCell']
attribute [local go_sem] tx_size tx_get0 tx_get1 tx_get2 tx_cut tx_ne tx_one
end Go.Proofs.Ytgaecjhghpkcoaa
