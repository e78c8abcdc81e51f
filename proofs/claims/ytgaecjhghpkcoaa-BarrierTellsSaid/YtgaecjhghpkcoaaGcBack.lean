/- GcmBack returns true. No condition. -/
import Derived.Test.YtgaecjhghpkcoaaGcLaws
namespace Go.Proofs.Ytgaecjhghpkcoaa
open Go.RowKit
attribute [local go_sem] B_xor B_or B_and
attribute [local go_sem] blk_set blk_size blk_get blk_getE upd_same oneCells_blk paste_blk cut_blk szOf
attribute [local go_sem high] paste_all cut_head
attribute [local go_sem] rowAt_alloc rowAt_drew rowAt_drewN isRow_alloc isRow_drew isRow_drewN freeRow_alloc freeRow_end freeRow_drew freeRow_drewN
attribute [local go_sem] setRow_alloc setRow_drew setRow_drewN setCell_drewN alloc_drewN rowAt_put isRow_setRow freeRow_put
attribute [local go_sem ↓] loadS_in storeS_in indexS_in copyS_in
attribute [local go_sem] loadS_row loadS_one storeS_row storeS_one indexS_blk copyS_rows run_equalIn_blk same_refl arrayAt_row
attribute [local go_sem] cell_row frozen_row st_setCell st_blk_ne stepAt stepUpon
attribute [local go_sem high] run_eql_blk run_neq_blk
attribute [local go_sem ↓] convBS_in
attribute [local go_sem] convBS_row convBS_nil allBytes_blk bytesOf_blk
attribute [local go_sem] tx_size tx_get0 tx_get1 tx_get2 tx_cut tx_ne tx_one indexS_text

theorem strB_twice (r v : Nat → UInt8) (n : Nat) (f : Nat → UInt8) (i : Nat) : strB r v n (strB r v n f) i = f i := by
  unfold strB
  rw [UInt8.xor_assoc, UInt8.xor_self, UInt8.xor_zero]
theorem ofText_strS (r v : Nat → UInt8) (n : Nat) (s : ByteArray) (i : Nat) (h : i < s.size) : ofText (strS r v n s) i = ofText s i ^^^ padB r v (nxN n (i / 16)) (i % 16) := ofText_strOf _ _ _ h
theorem strS_twice (r v : Nat → UInt8) (n : Nat) (s : ByteArray) : strS r v n (strS r v n s) = s := by
  have h : ∀ i, i < s.size → strB r v n (ofText (strS r v n s)) i = ofText s i := fun i hi => by
    show ofText (strS r v n s) i ^^^ padB r v (nxN n (i / 16)) (i % 16) = ofText s i
    rw [ofText_strS r v n s i hi, UInt8.xor_assoc, UInt8.xor_self, UInt8.xor_zero]
  show strOf (strS r v n s).size _ = s
  rw [strS_size, strOf_congr h, strOf_ofText s _ rfl]
theorem ofText_head (a b : ByteArray) (i : Nat) (h : i < a.size) : ofText (a ++ b) i = ofText a i := by
  unfold ofText
  rw [ByteArray.data_append]
  have hi' : i < a.data.size := h
  simp [Array.getElem?_append_left hi', Array.getD_eq_getD_getElem?]
theorem seal_byte (r v : Nat → UInt8) (a s : ByteArray) (i : Nat) (h : i < s.size) : ofText (sealS r v a s) i = ofText s i ^^^ padB r v (nxN 2 (i / 16)) (i % 16) := by
  unfold sealS
  rw [ofText_head _ _ _ (by rw [strS_size]; exact h), ofText_strS _ _ _ _ _ h]
theorem seals_part (r v : Nat → UInt8) (a s o : ByteArray) (i : Nat) (h : i < s.size) (h2 : i < o.size) : ofText (sealS r v a s) i ^^^ ofText (sealS r v a o) i = ofText o i ^^^ ofText s i := by
  rw [seal_byte _ _ _ _ _ h, seal_byte _ _ _ _ _ h2]
  have e : ∀ x y p : UInt8, x ^^^ p ^^^ (y ^^^ p) = y ^^^ x := fun x y p => by
    rw [show x ^^^ p ^^^ (y ^^^ p) = (y ^^^ x) ^^^ (p ^^^ p) by ac_rfl, UInt8.xor_self, UInt8.xor_zero]
  exact e _ _ _

end Go.Proofs.Ytgaecjhghpkcoaa
