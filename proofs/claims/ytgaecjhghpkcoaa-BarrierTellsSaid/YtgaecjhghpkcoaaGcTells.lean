/- GcmTells returns true. No condition. -/
import Derived.Test.YtgaecjhghpkcoaaGcBack
namespace Go.Proofs.Ytgaecjhghpkcoaa
open Go.RowKit
attribute [local go_sem] B_xor B_or B_and
attribute [local go_sem] blk_set blk_size blk_get blk_getE upd_same oneCells_blk paste_blk cut_blk szOf
attribute [local go_sem high] paste_all cut_head
attribute [local go_sem] rowAt_alloc rowAt_drew rowAt_drewN isRow_alloc isRow_drew isRow_drewN freeRow_alloc freeRow_end freeRow_drew freeRow_drewN
attribute [local go_sem] setRow_alloc setRow_drew setRow_drewN setCell_drewN alloc_drewN rowAt_put isRow_setRow freeRow_put
attribute [local go_sem ↓] loadS_in storeS_in indexS_in copyS_in
attribute [local go_sem] loadS_row loadS_one storeS_row storeS_one indexS_blk copyS_rows run_equalIn_blk same_refl arrayAt_row
attribute [local go_sem] cell_row frozen_row st_setCell st_blk_ne stepAt stepUpon
attribute [local go_sem high] run_eql_blk run_neq_blk
attribute [local go_sem ↓] convBS_in
attribute [local go_sem] convBS_row convBS_nil allBytes_blk bytesOf_blk
attribute [local go_sem] tx_size tx_get0 tx_get1 tx_get2 tx_cut tx_ne tx_one indexS_text strOf_size
attribute [local go_sem ↓] convSB_in
attribute [local go_sem] convSB_row freeRow_endB
attribute [local go_sem high] slice_from slice_to

/-- a byte that is added to another one, and is not nothing -/
def plB (x : UInt8) : UInt8 := 1 + x % 255
theorem plB_ne : ∀ x : UInt8, plB x ≠ 0 := by apply Gf.all256; decide +kernel
theorem xor_plB (y x : UInt8) : y ^^^ plB x ≠ y := fun h => plB_ne x (by
  have : y ^^^ (y ^^^ plB x) = 0 := by rw [h, UInt8.xor_self]
  rwa [← UInt8.xor_assoc, UInt8.xor_self, UInt8.zero_xor] at this)
theorem plB_1 : ∀ x : UInt8, IntKind.u8.wrap (1 + (B x).tmod 255) = B (plB x) := by apply Gf.all256; decide +kernel
theorem plB_2 : ∀ x : UInt8, IntKind.u8.wrap (1 + IntKind.u8.wrap ((B x).tmod 255)) = B (plB x) := by apply Gf.all256; decide +kernel
theorem plB_3 : ∀ x : UInt8, IntKind.u8.wrap (1 + B x % 255) = B (plB x) := by apply Gf.all256; decide +kernel
theorem plB_4 : ∀ x : UInt8, 1 + B x % 255 = B (plB x) := by apply Gf.all256; decide +kernel
theorem strOf_extract (N : Nat) (f : Nat → UInt8) (a b : Nat) (h : b ≤ N) : (strOf N f).extract a b = strOf (b - a) fun i => f (a + i) := by
  have e : ((strOf N f).extract a b).data = (strOf (b - a) fun i => f (a + i)).data := by
    rw [ByteArray.data_extract]
    apply Array.ext_getElem?
    intro i
    rw [Array.getElem?_extract]
    by_cases hi : i < b - a
    · simp [strOf, hi, show a + i < N by omega, Nat.min_eq_left h]
    · simp [strOf, Nat.le_of_not_lt hi, Nat.min_eq_left h]
      omega
  cases h1 : (strOf N f).extract a b
  cases h2 : strOf (b - a) fun i => f (a + i)
  rw [h1, h2] at e
  exact congrArg ByteArray.mk e
theorem cut_strOf (n : Nat) (f : Nat → UInt8) : cutS (strOf (n + 16) f) = strOf n f := by
  unfold cutS
  rw [strOf_size, Nat.add_sub_cancel, strOf_extract _ _ _ _ (by omega), Nat.sub_zero]
  exact strOf_congr fun i _ => by rw [Nat.zero_add]
theorem end_strOf (n : Nat) (f : Nat → UInt8) : endS (strOf (n + 16) f) = strOf 16 fun i => f (n + i) := by
  unfold endS
  rw [strOf_size, Nat.add_sub_cancel, strOf_extract _ _ _ _ (Nat.le_refl _), Nat.add_sub_cancel_left]
theorem ofText_tail (a b : ByteArray) (i : Nat) : ofText (a ++ b) (a.size + i) = ofText b i := by
  unfold ofText
  rw [ByteArray.data_append]
  have hi' : a.data.size ≤ a.size + i := Nat.le_add_right _ _
  have e : a.size + i - a.data.size = i := Nat.add_sub_cancel_left _ _
  rw [Array.getD_eq_getD_getElem?, Array.getD_eq_getD_getElem?, Array.getElem?_append_right hi', e]
theorem tells_tag (r v : Nat → UInt8) (a s : ByteArray) (j : Nat) (x : UInt8) (ha : a.size < 2 ^ 40) (hs : s.size < 2 ^ 40) (hh : same 16 (hashB r) (fun _ => 0) = false)
    (hj : j < a.size + (s.size + 16)) (hx : x ≠ ofText (a ++ sealS r v a s) j) :
    tagged r v (strOf a.size (upd (ofText (a ++ sealS r v a s)) j x)) (strOf (s.size + 16) fun i => upd (ofText (a ++ sealS r v a s)) j x (a.size + i)) = false := by
  have f1 : ∀ i, i < a.size → ofText (a ++ sealS r v a s) i = ofText a i := fun i hi => ofText_head _ _ _ hi
  have f2 : ∀ i, i < s.size → ofText (a ++ sealS r v a s) (a.size + i) = ofText (strS r v 2 s) i := fun i hi => by
    rw [ofText_tail]; unfold sealS; exact ofText_head _ _ _ (by rw [strS_size]; exact hi)
  have f3 : ∀ i, i < 16 → ofText (a ++ sealS r v a s) (a.size + (s.size + i)) = tagB r v a (strS r v 2 s) i := fun i hi => by
    rw [ofText_tail]; unfold sealS
    have := ofText_tail (strS r v 2 s) (tagS r v a (strS r v 2 s)) i
    rw [strS_size] at this
    rw [this]; exact ofText_strOf _ _ _ hi
  generalize ofText (a ++ sealS r v a s) = F at *
  have ea : strOf a.size F = a := by rw [strOf_congr f1, strOf_ofText a _ rfl]
  have ec : (strOf s.size fun i => F (a.size + i)) = strS r v 2 s := by rw [strOf_congr f2, strOf_ofText _ _ (strS_size _ _ _ _)]
  unfold tagged
  rw [cut_strOf, end_strOf]
  by_cases hlo : j < a.size + s.size
  · have h1 := sum_part (hashB r) a.size s.size F j x ha hs hlo hx hh
    rw [ea, ec] at h1
    have h2 : same 16 (tagB r v (strOf a.size (upd F j x)) (strOf s.size fun i => upd F j x (a.size + i))) (ofText (strOf 16 fun i => upd F j x (a.size + (s.size + i)))) = same 16 (tagB r v (strOf a.size (upd F j x)) (strOf s.size fun i => upd F j x (a.size + i))) (tagB r v a (strS r v 2 s)) := by
      have h3 : ∀ i, i < 16 → ofText (strOf 16 fun i => upd F j x (a.size + (s.size + i))) i = tagB r v a (strS r v 2 s) i := fun i hi => by
        rw [ofText_strOf _ _ _ hi, upd_other _ _ _ _ (by omega), f3 i hi]
      unfold same
      exact decide_eq_decide.2 ⟨fun h i hi => by rw [h i hi, h3 i hi], fun h i hi => by rw [h i hi, h3 i hi]⟩
    rw [h2, tag_same, h1]
  · have e1 : strOf a.size (upd F j x) = a := by rw [strOf_congr (g := F) (fun i hi => upd_other _ _ _ _ (by omega)), ea]
    have e2 : (strOf s.size fun i => upd F j x (a.size + i)) = strS r v 2 s := by rw [strOf_congr (g := fun i => F (a.size + i)) (fun i hi => upd_other _ _ _ _ (by omega)), ec]
    rw [e1, e2]
    cases hsm : same 16 (tagB r v a (strS r v 2 s)) (ofText (strOf 16 fun i => upd F j x (a.size + (s.size + i)))) with
    | false => rfl
    | true =>
      exfalso
      have h4 := (same_iff _ _ _).1 hsm (j - (a.size + s.size)) (by omega)
      rw [ofText_strOf _ _ _ (by omega), ← f3 _ (by omega), show a.size + (s.size + (j - (a.size + s.size))) = j by omega, upd_same] at h4
      exact hx h4.symm

end Go.Proofs.Ytgaecjhghpkcoaa
