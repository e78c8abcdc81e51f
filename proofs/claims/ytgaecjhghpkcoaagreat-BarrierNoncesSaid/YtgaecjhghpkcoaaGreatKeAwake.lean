/- padlocklaw20.awake returns true; a ring is taken of its own text. -/
import Derived.Test.YtgaecjhghpkcoaaGreatLike
namespace Go.Proofs.YtgaecjhghpkcoaaGreat
open Go.RowKit
attribute [local go_sem] B_xor B_or B_and
attribute [local go_sem] blk_set blk_size blk_get blk_getE upd_same oneCells_blk paste_blk cut_blk szOf
attribute [local go_sem high] paste_all cut_head
attribute [local go_sem] rowAt_alloc rowAt_drew rowAt_drewN isRow_alloc isRow_drew isRow_drewN freeRow_alloc freeRow_end freeRow_drew freeRow_drewN
attribute [local go_sem] setRow_alloc setRow_drew setRow_drewN setCell_drewN alloc_drewN rowAt_put isRow_setRow freeRow_put
attribute [local go_sem ↓] loadS_in storeS_in indexS_in copyS_in
attribute [local go_sem] loadS_row loadS_one storeS_row storeS_one indexS_blk copyS_rows run_equalIn_blk same_refl arrayAt_row
attribute [local go_sem] cell_row frozen_row st_setCell st_blk_ne stepAt stepUpon
attribute [local go_sem high] run_eql_blk run_neq_blk
attribute [local go_sem ↓] convBS_in
attribute [local go_sem] convBS_row convBS_nil allBytes_blk bytesOf_blk
attribute [local go_sem] rg_size rg_get0 rg_getE0 rg_ne rg_set0 rg_one rg_cut rg_key rg_put rg_paste part_rg0 part_rg1

/-- nothing stands behind the last key -/
def Neat (n : Nat) (f : Nat → UInt8) : Prop := ∀ i, n * 16 ≤ i → i < 96 → f i = 0
theorem ofText_extract (s : ByteArray) (a b i : Nat) (hi : a + i < b) (hb : b ≤ s.size) : ofText (s.extract a b) i = ofText s (a + i) := by
  have hsz : s.data.size = s.size := rfl
  unfold ofText
  rw [ByteArray.data_extract, Array.getD_eq_getD_getElem?, Array.getD_eq_getD_getElem?, Array.getElem?_extract, if_pos (by omega)]
theorem parse_back (n : Nat) (f : Nat → UInt8) (h1 : 1 ≤ n) (h6 : n ≤ 6) (hz : Neat n f) (w : World) : Calls Tryz.prog 61 #[.string (strOf (1 + n * 16) (ringB n f))] w fun e w' => e = .returned (.tuple #[.agg (rg n f), .int .i64 0]) ∧ Below w.heap.size w w' := by
  have hsz := strOf_size (1 + n * 16) (ringB n f)
  have hN : (ofText (strOf (1 + n * 16) (ringB n f)) 0).toNat = n := by
    rw [ofText_strOf _ _ _ (by omega)]
    unfold ringB glue
    rw [if_pos (by omega), UInt8.toNat_ofNat_of_lt' (by have : UInt8.size = 256 := rfl; omega)]
  have h := parse_ok (strOf (1 + n * 16) (ringB n f)) _ n (by omega) hN h1 h6 hsz rfl w
  have e : rg n (parseB ((strOf (1 + n * 16) (ringB n f)).extract 1 (strOf (1 + n * 16) (ringB n f)).size) (n * 16)) = rg n f := rg_congr fun i hi => by
    unfold parseB
    split
    · rename_i hlt
      rw [ofText_extract _ _ _ _ (by omega) (Nat.le_refl _), ofText_strOf _ _ _ (by omega)]
      unfold ringB glue
      rw [if_neg (by omega), Nat.add_sub_cancel_left]
    · rename_i hge
      exact (hz i (by omega) hi).symm
  rw [e] at h
  exact h
theorem neat_new (m : Nat → UInt8) : Neat 1 (newB m) := by
  intro i h1 h2
  unfold newB addB cpy
  rw [if_neg (by omega)]
theorem neat_add (n : Nat) (f k : Nat → UInt8) (h : Neat n f) : Neat (n + 1) (addB f n k) := by
  intro i h1 h2
  unfold addB cpy
  rw [if_neg (by omega)]
  exact h i (by omega) h2
def sevenS : ByteArray := ⟨#[7]⟩
theorem parse_seven (w : World) : Calls Tryz.prog 61 #[.string ⟨#[7]⟩] w fun e w' => e = .returned (.tuple #[.agg (rg 0 fun _ => 0), .int .i64 4]) ∧ Below w.heap.size w w' := parse_form ⟨#[7]⟩ 7 (by decide) (by decide) (by decide) (by omega) w
end Go.Proofs.YtgaecjhghpkcoaaGreat
