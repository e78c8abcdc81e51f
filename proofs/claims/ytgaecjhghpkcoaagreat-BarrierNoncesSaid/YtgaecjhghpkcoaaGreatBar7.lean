/- A barrier that nobody made: it is sealed, and tells so. -/
import Derived.Test.YtgaecjhghpkcoaaGreatBar6
namespace Go.Proofs.YtgaecjhghpkcoaaGreat
open Go.RowKit
attribute [local go_sem] B_xor B_or B_and
attribute [local go_sem] blk_set blk_size blk_get blk_getE upd_same oneCells_blk paste_blk cut_blk szOf
attribute [local go_sem high] paste_all cut_head
attribute [local go_sem] rowAt_alloc rowAt_drew rowAt_drewN isRow_alloc isRow_drew isRow_drewN freeRow_alloc freeRow_end freeRow_drew freeRow_drewN
attribute [local go_sem] setRow_alloc setRow_drew setRow_drewN setCell_drewN alloc_drewN rowAt_put isRow_setRow freeRow_put
attribute [local go_sem ↓] loadS_in storeS_in indexS_in copyS_in
attribute [local go_sem] loadS_row loadS_one storeS_row storeS_one indexS_blk copyS_rows run_equalIn_blk same_refl arrayAt_row
attribute [local go_sem] cell_row frozen_row st_setCell st_blk_ne stepAt stepUpon
attribute [local go_sem high] run_eql_blk run_neq_blk
attribute [local go_sem ↓] convBS_in
attribute [local go_sem] convBS_row convBS_nil allBytes_blk bytesOf_blk
attribute [local go_sem] rg_size rg_get0 rg_getE0 rg_ne rg_set0 rg_one rg_cut rg_key rg_put rg_paste part_rg0 part_rg1
attribute [local go_sem] size_cn agg_cn cn_size cn_get0 cn_get1 cn_getE0 cn_getE1 cn_set0 cn_set1 cn_ne cn_one cn_cut cn_paste
attribute [local go_sem] br_size br_get0 br_get1 br_get2 br_getE0 br_getE1 br_getE2 br_ne br_ring br_count br_whole br_put_ring br_put_count br_paste br_one size_br agg_br

/-- nobody made it: nil, or its mark is not set -/
def Dead (w : World) (p : Value) : Prop := p = .pointer none ∨ ∃ g b, p = .pointer (some ⟨g, 0, none⟩) ∧ b.md = false ∧ g < w.heap.size ∧ rowAt w g = br b ∧ isRow w g = true
theorem Dead.call {w w' : World} {p : Value} (h : Dead w p) (hb : Below w.heap.size w w') : Dead w' p := by
  rcases h with h | ⟨g, b, h1, h2, h3, h4, h5⟩
  · exact .inl h
  · exact .inr ⟨g, b, h1, h2, Nat.lt_of_lt_of_le h3 hb.size, (below_rowAt hb h3).trans h4, (below_isRow hb h3).trans h5⟩
theorem state_dead (p : Value) (w : World) (h : Dead w p) : Calls Tryz.prog 42 #[p] w fun e w' => e = .returned (.int .i64 1) ∧ Below w.heap.size w w' := by
  rcases h with rfl | ⟨g, b, rfl, h2, h3, h4, h5⟩
  · exact state_nil w
  · go_enter Tryz.func42, Tryz.ntmps42
    go_wp2_with fail
    go_ret
    exact ⟨rfl, Below.refl _ _⟩
theorem sealed_dead (p : Value) (w : World) (h : Dead w p) : Calls Tryz.prog 36 #[p] w fun e w' => e = .returned (.bool true) ∧ Below w.heap.size w w' :=
  sealed_any p 1 true rfl w (state_dead p w h)
set_option maxRecDepth 100000 in
theorem take_dead (p : Value) (w : World) (h : Dead w p) : Calls Tryz.prog 52 #[p] w fun e w' => e = .returned (.tuple #[.string ⟨#[]⟩, .int .i64 1]) ∧ Below w.heap.size w w' := by
  have HD := Lib.hid h
  have HC := Lib.hid (St.nil w)
  clear h
  go_enter Tryz.func52, Tryz.ntmps52
  go_wp2_with fail
  refine (state_dead p _ HD.out).mono ?_; rintro e w1 ⟨rfl, hw⟩
  have HC := Lib.hid (HC.out.call hw)
  clear hw
  go_wp2_with fail
  go_ret2
  exact ⟨rfl, HC.out.below⟩
set_option maxRecDepth 100000 in
theorem put_dead (p : Value) (a s : ByteArray) (w : World) (h : Dead w p) : Calls Tryz.prog 23 #[p, .string a, .string s] w fun e w' => e = .returned (.tuple #[.string ⟨#[]⟩, .int .i64 1]) ∧ Below w.heap.size w w' := by
  have HD := Lib.hid h
  have HC := Lib.hid (St.nil w)
  clear h
  go_enter Tryz.func23, Tryz.ntmps23
  go_wp2_with fail
  refine (take_dead p _ HD.out).mono ?_; rintro e w1 ⟨rfl, hw⟩
  have HC := Lib.hid (HC.out.call hw)
  clear hw
  go_wp2_with fail
  go_ret2
  exact ⟨rfl, HC.out.below⟩
set_option maxRecDepth 100000 in
theorem get_dead (p : Value) (a s : ByteArray) (w : World) (h : Dead w p) : Calls Tryz.prog 12 #[p, .string a, .string s] w fun e w' => e = .returned (.tuple #[.string ⟨#[]⟩, .int .i64 1]) ∧ Below w.heap.size w w' := by
  have HD := Lib.hid h
  have HC := Lib.hid (St.nil w)
  clear h
  go_enter Tryz.func12, Tryz.ntmps12
  go_wp2_with fail
  refine (state_dead p _ HD.out).mono ?_; rintro e w1 ⟨rfl, hw⟩
  have HC := Lib.hid (HC.out.call hw)
  clear hw
  go_wp2_with fail
  go_ret2
  exact ⟨rfl, HC.out.below⟩
set_option maxRecDepth 100000 in
theorem lock_dead (p : Value) (m : Nat → UInt8) (w : World) (h : Dead w p) : Calls Tryz.prog 20 #[p, .agg (blk 16 m)] w fun e w' => e = .returned (.tuple #[.string ⟨#[]⟩, .int .i64 1]) ∧ Below w.heap.size w w' := by
  have HD := Lib.hid (h.call ((Below.refl _ _).alloc (Nat.le_refl _) (.cells (blk 16 m) 41)))
  have HC := Lib.hid ((St.nil w).skip (.cells (blk 16 m) 41))
  clear h
  go_enter Tryz.func20, Tryz.ntmps20
  go_wp2_with fail
  refine (take_dead p _ HD.out).mono ?_; rintro e w1 ⟨rfl, hw⟩
  have HC := Lib.hid (HC.out.call hw)
  clear hw
  go_wp2_with fail
  go_ret2
  exact ⟨rfl, HC.out.below⟩
set_option maxRecDepth 100000 in
theorem open_dead (p : Value) (n : Nat) (f : Nat → UInt8) (e c : Nat) (w : World) (h : Dead w p) : Calls Tryz.prog 14 #[p, .agg (rg n f), .agg (cn e c)] w fun r w' => r = .returned (.int .i64 1) ∧ Below w.heap.size w w' := by
  have HD := Lib.hid (h.call (((Below.refl _ _).alloc (Nat.le_refl _) (.cells (rg n f) 44)).alloc (by simp) (.cells (cn e c) 52)))
  have HC := Lib.hid (((St.nil w).skip (.cells (rg n f) 44)).skip (.cells (cn e c) 52))
  clear h
  go_enter Tryz.func14, Tryz.ntmps14
  go_wp2_with fail
  refine (state_dead p _ HD.out).mono ?_; rintro e w1 ⟨rfl, hw⟩
  have HC := Lib.hid (HC.out.call hw)
  clear hw
  go_wp2_with fail
  go_ret
  exact ⟨rfl, HC.out.below⟩
set_option maxRecDepth 100000 in
theorem turn_dead (p : Value) (n : Nat) (f : Nat → UInt8) (w : World) (h : Dead w p) : Calls Tryz.prog 18 #[p, .agg (rg n f)] w fun r w' => r = .returned (.int .i64 1) ∧ Below w.heap.size w w' := by
  have HD := Lib.hid (h.call ((Below.refl _ _).alloc (Nat.le_refl _) (.cells (rg n f) 44)))
  have HC := Lib.hid ((St.nil w).skip (.cells (rg n f) 44))
  clear h
  go_enter Tryz.func18, Tryz.ntmps18
  go_wp2_with fail
  refine (state_dead p _ HD.out).mono ?_; rintro e w1 ⟨rfl, hw⟩
  have HC := Lib.hid (HC.out.call hw)
  clear hw
  go_wp2_with fail
  go_ret
  exact ⟨rfl, HC.out.below⟩
end Go.Proofs.YtgaecjhghpkcoaaGreat
