/- Notes that are forked: others like them; maps.Clone, laid at this program. -/
import Derived.Test.YtgaecjhghpkcoaaGreatBaAt
import Derived.Shelf.SlMaps.Clone
import Derived.Shelf.Lay
import Derived.Shelf.SlGeneric
import Derived.Ground.SlmcProg
namespace Go.Proofs.YtgaecjhghpkcoaaGreat
open Go.RowKit Go.Shelf
attribute [local go_sem] B_xor B_or B_and
attribute [local go_sem] blk_set blk_size blk_get blk_getE upd_same oneCells_blk paste_blk cut_blk szOf
attribute [local go_sem high] paste_all cut_head
attribute [local go_sem] rowAt_alloc rowAt_drew rowAt_drewN isRow_alloc isRow_drew isRow_drewN freeRow_alloc freeRow_end freeRow_drew freeRow_drewN
attribute [local go_sem] setRow_alloc setRow_drew setRow_drewN setCell_drewN alloc_drewN rowAt_put isRow_setRow freeRow_put
attribute [local go_sem ↓] loadS_in storeS_in indexS_in copyS_in
attribute [local go_sem] loadS_row loadS_one storeS_row storeS_one indexS_blk copyS_rows run_equalIn_blk same_refl arrayAt_row
attribute [local go_sem] cell_row frozen_row st_setCell st_blk_ne stepAt stepUpon
attribute [local go_sem high] run_eql_blk run_neq_blk
attribute [local go_sem ↓] convBS_in
attribute [local go_sem] convBS_row convBS_nil allBytes_blk bytesOf_blk

shelf_lay_g SlLaysW.n5 Slmc 5 at Tryz 62 as Tryz.cloneN

theorem clone_any (m : Nat) (N : Notes) (w : World) (hM : Mp encN w m N) : Calls Tryz.prog 62 #[.map (some m)] w fun e w' => e = .returned (.map (some w.heap.size)) ∧ Mp encN w' w.heap.size N ∧ Below w.heap.size w w' := by
  obtain ⟨es, c, h1, h2⟩ := hM
  refine (AnyW.maps_Clone Tryz.cloneN m es c w h1).mono ?_
  rintro e w' ⟨rfl, rfl⟩
  exact ⟨rfl, ⟨es, c, (MapKept.heap_alloc w _).1, h2⟩, (Below.refl _ w).alloc (Nat.le_refl _) _⟩
theorem notesFork_any (q m : Nat) (N : Notes) (w : World) (hg : rowAt w q = #[.map (some m)]) (hi : isRow w q = true) (hq : q < w.heap.size) (hM : Mp encN w m N) :
    Calls Tryz.prog 32 #[.pointer (some ⟨q, 0, none⟩)] w fun e w' => ∃ q' m', e = .returned (.pointer (some ⟨q', 0, none⟩)) ∧ St w [(q', #[.map (some m')])] w' ∧ Mp encN w' m' N ∧ w.heap.size ≤ m' := by
  have HO := Lib.hid (ok_yes q m w hg hi)
  have HM := Lib.hid hM
  have HC := Lib.hid (St.nil w)
  have HQ := Lib.hid (And.intro hg (And.intro hi hq))
  clear hg hi hq hM
  go_enter Tryz.func32, Tryz.ntmps32
  go_wp2_with fail
  refine HO.out.mono ?_; rintro e w1 ⟨rfl, hw⟩
  have HC := Lib.hid (HC.out.call hw)
  have HM := Lib.hid (HM.out.call _ hw)
  have HS := Lib.hid HC.out.below.size
  have r1 : rowAt w1 q = #[.map (some m)] := (below_rowAt hw HQ.out.2.2).trans HQ.out.1
  have i1 : isRow w1 q = true := (below_isRow hw HQ.out.2.2).trans HQ.out.2.1
  clear hw
  go_wp2_with fail
  refine (clone_any m N _ HM.out).mono ?_; rintro e w2 ⟨rfl, hm, hw⟩
  have HC := Lib.hid (HC.out.call hw)
  clear hw
  go_wp2_with fail
  go_ret
  exact ⟨_, w1.heap.size, rfl, HC.out.push _ _, hm.call _ ((Below.refl _ _).alloc (Nat.le_refl _) _), HS.out⟩
end Go.Proofs.YtgaecjhghpkcoaaGreat
