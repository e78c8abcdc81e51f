/- Mixed and unmixed columns, of the program and of the reference, are what the plain functions reckon. No condition on bytes. -/
import Derived.Test.YtepooocdpifcfaaGfMix
namespace Go.Proofs.Ytepooocdpifcfaa
open Go.RowKit
attribute [local go_sem] B_xor B_or B_and
attribute [local go_sem] blk_set blk_size blk_get blk_getE upd_same oneCells_blk paste_blk cut_blk szOf
attribute [local go_sem high] paste_all cut_head
attribute [local go_sem] rowAt_alloc rowAt_drew rowAt_drewN isRow_alloc isRow_drew isRow_drewN freeRow_alloc freeRow_drew freeRow_drewN
attribute [local go_sem] setRow_alloc setRow_drew setRow_drewN setCell_drewN alloc_drewN rowAt_put isRow_setRow freeRow_put
attribute [local go_sem ↓] loadS_in storeS_in indexS_in copyS_in
attribute [local go_sem] loadS_row loadS_one storeS_row storeS_one indexS_blk copyS_rows

def four (a b c d : UInt8) : Nat → UInt8 := fun i => match i with | 0 => a | 1 => b | 2 => c | _ => d
theorem four_lit (a b c d : UInt8) : (#[Value.int IntKind.u8 (B a), Value.int IntKind.u8 (B b), Value.int IntKind.u8 (B c), Value.int IntKind.u8 (B d)] : Array Value) = blk 4 (four a b c d) := rfl

theorem colOut_mix (c : Nat → UInt8) : blk 4 (colOut c (four 2 3 1 1) 4) = blk 4 (Gf.mix c) :=
  blk_congr fun i hi => by
    have h : i = 0 ∨ i = 1 ∨ i = 2 ∨ i = 3 := by omega
    have e : ∀ a b d e : UInt8, 0 ^^^ a ^^^ b ^^^ d ^^^ e = a ^^^ b ^^^ d ^^^ e := by intro a b d e; simp
    rcases h with rfl | rfl | rfl | rfl <;>
      simp only [colOut, colTo, colRow, four, Gf.mix, Gf.one_mul, e, show (0 : Nat) < 4 from by decide, show (1 : Nat) < 4 from by decide, show (2 : Nat) < 4 from by decide, show (3 : Nat) < 4 from by decide, if_true, Nat.reduceMod, Nat.reduceMul, Nat.reduceAdd] <;>
      ac_rfl

theorem colOut_unmix (c : Nat → UInt8) : blk 4 (colOut c (four 14 11 13 9) 4) = blk 4 (Gf.unmix c) :=
  blk_congr fun i hi => by
    have h : i = 0 ∨ i = 1 ∨ i = 2 ∨ i = 3 := by omega
    have e : ∀ a b d e : UInt8, 0 ^^^ a ^^^ b ^^^ d ^^^ e = a ^^^ b ^^^ d ^^^ e := by intro a b d e; simp
    rcases h with rfl | rfl | rfl | rfl <;>
      simp only [colOut, colTo, colRow, four, Gf.unmix, e, show (0 : Nat) < 4 from by decide, show (1 : Nat) < 4 from by decide, show (2 : Nat) < 4 from by decide, show (3 : Nat) < 4 from by decide, if_true, Nat.reduceMod, Nat.reduceMul, Nat.reduceAdd] <;>
      ac_rfl

theorem built_unmix : ((((blk 4 fun _ => 0).setIfInBounds 0 (Value.int .u8 14)).setIfInBounds 1 (Value.int .u8 11)).setIfInBounds 2 (Value.int .u8 13)).setIfInBounds 3 (Value.int .u8 9) = blk 4 (four 14 11 13 9) := rfl
set_option maxHeartbeats 400000 in
theorem unmix_any (c : Nat → UInt8) (w : World) : Calls Try.prog 58 #[.agg (blk 4 c)] w fun e w' => e = .returned (.agg (blk 4 (Gf.unmix c))) ∧ Below w.heap.size w w' := by
  have hz := zero4
  have hb := built_unmix
  go_enter Try.func58, Try.ntmps58
  go_wp2_with fail
  refine (column_any _ _ _).mono ?_; rintro e w1 ⟨rfl, hw⟩
  rw [colOut_unmix]
  have r1 : rowAt w1 (w.heap.size + 1) = blk 4 (fun _ => 0) := (below_rowAt hw (by simp)).trans (by simp [go_sem])
  have r2 : freeRow w1 (w.heap.size + 1) = true := (below_freeRow hw (by simp)).trans (by simp [go_sem])
  have r3 : isRow w1 (w.heap.size + 1) = true := (below_isRow hw (by simp)).trans (by simp [go_sem])
  have HW := Lib.hid hw; clear hw
  go_wp2_with fail
  refine bodyPost_ret (results_row rfl _ (w.heap.size + 1) rfl (blk 4 (Gf.unmix c)) (by simp [go_sem, r3]) (by simp [go_sem]) (by simp [go_sem]) (by simp [go_sem, r3])) rfl ⟨rfl, ?_⟩
  refine below_setRow' ?_ (by omega) _
  exact (((Below.refl _ _).alloc (Nat.le_refl _) _).alloc (by simp) _).trans (HW.out.mono (by simp; omega))

end Go.Proofs.Ytepooocdpifcfaa
