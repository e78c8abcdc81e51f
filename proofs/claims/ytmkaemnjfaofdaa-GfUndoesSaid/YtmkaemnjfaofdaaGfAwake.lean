/- The statements' own test at constants returns true. No condition. -/
import Derived.Test.YtmkaemnjfaofdaaGfOnly
namespace Go.Proofs.Ytmkaemnjfaofdaa
open Go.RowKit
attribute [local go_sem] B_xor B_or B_and
attribute [local go_sem] blk_set blk_size blk_get blk_getE upd_same oneCells_blk paste_blk cut_blk szOf
attribute [local go_sem high] paste_all cut_head
attribute [local go_sem] rowAt_alloc rowAt_drew rowAt_drewN isRow_alloc isRow_drew isRow_drewN freeRow_alloc freeRow_drew freeRow_drewN
attribute [local go_sem] setRow_alloc setRow_drew setRow_drewN setCell_drewN alloc_drewN rowAt_setRow isRow_setRow freeRow_setRow
attribute [local go_sem ↓] loadS_in storeS_in indexS_in copyS_in
attribute [local go_sem] loadS_row loadS_one storeS_row storeS_one indexS_blk copyS_rows run_equalIn_blk

theorem mul_lit : Pur Try.prog 8 #[.int .u8 87, .int .u8 131] (.int .u8 193) := by
  have h := mul_pur 87 131
  rwa [show Gf.mul 87 131 = 193 from by decide +kernel, show B 87 = 87 from rfl, show B 131 = 131 from rfl, show B 193 = 193 from rfl] at h
theorem box_lit0 : Pur Try.prog 15 #[.int .u8 0] (.int .u8 99) := by
  have h := box_pur 0
  rwa [show Gf.box 0 = 99 from by rw [Gf.box_tab]; decide +kernel, show B 0 = 0 from rfl, show B 99 = 99 from rfl] at h
theorem box_lit83 : Pur Try.prog 15 #[.int .u8 83] (.int .u8 237) := by
  have h := box_pur 83
  rwa [show Gf.box 83 = 237 from by rw [Gf.box_tab]; decide +kernel, show B 83 = 83 from rfl, show B 237 = 237 from rfl] at h
theorem unbox_lit : Pur Try.prog 19 #[.int .u8 99] (.int .u8 0) := by
  have h := unbox_pur 99
  rwa [show Gf.unbox 99 = 0 from by rw [show (99 : UInt8) = Gf.box 0 from by rw [Gf.box_tab]; decide +kernel, Gf.unbox_box], show B 0 = 0 from rfl, show B 99 = 99 from rfl] at h
theorem inv_lit : Pur Try.prog 10 #[.int .u8 0] (.int .u8 0) := by
  have h := inv_pur 0
  rwa [Gf.inv_zero, show B 0 = 0 from rfl] at h
theorem pow_lit : Pur Try.prog 12 #[.int .u8 0, .int .u64 0] (.int .u8 1) := by
  have h := pow_pur 0 0 (by omega) (by omega)
  rwa [show Gf.pow 0 (0 : Int).toNat = 1 from rfl, show B 0 = 0 from rfl, show B 1 = 1 from rfl] at h
theorem built_a : ((((blk 4 fun _ => 0).setIfInBounds 0 (Value.int .u8 219)).setIfInBounds 1 (Value.int .u8 19)).setIfInBounds 2 (Value.int .u8 83)).setIfInBounds 3 (Value.int .u8 69) = blk 4 (four 219 19 83 69) := rfl
theorem built_b : ((((blk 4 fun _ => 0).setIfInBounds 0 (Value.int .u8 142)).setIfInBounds 1 (Value.int .u8 77)).setIfInBounds 2 (Value.int .u8 161)).setIfInBounds 3 (Value.int .u8 188) = blk 4 (four 142 77 161 188) := rfl
theorem built_c : ((((blk 4 fun _ => 0).setIfInBounds 0 (Value.int .u8 1)).setIfInBounds 1 (Value.int .u8 1)).setIfInBounds 2 (Value.int .u8 1)).setIfInBounds 3 (Value.int .u8 1) = blk 4 (four 1 1 1 1) := rfl

set_option maxRecDepth 100000 in
set_option maxHeartbeats 1000000 in
theorem awake_any (w : World) : Calls Try.prog 14 #[] w fun e w' => e = .returned (.bool true) ∧ Below w.heap.size w w' := by
  have hz := zero4
  have ha := built_a
  have hb := built_b
  have hc := built_c
  have s1 : same 4 (Gf.mix (four 219 19 83 69)) (four 142 77 161 188) = true := by decide +kernel
  have s2 : same 4 (Gf.unmix (four 1 1 1 1)) (four 1 1 1 1) = true := by decide +kernel
  go_enter Try.func14, Try.ntmps14
  go_wp2_with fail
  refine (mul_lit.go _).mono ?_; rintro e w' ⟨rfl, k1, rfl⟩
  go_wp2_with fail
  refine (box_lit0.go _).mono ?_; rintro e w' ⟨rfl, k2, rfl⟩
  go_wp2_with fail
  refine (box_lit83.go _).mono ?_; rintro e w' ⟨rfl, k3, rfl⟩
  go_wp2_with fail
  refine (unbox_lit.go _).mono ?_; rintro e w' ⟨rfl, k4, rfl⟩
  go_wp2_with fail
  refine (inv_lit.go _).mono ?_; rintro e w' ⟨rfl, k5, rfl⟩
  go_wp2_with fail
  refine (pow_lit.go _).mono ?_; rintro e w' ⟨rfl, k6, rfl⟩
  go_wp2_with fail
  refine (mix_any _ _).mono ?_; rintro e w1 ⟨rfl, hw⟩
  have HW := Lib.hid hw; clear hw
  go_wp2_with fail
  refine (unmix_any _ _).mono ?_; rintro e w2 ⟨rfl, hw⟩
  have HW2 := Lib.hid hw; clear hw
  go_wp2_with fail
  go_ret
  refine ⟨rfl, ?_⟩
  have h1 := HW.out
  have h2 := HW2.out
  have hs := h1.size
  simp only [World.heap_drewN] at h1 hs
  exact ((drewN_below w _).trans h1).trans (h2.mono hs)

end Go.Proofs.Ytmkaemnjfaofdaa
