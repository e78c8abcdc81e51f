/- The reference's mixed column is what the plain function reckons. No condition on bytes. -/
import Derived.Test.YtepooocdpifcfaaGfMix2
namespace Go.Proofs.Ytepooocdpifcfaa
open Go.RowKit
attribute [local go_sem] B_xor B_or B_and
attribute [local go_sem] blk_set blk_size blk_get blk_getE upd_same oneCells_blk paste_blk cut_blk szOf
attribute [local go_sem high] paste_all cut_head
attribute [local go_sem] rowAt_alloc rowAt_drew rowAt_drewN isRow_alloc isRow_drew isRow_drewN freeRow_alloc freeRow_drew freeRow_drewN
attribute [local go_sem] setRow_alloc setRow_drew setRow_drewN setCell_drewN alloc_drewN rowAt_put isRow_setRow freeRow_put
attribute [local go_sem ↓] loadS_in storeS_in indexS_in copyS_in
attribute [local go_sem] loadS_row loadS_one storeS_row storeS_one indexS_blk copyS_rows

theorem refMul_at (x y : Int) (a b : UInt8) (hx : x = B a) (hy : y = B b) : Pur Try.prog 47 #[.int .u8 x, .int .u8 y] (.int .u8 (B (Gf.mul a b))) := by
  subst hx; subst hy; exact refMul_pur a b
theorem B_two : (2 : Int) = B 2 := rfl
theorem B_three : (3 : Int) = B 3 := rfl
/-- so many places on, round the end -/
def on4 (m k : Nat) : Nat := (m + k) % 4
theorem on4_lt (m k : Nat) : on4 m k < 4 := Nat.mod_lt _ (by omega)
theorem on4_tmod (m k : Nat) : ((m : Int) + (k : Int)).tmod 4 = (on4 m k : Int) := by
  rw [Int.tmod_eq_emod_of_nonneg (by omega)]; unfold on4; omega
def mixTo (c : Nat → UInt8) (i : Nat) : Nat → UInt8 := fun t => if t < i then Gf.mix c t else 0
theorem mixTo_begin (c : Nat → UInt8) : blk 4 (fun _ => 0) = blk 4 (mixTo c 0) := rfl
theorem mixTo_next (c : Nat → UInt8) (m : Nat) : blk 4 (upd (mixTo c m) m (Gf.mul 2 (c m) ^^^ Gf.mul 3 (c (on4 m 1)) ^^^ c (on4 m 2) ^^^ c (on4 m 3))) = blk 4 (mixTo c (m + 1)) :=
  blk_congr fun i hi => by
    unfold upd mixTo
    by_cases h : i = m
    · subst h; simp [Gf.mix, on4]
    · simp only [h, if_false]
      by_cases h2 : i < m
      · rw [if_pos h2, if_pos (by omega)]
      · rw [if_neg h2, if_neg (by omega)]
theorem mixTo_end (c : Nat → UInt8) : blk 4 (mixTo c 4) = blk 4 (Gf.mix c) := blk_congr fun i hi => by simp [mixTo, hi]

set_option maxHeartbeats 1000000 in
theorem refMix_any (c : Nat → UInt8) (w : World) : Calls Try.prog 63 #[.agg (blk 4 c)] w fun e w' => e = .returned (.agg (blk 4 (Gf.mix c))) ∧ Below w.heap.size w w' := by
  have hz := zero4
  go_enter Try.func63, Try.ntmps63
  go_wp2_with fail
  go_loopw [4] (fun i wr => ∃ m n : Nat, m ≤ 4 ∧ i = .int .i64 (m : Int) ∧ wr = (((w.alloc (.cells (blk 4 c) 76)).alloc (.cells (blk 4 fun _ => 0) 76)).alloc (.cells (blk 4 (mixTo c m)) 76)).drewN n) (fun i _ => 4 - (intOf i).toNat)
  case atStart => exact ⟨0, 0, by omega, rfl, by rw [← mixTo_begin]; rfl⟩
  case round =>
    obtain ⟨m, n, hm, rfl, rfl⟩ := hrel
    by_cases hlt : m < 4
    · have b1 := on4_lt m 1
      have b2 := on4_lt m 2
      have b3 := on4_lt m 3
      have w1 : IntKind.i64.wrap ((m : Int) + 1) = (m : Int) + 1 := IntWalk.i64_in _ (by omega)
      have w2 : IntKind.i64.wrap ((m : Int) + 2) = (m : Int) + 2 := IntWalk.i64_in _ (by omega)
      have w3 : IntKind.i64.wrap ((m : Int) + 3) = (m : Int) + 3 := IntWalk.i64_in _ (by omega)
      have t1 : ((m : Int) + 1).tmod 4 = (on4 m 1 : Int) := on4_tmod m 1
      have t2 : ((m : Int) + 2).tmod 4 = (on4 m 2 : Int) := on4_tmod m 2
      have t3 : ((m : Int) + 3).tmod 4 = (on4 m 3 : Int) := on4_tmod m 3
      have v1 : IntKind.i64.wrap (on4 m 1 : Int) = (on4 m 1 : Int) := IntWalk.i64_in _ (by omega)
      have v2 : IntKind.i64.wrap (on4 m 2 : Int) = (on4 m 2 : Int) := IntWalk.i64_in _ (by omega)
      have v3 : IntKind.i64.wrap (on4 m 3 : Int) = (on4 m 3 : Int) := IntWalk.i64_in _ (by omega)
      have c1 : (on4 m 1 : Int) < 4 := by omega
      have c2 : (on4 m 2 : Int) < 4 := by omega
      have c3 : (on4 m 3 : Int) < 4 := by omega
      go_wp2_with fail
      go_region_held3 (fun w' => w'.cell? ⟨w.heap.size, m, none⟩ = some (.int .u8 (B (c m))) ∧ w'.cell? ⟨w.heap.size, on4 m 1, none⟩ = some (.int .u8 (B (c (on4 m 1)))) ∧ w'.cell? ⟨w.heap.size, on4 m 2, none⟩ = some (.int .u8 (B (c (on4 m 2)))) ∧ w'.cell? ⟨w.heap.size, on4 m 3, none⟩ = some (.int .u8 (B (c (on4 m 3))))) (simp [go_sem, hlt, b1, b2, b3]) (first | (go_at_call 47; refine ((refMul_at _ _ _ _ (by first | exact B_two | exact B_three) rfl).go _).mono ?_; rintro e w' ⟨rfl, k1, rfl⟩))
      go_wp2_with fail
      go_roundw
      case rel => exact ⟨m + 1, _, by omega, by go_num, by rw [mixTo_next]⟩
      case measure => simp [intOf]; omega
    · go_wp2_with fail
      obtain rfl : m = 4 := by omega
      refine bodyPost_ret (results_row rfl _ (w.heap.size + 1) rfl (blk 4 (mixTo c 4)) (by simp [go_sem]) (by simp [go_sem]) (by simp [go_sem]) (by simp [go_sem])) rfl ⟨by rw [mixTo_end], ?_⟩
      repeat (first | exact Below.refl _ _ | refine below_drewN ?_ | refine Below.alloc ?_ (by (try simp only [World.size_alloc]); omega) _)

end Go.Proofs.Ytepooocdpifcfaa
