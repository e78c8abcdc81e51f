/- The program's columns, mixed and unmixed, and the reference's, return what the plain functions reckon; the call's own memory apart nothing turns. No condition on bytes. -/
import Derived.Test.YtepooocdpifcfaaGfRef
import Derived.Test.YtepooocdpifcfaaRow
import Derived.Deep.RegionHeld3
namespace Go.Proofs.Ytepooocdpifcfaa
open Go.RowKit
attribute [local go_sem] B_xor B_or B_and
attribute [local go_sem] blk_set blk_size blk_get blk_getE upd_same oneCells_blk paste_blk cut_blk szOf
attribute [local go_sem high] paste_all cut_head
attribute [local go_sem] rowAt_alloc rowAt_drew rowAt_drewN isRow_alloc isRow_drew isRow_drewN freeRow_alloc freeRow_drew freeRow_drewN
attribute [local go_sem] setRow_alloc setRow_drew setRow_drewN setCell_drewN alloc_drewN
attribute [local go_sem ↓] loadS_in storeS_in indexS_in copyS_in
attribute [local go_sem] loadS_row loadS_one storeS_row storeS_one indexS_blk copyS_rows
theorem zero4 : (#[Value.int IntKind.u8 0, Value.int IntKind.u8 0, Value.int IntKind.u8 0, Value.int IntKind.u8 0] : Array Value) = blk 4 (fun _ => 0) := rfl

def colRow (f : Nat → UInt8) (i : Nat) : Nat → UInt8 := fun j => f ((j + 3 * i) % 4)
def colTo (c f : Nat → UInt8) (i : Nat) : Nat → UInt8
  | 0 => 0
  | k + 1 => colTo c f i k ^^^ Gf.mul (colRow f i k) (c k)
def colOut (c f : Nat → UInt8) (i : Nat) : Nat → UInt8 := fun t => if t < i then colTo c f t 4 else 0
theorem colRow_begin (f : Nat → UInt8) : blk 4 f = blk 4 (colRow f 0) :=
  blk_congr fun i hi => by simp only [colRow]; congr 1; omega
theorem colRow_next (f : Nat → UInt8) (m : Nat) : blk 4 (upd (cpy (colRow f m) 1 (colRow f m) 0 3) 0 (colRow f m 3)) = blk 4 (colRow f (m + 1)) :=
  blk_congr fun i hi => by
    unfold upd cpy colRow
    split
    · rename_i h; subst h; congr 1; omega
    · rw [if_pos (by omega)]; simp only [Nat.zero_add]; congr 1; omega
theorem colOut_begin (c f : Nat → UInt8) (m : Nat) : blk 4 (upd (colOut c f m) m (colTo c f m 0)) = blk 4 (colOut c f m) :=
  blk_congr fun i hi => by unfold upd; split <;> simp_all [colOut, colTo]
theorem colOut_step (c f : Nat → UInt8) (m k : Nat) : blk 4 (upd (upd (colOut c f m) m (colTo c f m k)) m (colTo c f m k ^^^ Gf.mul (colRow f m k) (c k))) = blk 4 (upd (colOut c f m) m (colTo c f m (k + 1))) :=
  blk_congr fun i hi => by unfold upd; split <;> simp_all [colTo]
theorem colOut_next (c f : Nat → UInt8) (m : Nat) : blk 4 (upd (colOut c f m) m (colTo c f m 4)) = blk 4 (colOut c f (m + 1)) :=
  blk_congr fun i hi => by
    unfold upd colOut
    by_cases h : i = m
    · subst h; simp
    · simp only [h, if_false]
      by_cases h2 : i < m
      · rw [if_pos h2, if_pos (by omega)]
      · rw [if_neg h2, if_neg (by omega)]

set_option maxHeartbeats 1000000 in
theorem column_any (c f : Nat → UInt8) (w : World) : Calls Try.prog 66 #[.agg (blk 4 c), .agg (blk 4 f)] w fun e w' => e = .returned (.agg (blk 4 (colOut c f 4))) ∧ Below w.heap.size w w' := by
  have hz := zero4
  go_enter Try.func66, Try.ntmps66
  go_wp2_with fail
  go_region
  go_wp2_with fail
  go_loopw [14] (fun i wr => ∃ m n : Nat, m ≤ 4 ∧ i = .int .i64 (m : Int) ∧ wr = (((((w.alloc (.cells (blk 4 c) 76)).alloc (.cells (blk 4 f) 76)).alloc (.cells (blk 4 fun _ => 0) 76)).alloc (.cells (blk 4 (colOut c f m)) 76)).alloc (.cells (blk 4 (colRow f m)) 76)).drewN n) (fun i _ => 4 - (intOf i).toNat)
  case atStart =>
    refine ⟨0, 1, by omega, rfl, ?_⟩
    rw [colRow_begin]
    rfl
  case round =>
    obtain ⟨m, n, hm, rfl, rfl⟩ := hrel
    by_cases hlt : m < 4
    · have hd : decide ((m : Int) < 4) = true := by simp; omega
      go_wp2_with fail
      go_loopw [18] (fun i wr => ∃ k n : Nat, k ≤ 4 ∧ i = .int .i64 (k : Int) ∧ wr = (((((w.alloc (.cells (blk 4 c) 76)).alloc (.cells (blk 4 f) 76)).alloc (.cells (blk 4 fun _ => 0) 76)).alloc (.cells (blk 4 (upd (colOut c f m) m (colTo c f m k))) 76)).alloc (.cells (blk 4 (colRow f m)) 76)).drewN n) (fun i _ => 4 - (intOf i).toNat)
      case atStart => exact ⟨0, n, by omega, rfl, by rw [colOut_begin]⟩
      case round =>
        obtain ⟨k, n, hk, rfl, rfl⟩ := hrel
        by_cases hlt2 : k < 4
        · go_wp2_with fail
          go_region_with (first | (go_at_call 68; refine ((mul_pur _ _).go _).mono ?_; rintro e w' ⟨rfl, k1, rfl⟩))
          all_goals
            go_wp2_with fail
            go_roundw
            case rel => exact ⟨k + 1, n + 1 + k1, by omega, by go_num, by rw [colOut_step]⟩
            case measure => simp [intOf]; omega
        · go_wp2_with fail
          go_region
          go_wp2_with fail
          go_roundw
          case rel =>
            obtain rfl : k = 4 := by omega
            exact ⟨m + 1, n + 1, by omega, by go_num, by rw [colRow_next, colOut_next]⟩
          case measure => simp [intOf]; omega
    · go_wp2_with fail
      obtain rfl : m = 4 := by omega
      refine bodyPost_ret (results_row rfl _ (w.heap.size + 1 + 1) rfl (blk 4 (colOut c f 4)) (by simp [go_sem]) (by simp [go_sem]) (by simp [go_sem]) (by simp [go_sem])) rfl ⟨rfl, ?_⟩
      repeat (first | exact Below.refl _ _ | refine below_drewN ?_ | refine Below.alloc ?_ (by (try simp only [World.size_alloc]); omega) _)
end Go.Proofs.Ytepooocdpifcfaa
