/- Columns of blocks, mixed and told out, of the program's package cipher. No condition on bytes. -/
import Derived.Test.YtepooocdpifcfaaCiWalk
import Derived.Test.YtepooocdpifcfaaGfMix3
namespace Go.Proofs.Ytepooocdpifcfaa
open Go.RowKit
attribute [local go_sem] B_xor B_or B_and
attribute [local go_sem] blk_set blk_size blk_get blk_getE upd_same oneCells_blk paste_blk cut_blk szOf
attribute [local go_sem high] paste_all cut_head
attribute [local go_sem] rowAt_alloc rowAt_drew rowAt_drewN isRow_alloc isRow_drew isRow_drewN freeRow_alloc freeRow_end freeRow_drew freeRow_drewN
attribute [local go_sem] setRow_alloc setRow_drew setRow_drewN setCell_drewN alloc_drewN rowAt_put isRow_setRow freeRow_put
attribute [local go_sem ↓] loadS_in storeS_in indexS_in copyS_in
attribute [local go_sem] loadS_row loadS_one storeS_row storeS_one indexS_blk copyS_rows run_equalIn_blk same_refl arrayAt_row

def cmix (c : Nat → UInt8) : Nat → UInt8 := fun i => c i ^^^ (c 0 ^^^ c 1 ^^^ c 2 ^^^ c 3) ^^^ Gf.dbl (c i ^^^ c (on4 i 1))
theorem cmix_mix (c : Nat → UInt8) : blk 4 (cmix c) = blk 4 (Gf.mix c) := blk_congr fun i hi => by
  have m2 : ∀ x, Gf.mul 2 x = Gf.dbl x := by apply Gf.all256; decide +kernel
  have h : ∀ a b c d : UInt8, a ^^^ (a ^^^ b ^^^ c ^^^ d) ^^^ (Gf.dbl a ^^^ Gf.dbl b) = Gf.dbl a ^^^ (Gf.dbl b ^^^ b) ^^^ c ^^^ d := fun a b c d => by
    rw [show a ^^^ (a ^^^ b ^^^ c ^^^ d) ^^^ (Gf.dbl a ^^^ Gf.dbl b) = (a ^^^ a) ^^^ (Gf.dbl a ^^^ (Gf.dbl b ^^^ b) ^^^ c ^^^ d) from by ac_rfl, UInt8.xor_self, UInt8.zero_xor]
  have hc := Ci.four_cases hi
  unfold cmix Gf.mix on4
  rw [m2, Gf.mul3, Gf.dbl_xor]
  rcases hc with rfl | rfl | rfl | rfl
  · exact h _ _ _ _
  · rw [← h]; simp only [Nat.reduceAdd, Nat.reduceMod]; ac_rfl
  · rw [← h]; simp only [Nat.reduceAdd, Nat.reduceMod]; ac_rfl
  · rw [← h]; simp only [Nat.reduceAdd, Nat.reduceMod]; ac_rfl

set_option maxHeartbeats 1000000 in
theorem cipherMix_any (c : Nat → UInt8) (w : World) : Calls Try.prog 54 #[.agg (blk 4 c)] w fun e w' => e = .returned (.agg (blk 4 (Gf.mix c))) ∧ Below w.heap.size w w' := by
  have hz := zero4
  go_enter Try.func54, Try.ntmps54
  go_wp2_with fail
  go_loopw [19] (fun i wr => ∃ m n : Nat, m ≤ 4 ∧ i = .int .i64 (m : Int) ∧ wr = (((w.alloc (.cells (blk 4 c) 76)).alloc (.cells (blk 4 fun _ => 0) 76)).alloc (.cells (blk 4 (upTo (fun _ => 0) (cmix c) m)) 76)).drewN n) (fun i _ => 4 - (intOf i).toNat)
  case atStart => exact ⟨0, 0, by omega, rfl, by rw [upTo_zero]; rfl⟩
  case round =>
    obtain ⟨m, n, hm, rfl, rfl⟩ := hrel
    by_cases hlt : m < 4
    · have b1 := on4_lt m 1
      have w1 : IntKind.i64.wrap ((m : Int) + 1) = (m : Int) + 1 := IntWalk.i64_in _ (by omega)
      have t1 : ((m : Int) + 1).tmod 4 = (on4 m 1 : Int) := on4_tmod m 1
      have t2 : ((m : Int) + 1) % 4 = (on4 m 1 : Int) := by rw [← t1, Int.tmod_eq_emod_of_nonneg (by omega)]
      have v1 : IntKind.i64.wrap (on4 m 1 : Int) = (on4 m 1 : Int) := IntWalk.i64_in _ (by omega)
      have c1 : (on4 m 1 : Int) < 4 := by omega
      go_wp2_with fail
      refine ((cdouble_pur _).go _).mono ?_; rintro e w' ⟨rfl, k1, rfl⟩
      go_wp2_with fail
      go_roundw
      case rel => exact ⟨m + 1, n + k1, by omega, by go_num, by rw [← upTo_next]; rfl⟩
      case measure => simp [intOf]; omega
    · go_wp2_with fail
      obtain rfl : m = 4 := by omega
      refine bodyPost_ret (results_row rfl _ (w.heap.size + 1) rfl (blk 4 (Gf.mix c)) (by simp [go_sem, upTo_all, cmix_mix]) (by simp [go_sem]) (by simp [go_sem]) (by simp [go_sem])) rfl ⟨rfl, ?_⟩
      repeat (first | exact Below.refl _ _ | refine below_drewN ?_ | refine Below.alloc ?_ (by (try simp only [World.size_alloc]); omega) _)

/-- what a function of the program makes of a column -/
def Turns (K : FuncId) (m : (Nat → UInt8) → Nat → UInt8) : Prop := ∀ (c : Nat → UInt8) (w : World), Calls Try.prog K #[.agg (blk 4 c)] w fun e w' => e = .returned (.agg (blk 4 (m c))) ∧ Below w.heap.size w w'
def Congr4 (m : (Nat → UInt8) → Nat → UInt8) : Prop := ∀ c d : Nat → UInt8, (∀ i, i < 4 → c i = d i) → ∀ i, i < 4 → m c i = m d i

theorem cols_next (m : (Nat → UInt8) → Nat → UInt8) (hm : Congr4 m) (b : Nat → UInt8) (k : Nat) :
    blk 16 (cpy (upTo b (Ci.columns m b) (4 * k)) (4 * k) (m fun j => upTo b (Ci.columns m b) (4 * k) (4 * k + j)) 0 4) = blk 16 (upTo b (Ci.columns m b) (4 * (k + 1))) := blk_congr fun i hi => by
  unfold cpy
  by_cases h : 4 * k ≤ i ∧ i < 4 * k + 4
  · rw [if_pos h, hm _ (Ci.col b (i / 4)) (fun j hj => by unfold upTo Ci.col; rw [if_neg (by omega)]; congr 1; omega) _ (by omega)]
    unfold upTo
    rw [if_pos (by omega)]
    unfold Ci.columns
    congr 1; omega
  · rw [if_neg h]
    unfold upTo
    by_cases h2 : i < 4 * k
    · rw [if_pos h2, if_pos (by omega)]
    · rw [if_neg h2, if_neg (by omega)]

def ColsAt (w : World) (m : (Nat → UInt8) → Nat → UInt8) (b : Nat → UInt8) (k : Nat) (wr : World) : Prop :=
  rowAt wr w.heap.size = blk 16 (upTo b (Ci.columns m b) (4 * k)) ∧ freeRow wr w.heap.size = true ∧ isRow wr w.heap.size = true ∧ rowAt wr (w.heap.size + 1) = blk 16 (fun _ => 0) ∧ freeRow wr (w.heap.size + 1) = true ∧ isRow wr (w.heap.size + 1) = true ∧
    w.heap.size + 2 ≤ wr.heap.size ∧ Below w.heap.size w wr

set_option maxRecDepth 100000 in
set_option maxHeartbeats 2000000 in
theorem columns_any (b : Nat → UInt8) (K : FuncId) (m : (Nat → UInt8) → Nat → UInt8) (hm : Congr4 m) (hE : Enters K) (hK : Turns K m) (w : World) : Calls Try.prog 53 #[.agg (blk 16 b), .func (.func K) #[] #[]] w fun e w' => e = .returned (.agg (blk 16 (Ci.columns m b))) ∧ Below w.heap.size w w' := by
  have HK := Lib.hid hK; clear hK
  have HM := Lib.hid hm; clear hm
  have hE' : ∀ (args : Array Value) (w : World), Sem.run Try.prog (callFunc K args) w = Result.ok (Next.enter K args) w := hE
  have hz := zero16
  have hz4 := zero4
  go_enter Try.func53, Try.ntmps53
  go_wp2_with fail
  go_loopw [5] (fun i wr => ∃ k : Nat, k ≤ 4 ∧ i = .int .i64 (4 * (k : Int)) ∧ Hid (ColsAt w m b k wr)) (fun i _ => 16 - (intOf i).toNat)
  case atStart =>
    refine ⟨0, by omega, rfl, Lib.hid ⟨?_, ?_, ?_, ?_, ?_, ?_, ?_, ?_⟩⟩
    · simp [go_sem, upTo_zero]
    all_goals first | (simp [go_sem]; done) | exact ((Below.refl _ _).alloc (Nat.le_refl _) _).alloc (by simp) _
  case round =>
    obtain ⟨k, hk, rfl, HR⟩ := hrel
    by_cases hlt : k < 4
    · have hc := Ci.four_cases hlt
      have hcn := cols_next m HM.out b k
      rcases hc with rfl | rfl | rfl | rfl
      all_goals
        obtain ⟨r1, r2, r3, r4, r5, r6, r7, hB⟩ := HR.out
        simp only [Nat.reduceMul, Nat.reduceAdd, Nat.zero_add] at r1 hcn
        have HB := Lib.hid hB; clear hB
        have HC := Lib.hid hcn; clear hcn
        go_wp2_with fail
        refine (HK.out _ _).mono ?_; rintro e w1 ⟨rfl, hw⟩
        have hB := HB.out; clear HB
        have s1 := hw.1
        have s2 := hw.size
        have y1 := (below_rowAt hw (g := w.heap.size) (by omega)).trans r1
        have y2 := (below_freeRow hw (g := w.heap.size) (by omega)).trans r2
        have y3 := (below_isRow hw (g := w.heap.size) (by omega)).trans r3
        have y4 := (below_rowAt hw (g := w.heap.size + 1) (by omega)).trans r4
        have y5 := (below_freeRow hw (g := w.heap.size + 1) (by omega)).trans r5
        have y6 := (below_isRow hw (g := w.heap.size + 1) (by omega)).trans r6
        have hB' := Lib.hid (hB.trans (hw.mono (by omega)))
        have n1 : (w.heap.size = w1.heap.size) = False := by simp; omega
        have n2 : (w.heap.size + 1 = w1.heap.size) = False := by simp; omega
        have n3 : (w1.heap.size = w.heap.size) = False := by simp; omega
        have n4 : (w1.heap.size = w.heap.size + 1) = False := by simp; omega
        have n5 : (w1.heap.size + 1 = w.heap.size + 1) = False := by simp; omega
        clear hw hB
        go_wp2_with fail
        go_region
        have hcn := HC.out; clear HC
        go_wp2_with fail
        refine ⟨⟨_ + 1, hlt, rfl, Lib.hid ⟨?_, ?_, ?_, ?_, ?_, ?_, ?_, ?_⟩⟩, by simp [intOf]⟩
        · simp [go_sem, n1, y3]
        · simp [go_sem, n1, y1, y2]
        · simp [go_sem, n1, y3]
        · simp [go_sem, n2, y4]
        · simp [go_sem, n2, y1, y5]
        · simp [go_sem, n2, y6]
        · simp [go_sem]; omega
        · exact ((below_setRow' hB'.out (Nat.le_refl _) _).alloc (by simp [go_sem]; omega) _).drew
    · obtain rfl : k = 4 := by omega
      obtain ⟨r1, r2, r3, r4, r5, r6, r7, hB⟩ := HR.out
      have ha : blk 16 (upTo b (Ci.columns m b) (4 * 4)) = blk 16 (Ci.columns m b) := blk_congr fun i hi => by unfold upTo; rw [if_pos (by omega)]
      rw [ha] at r1; clear ha
      have HB := Lib.hid hB; clear hB
      go_wp2_with fail
      refine bodyPost_ret (results_row rfl _ (w.heap.size + 1) rfl (blk 16 (Ci.columns m b)) ?_ ?_ ?_ ?_) rfl ⟨rfl, ?_⟩
      · simp [go_sem, r6]
      · simp [go_sem]
      · simp [go_sem]
      · simp [go_sem, r6]
      · exact below_setRow' HB.out (by omega) _
end Go.Proofs.Ytepooocdpifcfaa
