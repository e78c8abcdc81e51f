/- The small functions of the program's package cipher return what the plain functions reckon; the call's own memory apart nothing turns. No condition on bytes. -/
import Derived.Test.YtepooocdpifcfaaCiPlain
import Derived.Test.YtepooocdpifcfaaGfMix2
namespace Go.Proofs.Ytepooocdpifcfaa
open Go.RowKit
attribute [local go_sem] B_xor B_or B_and
attribute [local go_sem] blk_set blk_size blk_get blk_getE upd_same oneCells_blk paste_blk cut_blk szOf
attribute [local go_sem high] paste_all cut_head
attribute [local go_sem] rowAt_alloc rowAt_drew rowAt_drewN isRow_alloc isRow_drew isRow_drewN freeRow_alloc freeRow_end freeRow_drew freeRow_drewN
attribute [local go_sem] setRow_alloc setRow_drew setRow_drewN setCell_drewN alloc_drewN rowAt_put isRow_setRow freeRow_put
attribute [local go_sem ↓] loadS_in storeS_in indexS_in copyS_in
attribute [local go_sem] loadS_row loadS_one storeS_row storeS_one indexS_blk copyS_rows run_equalIn_blk same_refl arrayAt_row

theorem zero16 : (#[Value.int IntKind.u8 0, Value.int IntKind.u8 0, Value.int IntKind.u8 0, Value.int IntKind.u8 0, Value.int IntKind.u8 0, Value.int IntKind.u8 0, Value.int IntKind.u8 0, Value.int IntKind.u8 0, Value.int IntKind.u8 0, Value.int IntKind.u8 0, Value.int IntKind.u8 0, Value.int IntKind.u8 0, Value.int IntKind.u8 0, Value.int IntKind.u8 0, Value.int IntKind.u8 0, Value.int IntKind.u8 0] : Array Value) = blk 16 (fun _ => 0) := rfl

/-- of a row's bytes those below k turned -/
def upTo (f g : Nat → UInt8) (k : Nat) : Nat → UInt8 := fun i => if i < k then g i else f i
theorem upTo_zero (n : Nat) (f g : Nat → UInt8) : blk n (upTo f g 0) = blk n f := blk_congr fun i _ => by simp [upTo]
theorem upTo_all (n : Nat) (f g : Nat → UInt8) : blk n (upTo f g n) = blk n g := blk_congr fun i hi => by simp [upTo, hi]
theorem upTo_at (f g : Nat → UInt8) (k : Nat) : upTo f g k k = f k := by simp [upTo]
theorem upTo_next (n : Nat) (f g : Nat → UInt8) (k : Nat) : blk n (upd (upTo f g k) k (g k)) = blk n (upTo f g (k + 1)) := blk_congr fun i _ => by
  unfold upd upTo
  by_cases h : i = k
  · subst h; simp
  · by_cases h2 : i < k
    · rw [if_neg h, if_pos h2, if_pos (by omega)]
    · rw [if_neg h, if_neg h2, if_neg (by omega)]

set_option maxHeartbeats 400000 in
theorem xor_any (a b : Nat → UInt8) (w : World) : Calls Try.prog 22 #[.agg (blk 16 a), .agg (blk 16 b)] w fun e w' => e = .returned (.agg (blk 16 (Ci.xorB a b))) ∧ Below w.heap.size w w' := by
  have hz := zero16
  go_enter Try.func22, Try.ntmps22
  go_wp2_with fail
  go_loopw [8] (fun i wr => ∃ k : Nat, k ≤ 16 ∧ i = .int .i64 (k : Int) ∧ wr = ((w.alloc (.cells (blk 16 (upTo a (Ci.xorB a b) k)) 23)).alloc (.cells (blk 16 b) 23)).alloc (.cells (blk 16 fun _ => 0) 23)) (fun i _ => 16 - (intOf i).toNat)
  case atStart => exact ⟨0, by omega, rfl, by rw [upTo_zero]⟩
  case round =>
    obtain ⟨k, hk, rfl, rfl⟩ := hrel
    by_cases hlt : k < 16
    · have hat := upTo_at a (Ci.xorB a b) k
      go_wp2_with fail
      go_roundw
      case rel => exact ⟨k + 1, by omega, by go_num, by rw [← upTo_next]; rfl⟩
      case measure => simp [intOf]; omega
    · go_wp2_with fail
      obtain rfl : k = 16 := by omega
      refine bodyPost_ret (results_row rfl _ (w.heap.size + 1 + 1) rfl (blk 16 (Ci.xorB a b)) (by simp [go_sem, upTo_all]) (by simp [go_sem]) (by simp [go_sem]) (by simp [go_sem])) rfl ⟨rfl, ?_⟩
      repeat (first | exact Below.refl _ _ | refine below_drewN ?_ | refine Below.alloc ?_ (by (try simp only [World.size_alloc]); omega) _)

theorem retBelow {B : Nat} {a w : World} (h : Below B a w) : Below B a w := h

/-- a function's number is called as it stands -/
def Enters (K : FuncId) : Prop := ∀ (args : Array Value) (w : World), Sem.run Try.prog (callFunc K args) w = Result.ok (Next.enter K args) w
/-- a place that a function of the program tells -/
def Places (K : FuncId) (g : Nat → Nat) : Prop := ∀ i : Nat, i < 16 → Pur Try.prog K #[.int .i64 (i : Int)] (.int .i64 (g i : Int)) ∧ g i < 16

set_option maxHeartbeats 400000 in
theorem moved_any (b : Nat → UInt8) (K : FuncId) (g : Nat → Nat) (hE : Enters K) (hK : Places K g) (w : World) : Calls Try.prog 48 #[.agg (blk 16 b), .func (.func K) #[] #[]] w fun e w' => e = .returned (.agg (blk 16 fun i => b (g i))) ∧ Below w.heap.size w w' := by
  have HK := Lib.hid hK; clear hK
  have hE' : ∀ (args : Array Value) (w : World), Sem.run Try.prog (callFunc K args) w = Result.ok (Next.enter K args) w := hE
  have hz := zero16
  go_enter Try.func48, Try.ntmps48
  go_wp2_with fail
  go_loopw [7] (fun i wr => ∃ k n : Nat, k ≤ 16 ∧ i = .int .i64 (k : Int) ∧ wr = (((w.alloc (.cells (blk 16 b) 23)).alloc (.cells (blk 16 fun _ => 0) 23)).alloc (.cells (blk 16 (upTo (fun _ => 0) (fun i => b (g i)) k)) 23)).drewN n) (fun i _ => 16 - (intOf i).toNat)
  case atStart => exact ⟨0, 0, by omega, rfl, by rw [upTo_zero]; rfl⟩
  case round =>
    obtain ⟨k, n, hk, rfl, rfl⟩ := hrel
    by_cases hlt : k < 16
    · obtain ⟨hc, hg⟩ := HK.out k hlt
      have HC := Lib.hid hc; clear hc
      go_wp2_with fail
      refine (HC.out.go _).mono ?_; rintro e w' ⟨rfl, k1, rfl⟩
      go_wp2_with fail
      go_roundw
      case rel => exact ⟨k + 1, n + k1, by omega, by go_num, by rw [← upTo_next]⟩
      case measure => simp [intOf]; omega
    · go_wp2_with fail
      obtain rfl : k = 16 := by omega
      refine bodyPost_ret (results_row rfl _ (w.heap.size + 1) rfl (blk 16 fun i => b (g i)) (by simp [go_sem, upTo_all]) (by simp [go_sem]) (by simp [go_sem]) (by simp [go_sem])) rfl ⟨rfl, ?_⟩
      repeat (first | exact Below.refl _ _ | refine below_drewN ?_ | refine Below.alloc ?_ (by (try simp only [World.size_alloc]); omega) _)

theorem turnAt_int : ∀ i : Nat, i < 16 → ((i : Int) + 4 * ((i : Int) % 4)) % 16 = (Ci.turnAt i : Int) := by decide
theorem unturnAt_int : ∀ i : Nat, i < 16 → ((i : Int) + 12 * ((i : Int) % 4)) % 16 = (Ci.unturnAt i : Int) := by decide

theorem turn1_enters : Enters 49 := fun args w => by simp [go_sem]
theorem unturn1_enters : Enters 50 := fun args w => by simp [go_sem]
theorem turn1_places : Places 49 Ci.turnAt := fun i hi => by
  refine ⟨fun w => ?_, Ci.turnAt_lt i⟩
  have HT := Lib.hid (turnAt_int i hi)
  go_enter Try.func49, Try.ntmps49
  go_wp2_with fail
  go_ret
  exact ⟨by rw [← HT.out]; rfl, 0, rfl⟩
theorem unturn1_places : Places 50 Ci.unturnAt := fun i hi => by
  refine ⟨fun w => ?_, Ci.unturnAt_lt i⟩
  have HT := Lib.hid (unturnAt_int i hi)
  go_enter Try.func50, Try.ntmps50
  go_wp2_with fail
  go_ret
  exact ⟨by rw [← HT.out]; rfl, 0, rfl⟩

set_option maxHeartbeats 400000 in
theorem turn_any (b : Nat → UInt8) (w : World) : Calls Try.prog 28 #[.agg (blk 16 b)] w fun e w' => e = .returned (.agg (blk 16 (Ci.turn b))) ∧ Below w.heap.size w w' := by
  have hz := zero16
  go_enter Try.func28, Try.ntmps28
  go_wp2_with fail
  refine (moved_any _ _ _ turn1_enters turn1_places _).mono ?_; rintro e w1 ⟨rfl, hw⟩
  have r1 : rowAt w1 (w.heap.size + 1) = blk 16 (fun _ => 0) := (below_rowAt hw (by simp)).trans (by simp [go_sem])
  have r2 : freeRow w1 (w.heap.size + 1) = true := (below_freeRow hw (by simp)).trans (by simp [go_sem])
  have r3 : isRow w1 (w.heap.size + 1) = true := (below_isRow hw (by simp)).trans (by simp [go_sem])
  have HW := Lib.hid hw; clear hw
  go_wp2_with fail
  refine bodyPost_ret (results_row rfl _ (w.heap.size + 1) rfl (blk 16 (Ci.turn b)) (by simp [go_sem, r3]; rfl) (by simp [go_sem]) (by simp [go_sem]) (by simp [go_sem, r3])) rfl ⟨rfl, ?_⟩
  refine below_setRow' ?_ (by omega) _
  exact (((Below.refl _ _).alloc (Nat.le_refl _) _).alloc (by simp) _).trans (HW.out.mono (by simp; omega))

set_option maxHeartbeats 400000 in
theorem unturn_any (b : Nat → UInt8) (w : World) : Calls Try.prog 30 #[.agg (blk 16 b)] w fun e w' => e = .returned (.agg (blk 16 (Ci.unturn b))) ∧ Below w.heap.size w w' := by
  have hz := zero16
  go_enter Try.func30, Try.ntmps30
  go_wp2_with fail
  refine (moved_any _ _ _ unturn1_enters unturn1_places _).mono ?_; rintro e w1 ⟨rfl, hw⟩
  have r1 : rowAt w1 (w.heap.size + 1) = blk 16 (fun _ => 0) := (below_rowAt hw (by simp)).trans (by simp [go_sem])
  have r2 : freeRow w1 (w.heap.size + 1) = true := (below_freeRow hw (by simp)).trans (by simp [go_sem])
  have r3 : isRow w1 (w.heap.size + 1) = true := (below_isRow hw (by simp)).trans (by simp [go_sem])
  have HW := Lib.hid hw; clear hw
  go_wp2_with fail
  refine bodyPost_ret (results_row rfl _ (w.heap.size + 1) rfl (blk 16 (Ci.unturn b)) (by simp [go_sem, r3]; rfl) (by simp [go_sem]) (by simp [go_sem]) (by simp [go_sem, r3])) rfl ⟨rfl, ?_⟩
  refine below_setRow' ?_ (by omega) _
  exact (((Below.refl _ _).alloc (Nat.le_refl _) _).alloc (by simp) _).trans (HW.out.mono (by simp; omega))

/-- a text that holds the boxes -/
def tabled (s : ByteArray) : Bool := decide (s.size = 256) && (List.range 256).all fun n => s.data[n]? == some (Gf.boxTab.getD n 0)
theorem index_box {P : Program} (t : TypeId) (s : ByteArray) (a : UInt8) (w : World) (ht : P.underlying t = some .string) (hs : tabled s = true) :
    (indexS t (.string s) (.int .u8 (B a))).run P w = .ok (.int .u8 (B (Gf.box a))) w := by
  simp only [tabled, Bool.and_eq_true, decide_eq_true_eq, List.all_eq_true, List.mem_range, beq_iff_eq] at hs
  have h := hs.2 a.toNat a.toNat_lt
  have h0 : 0 ≤ B a := (B_bd a).1
  have h1 : (B a).toNat = a.toNat := by unfold B; exact Int.toNat_natCast _
  have hlt : a.toNat < s.size := by rw [hs.1]; exact a.toNat_lt
  have hg : s[a.toNat]? = some (Gf.boxTab.getD a.toNat 0) := by
    rw [getElem?_pos s a.toNat hlt]
    have h2 : a.toNat < s.data.size := hlt
    rw [Array.getElem?_eq_getElem h2] at h
    exact h
  simp only [indexS, Instr.index, asIntOf, Sem.run_bind, Sem.run_pure, Result.andThen_ok, run_underlying ht, h0, if_true, h1, hg]
  rw [Gf.box_tab]; rfl

set_option maxRecDepth 100000 in
set_option maxHeartbeats 400000 in
theorem cbox_pur (a : UInt8) : Pur Try.prog 52 #[.int .u8 (B a)] (.int .u8 (B (Gf.box a))) := by
  intro w
  go_enter Try.func52, Try.ntmps52
  go_wp2_with fail
  rw [index_box _ _ _ _ Try.underlying9 (by decide +kernel)]
  go_wp2_with fail
  go_ret
  exact ⟨rfl, 0, rfl⟩

theorem cdouble_pur (a : UInt8) : Pur Try.prog 45 #[.int .u8 (B a)] (.int .u8 (B (Gf.dbl a))) := by
  intro w
  obtain ⟨h0, h1⟩ := B_bd a
  go_enter Try.func45, Try.ntmps45
  go_wp2_with fail
  go_ret
  exact ⟨by simp [dbl_walk], 0, rfl⟩

/-- what a function of the program makes of a byte -/
def Makes (K : FuncId) (g : UInt8 → UInt8) : Prop := ∀ x : UInt8, Pur Try.prog K #[.int .u8 (B x)] (.int .u8 (B (g x)))

set_option maxHeartbeats 400000 in
theorem each_any (b : Nat → UInt8) (K : FuncId) (g : UInt8 → UInt8) (hE : Enters K) (hK : Makes K g) (w : World) : Calls Try.prog 51 #[.agg (blk 16 b), .func (.func K) #[] #[]] w fun e w' => e = .returned (.agg (blk 16 (Ci.each g b))) ∧ Below w.heap.size w w' := by
  have HK := Lib.hid hK; clear hK
  have hE' : ∀ (args : Array Value) (w : World), Sem.run Try.prog (callFunc K args) w = Result.ok (Next.enter K args) w := hE
  have hz := zero16
  go_enter Try.func51, Try.ntmps51
  go_wp2_with fail
  go_loopw [8] (fun i wr => ∃ k n : Nat, k ≤ 16 ∧ i = .int .i64 (k : Int) ∧ wr = ((w.alloc (.cells (blk 16 (upTo b (Ci.each g b) k)) 23)).alloc (.cells (blk 16 fun _ => 0) 23)).drewN n) (fun i _ => 16 - (intOf i).toNat)
  case atStart => exact ⟨0, 0, by omega, rfl, by rw [upTo_zero]; rfl⟩
  case round =>
    obtain ⟨k, n, hk, rfl, rfl⟩ := hrel
    by_cases hlt : k < 16
    · have HC := Lib.hid (HK.out (b k))
      go_wp2_with fail
      refine (HC.out.go _).mono ?_; rintro e w' ⟨rfl, k1, rfl⟩
      go_wp2_with fail
      go_roundw
      case rel => exact ⟨k + 1, n + k1, by omega, by go_num, by rw [← upTo_next]; rfl⟩
      case measure => simp [intOf]; omega
    · go_wp2_with fail
      obtain rfl : k = 16 := by omega
      refine bodyPost_ret (results_row rfl _ (w.heap.size + 1) rfl (blk 16 (Ci.each g b)) (by simp [go_sem, upTo_all]) (by simp [go_sem]) (by simp [go_sem]) (by simp [go_sem])) rfl ⟨rfl, ?_⟩
      repeat (first | exact Below.refl _ _ | refine below_drewN ?_ | refine Below.alloc ?_ (by (try simp only [World.size_alloc]); omega) _)

end Go.Proofs.Ytepooocdpifcfaa
