/- The program's round behind a round. No condition on bytes. -/
import Derived.Test.YtepooocdpifcfaaCiWalk2
import Derived.Test.YtepooocdpifcfaaTail
import Derived.Deep.RegionHeld3
namespace Go.Proofs.Ytepooocdpifcfaa
open Go.RowKit
attribute [local go_sem] B_xor B_or B_and
attribute [local go_sem] blk_set blk_size blk_get blk_getE upd_same oneCells_blk paste_blk cut_blk szOf
attribute [local go_sem high] paste_all cut_head
attribute [local go_sem] rowAt_alloc rowAt_drew rowAt_drewN isRow_alloc isRow_drew isRow_drewN freeRow_alloc freeRow_end freeRow_drew freeRow_drewN
attribute [local go_sem] setRow_alloc setRow_drew setRow_drewN setCell_drewN alloc_drewN rowAt_put isRow_setRow freeRow_put
attribute [local go_sem ↓] loadS_in storeS_in indexS_in copyS_in
attribute [local go_sem] loadS_row loadS_one storeS_row storeS_one indexS_blk copyS_rows run_equalIn_blk same_refl arrayAt_row

set_option maxHeartbeats 400000 in
theorem word_any (b : Nat → UInt8) (n : Nat) (hn : n < 4) (w : World) : Calls Try.prog 60 #[.agg (blk 16 b), .int .i64 (n : Int)] w fun e w' => e = .returned (.agg (blk 4 (Ci.col b n))) ∧ Below w.heap.size w w' := by
  have hz := zero4
  rcases Ci.four_cases hn with rfl | rfl | rfl | rfl <;>
  · go_enter Try.func60, Try.ntmps60
    go_wp2_with fail
    refine bodyPost_ret (results_row rfl _ (w.heap.size + 1) rfl (blk 4 (Ci.col b _)) (by simp [go_sem]; rfl) (by simp [go_sem]) (by simp [go_sem]) (by simp [go_sem])) rfl ⟨rfl, ?_⟩
    repeat (first | exact Below.refl _ _ | refine below_drewN ?_ | refine Below.alloc ?_ (by (try simp only [World.size_alloc]); omega) _)

theorem setCell_row {w : World} (g i : Nat) (v : Value) (h : isRow w g = true) : w.setCell ⟨g, i, none⟩ v = w.setRow g ((rowAt w g).setIfInBounds i v) := by
  obtain ⟨cs, t, fr, hh, hr⟩ := isRow_cells h
  rw [hr]
  unfold World.setCell World.setRow
  congr 1
  apply Array.ext_getElem?
  intro n
  simp only [Array.getElem?_modify]
  by_cases hn : g = n
  · subst hn; simp [hh]
  · simp [hn]
theorem blk_ne (n : Nat) (f : Nat → UInt8) : (blk (n + 1) f = #[]) = False := by
  simp only [eq_iff_iff, iff_false]
  intro h
  have := congrArg Array.size h
  rw [blk_size] at this
  simp at this
attribute [local go_sem] cell_row frozen_row setCell_row blk_ne
def at4 (n i : Nat) : Nat := 4 * n + i
/-- the word that is put to the n-th -/
def lead (b : Nat → UInt8) (m : UInt8) : Nat → Nat → UInt8
  | 0 => Ci.first b m
  | n + 1 => fun i => Ci.nextAt b (Ci.first b m) n i
theorem next_at (b : Nat → UInt8) (m : UInt8) (n i : Nat) (hi : i < 4) : Ci.next b m (at4 n i) = b (at4 n i) ^^^ lead b m n i := by
  unfold Ci.next at4
  rw [show (4 * n + i) / 4 = n by omega, show (4 * n + i) % 4 = i by omega]
  cases n with
  | zero => simp [Ci.nextAt, lead]
  | succ n => rfl
theorem lead_next (b : Nat → UInt8) (m : UInt8) (n : Nat) : blk 4 (Ci.col (upTo b (Ci.next b m) (at4 n 4)) n) = blk 4 (lead b m (n + 1)) := blk_congr fun i hi => by
  unfold Ci.col upTo at4
  rw [if_pos (by omega)]
  unfold Ci.next
  rw [show (4 * n + i) / 4 = n by omega, show (4 * n + i) % 4 = i by omega]; rfl

def NextAt (w : World) (g : Nat) (b : Nat → UInt8) (m : UInt8) (n i : Nat) (wr : World) : Prop :=
  rowAt wr w.heap.size = blk 16 (upTo b (Ci.next b m) (at4 n i)) ∧ freeRow wr w.heap.size = true ∧ isRow wr w.heap.size = true ∧ rowAt wr (w.heap.size + 1) = blk 16 (fun _ => 0) ∧ freeRow wr (w.heap.size + 1) = true ∧ isRow wr (w.heap.size + 1) = true ∧
    rowAt wr g = blk 4 (lead b m n) ∧ freeRow wr g = true ∧ isRow wr g = true ∧ g < wr.heap.size ∧ w.heap.size + 2 ≤ g ∧ Below w.heap.size w wr

theorem upd_first (b : Nat → UInt8) (m : UInt8) : blk 4 (upd (upd (upd (upd (fun _ => 0) 0 (Gf.box (Ci.col b 3 1) ^^^ m)) 1 (Gf.box (Ci.col b 3 2))) 2 (Gf.box (Ci.col b 3 3))) 3 (Gf.box (Ci.col b 3 0))) = blk 4 (lead b m 0) := blk_congr fun i hi => by
  rcases Ci.four_cases hi with rfl | rfl | rfl | rfl <;> rfl

/-- a region's end, whatever order was drawn -/
def CutPost (A : Act) (W : World) : Exit → Act → World → Prop
  | .normal, a, w => a = A ∧ ∃ k, w = W.drewN k
  | _, _, _ => False
theorem region_cut {P : Program} {id : Nat} {ops : Array Oper} {b : Bool} {Q : Exit → Act → World → Prop} {a : Act} {w : World} (A : Act) (W : World) (h : (Code.region id ops b).wp P (CutPost A W) a w) (k : ∀ n, Q .normal A (W.drewN n)) : (Code.region id ops b).wp P Q a w :=
  Code.wp_mono (fun e a' w' (hh : CutPost A W e a' w') => by cases e with | normal => obtain ⟨rfl, n, rfl⟩ := hh; exact k n | _ => exact False.elim hh) h

set_option maxRecDepth 100000 in
set_option maxHeartbeats 1000000 in
theorem next_any (b : Nat → UInt8) (m : UInt8) (w : World) : Calls Try.prog 44 #[.agg (blk 16 b), .int .u8 (B m)] w fun e w' => e = .returned (.agg (blk 16 (Ci.next b m))) ∧ Below w.heap.size w w' := by
  have hz := zero16
  have hz4 := zero4
  have hbf := upd_first b m
  go_enter Try.func44, Try.ntmps44
  go_wp2_with fail
  refine (word_any _ 3 (by decide) _).mono ?_; rintro e w1 ⟨rfl, hw⟩
  have s1 := hw.1
  have s2 := hw.size
  simp only [World.size_alloc] at s2
  have y1 : rowAt w1 w.heap.size = blk 16 b := (below_rowAt hw (g := w.heap.size) (by simp; omega)).trans (by simp [go_sem])
  have y2 : freeRow w1 w.heap.size = true := (below_freeRow hw (g := w.heap.size) (by simp; omega)).trans (by simp [go_sem])
  have y3 : isRow w1 w.heap.size = true := (below_isRow hw (g := w.heap.size) (by simp; omega)).trans (by simp [go_sem])
  have y4 : rowAt w1 (w.heap.size + 1) = blk 16 fun _ => 0 := (below_rowAt hw (g := w.heap.size + 1) (by simp)).trans (by simp [go_sem])
  have y5 : freeRow w1 (w.heap.size + 1) = true := (below_freeRow hw (g := w.heap.size + 1) (by simp)).trans (by simp [go_sem])
  have y6 : isRow w1 (w.heap.size + 1) = true := (below_isRow hw (g := w.heap.size + 1) (by simp)).trans (by simp [go_sem])
  have hB := Lib.hid ((((Below.refl _ _).alloc (Nat.le_refl _) _).alloc (by simp) _).trans (hw.mono (by simp; omega)))
  clear hw
  go_wp2_with fail
  apply region_cut (W := (w1.alloc (.cells (blk 4 (Ci.col b 3)) 76)).alloc (.cells (blk 4 (lead b m 0)) 76))
  case h =>
    go_region_held3 (fun w' => rowAt w' w1.heap.size = blk 4 (Ci.col b 3) ∧ isRow w' w1.heap.size = true) (simp [go_sem])
      (first | (go_at_call 52; refine ((cbox_pur _).go _).mono ?_; rintro e w' ⟨rfl, k1, rfl⟩))
    all_goals exact ⟨rfl, _, rfl⟩
  case k =>
    intro k
    clear hbf
    have hst : NextAt w (w1.heap.size + 1) b m 0 0 (((w1.alloc (.cells (blk 4 (Ci.col b 3)) 76)).alloc (.cells (blk 4 (lead b m 0)) 76)).drewN k) := by
      have h0 : blk 16 (upTo b (Ci.next b m) (at4 0 0)) = blk 16 b := upTo_zero _ _ _
      have m1 : (w.heap.size = w1.heap.size) = False := by simp; omega
      have m2 : (w.heap.size = w1.heap.size + 1) = False := by simp; omega
      have m3 : (w.heap.size + 1 = w1.heap.size) = False := by simp; omega
      have m4 : (w.heap.size + 1 = w1.heap.size + 1) = False := by simp; omega
      refine ⟨?_, ?_, ?_, ?_, ?_, ?_, ?_, ?_, ?_, ?_, ?_, ?_⟩
      all_goals first | (simp [go_sem, *]; done) | skip
      · simp; omega
      · exact below_drewN ((hB.out.alloc (by omega) _).alloc (by simp; omega) _)
    have HN := Lib.hid hst; clear hst hB y1 y2 y3 y4 y5 y6 s1
    generalize ((w1.alloc (.cells (blk 4 (Ci.col b 3)) 76)).alloc (.cells (blk 4 (lead b m 0)) 76)).drewN k = w2 at HN ⊢
    generalize w1.heap.size + 1 = g at HN ⊢
    go_wp2_with fail
    go_loopw [26] (fun i wr => ∃ n : Nat, n ≤ 4 ∧ i = .int .i64 (n : Int) ∧ Hid (NextAt w g b m n 0 wr)) (fun i _ => 4 - (intOf i).toNat)
    case atStart => exact ⟨0, by omega, rfl, HN⟩
    case round =>
      clear HN
      obtain ⟨n, hn, rfl, HR⟩ := hrel
      by_cases hlt : n < 4
      · have hd : decide ((n : Int) < 4) = true := by simp; omega
        go_wp2_with fail
        go_loopw [29] (fun i wr => ∃ j : Nat, j ≤ 4 ∧ i = .int .i64 (j : Int) ∧ Hid (NextAt w g b m n j wr)) (fun i _ => 4 - (intOf i).toNat)
        case atStart => exact ⟨0, by omega, rfl, HR⟩
        case round =>
          clear HR
          obtain ⟨j, hj, rfl, HJ⟩ := hrel
          by_cases hjt : j < 4
          · obtain ⟨r1, r2, r3, r4, r5, r6, r7, r8, r9, r10, r11, hB⟩ := HJ.out
            have HB := Lib.hid hB; clear hB HJ
            have v1 : IntKind.i64.wrap (4 * (n : Int)) = 4 * (n : Int) := IntWalk.i64_in _ (by omega)
            have v2 : IntKind.i64.wrap (4 * (n : Int) + (j : Int)) = (at4 n j : Int) := by
              rw [IntWalk.i64_in _ (by omega)]; unfold at4; omega
            have v3 : at4 n j < 16 := by unfold at4; omega
            have v4 : (at4 n j : Int) < 16 := by omega
            have hat := upTo_at b (Ci.next b m) (at4 n j)
            have hnx := next_at b m n j hjt
            go_wp2_with fail
            go_region
            have z : Hid (NextAt w g b m n (j + 1) ((wr.setRow w.heap.size (blk 16 (upd (upTo b (Ci.next b m) (at4 n j)) (at4 n j) (b (at4 n j) ^^^ lead b m n j)))).drew)) := by
              have m1 : (g = w.heap.size) = False := by simp; omega
              have e1 : blk 16 (upd (upTo b (Ci.next b m) (at4 n j)) (at4 n j) (b (at4 n j) ^^^ lead b m n j)) = blk 16 (upTo b (Ci.next b m) (at4 n (j + 1))) := by rw [← hnx, upTo_next]; rfl
              refine Lib.hid ⟨?_, ?_, ?_, ?_, ?_, ?_, ?_, ?_, ?_, ?_, ?_, ?_⟩
              all_goals first | (simp [go_sem, *]; done) | skip
              · exact (below_setRow' HB.out (Nat.le_refl _) _).drew
            go_wp2_with fail
            go_roundw
            case rel => exact ⟨j + 1, by omega, by go_num, z⟩
            case measure => simp [intOf]; omega
          · obtain rfl : j = 4 := by omega
            obtain ⟨r1, r2, r3, r4, r5, r6, r7, r8, r9, r10, r11, hB⟩ := HJ.out
            have HB := Lib.hid hB; clear hB HJ
            go_wp2_with fail
            refine (word_any _ n hlt _).mono ?_; rintro e w3 ⟨rfl, hw⟩
            have s1 := hw.1
            have s3 := hw.size
            have y1 := (below_rowAt hw (g := w.heap.size) (by omega)).trans r1
            have y2 := (below_freeRow hw (g := w.heap.size) (by omega)).trans r2
            have y3 := (below_isRow hw (g := w.heap.size) (by omega)).trans r3
            have y4 := (below_rowAt hw (g := w.heap.size + 1) (by omega)).trans r4
            have y5 := (below_freeRow hw (g := w.heap.size + 1) (by omega)).trans r5
            have y6 := (below_isRow hw (g := w.heap.size + 1) (by omega)).trans r6
            have y7 := (below_rowAt hw (g := g) (by omega)).trans r7
            have y8 := (below_freeRow hw (g := g) (by omega)).trans r8
            have y9 := (below_isRow hw (g := g) (by omega)).trans r9
            have hB' := Lib.hid (HB.out.trans (hw.mono (by omega)))
            clear hw HB r1 r2 r3 r4 r5 r6 r7 r8 r9
            go_wp2_with fail
            have m1 : (g = w.heap.size) = False := by simp; omega
            have m2 : (w.heap.size = g) = False := by simp; omega
            have m3 : (w.heap.size + 1 = g) = False := by simp; omega
            have e1 := lead_next b m n
            have e2 : at4 (n + 1) 0 = at4 n 4 := rfl
            refine ⟨⟨n + 1, by omega, by go_num, Lib.hid ⟨?_, ?_, ?_, ?_, ?_, ?_, ?_, ?_, ?_, ?_, ?_, ?_⟩⟩, by simp [intOf]; omega⟩
            all_goals first | (simp [go_sem, *]; done) | skip
            · simp [go_sem]; omega
            · exact below_setRow' hB'.out (by omega) _
      · obtain rfl : n = 4 := by omega
        obtain ⟨r1, r2, r3, r4, r5, r6, r7, r8, r9, r10, r11, hB⟩ := HR.out
        have ha : blk 16 (upTo b (Ci.next b m) (at4 4 0)) = blk 16 (Ci.next b m) := upTo_all _ _ _
        rw [ha] at r1
        have HB := Lib.hid hB; clear hB HR
        go_wp2_with fail
        refine bodyPost_ret (results_row rfl _ (w.heap.size + 1) rfl (blk 16 (Ci.next b m)) ?_ ?_ ?_ ?_) rfl ⟨rfl, ?_⟩
        · simp [go_sem, r6]
        · simp [go_sem]
        · simp [go_sem]
        · simp [go_sem, r6]
        · exact below_setRow' HB.out (by omega) _
end Go.Proofs.Ytepooocdpifcfaa
