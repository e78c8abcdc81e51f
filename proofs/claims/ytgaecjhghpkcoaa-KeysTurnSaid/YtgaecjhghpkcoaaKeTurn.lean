/- The statement KeysTurn's function returns true. -/
import Derived.Test.YtgaecjhghpkcoaaKeAwake
import Derived.Test.YtgaecjhghpkcoaaPerm
import Derived.Deep.Slices
import Derived.Clock
namespace Go.Proofs.Ytgaecjhghpkcoaa
open Go.RowKit
attribute [local go_sem] B_xor B_or B_and
attribute [local go_sem] blk_set blk_size blk_get blk_getE upd_same oneCells_blk paste_blk cut_blk szOf
attribute [local go_sem high] paste_all cut_head
attribute [local go_sem] rowAt_alloc rowAt_drew rowAt_drewN isRow_alloc isRow_drew isRow_drewN freeRow_alloc freeRow_end freeRow_drew freeRow_drewN
attribute [local go_sem] setRow_alloc setRow_drew setRow_drewN setCell_drewN alloc_drewN rowAt_put isRow_setRow freeRow_put
attribute [local go_sem ↓] loadS_in storeS_in indexS_in copyS_in
attribute [local go_sem] loadS_row loadS_one storeS_row storeS_one indexS_blk copyS_rows run_equalIn_blk same_refl arrayAt_row
attribute [local go_sem] cell_row frozen_row st_setCell st_blk_ne stepAt stepUpon
attribute [local go_sem high] run_eql_blk run_neq_blk
attribute [local go_sem ↓] convBS_in
attribute [local go_sem] convBS_row convBS_nil allBytes_blk bytesOf_blk
attribute [local go_sem] rg_size rg_get0 rg_getE0 rg_ne rg_set0 rg_one rg_cut rg_key rg_put rg_paste part_rg0 part_rg1

/-- a list of blocks that came in -/
def More (W : World) (v : Value) (M : Nat) (f : Nat → Nat → UInt8) : Prop := ∃ a c, v = .slice a M c ∧ ∀ i, i < M → ∃ ad, a = some ad ∧ ad.block < W.heap.size ∧ ∀ j, j < 16 → W.cell? ((ad.add (i * 16)).add j) = some (.int .u8 (B (f i j)))
theorem add_add (a : Addr) (i : Nat) : (a.add i).block = a.block := by unfold Addr.add; split <;> rfl
theorem loadS_cells {P : Program} {w : World} (ty : TypeId) (a : Addr) (n : Nat) (f : Nat → UInt8) (ha : (isAgg ty).run P w = .ok true w) (hs : (sizeOf ty).run P w = .ok n w) (hl : (loadCells a n).run P w = .ok (blk n f) w) : (loadS ty (.pointer (some a))).run P w = .ok (.agg (blk n f)) w := by
  simp [loadS, Instr.loadAt, Instr.sureAddr, Sem.run_bind, loadVar, ha, hs, hl]
theorem More.load {W : World} {a : Option Addr} {c M i : Nat} {f : Nat → Nat → UInt8} (h : More W (.slice a M c) M f) (hi : i < M) :
    ∃ ad, a = some ad ∧ ∀ w', Below W.heap.size W w' → (loadS 22 (.pointer (some (ad.add (i * 16))))).run Try.prog w' = .ok (.agg (blk 16 (f i))) w' := by
  obtain ⟨a', c', he, h⟩ := h
  injection he with e1 _ _
  subst e1
  obtain ⟨ad, rfl, hb, hc⟩ := h i hi
  refine ⟨ad, rfl, fun w' hw => ?_⟩
  have hl := run_loadCells_list (P := Try.prog) w' (ad.add (i * 16)) (blk 16 (f i)).toList (fun j v hv => by
    rw [Array.getElem?_toList] at hv
    by_cases hj : j < 16
    · rw [blk_get _ _ _ hj] at hv
      rw [hw.cell (by rw [add_add, add_add]; exact hb), hc j hj, hv]
    · rw [Array.getElem?_eq_none (by rw [blk_size]; omega)] at hv
      cases hv)
  have hsz : (blk 16 (f i)).toList.length = 16 := by simp [blk_size]
  rw [hsz, Array.toArray_toList] at hl
  exact loadS_cells _ _ _ _ (by simp [go_sem]) (by simp [go_sem]) hl
/-- both tell the same key of a term, or the same error -/
theorem derive_both (m : Nat → UInt8) (t : Int) : ∃ (A : Nat → UInt8) (E : Nat), (∀ w, Calls Try.prog 9 #[.agg (blk 16 m), .int .i64 t] w fun e w' => e = .returned (.tuple #[.agg (blk 16 A), .int .i64 (E : Int)]) ∧ Below w.heap.size w w') ∧
    (∀ w, Calls Try.prog 10 #[.agg (blk 16 m), .int .i64 t] w fun e w' => e = .returned (.tuple #[.agg (blk 16 A), .int .i64 (E : Int)]) ∧ Below w.heap.size w w') := by
  by_cases h : 1 ≤ t ∧ t ≤ 6
  · obtain ⟨T, rfl⟩ : ∃ T : Nat, t = (T : Int) := ⟨t.toNat, by omega⟩
    exact ⟨deriveB m T, 0, fun w => derive_yes m T (by omega) (by omega) w, fun w => refDerive_yes m T (by omega) (by omega) w⟩
  · exact ⟨fun _ => 0, 2, fun w => derive_no m t (by omega) w, fun w => refDerive_no m t (by omega) w⟩
theorem nil_keys (w : World) (f : Nat → UInt8) : Keys16 w (.slice none 0 0) 0 f := .inl ⟨rfl, rfl⟩
theorem refRotate_first (m : Nat → UInt8) (w0 w : World) (L : List (Nat × Array Value)) (hC : St w0 L w) :
    Calls Try.prog 12 #[.slice none 0 0, .agg (blk 16 m)] w (Keyed w0 L 1 (newB m)) := refRotate_yes _ 0 (fun _ => 0) m (by omega) w0 w L (nil_keys _ _) hC
/-- a list of n keys, in a block of the call's own, and an error -/
def Rotd (w0 : World) (L : List (Nat × Array Value)) (n : Nat) (f : Nat → UInt8) (E : Nat) (e : Ending) (w : World) : Prop := ∃ g c F, e = .returned (.tuple #[.slice (some ⟨g, 0, none⟩) n c, .int .i64 (E : Int)]) ∧ n ≤ c ∧ (∀ i, i < n * 16 → F i = f i) ∧ St w0 ((g, blk (c * 16) F) :: L) w
/-- both rotate a ring alike -/
theorem rotate_both (n : Nat) (f k : Nat → UInt8) (h6 : n ≤ 6) : ∃ (n' : Nat) (f' : Nat → UInt8) (E : Nat), n' ≤ 6 ∧ (∀ w, Calls Try.prog 14 #[.agg (rg n f), .agg (blk 16 k)] w fun e w' => e = .returned (.tuple #[.agg (rg n' f'), .int .i64 (E : Int)]) ∧ Below w.heap.size w w') ∧
    (∀ w0 w L g c F, n ≤ c → (∀ i, i < n * 16 → F i = f i) → St w0 ((g, blk (c * 16) F) :: L) w → Calls Try.prog 12 #[.slice (some ⟨g, 0, none⟩) n c, .agg (blk 16 k)] w (Rotd w0 L n' f' E)) := by
  by_cases h : n ≤ 5
  · refine ⟨n + 1, addB f n (deriveB k (n + 1)), 0, by omega, fun w => rotate_yes n f k h w, fun w0 w L g c F h1 h2 hC => ?_⟩
    refine (refRotate_yes _ n f k h w0 w _ (Keys16.of hC (.head _) h1 h2) hC).mono ?_
    rintro e w' ⟨g', c', F', rfl, e1, e2, e3⟩
    exact ⟨g', c', F', rfl, e1, e2, e3.over⟩
  · obtain rfl : n = 6 := by omega
    refine ⟨6, f, 19, by omega, fun w => rotate_no f k w, fun w0 w L g c F h1 h2 hC => ?_⟩
    refine (refRotate_no _ f k w (Keys16.of hC (.head _) h1 h2)).mono ?_
    rintro e w' ⟨rfl, hb⟩
    exact ⟨g, c, F, rfl, h1, h2, hC.call hb⟩
set_option maxRecDepth 100000 in
set_option maxHeartbeats 4000000 in
theorem keysTurn_walk (m : Nat → UInt8) (t : Int) (v : Value) (M : Nat) (mf : Nat → Nat → UInt8) (w : World) (hM : More w v M mf) (hMl : M ≤ maxLen) : Calls Try.prog 3 #[.agg (blk 16 m), .int .i64 t, v] w fun e w' => e = .returned (.bool true) ∧ Below w.heap.size w w' := by
  have hz := zero16
  have hz2 := zero97
  obtain ⟨a, c, rfl, _⟩ := id hM
  have HM := Lib.hid hM
  clear hM
  unfold maxLen at hMl
  by_cases h10 : 10 < M
  · have d1 : decide (10 < (M : Int)) = true := decide_eq_true (by omega)
    go_enter Try.func3, Try.ntmps3
    go_wp2_with fail
    refine (awake20_any _).mono ?_; rintro e w1 ⟨rfl, hw⟩
    have HC := Lib.hid (((St.nil w).skip _).call hw)
    clear hw
    go_wp2_with fail
    go_ret
    exact ⟨rfl, HC.out.below⟩
  · have m10 : (M : Int) ≤ 10 := by omega
    obtain ⟨A, E, k1, k2⟩ := derive_both m t
    have K1 := Lib.hid k1
    have K2 := Lib.hid k2
    clear k1 k2
    have hsame : same 16 A A = true := same_refl _ _
    have hEE : ((E : Int) != (E : Int)) = false := by simp
    have HC := Lib.hid ((St.nil w).pushA (blk 16 m) 22 rfl)
    go_enter Try.func3, Try.ntmps3
    go_wp2_with fail
    refine (K1.out _).mono ?_; rintro e w1 ⟨rfl, hw⟩
    have HC := Lib.hid (HC.out.call hw)
    clear hw
    have hC := HC.out
    (have HC := Lib.hid hC
     have sos := hC.below.os
     obtain ⟨r1, f1, i1, b1, l1⟩ := St.facts1 hC
     clear hC)
    go_wp2_with fail
    (clear r1 f1 i1 b1 l1 sos)
    have HC := Lib.hid (HC.out.push (blk 16 A) 25)
    refine (K2.out _).mono ?_; rintro e w2 ⟨rfl, hw⟩
    have HC := Lib.hid (HC.out.call hw)
    clear hw
    have hC := HC.out
    (have HC := Lib.hid hC
     have sos := hC.below.os
     obtain ⟨⟨r1, f1, i1, b1, l1⟩, ⟨r2, f2, i2, b2, l2⟩, m12, m21⟩ := St.facts2 hC
     clear hC)
    go_wp2_with fail
    (clear r1 f1 i1 b1 l1 r2 f2 i2 b2 l2 m12 m21 sos)
    have HC := Lib.hid (HC.out.push (blk 16 A) 22)
    have HC := Lib.hid (HC.out.pick (L' := [(w.heap.size, blk 16 m)]) [2] (by decide) rfl)
    refine (new_any m _).mono ?_; rintro e w3 ⟨rfl, hw⟩
    have HC := Lib.hid (HC.out.call hw)
    clear hw
    have hC := HC.out
    (have HC := Lib.hid hC
     have sos := hC.below.os
     obtain ⟨r1, f1, i1, b1, l1⟩ := St.facts1 hC
     clear hC)
    go_wp2_with fail
    (clear r1 f1 i1 b1 l1 sos)
    have HC := Lib.hid (HC.out.push (rg 1 (newB m)) 33)
    refine (refRotate_first m w _ _ HC.out).mono ?_; rintro e w4 ⟨g, c4, F, rfl, h1, h2, hw⟩
    have H1 := Lib.hid h1
    have H2 := Lib.hid h2
    have HC := Lib.hid hw
    clear h1 h2 hw
    have hC := HC.out
    (have HC := Lib.hid hC
     have sos := hC.below.os
     obtain ⟨⟨r1, f1, i1, b1, l1⟩, ⟨r2, f2, i2, b2, l2⟩, ⟨r3, f3, i3, b3, l3⟩, m12, m21, m13, m31, m23, m32⟩ := St.facts3 hC
     clear hC)
    go_wp2_with fail
    (clear r1 f1 i1 b1 l1 r2 f2 i2 b2 l2 r3 f3 i3 b3 l3 m12 m21 m13 m31 m23 m32 sos)
    refine (like_any _ 1 (newB m) (by omega) _ (Keys16.of HC.out (.head _) H1.out H2.out)).mono ?_; rintro e w5 ⟨rfl, hw⟩
    have HC := Lib.hid (HC.out.call hw)
    clear hw
    go_wp2_with fail
    generalize w3.heap.size = R at HC ⊢
    go_loopw [12, 14] (fun lv i wr => ∃ j : Nat, j ≤ M ∧ i = .int .i64 (j : Int) ∧ ∃ n f g c F, lv = .slice (some ⟨g, 0, none⟩) n c ∧ Hid (n ≤ 6) ∧ Hid (n ≤ c) ∧ Hid (∀ i, i < n * 16 → F i = f i) ∧ Hid (St w [(g, blk (c * 16) F), (R, rg n f), (w.heap.size, blk 16 m)] wr)) (fun _ i _ => M - (intOf i).toNat)
    case atStart => exact ⟨0, by omega, rfl, 1, newB m, g, c4, F, rfl, Lib.hid (by omega), H1, H2, HC⟩
    case round =>
      clear HC H1 H2
      obtain ⟨j, hj, rfl, n, f, g, c2, F, rfl, H6, H1, H2, HJ⟩ := hrel
      by_cases hlt : j < M
      · have d1 : (j : Int) < (M : Int) := by omega
        obtain ⟨n', f', E', h6, k3, k4⟩ := rotate_both n f (mf j) H6.out
        obtain ⟨ad, rfl, hl⟩ := HM.out.load hlt
        have HL := Lib.hid hl
        have K3 := Lib.hid k3
        have K4 := Lib.hid k4
        have H7 := Lib.hid h6
        have hEE2 : ((E' : Int) != (E' : Int)) = false := by simp
        clear k3 k4 hl h6
        go_wp2_with fail
        refine St.region_store1_last (w0 := w) 9 15 67 (rg 0 fun _ => 0) (rg n' f') (.agg (rg n' f')) 33 HJ.out (by kernel_rfl) (by decide +kernel) (by decide +kernel) _ _ rfl rfl (fun w a => by simp [go_sem, ptrTo, hz2]) (stores_whole 33 _ _ (by rw [rg_size, rg_size]) (fun w => by simp [go_sem]) (rg_one _ _) rfl) (by rw [rg_size, rg_size]) (by simp) ?_
        (simp only [List.take])
        (apply walkB_step
         focus
           intro w0 hC
           have hld := HL.out w0 hC.below
           have hC' := Lib.hid hC
           obtain ⟨⟨r1, f1, i1, b1, l1⟩, ⟨r2, f2, i2, b2, l2⟩, ⟨r3, f3, i3, b3, l3⟩, m12, m21, m13, m31, m23, m32⟩ := St.facts3 hC
           clear hC
           go_simp
           first
             | with_reducible rfl
             | exact K3.out _
         try simp only [Act.put, List.setIfInBounds_toArray, List.set])
        (apply walkB_step
         focus
           intro w0 hC
           have hld := HL.out w0 hC.below
           have hC' := Lib.hid hC
           obtain ⟨⟨r1, f1, i1, b1, l1⟩, ⟨r2, f2, i2, b2, l2⟩, ⟨r3, f3, i3, b3, l3⟩, m12, m21, m13, m31, m23, m32⟩ := St.facts3 hC
           clear hC
           go_simp
           first
             | with_reducible rfl
             | exact K3.out _
         try simp only [Act.put, List.setIfInBounds_toArray, List.set])
        (apply walkB_step
         focus
           intro w0 hC
           have hld := HL.out w0 hC.below
           have hC' := Lib.hid hC
           obtain ⟨⟨r1, f1, i1, b1, l1⟩, ⟨r2, f2, i2, b2, l2⟩, ⟨r3, f3, i3, b3, l3⟩, m12, m21, m13, m31, m23, m32⟩ := St.facts3 hC
           clear hC
           go_simp
           first
             | with_reducible rfl
             | exact K3.out _
         try simp only [Act.put, List.setIfInBounds_toArray, List.set])
        (apply walkB_step
         focus
           intro w0 hC
           have hld := HL.out w0 hC.below
           have hC' := Lib.hid hC
           obtain ⟨⟨r1, f1, i1, b1, l1⟩, ⟨r2, f2, i2, b2, l2⟩, ⟨r3, f3, i3, b3, l3⟩, m12, m21, m13, m31, m23, m32⟩ := St.facts3 hC
           clear hC
           go_simp
           first
             | with_reducible rfl
             | exact K3.out _
         try simp only [Act.put, List.setIfInBounds_toArray, List.set])
        (apply walkB_step
         focus
           intro w0 hC
           have hld := HL.out w0 hC.below
           have hC' := Lib.hid hC
           obtain ⟨⟨r1, f1, i1, b1, l1⟩, ⟨r2, f2, i2, b2, l2⟩, ⟨r3, f3, i3, b3, l3⟩, m12, m21, m13, m31, m23, m32⟩ := St.facts3 hC
           clear hC
           go_simp
           first
             | with_reducible rfl
             | exact K3.out _
         try simp only [Act.put, List.setIfInBounds_toArray, List.set])
        (apply walkB_step
         focus
           intro w0 hC
           have hld := HL.out w0 hC.below
           have hC' := Lib.hid hC
           obtain ⟨⟨r1, f1, i1, b1, l1⟩, ⟨r2, f2, i2, b2, l2⟩, ⟨r3, f3, i3, b3, l3⟩, m12, m21, m13, m31, m23, m32⟩ := St.facts3 hC
           clear hC
           go_simp
           first
             | with_reducible rfl
             | exact K3.out _
         try simp only [Act.put, List.setIfInBounds_toArray, List.set])
        (apply walkB_step
         focus
           intro w0 hC
           have hld := HL.out w0 hC.below
           have hC' := Lib.hid hC
           obtain ⟨⟨r1, f1, i1, b1, l1⟩, ⟨r2, f2, i2, b2, l2⟩, ⟨r3, f3, i3, b3, l3⟩, m12, m21, m13, m31, m23, m32⟩ := St.facts3 hC
           clear hC
           go_simp
           first
             | with_reducible rfl
             | exact K3.out _
         try simp only [Act.put, List.setIfInBounds_toArray, List.set])
        (apply walkB_step
         focus
           intro w0 hC
           have hld := HL.out w0 hC.below
           have hC' := Lib.hid hC
           obtain ⟨⟨r1, f1, i1, b1, l1⟩, ⟨r2, f2, i2, b2, l2⟩, ⟨r3, f3, i3, b3, l3⟩, m12, m21, m13, m31, m23, m32⟩ := St.facts3 hC
           clear hC
           go_simp
           first
             | with_reducible rfl
             | exact K3.out _
         try simp only [Act.put, List.setIfInBounds_toArray, List.set])
        (apply walkB_step
         focus
           intro w0 hC
           have hld := HL.out w0 hC.below
           have hC' := Lib.hid hC
           obtain ⟨⟨r1, f1, i1, b1, l1⟩, ⟨r2, f2, i2, b2, l2⟩, ⟨r3, f3, i3, b3, l3⟩, m12, m21, m13, m31, m23, m32⟩ := St.facts3 hC
           clear hC
           go_simp
           first
             | with_reducible rfl
             | exact K3.out _
         try simp only [Act.put, List.setIfInBounds_toArray, List.set])
        refine walkB_nil ⟨rfl, ?_⟩
        intro w5 q hC
        unfold ptrTo
        have hld := HL.out w5 hC.below
        (have HC := Lib.hid hC
         have sos := hC.below.os
         obtain ⟨⟨r1, f1, i1, b1, l1⟩, ⟨r2, f2, i2, b2, l2⟩, ⟨r3, f3, i3, b3, l3⟩, ⟨r4, f4, i4, b4, l4⟩, m12, m21, m13, m31, m14, m41, m23, m32, m24, m42, m34, m43⟩ := St.facts4 hC
         clear hC)
        go_wp2_with fail
        (clear r1 f1 i1 b1 l1 r2 f2 i2 b2 l2 r3 f3 i3 b3 l3 r4 f4 i4 b4 l4 m12 m21 m13 m31 m14 m41 m23 m32 m24 m42 m34 m43 sos)
        clear hld
        refine (K4.out w _ _ g c2 F H1.out H2.out HC.out.swap).mono ?_; rintro e w6 ⟨g2, c3, F2, rfl, h1, h2, hw⟩
        have H1 := Lib.hid h1
        have H2 := Lib.hid h2
        have HC := Lib.hid hw
        clear h1 h2 hw
        have hC := HC.out
        (have HC := Lib.hid hC
         have sos := hC.below.os
         obtain ⟨⟨r1, f1, i1, b1, l1⟩, ⟨r2, f2, i2, b2, l2⟩, ⟨r3, f3, i3, b3, l3⟩, ⟨r4, f4, i4, b4, l4⟩, m12, m21, m13, m31, m14, m41, m23, m32, m24, m42, m34, m43⟩ := St.facts4 hC
         clear hC)
        go_wp2_with fail
        (clear r1 f1 i1 b1 l1 r2 f2 i2 b2 l2 r3 f3 i3 b3 l3 r4 f4 i4 b4 l4 m12 m21 m13 m31 m14 m41 m23 m32 m24 m42 m34 m43 sos)
        refine (like_any _ n' f' H7.out _ (Keys16.of HC.out (.head _) H1.out H2.out)).mono ?_; rintro e w7 ⟨rfl, hw⟩
        have HC := Lib.hid (HC.out.call hw)
        clear hw
        have hC := HC.out
        (have HC := Lib.hid hC
         have sos := hC.below.os
         obtain ⟨⟨r1, f1, i1, b1, l1⟩, ⟨r2, f2, i2, b2, l2⟩, ⟨r3, f3, i3, b3, l3⟩, ⟨r4, f4, i4, b4, l4⟩, m12, m21, m13, m31, m14, m41, m23, m32, m24, m42, m34, m43⟩ := St.facts4 hC
         clear hC)
        go_wp2_with fail
        (clear r1 f1 i1 b1 l1 r2 f2 i2 b2 l2 r3 f3 i3 b3 l3 r4 f4 i4 b4 l4 m12 m21 m13 m31 m14 m41 m23 m32 m24 m42 m34 m43 sos)
        have HC := Lib.hid (((HC.out.pick (L' := [(R, rg n f), (g2, blk (c3 * 16) F2), (w.heap.size, blk 16 m)]) [2, 0, 3] (by decide) rfl).set_head (rg n' f') (by rw [rg_size, rg_size])).swap)
        go_roundw
        case rel => exact ⟨j + 1, by omega, by go_num, n', f', g2, c3, F2, rfl, H7, H1, H2, HC⟩
        case measure => simp [intOf]; omega
      · obtain rfl : j = M := by omega
        go_wp2_with fail
        refine (awake20_any _).mono ?_; rintro e w6 ⟨rfl, hw⟩
        have HC := Lib.hid (HJ.out.call hw)
        clear hw
        go_wp2_with fail
        go_ret
        exact ⟨rfl, HC.out.below⟩
end Go.Proofs.Ytgaecjhghpkcoaa
