/- The reference's Unlock. -/
import Derived.Test.YtgaecjhghpkcoaaGreatBar8
import Derived.Test.YtgaecjhghpkcoaaGreatQw
namespace Go.Proofs.YtgaecjhghpkcoaaGreat
open Go.RowKit
attribute [local go_sem] B_xor B_or B_and
attribute [local go_sem] blk_set blk_size blk_get blk_getE upd_same oneCells_blk paste_blk cut_blk szOf
attribute [local go_sem high] paste_all cut_head
attribute [local go_sem] rowAt_alloc rowAt_drew rowAt_drewN isRow_alloc isRow_drew isRow_drewN freeRow_alloc freeRow_end freeRow_drew freeRow_drewN
attribute [local go_sem] setRow_alloc setRow_drew setRow_drewN setCell_drewN alloc_drewN rowAt_put isRow_setRow freeRow_put
attribute [local go_sem ↓] loadS_in storeS_in indexS_in copyS_in
attribute [local go_sem] loadS_row loadS_one storeS_row storeS_one indexS_blk copyS_rows run_equalIn_blk same_refl arrayAt_row
attribute [local go_sem] cell_row frozen_row st_setCell st_blk_ne stepAt stepUpon
attribute [local go_sem high] run_eql_blk run_neq_blk
attribute [local go_sem ↓] convBS_in
attribute [local go_sem] convBS_row convBS_nil allBytes_blk bytesOf_blk

theorem noughts4 (w : World) : Calls Tryz.prog 49 #[.int .i64 4] w fun e w' => e = .returned (.string (nilS 4)) ∧ Below w.heap.size w w' := noughts_any 4 (by omega) w
theorem numTo_zero (f : Nat → UInt8) : ∀ k, numTo f k = 0 ↔ ∀ i, i < k → f i = 0
  | 0 => by simp [numTo]
  | k + 1 => by
    have ih := numTo_zero f k
    have e : numTo f (k + 1) = numTo f k * 256 + (f k).toNat := rfl
    rw [e]
    constructor
    · intro h i hi
      have h1 : numTo f k = 0 := by omega
      have h2 : (f k).toNat = 0 := by omega
      by_cases hk : i = k
      · subst hk; exact UInt8.toNat_inj.1 h2
      · exact ih.1 h1 i (by omega)
    · intro h
      have h1 := ih.2 fun i hi => h i (by omega)
      rw [h1, h k (by omega)]
      rfl
theorem ofText_part (s : ByteArray) (a b i : Nat) (hi : a + i < b) (hb : b ≤ s.size) : ofText (s.extract a b) i = ofText s (a + i) := by
  have hsz : s.data.size = s.size := rfl
  unfold ofText
  rw [ByteArray.data_extract, Array.getD_eq_getD_getElem?, Array.getD_eq_getD_getElem?, Array.getElem?_extract, if_pos (by omega)]
theorem first4 (s : ByteArray) (h : 4 ≤ s.size) : ((s.extract 0 4).toList == (nilS 4).toList) = decide (numAt s 0 4 = 0) := by
  rw [Bool.eq_iff_iff, text_eq, decide_eq_true_eq]
  unfold numAt nilS
  rw [numTo_zero]
  have hsz : (s.extract 0 4).size = 4 := by rw [ByteArray.size_extract]; omega
  constructor
  · intro he i hi
    have h1 := congrArg (fun x => ofText x i) he
    rw [ofText_part s 0 4 i (by omega) h, ofText_strOf _ _ _ hi] at h1
    exact h1
  · intro he
    rw [← strOf_ofText (s.extract 0 4) 4 hsz]
    refine strOf_congr fun i hi => ?_
    rw [ofText_part s 0 4 i (by omega) h]
    exact he i hi
set_option maxRecDepth 100000 in
theorem refUnlock_short (m : Nat → UInt8) (s : ByteArray) (h : s.size < 32) (w : World) : Calls Tryz.prog 33 #[.agg (blk 16 m), .string s] w fun e w' => e = .returned (.tuple #[.slice none 0 0, .int .i64 3]) ∧ Below w.heap.size w w' := by
  have d1 : decide ((s.size : Int) < 32) = true := decide_eq_true (by omega)
  have HC := Lib.hid ((St.nil w).skip (.cells (blk 16 m) 22))
  go_enter Tryz.func33, Tryz.ntmps33
  go_wp2_with fail
  go_ret2
  exact ⟨rfl, HC.out.below⟩
/-- what the text of an entry is opened to, by the reference -/
def OpensRef (m : Nat → UInt8) (s R : ByteArray) (E : Nat) : Prop := ∀ w, Calls Tryz.prog 48 #[.agg (blk 16 m), .string (s.extract 4 16), .string ⟨#[114, 105, 110, 103]⟩, .string (s.extract 16 s.size)] w fun e w' => e = .returned (.tuple #[.string R, .int .i64 (E : Int)]) ∧ Below w.heap.size w w'
set_option maxRecDepth 100000 in
set_option maxHeartbeats 1000000 in
theorem refUnlock_term (m : Nat → UInt8) (s : ByteArray) (h : 32 ≤ s.size) (ht : numAt s 0 4 ≠ 0) (w : World) : Calls Tryz.prog 33 #[.agg (blk 16 m), .string s] w fun e w' => e = .returned (.tuple #[.slice none 0 0, .int .i64 4]) ∧ Below w.heap.size w w' := by
  have d1 : decide ((s.size : Int) < 32) = false := decide_eq_false (by omega)
  have d2 : (4 : Int) ≤ (s.size : Int) := by omega
  have d3 : 4 ≤ s.size := by omega
  have e1 := first4 s d3
  rw [decide_eq_false ht] at e1
  have HC := Lib.hid ((St.nil w).pushA (blk 16 m) 22 rfl)
  go_enter Tryz.func33, Tryz.ntmps33
  go_wp2_with fail
  refine St.qregion HC.out (by kernel_rfl) (by decide +kernel) ?_
  (first
     | (apply qw_skip rfl)
     | (apply qw_step rfl
        focus
          intro w0 hC
          (fail))
     | (apply qw_step rfl
        focus
          intro w0 hC
          have hC' := Lib.hid hC
          obtain ⟨r1, f1, i1, b1, l1⟩ := St.facts1 hC
          clear hC
          go_simp
          have hC := hC'.out
          (first
             | with_reducible rfl
             | (skip
                (first
                   | (go_at_call 49; refine (noughts4 _).mono ?_)
                   | (go_at_call 48; refine (HO.out _).mono ?_))
                rintro e w' ⟨rfl, hw⟩
                exact ⟨rfl, St.call (by assumption) hw⟩)))
   try simp only [Act.put, List.setIfInBounds_toArray, List.set])
  (first
     | (apply qw_skip rfl)
     | (apply qw_step rfl
        focus
          intro w0 hC
          (fail))
     | (apply qw_step rfl
        focus
          intro w0 hC
          have hC' := Lib.hid hC
          obtain ⟨r1, f1, i1, b1, l1⟩ := St.facts1 hC
          clear hC
          go_simp
          have hC := hC'.out
          (first
             | with_reducible rfl
             | (skip
                (first
                   | (go_at_call 49; refine (noughts4 _).mono ?_)
                   | (go_at_call 48; refine (HO.out _).mono ?_))
                rintro e w' ⟨rfl, hw⟩
                exact ⟨rfl, St.call (by assumption) hw⟩)))
   try simp only [Act.put, List.setIfInBounds_toArray, List.set])
  (first
     | (apply qw_skip rfl)
     | (apply qw_step rfl
        focus
          intro w0 hC
          (fail))
     | (apply qw_step rfl
        focus
          intro w0 hC
          have hC' := Lib.hid hC
          obtain ⟨r1, f1, i1, b1, l1⟩ := St.facts1 hC
          clear hC
          go_simp
          have hC := hC'.out
          (first
             | with_reducible rfl
             | (skip
                (first
                   | (go_at_call 49; refine (noughts4 _).mono ?_)
                   | (go_at_call 48; refine (HO.out _).mono ?_))
                rintro e w' ⟨rfl, hw⟩
                exact ⟨rfl, St.call (by assumption) hw⟩)))
   try simp only [Act.put, List.setIfInBounds_toArray, List.set])
  (first
     | (apply qw_skip rfl)
     | (apply qw_step rfl
        focus
          intro w0 hC
          (fail))
     | (apply qw_step rfl
        focus
          intro w0 hC
          have hC' := Lib.hid hC
          obtain ⟨r1, f1, i1, b1, l1⟩ := St.facts1 hC
          clear hC
          go_simp
          have hC := hC'.out
          (first
             | with_reducible rfl
             | (skip
                (first
                   | (go_at_call 49; refine (noughts4 _).mono ?_)
                   | (go_at_call 48; refine (HO.out _).mono ?_))
                rintro e w' ⟨rfl, hw⟩
                exact ⟨rfl, St.call (by assumption) hw⟩)))
   try simp only [Act.put, List.setIfInBounds_toArray, List.set])
  refine qw_nil ?_
  intro w1 hC
  have HC := Lib.hid hC
  clear hC
  go_wp2_with fail
  go_ret2
  exact ⟨rfl, HC.out.below⟩
set_option maxRecDepth 100000 in
set_option maxHeartbeats 1000000 in
theorem refUnlock_key (m : Nat → UInt8) (s R : ByteArray) (E : Nat) (h : 32 ≤ s.size) (ht : numAt s 0 4 = 0) (hE : E ≠ 0) (hO : OpensRef m s R E) (w : World) : Calls Tryz.prog 33 #[.agg (blk 16 m), .string s] w fun e w' => e = .returned (.tuple #[.slice none 0 0, .int .i64 (E : Int)]) ∧ Below w.heap.size w w' := by
  have d1 : decide ((s.size : Int) < 32) = false := decide_eq_false (by omega)
  have d2 : (4 : Int) ≤ (s.size : Int) := by omega
  have d3 : 4 ≤ s.size := by omega
  have d4 : (16 : Int) ≤ (s.size : Int) := by omega
  have d5 : 16 ≤ s.size := by omega
  have e1 := first4 s d3
  rw [decide_eq_true ht] at e1
  have HO := Lib.hid hO
  have d6 : ((E : Int) != 0) = true := by rw [bne_iff_ne]; omega
  clear hO ht hE
  have HC := Lib.hid ((St.nil w).pushA (blk 16 m) 22 rfl)
  go_enter Tryz.func33, Tryz.ntmps33
  go_wp2_with fail
  refine St.qregion HC.out (by kernel_rfl) (by decide +kernel) ?_
  (first
     | (apply qw_skip rfl)
     | (apply qw_step rfl
        focus
          intro w0 hC
          (fail))
     | (apply qw_step rfl
        focus
          intro w0 hC
          have hC' := Lib.hid hC
          obtain ⟨r1, f1, i1, b1, l1⟩ := St.facts1 hC
          clear hC
          go_simp
          have hC := hC'.out
          (first
             | with_reducible rfl
             | (skip
                (first
                   | (go_at_call 49; refine (noughts4 _).mono ?_)
                   | (go_at_call 48; refine (HO.out _).mono ?_))
                rintro e w' ⟨rfl, hw⟩
                exact ⟨rfl, St.call (by assumption) hw⟩)))
   try simp only [Act.put, List.setIfInBounds_toArray, List.set])
  (first
     | (apply qw_skip rfl)
     | (apply qw_step rfl
        focus
          intro w0 hC
          (fail))
     | (apply qw_step rfl
        focus
          intro w0 hC
          have hC' := Lib.hid hC
          obtain ⟨r1, f1, i1, b1, l1⟩ := St.facts1 hC
          clear hC
          go_simp
          have hC := hC'.out
          (first
             | with_reducible rfl
             | (skip
                (first
                   | (go_at_call 49; refine (noughts4 _).mono ?_)
                   | (go_at_call 48; refine (HO.out _).mono ?_))
                rintro e w' ⟨rfl, hw⟩
                exact ⟨rfl, St.call (by assumption) hw⟩)))
   try simp only [Act.put, List.setIfInBounds_toArray, List.set])
  (first
     | (apply qw_skip rfl)
     | (apply qw_step rfl
        focus
          intro w0 hC
          (fail))
     | (apply qw_step rfl
        focus
          intro w0 hC
          have hC' := Lib.hid hC
          obtain ⟨r1, f1, i1, b1, l1⟩ := St.facts1 hC
          clear hC
          go_simp
          have hC := hC'.out
          (first
             | with_reducible rfl
             | (skip
                (first
                   | (go_at_call 49; refine (noughts4 _).mono ?_)
                   | (go_at_call 48; refine (HO.out _).mono ?_))
                rintro e w' ⟨rfl, hw⟩
                exact ⟨rfl, St.call (by assumption) hw⟩)))
   try simp only [Act.put, List.setIfInBounds_toArray, List.set])
  (first
     | (apply qw_skip rfl)
     | (apply qw_step rfl
        focus
          intro w0 hC
          (fail))
     | (apply qw_step rfl
        focus
          intro w0 hC
          have hC' := Lib.hid hC
          obtain ⟨r1, f1, i1, b1, l1⟩ := St.facts1 hC
          clear hC
          go_simp
          have hC := hC'.out
          (first
             | with_reducible rfl
             | (skip
                (first
                   | (go_at_call 49; refine (noughts4 _).mono ?_)
                   | (go_at_call 48; refine (HO.out _).mono ?_))
                rintro e w' ⟨rfl, hw⟩
                exact ⟨rfl, St.call (by assumption) hw⟩)))
   try simp only [Act.put, List.setIfInBounds_toArray, List.set])
  refine qw_nil ?_
  intro w1 hC
  have HC := Lib.hid hC
  clear hC
  go_wp2_with fail
  refine St.qregion HC.out (by kernel_rfl) (by decide +kernel) ?_
  (first
     | (apply qw_skip rfl)
     | (apply qw_step rfl
        focus
          intro w0 hC
          (fail))
     | (apply qw_step rfl
        focus
          intro w0 hC
          have hC' := Lib.hid hC
          obtain ⟨r1, f1, i1, b1, l1⟩ := St.facts1 hC
          clear hC
          go_simp
          have hC := hC'.out
          (first
             | with_reducible rfl
             | (skip
                (first
                   | (go_at_call 49; refine (noughts4 _).mono ?_)
                   | (go_at_call 48; refine (HO.out _).mono ?_))
                rintro e w' ⟨rfl, hw⟩
                exact ⟨rfl, St.call (by assumption) hw⟩)))
   try simp only [Act.put, List.setIfInBounds_toArray, List.set])
  (first
     | (apply qw_skip rfl)
     | (apply qw_step rfl
        focus
          intro w0 hC
          (fail))
     | (apply qw_step rfl
        focus
          intro w0 hC
          have hC' := Lib.hid hC
          obtain ⟨r1, f1, i1, b1, l1⟩ := St.facts1 hC
          clear hC
          go_simp
          have hC := hC'.out
          (first
             | with_reducible rfl
             | (skip
                (first
                   | (go_at_call 49; refine (noughts4 _).mono ?_)
                   | (go_at_call 48; refine (HO.out _).mono ?_))
                rintro e w' ⟨rfl, hw⟩
                exact ⟨rfl, St.call (by assumption) hw⟩)))
   try simp only [Act.put, List.setIfInBounds_toArray, List.set])
  (first
     | (apply qw_skip rfl)
     | (apply qw_step rfl
        focus
          intro w0 hC
          (fail))
     | (apply qw_step rfl
        focus
          intro w0 hC
          have hC' := Lib.hid hC
          obtain ⟨r1, f1, i1, b1, l1⟩ := St.facts1 hC
          clear hC
          go_simp
          have hC := hC'.out
          (first
             | with_reducible rfl
             | (skip
                (first
                   | (go_at_call 49; refine (noughts4 _).mono ?_)
                   | (go_at_call 48; refine (HO.out _).mono ?_))
                rintro e w' ⟨rfl, hw⟩
                exact ⟨rfl, St.call (by assumption) hw⟩)))
   try simp only [Act.put, List.setIfInBounds_toArray, List.set])
  (first
     | (apply qw_skip rfl)
     | (apply qw_step rfl
        focus
          intro w0 hC
          (fail))
     | (apply qw_step rfl
        focus
          intro w0 hC
          have hC' := Lib.hid hC
          obtain ⟨r1, f1, i1, b1, l1⟩ := St.facts1 hC
          clear hC
          go_simp
          have hC := hC'.out
          (first
             | with_reducible rfl
             | (skip
                (first
                   | (go_at_call 49; refine (noughts4 _).mono ?_)
                   | (go_at_call 48; refine (HO.out _).mono ?_))
                rintro e w' ⟨rfl, hw⟩
                exact ⟨rfl, St.call (by assumption) hw⟩)))
   try simp only [Act.put, List.setIfInBounds_toArray, List.set])
  (first
     | (apply qw_skip rfl)
     | (apply qw_step rfl
        focus
          intro w0 hC
          (fail))
     | (apply qw_step rfl
        focus
          intro w0 hC
          have hC' := Lib.hid hC
          obtain ⟨r1, f1, i1, b1, l1⟩ := St.facts1 hC
          clear hC
          go_simp
          have hC := hC'.out
          (first
             | with_reducible rfl
             | (skip
                (first
                   | (go_at_call 49; refine (noughts4 _).mono ?_)
                   | (go_at_call 48; refine (HO.out _).mono ?_))
                rintro e w' ⟨rfl, hw⟩
                exact ⟨rfl, St.call (by assumption) hw⟩)))
   try simp only [Act.put, List.setIfInBounds_toArray, List.set])
  (first
     | (apply qw_skip rfl)
     | (apply qw_step rfl
        focus
          intro w0 hC
          (fail))
     | (apply qw_step rfl
        focus
          intro w0 hC
          have hC' := Lib.hid hC
          obtain ⟨r1, f1, i1, b1, l1⟩ := St.facts1 hC
          clear hC
          go_simp
          have hC := hC'.out
          (first
             | with_reducible rfl
             | (skip
                (first
                   | (go_at_call 49; refine (noughts4 _).mono ?_)
                   | (go_at_call 48; refine (HO.out _).mono ?_))
                rintro e w' ⟨rfl, hw⟩
                exact ⟨rfl, St.call (by assumption) hw⟩)))
   try simp only [Act.put, List.setIfInBounds_toArray, List.set])
  (first
     | (apply qw_skip rfl)
     | (apply qw_step rfl
        focus
          intro w0 hC
          (fail))
     | (apply qw_step rfl
        focus
          intro w0 hC
          have hC' := Lib.hid hC
          obtain ⟨r1, f1, i1, b1, l1⟩ := St.facts1 hC
          clear hC
          go_simp
          have hC := hC'.out
          (first
             | with_reducible rfl
             | (skip
                (first
                   | (go_at_call 49; refine (noughts4 _).mono ?_)
                   | (go_at_call 48; refine (HO.out _).mono ?_))
                rintro e w' ⟨rfl, hw⟩
                exact ⟨rfl, St.call (by assumption) hw⟩)))
   try simp only [Act.put, List.setIfInBounds_toArray, List.set])
  (first
     | (apply qw_skip rfl)
     | (apply qw_step rfl
        focus
          intro w0 hC
          (fail))
     | (apply qw_step rfl
        focus
          intro w0 hC
          have hC' := Lib.hid hC
          obtain ⟨r1, f1, i1, b1, l1⟩ := St.facts1 hC
          clear hC
          go_simp
          have hC := hC'.out
          (first
             | with_reducible rfl
             | (skip
                (first
                   | (go_at_call 49; refine (noughts4 _).mono ?_)
                   | (go_at_call 48; refine (HO.out _).mono ?_))
                rintro e w' ⟨rfl, hw⟩
                exact ⟨rfl, St.call (by assumption) hw⟩)))
   try simp only [Act.put, List.setIfInBounds_toArray, List.set])
  (first
     | (apply qw_skip rfl)
     | (apply qw_step rfl
        focus
          intro w0 hC
          (fail))
     | (apply qw_step rfl
        focus
          intro w0 hC
          have hC' := Lib.hid hC
          obtain ⟨r1, f1, i1, b1, l1⟩ := St.facts1 hC
          clear hC
          go_simp
          have hC := hC'.out
          (first
             | with_reducible rfl
             | (skip
                (first
                   | (go_at_call 49; refine (noughts4 _).mono ?_)
                   | (go_at_call 48; refine (HO.out _).mono ?_))
                rintro e w' ⟨rfl, hw⟩
                exact ⟨rfl, St.call (by assumption) hw⟩)))
   try simp only [Act.put, List.setIfInBounds_toArray, List.set])
  (first
     | (apply qw_skip rfl)
     | (apply qw_step rfl
        focus
          intro w0 hC
          (fail))
     | (apply qw_step rfl
        focus
          intro w0 hC
          have hC' := Lib.hid hC
          obtain ⟨r1, f1, i1, b1, l1⟩ := St.facts1 hC
          clear hC
          go_simp
          have hC := hC'.out
          (first
             | with_reducible rfl
             | (skip
                (first
                   | (go_at_call 49; refine (noughts4 _).mono ?_)
                   | (go_at_call 48; refine (HO.out _).mono ?_))
                rintro e w' ⟨rfl, hw⟩
                exact ⟨rfl, St.call (by assumption) hw⟩)))
   try simp only [Act.put, List.setIfInBounds_toArray, List.set])
  (first
     | (apply qw_skip rfl)
     | (apply qw_step rfl
        focus
          intro w0 hC
          (fail))
     | (apply qw_step rfl
        focus
          intro w0 hC
          have hC' := Lib.hid hC
          obtain ⟨r1, f1, i1, b1, l1⟩ := St.facts1 hC
          clear hC
          go_simp
          have hC := hC'.out
          (first
             | with_reducible rfl
             | (skip
                (first
                   | (go_at_call 49; refine (noughts4 _).mono ?_)
                   | (go_at_call 48; refine (HO.out _).mono ?_))
                rintro e w' ⟨rfl, hw⟩
                exact ⟨rfl, St.call (by assumption) hw⟩)))
   try simp only [Act.put, List.setIfInBounds_toArray, List.set])
  refine qw_nil ?_
  intro w2 hC
  have HC := Lib.hid hC
  clear hC
  go_wp2_with fail
  go_ret2
  exact ⟨rfl, HC.out.below⟩
set_option maxRecDepth 100000 in
set_option maxHeartbeats 1000000 in
theorem refUnlock_form (m : Nat → UInt8) (s R : ByteArray) (d : Nat) (h : 32 ≤ s.size) (ht : numAt s 0 4 = 0) (hO : OpensRef m s R 0) (hd : 1 ≤ d) (hP : ∀ w, Calls Tryz.prog 63 #[.string R] w fun e w' => e = .returned (.tuple #[.slice none 0 0, .int .i64 (d : Int)]) ∧ Below w.heap.size w w') (w : World) : Calls Tryz.prog 33 #[.agg (blk 16 m), .string s] w fun e w' => e = .returned (.tuple #[.slice none 0 0, .int .i64 4]) ∧ Below w.heap.size w w' := by
  have d1 : decide ((s.size : Int) < 32) = false := decide_eq_false (by omega)
  have d2 : (4 : Int) ≤ (s.size : Int) := by omega
  have d3 : 4 ≤ s.size := by omega
  have d4 : (16 : Int) ≤ (s.size : Int) := by omega
  have d5 : 16 ≤ s.size := by omega
  have e1 := first4 s d3
  rw [decide_eq_true ht] at e1
  have HO := Lib.hid hO
  have d6 : ((d : Int) != 0) = true := by rw [bne_iff_ne]; omega
  have HP := Lib.hid hP
  clear hO ht hd hP
  have HC := Lib.hid ((St.nil w).pushA (blk 16 m) 22 rfl)
  go_enter Tryz.func33, Tryz.ntmps33
  go_wp2_with fail
  refine St.qregion HC.out (by kernel_rfl) (by decide +kernel) ?_
  (first
     | (apply qw_skip rfl)
     | (apply qw_step rfl
        focus
          intro w0 hC
          (fail))
     | (apply qw_step rfl
        focus
          intro w0 hC
          have hC' := Lib.hid hC
          obtain ⟨r1, f1, i1, b1, l1⟩ := St.facts1 hC
          clear hC
          go_simp
          have hC := hC'.out
          (first
             | with_reducible rfl
             | (skip
                (first
                   | (go_at_call 49; refine (noughts4 _).mono ?_)
                   | (go_at_call 48; refine (HO.out _).mono ?_))
                rintro e w' ⟨rfl, hw⟩
                exact ⟨rfl, St.call (by assumption) hw⟩)))
   try simp only [Act.put, List.setIfInBounds_toArray, List.set])
  (first
     | (apply qw_skip rfl)
     | (apply qw_step rfl
        focus
          intro w0 hC
          (fail))
     | (apply qw_step rfl
        focus
          intro w0 hC
          have hC' := Lib.hid hC
          obtain ⟨r1, f1, i1, b1, l1⟩ := St.facts1 hC
          clear hC
          go_simp
          have hC := hC'.out
          (first
             | with_reducible rfl
             | (skip
                (first
                   | (go_at_call 49; refine (noughts4 _).mono ?_)
                   | (go_at_call 48; refine (HO.out _).mono ?_))
                rintro e w' ⟨rfl, hw⟩
                exact ⟨rfl, St.call (by assumption) hw⟩)))
   try simp only [Act.put, List.setIfInBounds_toArray, List.set])
  (first
     | (apply qw_skip rfl)
     | (apply qw_step rfl
        focus
          intro w0 hC
          (fail))
     | (apply qw_step rfl
        focus
          intro w0 hC
          have hC' := Lib.hid hC
          obtain ⟨r1, f1, i1, b1, l1⟩ := St.facts1 hC
          clear hC
          go_simp
          have hC := hC'.out
          (first
             | with_reducible rfl
             | (skip
                (first
                   | (go_at_call 49; refine (noughts4 _).mono ?_)
                   | (go_at_call 48; refine (HO.out _).mono ?_))
                rintro e w' ⟨rfl, hw⟩
                exact ⟨rfl, St.call (by assumption) hw⟩)))
   try simp only [Act.put, List.setIfInBounds_toArray, List.set])
  (first
     | (apply qw_skip rfl)
     | (apply qw_step rfl
        focus
          intro w0 hC
          (fail))
     | (apply qw_step rfl
        focus
          intro w0 hC
          have hC' := Lib.hid hC
          obtain ⟨r1, f1, i1, b1, l1⟩ := St.facts1 hC
          clear hC
          go_simp
          have hC := hC'.out
          (first
             | with_reducible rfl
             | (skip
                (first
                   | (go_at_call 49; refine (noughts4 _).mono ?_)
                   | (go_at_call 48; refine (HO.out _).mono ?_))
                rintro e w' ⟨rfl, hw⟩
                exact ⟨rfl, St.call (by assumption) hw⟩)))
   try simp only [Act.put, List.setIfInBounds_toArray, List.set])
  refine qw_nil ?_
  intro w1 hC
  have HC := Lib.hid hC
  clear hC
  go_wp2_with fail
  refine St.qregion HC.out (by kernel_rfl) (by decide +kernel) ?_
  (first
     | (apply qw_skip rfl)
     | (apply qw_step rfl
        focus
          intro w0 hC
          (fail))
     | (apply qw_step rfl
        focus
          intro w0 hC
          have hC' := Lib.hid hC
          obtain ⟨r1, f1, i1, b1, l1⟩ := St.facts1 hC
          clear hC
          go_simp
          have hC := hC'.out
          (first
             | with_reducible rfl
             | (skip
                (first
                   | (go_at_call 49; refine (noughts4 _).mono ?_)
                   | (go_at_call 48; refine (HO.out _).mono ?_))
                rintro e w' ⟨rfl, hw⟩
                exact ⟨rfl, St.call (by assumption) hw⟩)))
   try simp only [Act.put, List.setIfInBounds_toArray, List.set])
  (first
     | (apply qw_skip rfl)
     | (apply qw_step rfl
        focus
          intro w0 hC
          (fail))
     | (apply qw_step rfl
        focus
          intro w0 hC
          have hC' := Lib.hid hC
          obtain ⟨r1, f1, i1, b1, l1⟩ := St.facts1 hC
          clear hC
          go_simp
          have hC := hC'.out
          (first
             | with_reducible rfl
             | (skip
                (first
                   | (go_at_call 49; refine (noughts4 _).mono ?_)
                   | (go_at_call 48; refine (HO.out _).mono ?_))
                rintro e w' ⟨rfl, hw⟩
                exact ⟨rfl, St.call (by assumption) hw⟩)))
   try simp only [Act.put, List.setIfInBounds_toArray, List.set])
  (first
     | (apply qw_skip rfl)
     | (apply qw_step rfl
        focus
          intro w0 hC
          (fail))
     | (apply qw_step rfl
        focus
          intro w0 hC
          have hC' := Lib.hid hC
          obtain ⟨r1, f1, i1, b1, l1⟩ := St.facts1 hC
          clear hC
          go_simp
          have hC := hC'.out
          (first
             | with_reducible rfl
             | (skip
                (first
                   | (go_at_call 49; refine (noughts4 _).mono ?_)
                   | (go_at_call 48; refine (HO.out _).mono ?_))
                rintro e w' ⟨rfl, hw⟩
                exact ⟨rfl, St.call (by assumption) hw⟩)))
   try simp only [Act.put, List.setIfInBounds_toArray, List.set])
  (first
     | (apply qw_skip rfl)
     | (apply qw_step rfl
        focus
          intro w0 hC
          (fail))
     | (apply qw_step rfl
        focus
          intro w0 hC
          have hC' := Lib.hid hC
          obtain ⟨r1, f1, i1, b1, l1⟩ := St.facts1 hC
          clear hC
          go_simp
          have hC := hC'.out
          (first
             | with_reducible rfl
             | (skip
                (first
                   | (go_at_call 49; refine (noughts4 _).mono ?_)
                   | (go_at_call 48; refine (HO.out _).mono ?_))
                rintro e w' ⟨rfl, hw⟩
                exact ⟨rfl, St.call (by assumption) hw⟩)))
   try simp only [Act.put, List.setIfInBounds_toArray, List.set])
  (first
     | (apply qw_skip rfl)
     | (apply qw_step rfl
        focus
          intro w0 hC
          (fail))
     | (apply qw_step rfl
        focus
          intro w0 hC
          have hC' := Lib.hid hC
          obtain ⟨r1, f1, i1, b1, l1⟩ := St.facts1 hC
          clear hC
          go_simp
          have hC := hC'.out
          (first
             | with_reducible rfl
             | (skip
                (first
                   | (go_at_call 49; refine (noughts4 _).mono ?_)
                   | (go_at_call 48; refine (HO.out _).mono ?_))
                rintro e w' ⟨rfl, hw⟩
                exact ⟨rfl, St.call (by assumption) hw⟩)))
   try simp only [Act.put, List.setIfInBounds_toArray, List.set])
  (first
     | (apply qw_skip rfl)
     | (apply qw_step rfl
        focus
          intro w0 hC
          (fail))
     | (apply qw_step rfl
        focus
          intro w0 hC
          have hC' := Lib.hid hC
          obtain ⟨r1, f1, i1, b1, l1⟩ := St.facts1 hC
          clear hC
          go_simp
          have hC := hC'.out
          (first
             | with_reducible rfl
             | (skip
                (first
                   | (go_at_call 49; refine (noughts4 _).mono ?_)
                   | (go_at_call 48; refine (HO.out _).mono ?_))
                rintro e w' ⟨rfl, hw⟩
                exact ⟨rfl, St.call (by assumption) hw⟩)))
   try simp only [Act.put, List.setIfInBounds_toArray, List.set])
  (first
     | (apply qw_skip rfl)
     | (apply qw_step rfl
        focus
          intro w0 hC
          (fail))
     | (apply qw_step rfl
        focus
          intro w0 hC
          have hC' := Lib.hid hC
          obtain ⟨r1, f1, i1, b1, l1⟩ := St.facts1 hC
          clear hC
          go_simp
          have hC := hC'.out
          (first
             | with_reducible rfl
             | (skip
                (first
                   | (go_at_call 49; refine (noughts4 _).mono ?_)
                   | (go_at_call 48; refine (HO.out _).mono ?_))
                rintro e w' ⟨rfl, hw⟩
                exact ⟨rfl, St.call (by assumption) hw⟩)))
   try simp only [Act.put, List.setIfInBounds_toArray, List.set])
  (first
     | (apply qw_skip rfl)
     | (apply qw_step rfl
        focus
          intro w0 hC
          (fail))
     | (apply qw_step rfl
        focus
          intro w0 hC
          have hC' := Lib.hid hC
          obtain ⟨r1, f1, i1, b1, l1⟩ := St.facts1 hC
          clear hC
          go_simp
          have hC := hC'.out
          (first
             | with_reducible rfl
             | (skip
                (first
                   | (go_at_call 49; refine (noughts4 _).mono ?_)
                   | (go_at_call 48; refine (HO.out _).mono ?_))
                rintro e w' ⟨rfl, hw⟩
                exact ⟨rfl, St.call (by assumption) hw⟩)))
   try simp only [Act.put, List.setIfInBounds_toArray, List.set])
  (first
     | (apply qw_skip rfl)
     | (apply qw_step rfl
        focus
          intro w0 hC
          (fail))
     | (apply qw_step rfl
        focus
          intro w0 hC
          have hC' := Lib.hid hC
          obtain ⟨r1, f1, i1, b1, l1⟩ := St.facts1 hC
          clear hC
          go_simp
          have hC := hC'.out
          (first
             | with_reducible rfl
             | (skip
                (first
                   | (go_at_call 49; refine (noughts4 _).mono ?_)
                   | (go_at_call 48; refine (HO.out _).mono ?_))
                rintro e w' ⟨rfl, hw⟩
                exact ⟨rfl, St.call (by assumption) hw⟩)))
   try simp only [Act.put, List.setIfInBounds_toArray, List.set])
  (first
     | (apply qw_skip rfl)
     | (apply qw_step rfl
        focus
          intro w0 hC
          (fail))
     | (apply qw_step rfl
        focus
          intro w0 hC
          have hC' := Lib.hid hC
          obtain ⟨r1, f1, i1, b1, l1⟩ := St.facts1 hC
          clear hC
          go_simp
          have hC := hC'.out
          (first
             | with_reducible rfl
             | (skip
                (first
                   | (go_at_call 49; refine (noughts4 _).mono ?_)
                   | (go_at_call 48; refine (HO.out _).mono ?_))
                rintro e w' ⟨rfl, hw⟩
                exact ⟨rfl, St.call (by assumption) hw⟩)))
   try simp only [Act.put, List.setIfInBounds_toArray, List.set])
  (first
     | (apply qw_skip rfl)
     | (apply qw_step rfl
        focus
          intro w0 hC
          (fail))
     | (apply qw_step rfl
        focus
          intro w0 hC
          have hC' := Lib.hid hC
          obtain ⟨r1, f1, i1, b1, l1⟩ := St.facts1 hC
          clear hC
          go_simp
          have hC := hC'.out
          (first
             | with_reducible rfl
             | (skip
                (first
                   | (go_at_call 49; refine (noughts4 _).mono ?_)
                   | (go_at_call 48; refine (HO.out _).mono ?_))
                rintro e w' ⟨rfl, hw⟩
                exact ⟨rfl, St.call (by assumption) hw⟩)))
   try simp only [Act.put, List.setIfInBounds_toArray, List.set])
  refine qw_nil ?_
  intro w2 hC
  have HC := Lib.hid hC
  clear hC
  go_wp2_with fail
  refine (HP.out _).mono ?_; rintro e w3 ⟨rfl, hw⟩
  have HC := Lib.hid (HC.out.call hw)
  clear hw
  go_wp2_with fail
  go_ret2
  exact ⟨rfl, HC.out.below⟩
set_option maxRecDepth 100000 in
set_option maxHeartbeats 1000000 in
theorem refUnlock_ok (m : Nat → UInt8) (s R : ByteArray) (N : Nat) (f : Nat → UInt8) (h : 32 ≤ s.size) (ht : numAt s 0 4 = 0) (hO : OpensRef m s R 0) (w0 w : World) (L : List (Nat × Array Value)) (hP : ∀ w L, St w0 L w → Calls Tryz.prog 63 #[.string R] w (Keyed w0 L N f)) (hC : St w0 L w) : Calls Tryz.prog 33 #[.agg (blk 16 m), .string s] w (Keyed w0 L N f) := by
  have d1 : decide ((s.size : Int) < 32) = false := decide_eq_false (by omega)
  have d2 : (4 : Int) ≤ (s.size : Int) := by omega
  have d3 : 4 ≤ s.size := by omega
  have d4 : (16 : Int) ≤ (s.size : Int) := by omega
  have d5 : 16 ≤ s.size := by omega
  have e1 := first4 s d3
  rw [decide_eq_true ht] at e1
  have HO := Lib.hid hO
  have HP := Lib.hid hP
  clear hO ht hP
  have HC := Lib.hid (hC.push (blk 16 m) 22)
  clear hC
  go_enter Tryz.func33, Tryz.ntmps33
  go_wp2_with fail
  refine St.qregion HC.out (by kernel_rfl) (by decide +kernel) ?_
  (first
     | (apply qw_skip rfl)
     | (apply qw_step rfl
        focus
          intro w0 hC
          (fail))
     | (apply qw_step rfl
        focus
          intro w0 hC
          have hC' := Lib.hid hC
          obtain ⟨r1, f1, i1, b1, l1⟩ := St.facts1 (hC.pick [0] (by decide) rfl)
          clear hC
          go_simp
          have hC := hC'.out
          (first
             | with_reducible rfl
             | (skip
                (first
                   | (go_at_call 49; refine (noughts4 _).mono ?_)
                   | (go_at_call 48; refine (HO.out _).mono ?_))
                rintro e w' ⟨rfl, hw⟩
                exact ⟨rfl, St.call (by assumption) hw⟩)))
   try simp only [Act.put, List.setIfInBounds_toArray, List.set])
  (first
     | (apply qw_skip rfl)
     | (apply qw_step rfl
        focus
          intro w0 hC
          (fail))
     | (apply qw_step rfl
        focus
          intro w0 hC
          have hC' := Lib.hid hC
          obtain ⟨r1, f1, i1, b1, l1⟩ := St.facts1 (hC.pick [0] (by decide) rfl)
          clear hC
          go_simp
          have hC := hC'.out
          (first
             | with_reducible rfl
             | (skip
                (first
                   | (go_at_call 49; refine (noughts4 _).mono ?_)
                   | (go_at_call 48; refine (HO.out _).mono ?_))
                rintro e w' ⟨rfl, hw⟩
                exact ⟨rfl, St.call (by assumption) hw⟩)))
   try simp only [Act.put, List.setIfInBounds_toArray, List.set])
  (first
     | (apply qw_skip rfl)
     | (apply qw_step rfl
        focus
          intro w0 hC
          (fail))
     | (apply qw_step rfl
        focus
          intro w0 hC
          have hC' := Lib.hid hC
          obtain ⟨r1, f1, i1, b1, l1⟩ := St.facts1 (hC.pick [0] (by decide) rfl)
          clear hC
          go_simp
          have hC := hC'.out
          (first
             | with_reducible rfl
             | (skip
                (first
                   | (go_at_call 49; refine (noughts4 _).mono ?_)
                   | (go_at_call 48; refine (HO.out _).mono ?_))
                rintro e w' ⟨rfl, hw⟩
                exact ⟨rfl, St.call (by assumption) hw⟩)))
   try simp only [Act.put, List.setIfInBounds_toArray, List.set])
  (first
     | (apply qw_skip rfl)
     | (apply qw_step rfl
        focus
          intro w0 hC
          (fail))
     | (apply qw_step rfl
        focus
          intro w0 hC
          have hC' := Lib.hid hC
          obtain ⟨r1, f1, i1, b1, l1⟩ := St.facts1 (hC.pick [0] (by decide) rfl)
          clear hC
          go_simp
          have hC := hC'.out
          (first
             | with_reducible rfl
             | (skip
                (first
                   | (go_at_call 49; refine (noughts4 _).mono ?_)
                   | (go_at_call 48; refine (HO.out _).mono ?_))
                rintro e w' ⟨rfl, hw⟩
                exact ⟨rfl, St.call (by assumption) hw⟩)))
   try simp only [Act.put, List.setIfInBounds_toArray, List.set])
  refine qw_nil ?_
  intro w1 hC
  have HC := Lib.hid hC
  clear hC
  go_wp2_with fail
  refine St.qregion HC.out (by kernel_rfl) (by decide +kernel) ?_
  (first
     | (apply qw_skip rfl)
     | (apply qw_step rfl
        focus
          intro w0 hC
          (fail))
     | (apply qw_step rfl
        focus
          intro w0 hC
          have hC' := Lib.hid hC
          obtain ⟨r1, f1, i1, b1, l1⟩ := St.facts1 (hC.pick [0] (by decide) rfl)
          clear hC
          go_simp
          have hC := hC'.out
          (first
             | with_reducible rfl
             | (skip
                (first
                   | (go_at_call 49; refine (noughts4 _).mono ?_)
                   | (go_at_call 48; refine (HO.out _).mono ?_))
                rintro e w' ⟨rfl, hw⟩
                exact ⟨rfl, St.call (by assumption) hw⟩)))
   try simp only [Act.put, List.setIfInBounds_toArray, List.set])
  (first
     | (apply qw_skip rfl)
     | (apply qw_step rfl
        focus
          intro w0 hC
          (fail))
     | (apply qw_step rfl
        focus
          intro w0 hC
          have hC' := Lib.hid hC
          obtain ⟨r1, f1, i1, b1, l1⟩ := St.facts1 (hC.pick [0] (by decide) rfl)
          clear hC
          go_simp
          have hC := hC'.out
          (first
             | with_reducible rfl
             | (skip
                (first
                   | (go_at_call 49; refine (noughts4 _).mono ?_)
                   | (go_at_call 48; refine (HO.out _).mono ?_))
                rintro e w' ⟨rfl, hw⟩
                exact ⟨rfl, St.call (by assumption) hw⟩)))
   try simp only [Act.put, List.setIfInBounds_toArray, List.set])
  (first
     | (apply qw_skip rfl)
     | (apply qw_step rfl
        focus
          intro w0 hC
          (fail))
     | (apply qw_step rfl
        focus
          intro w0 hC
          have hC' := Lib.hid hC
          obtain ⟨r1, f1, i1, b1, l1⟩ := St.facts1 (hC.pick [0] (by decide) rfl)
          clear hC
          go_simp
          have hC := hC'.out
          (first
             | with_reducible rfl
             | (skip
                (first
                   | (go_at_call 49; refine (noughts4 _).mono ?_)
                   | (go_at_call 48; refine (HO.out _).mono ?_))
                rintro e w' ⟨rfl, hw⟩
                exact ⟨rfl, St.call (by assumption) hw⟩)))
   try simp only [Act.put, List.setIfInBounds_toArray, List.set])
  (first
     | (apply qw_skip rfl)
     | (apply qw_step rfl
        focus
          intro w0 hC
          (fail))
     | (apply qw_step rfl
        focus
          intro w0 hC
          have hC' := Lib.hid hC
          obtain ⟨r1, f1, i1, b1, l1⟩ := St.facts1 (hC.pick [0] (by decide) rfl)
          clear hC
          go_simp
          have hC := hC'.out
          (first
             | with_reducible rfl
             | (skip
                (first
                   | (go_at_call 49; refine (noughts4 _).mono ?_)
                   | (go_at_call 48; refine (HO.out _).mono ?_))
                rintro e w' ⟨rfl, hw⟩
                exact ⟨rfl, St.call (by assumption) hw⟩)))
   try simp only [Act.put, List.setIfInBounds_toArray, List.set])
  (first
     | (apply qw_skip rfl)
     | (apply qw_step rfl
        focus
          intro w0 hC
          (fail))
     | (apply qw_step rfl
        focus
          intro w0 hC
          have hC' := Lib.hid hC
          obtain ⟨r1, f1, i1, b1, l1⟩ := St.facts1 (hC.pick [0] (by decide) rfl)
          clear hC
          go_simp
          have hC := hC'.out
          (first
             | with_reducible rfl
             | (skip
                (first
                   | (go_at_call 49; refine (noughts4 _).mono ?_)
                   | (go_at_call 48; refine (HO.out _).mono ?_))
                rintro e w' ⟨rfl, hw⟩
                exact ⟨rfl, St.call (by assumption) hw⟩)))
   try simp only [Act.put, List.setIfInBounds_toArray, List.set])
  (first
     | (apply qw_skip rfl)
     | (apply qw_step rfl
        focus
          intro w0 hC
          (fail))
     | (apply qw_step rfl
        focus
          intro w0 hC
          have hC' := Lib.hid hC
          obtain ⟨r1, f1, i1, b1, l1⟩ := St.facts1 (hC.pick [0] (by decide) rfl)
          clear hC
          go_simp
          have hC := hC'.out
          (first
             | with_reducible rfl
             | (skip
                (first
                   | (go_at_call 49; refine (noughts4 _).mono ?_)
                   | (go_at_call 48; refine (HO.out _).mono ?_))
                rintro e w' ⟨rfl, hw⟩
                exact ⟨rfl, St.call (by assumption) hw⟩)))
   try simp only [Act.put, List.setIfInBounds_toArray, List.set])
  (first
     | (apply qw_skip rfl)
     | (apply qw_step rfl
        focus
          intro w0 hC
          (fail))
     | (apply qw_step rfl
        focus
          intro w0 hC
          have hC' := Lib.hid hC
          obtain ⟨r1, f1, i1, b1, l1⟩ := St.facts1 (hC.pick [0] (by decide) rfl)
          clear hC
          go_simp
          have hC := hC'.out
          (first
             | with_reducible rfl
             | (skip
                (first
                   | (go_at_call 49; refine (noughts4 _).mono ?_)
                   | (go_at_call 48; refine (HO.out _).mono ?_))
                rintro e w' ⟨rfl, hw⟩
                exact ⟨rfl, St.call (by assumption) hw⟩)))
   try simp only [Act.put, List.setIfInBounds_toArray, List.set])
  (first
     | (apply qw_skip rfl)
     | (apply qw_step rfl
        focus
          intro w0 hC
          (fail))
     | (apply qw_step rfl
        focus
          intro w0 hC
          have hC' := Lib.hid hC
          obtain ⟨r1, f1, i1, b1, l1⟩ := St.facts1 (hC.pick [0] (by decide) rfl)
          clear hC
          go_simp
          have hC := hC'.out
          (first
             | with_reducible rfl
             | (skip
                (first
                   | (go_at_call 49; refine (noughts4 _).mono ?_)
                   | (go_at_call 48; refine (HO.out _).mono ?_))
                rintro e w' ⟨rfl, hw⟩
                exact ⟨rfl, St.call (by assumption) hw⟩)))
   try simp only [Act.put, List.setIfInBounds_toArray, List.set])
  (first
     | (apply qw_skip rfl)
     | (apply qw_step rfl
        focus
          intro w0 hC
          (fail))
     | (apply qw_step rfl
        focus
          intro w0 hC
          have hC' := Lib.hid hC
          obtain ⟨r1, f1, i1, b1, l1⟩ := St.facts1 (hC.pick [0] (by decide) rfl)
          clear hC
          go_simp
          have hC := hC'.out
          (first
             | with_reducible rfl
             | (skip
                (first
                   | (go_at_call 49; refine (noughts4 _).mono ?_)
                   | (go_at_call 48; refine (HO.out _).mono ?_))
                rintro e w' ⟨rfl, hw⟩
                exact ⟨rfl, St.call (by assumption) hw⟩)))
   try simp only [Act.put, List.setIfInBounds_toArray, List.set])
  (first
     | (apply qw_skip rfl)
     | (apply qw_step rfl
        focus
          intro w0 hC
          (fail))
     | (apply qw_step rfl
        focus
          intro w0 hC
          have hC' := Lib.hid hC
          obtain ⟨r1, f1, i1, b1, l1⟩ := St.facts1 (hC.pick [0] (by decide) rfl)
          clear hC
          go_simp
          have hC := hC'.out
          (first
             | with_reducible rfl
             | (skip
                (first
                   | (go_at_call 49; refine (noughts4 _).mono ?_)
                   | (go_at_call 48; refine (HO.out _).mono ?_))
                rintro e w' ⟨rfl, hw⟩
                exact ⟨rfl, St.call (by assumption) hw⟩)))
   try simp only [Act.put, List.setIfInBounds_toArray, List.set])
  (first
     | (apply qw_skip rfl)
     | (apply qw_step rfl
        focus
          intro w0 hC
          (fail))
     | (apply qw_step rfl
        focus
          intro w0 hC
          have hC' := Lib.hid hC
          obtain ⟨r1, f1, i1, b1, l1⟩ := St.facts1 (hC.pick [0] (by decide) rfl)
          clear hC
          go_simp
          have hC := hC'.out
          (first
             | with_reducible rfl
             | (skip
                (first
                   | (go_at_call 49; refine (noughts4 _).mono ?_)
                   | (go_at_call 48; refine (HO.out _).mono ?_))
                rintro e w' ⟨rfl, hw⟩
                exact ⟨rfl, St.call (by assumption) hw⟩)))
   try simp only [Act.put, List.setIfInBounds_toArray, List.set])
  refine qw_nil ?_
  intro w2 hC
  have HC := Lib.hid hC
  clear hC
  go_wp2_with fail
  refine (HP.out _ _ HC.out).mono ?_; rintro e w3 ⟨g, c, F, rfl, h1, h2, hw⟩
  have HC := Lib.hid hw
  have H1 := Lib.hid h1
  have H2 := Lib.hid h2
  clear h1 h2 hw
  go_wp2_with fail
  go_ret2
  exact ⟨g, c, F, rfl, H1.out, H2.out, HC.out.swap.tail⟩
end Go.Proofs.YtgaecjhghpkcoaaGreat
