/- A barrier that nobody made: it is sealed, and tells so. * A barrier that nobody made: Seal, Fork; notes that nobody made; the reference's noughts, Unlock. * The reference's Unlock. * The program's barrier: Turn, Lock. * The program's barrier of the real kind: Put, Get. * The program's barriers are made: New, NewNotes, Fork. * strings.Repeat, laid at this program; the program's blank. * The program's barrier of the ideal kind: Put, Get. * Entries taken apart, in plain words; Unlock, whole, the program's and the reference's. * padlocklaw21.awake returns true. -/
import Derived.Test.YtgaecjhghpkcoaaGreatMBar
import Derived.Test.YtgaecjhghpkcoaaGreatMKeyRef
import Derived.WalkSpells
import Derived.Test.YtgaecjhghpkcoaaGreatMRegion
import Derived.Shelf.Strings.Repeat
section
namespace Go.Proofs.YtgaecjhghpkcoaaGreat
open Go.RowKit
attribute [local go_sem] B_xor B_or B_and
attribute [local go_sem] blk_set blk_size blk_get blk_getE upd_same oneCells_blk paste_blk cut_blk szOf
attribute [local go_sem high] paste_all cut_head
attribute [local go_sem] rowAt_alloc rowAt_drew rowAt_drewN isRow_alloc isRow_drew isRow_drewN freeRow_alloc freeRow_end freeRow_drew freeRow_drewN
attribute [local go_sem] setRow_alloc setRow_drew setRow_drewN setCell_drewN alloc_drewN rowAt_put isRow_setRow freeRow_put
attribute [local go_sem ↓] loadS_in storeS_in indexS_in copyS_in
attribute [local go_sem] loadS_row loadS_one storeS_row storeS_one indexS_blk copyS_rows run_equalIn_blk same_refl arrayAt_row
attribute [local go_sem] cell_row frozen_row st_setCell st_blk_ne stepAt stepUpon
attribute [local go_sem high] run_eql_blk run_neq_blk
attribute [local go_sem ↓] convBS_in
attribute [local go_sem] convBS_row convBS_nil allBytes_blk bytesOf_blk
attribute [local go_sem] rg_size rg_get0 rg_getE0 rg_ne rg_set0 rg_one rg_cut rg_key rg_put rg_paste part_rg0 part_rg1
attribute [local go_sem] size_cn agg_cn cn_size cn_get0 cn_get1 cn_getE0 cn_getE1 cn_set0 cn_set1 cn_ne cn_one cn_cut cn_paste
attribute [local go_sem] br_size br_get0 br_get1 br_get2 br_getE0 br_getE1 br_getE2 br_ne br_ring br_count br_whole br_put_ring br_put_count br_paste br_one size_br agg_br

/-- nobody made it: nil, or its mark is not set -/
def Dead (w : World) (p : Value) : Prop := p = .pointer none ∨ ∃ g b, p = .pointer (some ⟨g, 0, none⟩) ∧ b.md = false ∧ g < w.heap.size ∧ rowAt w g = br b ∧ isRow w g = true
theorem Dead.call {w w' : World} {p : Value} (h : Dead w p) (hb : Below w.heap.size w w') : Dead w' p := by
  rcases h with h | ⟨g, b, h1, h2, h3, h4, h5⟩
  · exact .inl h
  · exact .inr ⟨g, b, h1, h2, Nat.lt_of_lt_of_le h3 hb.size, (below_rowAt hb h3).trans h4, (below_isRow hb h3).trans h5⟩
theorem state_dead (p : Value) (w : World) (h : Dead w p) : Calls Tryz.prog 42 #[p] w fun e w' => e = .returned (.int .i64 1) ∧ Below w.heap.size w w' := by
  rcases h with rfl | ⟨g, b, rfl, h2, h3, h4, h5⟩
  · exact state_nil w
  · go_enter Tryz.func42, Tryz.ntmps42
    go_wp2_with fail
    go_ret
    exact ⟨rfl, Below.refl _ _⟩
theorem sealed_dead (p : Value) (w : World) (h : Dead w p) : Calls Tryz.prog 36 #[p] w fun e w' => e = .returned (.bool true) ∧ Below w.heap.size w w' :=
  sealed_any p 1 true rfl w (state_dead p w h)
set_option maxRecDepth 100000 in
theorem take_dead (p : Value) (w : World) (h : Dead w p) : Calls Tryz.prog 52 #[p] w fun e w' => e = .returned (.tuple #[.string ⟨#[]⟩, .int .i64 1]) ∧ Below w.heap.size w w' := by
  have HD := Lib.hid h
  have HC := Lib.hid (St.nil w)
  clear h
  go_enter Tryz.func52, Tryz.ntmps52
  go_wp2_with fail
  refine (state_dead p _ HD.out).mono ?_; rintro e w1 ⟨rfl, hw⟩
  have HC := Lib.hid (HC.out.call hw)
  clear hw
  go_wp2_with fail
  go_ret2
  exact ⟨rfl, HC.out.below⟩
set_option maxRecDepth 100000 in
theorem put_dead (p : Value) (a s : ByteArray) (w : World) (h : Dead w p) : Calls Tryz.prog 23 #[p, .string a, .string s] w fun e w' => e = .returned (.tuple #[.string ⟨#[]⟩, .int .i64 1]) ∧ Below w.heap.size w w' := by
  have HD := Lib.hid h
  have HC := Lib.hid (St.nil w)
  clear h
  go_enter Tryz.func23, Tryz.ntmps23
  go_wp2_with fail
  refine (take_dead p _ HD.out).mono ?_; rintro e w1 ⟨rfl, hw⟩
  have HC := Lib.hid (HC.out.call hw)
  clear hw
  go_wp2_with fail
  go_ret2
  exact ⟨rfl, HC.out.below⟩
set_option maxRecDepth 100000 in
theorem get_dead (p : Value) (a s : ByteArray) (w : World) (h : Dead w p) : Calls Tryz.prog 12 #[p, .string a, .string s] w fun e w' => e = .returned (.tuple #[.string ⟨#[]⟩, .int .i64 1]) ∧ Below w.heap.size w w' := by
  have HD := Lib.hid h
  have HC := Lib.hid (St.nil w)
  clear h
  go_enter Tryz.func12, Tryz.ntmps12
  go_wp2_with fail
  refine (state_dead p _ HD.out).mono ?_; rintro e w1 ⟨rfl, hw⟩
  have HC := Lib.hid (HC.out.call hw)
  clear hw
  go_wp2_with fail
  go_ret2
  exact ⟨rfl, HC.out.below⟩
set_option maxRecDepth 100000 in
theorem lock_dead (p : Value) (m : Nat → UInt8) (w : World) (h : Dead w p) : Calls Tryz.prog 20 #[p, .agg (blk 16 m)] w fun e w' => e = .returned (.tuple #[.string ⟨#[]⟩, .int .i64 1]) ∧ Below w.heap.size w w' := by
  have HD := Lib.hid (h.call ((Below.refl _ _).alloc (Nat.le_refl _) (.cells (blk 16 m) 41)))
  have HC := Lib.hid ((St.nil w).skip (.cells (blk 16 m) 41))
  clear h
  go_enter Tryz.func20, Tryz.ntmps20
  go_wp2_with fail
  refine (take_dead p _ HD.out).mono ?_; rintro e w1 ⟨rfl, hw⟩
  have HC := Lib.hid (HC.out.call hw)
  clear hw
  go_wp2_with fail
  go_ret2
  exact ⟨rfl, HC.out.below⟩
set_option maxRecDepth 100000 in
theorem open_dead (p : Value) (n : Nat) (f : Nat → UInt8) (e c : Nat) (w : World) (h : Dead w p) : Calls Tryz.prog 14 #[p, .agg (rg n f), .agg (cn e c)] w fun r w' => r = .returned (.int .i64 1) ∧ Below w.heap.size w w' := by
  have HD := Lib.hid (h.call (((Below.refl _ _).alloc (Nat.le_refl _) (.cells (rg n f) 44)).alloc (by simp) (.cells (cn e c) 52)))
  have HC := Lib.hid (((St.nil w).skip (.cells (rg n f) 44)).skip (.cells (cn e c) 52))
  clear h
  go_enter Tryz.func14, Tryz.ntmps14
  go_wp2_with fail
  refine (state_dead p _ HD.out).mono ?_; rintro e w1 ⟨rfl, hw⟩
  have HC := Lib.hid (HC.out.call hw)
  clear hw
  go_wp2_with fail
  go_ret
  exact ⟨rfl, HC.out.below⟩
set_option maxRecDepth 100000 in
theorem turn_dead (p : Value) (n : Nat) (f : Nat → UInt8) (w : World) (h : Dead w p) : Calls Tryz.prog 18 #[p, .agg (rg n f)] w fun r w' => r = .returned (.int .i64 1) ∧ Below w.heap.size w w' := by
  have HD := Lib.hid (h.call ((Below.refl _ _).alloc (Nat.le_refl _) (.cells (rg n f) 44)))
  have HC := Lib.hid ((St.nil w).skip (.cells (rg n f) 44))
  clear h
  go_enter Tryz.func18, Tryz.ntmps18
  go_wp2_with fail
  refine (state_dead p _ HD.out).mono ?_; rintro e w1 ⟨rfl, hw⟩
  have HC := Lib.hid (HC.out.call hw)
  clear hw
  go_wp2_with fail
  go_ret
  exact ⟨rfl, HC.out.below⟩
end Go.Proofs.YtgaecjhghpkcoaaGreat
end

section
namespace Go.Proofs.YtgaecjhghpkcoaaGreat
open Go.RowKit
attribute [local go_sem] B_xor B_or B_and
attribute [local go_sem] blk_set blk_size blk_get blk_getE upd_same oneCells_blk paste_blk cut_blk szOf
attribute [local go_sem high] paste_all cut_head
attribute [local go_sem] rowAt_alloc rowAt_drew rowAt_drewN isRow_alloc isRow_drew isRow_drewN freeRow_alloc freeRow_end freeRow_drew freeRow_drewN
attribute [local go_sem] setRow_alloc setRow_drew setRow_drewN setCell_drewN alloc_drewN rowAt_put isRow_setRow freeRow_put
attribute [local go_sem ↓] loadS_in storeS_in indexS_in copyS_in
attribute [local go_sem] loadS_row loadS_one storeS_row storeS_one indexS_blk copyS_rows run_equalIn_blk same_refl arrayAt_row
attribute [local go_sem] cell_row frozen_row st_setCell st_blk_ne stepAt stepUpon
attribute [local go_sem high] run_eql_blk run_neq_blk
attribute [local go_sem ↓] convBS_in
attribute [local go_sem] convBS_row convBS_nil allBytes_blk bytesOf_blk
attribute [local go_sem] rg_size rg_get0 rg_getE0 rg_ne rg_set0 rg_one rg_cut rg_key rg_put rg_paste part_rg0 part_rg1
attribute [local go_sem] size_cn agg_cn cn_size cn_get0 cn_get1 cn_getE0 cn_getE1 cn_set0 cn_set1 cn_ne cn_one cn_cut cn_paste
attribute [local go_sem] br_size br_get0 br_get1 br_get2 br_getE0 br_getE1 br_getE2 br_ne br_ring br_count br_whole br_put_ring br_put_count br_paste br_one size_br agg_br
attribute [local go_sem] run_make_bytes

theorem seal_nil (w : World) : Calls Tryz.prog 16 #[.pointer none] w fun e w' => e = .returned (.tuple #[]) ∧ Below w.heap.size w w' := by
  go_enter Tryz.func16, Tryz.ntmps16
  go_wp2_with fail
  go_end0
  exact ⟨rfl, Below.refl _ _⟩
theorem fork_dead (p : Value) (w : World) (h : Dead w p) : Calls Tryz.prog 22 #[p] w fun e w' => e = .returned (.pointer none) ∧ Below w.heap.size w w' := by
  rcases h with rfl | ⟨g, b, rfl, h2, h3, h4, h5⟩
  · go_enter Tryz.func22, Tryz.ntmps22
    go_wp2_with fail
    go_ret
    exact ⟨rfl, Below.refl _ _⟩
  · go_enter Tryz.func22, Tryz.ntmps22
    go_wp2_with fail
    go_ret
    exact ⟨rfl, Below.refl _ _⟩
theorem ok_nil (w : World) : Calls Tryz.prog 40 #[.pointer none] w fun e w' => e = .returned (.bool false) ∧ Below w.heap.size w w' := by
  go_enter Tryz.func40, Tryz.ntmps40
  go_wp2_with fail
  go_ret
  exact ⟨rfl, Below.refl _ _⟩
theorem ok_zero (g : Nat) (w : World) (hg : rowAt w g = #[.map none]) (hi : isRow w g = true) : Calls Tryz.prog 40 #[.pointer (some ⟨g, 0, none⟩)] w fun e w' => e = .returned (.bool false) ∧ Below w.heap.size w w' := by
  have hq := fun w => run_neq_map_nil (P := Tryz.prog) w 76 9 97 none Tryz.underlying76
  go_enter Tryz.func40, Tryz.ntmps40
  go_wp2_with fail
  go_ret
  exact ⟨rfl, Below.refl _ _⟩
theorem notesFork_no (p : Value) (w : World) (hO : Calls Tryz.prog 40 #[p] w fun e w' => e = .returned (.bool false) ∧ Below w.heap.size w w') : Calls Tryz.prog 32 #[p] w fun e w' => e = .returned (.pointer none) ∧ Below w.heap.size w w' := by
  have HO := Lib.hid hO
  have HC := Lib.hid (St.nil w)
  clear hO
  go_enter Tryz.func32, Tryz.ntmps32
  go_wp2_with fail
  refine (HO.out).mono ?_; rintro e w1 ⟨rfl, hw⟩
  have HC := Lib.hid (HC.out.call hw)
  clear hw
  go_wp2_with fail
  go_ret
  exact ⟨rfl, HC.out.below⟩
/-- so many bytes of 0 -/
def nilS (n : Nat) : ByteArray := strOf n fun _ => 0
set_option maxRecDepth 100000 in
theorem noughts_any (n : Nat) (h : n ≤ 2 ^ 40) (w : World) : Calls Tryz.prog 49 #[.int .i64 (n : Int)] w fun e w' => e = .returned (.string (nilS n)) ∧ Below w.heap.size w w' := by
  have hn : n ≤ n := Nat.le_refl _
  have h' : n ≤ 1099511627776 := by omega
  have HC := Lib.hid ((St.nil w).pushA (blk n fun _ => 0) 5 rfl)
  go_enter Tryz.func49, Tryz.ntmps49
  go_wp2_with fail
  go_ret
  exact ⟨rfl, HC.out.below⟩
end Go.Proofs.YtgaecjhghpkcoaaGreat
end

section
namespace Go.Proofs.YtgaecjhghpkcoaaGreat
open Go.RowKit
attribute [local go_sem] B_xor B_or B_and
attribute [local go_sem] blk_set blk_size blk_get blk_getE upd_same oneCells_blk paste_blk cut_blk szOf
attribute [local go_sem high] paste_all cut_head
attribute [local go_sem] rowAt_alloc rowAt_drew rowAt_drewN isRow_alloc isRow_drew isRow_drewN freeRow_alloc freeRow_end freeRow_drew freeRow_drewN
attribute [local go_sem] setRow_alloc setRow_drew setRow_drewN setCell_drewN alloc_drewN rowAt_put isRow_setRow freeRow_put
attribute [local go_sem ↓] loadS_in storeS_in indexS_in copyS_in
attribute [local go_sem] loadS_row loadS_one storeS_row storeS_one indexS_blk copyS_rows run_equalIn_blk same_refl arrayAt_row
attribute [local go_sem] cell_row frozen_row st_setCell st_blk_ne stepAt stepUpon
attribute [local go_sem high] run_eql_blk run_neq_blk
attribute [local go_sem ↓] convBS_in
attribute [local go_sem] convBS_row convBS_nil allBytes_blk bytesOf_blk

theorem noughts4 (w : World) : Calls Tryz.prog 49 #[.int .i64 4] w fun e w' => e = .returned (.string (nilS 4)) ∧ Below w.heap.size w w' := noughts_any 4 (by omega) w
theorem numTo_zero (f : Nat → UInt8) : ∀ k, numTo f k = 0 ↔ ∀ i, i < k → f i = 0
  | 0 => by simp [numTo]
  | k + 1 => by
    have ih := numTo_zero f k
    have e : numTo f (k + 1) = numTo f k * 256 + (f k).toNat := rfl
    rw [e]
    constructor
    · intro h i hi
      have h1 : numTo f k = 0 := by omega
      have h2 : (f k).toNat = 0 := by omega
      by_cases hk : i = k
      · subst hk; exact UInt8.toNat_inj.1 h2
      · exact ih.1 h1 i (by omega)
    · intro h
      have h1 := ih.2 fun i hi => h i (by omega)
      rw [h1, h k (by omega)]
      rfl
theorem ofText_part (s : ByteArray) (a b i : Nat) (hi : a + i < b) (hb : b ≤ s.size) : ofText (s.extract a b) i = ofText s (a + i) := by
  have hsz : s.data.size = s.size := rfl
  unfold ofText
  rw [ByteArray.data_extract, Array.getD_eq_getD_getElem?, Array.getD_eq_getD_getElem?, Array.getElem?_extract, if_pos (by omega)]
theorem first4 (s : ByteArray) (h : 4 ≤ s.size) : ((s.extract 0 4).toList == (nilS 4).toList) = decide (numAt s 0 4 = 0) := by
  rw [Bool.eq_iff_iff, text_eq, decide_eq_true_eq]
  unfold numAt nilS
  rw [numTo_zero]
  have hsz : (s.extract 0 4).size = 4 := by rw [ByteArray.size_extract]; omega
  constructor
  · intro he i hi
    have h1 := congrArg (fun x => ofText x i) he
    rw [ofText_part s 0 4 i (by omega) h, ofText_strOf _ _ _ hi] at h1
    exact h1
  · intro he
    rw [← strOf_ofText (s.extract 0 4) 4 hsz]
    refine strOf_congr fun i hi => ?_
    rw [ofText_part s 0 4 i (by omega) h]
    exact he i hi
set_option maxRecDepth 100000 in
theorem refUnlock_short (m : Nat → UInt8) (s : ByteArray) (h : s.size < 32) (w : World) : Calls Tryz.prog 33 #[.agg (blk 16 m), .string s] w fun e w' => e = .returned (.tuple #[.slice none 0 0, .int .i64 3]) ∧ Below w.heap.size w w' := by
  have d1 : decide ((s.size : Int) < 32) = true := decide_eq_true (by omega)
  have HC := Lib.hid ((St.nil w).skip (.cells (blk 16 m) 22))
  go_enter Tryz.func33, Tryz.ntmps33
  go_wp2_with fail
  go_ret2
  exact ⟨rfl, HC.out.below⟩
/-- what the text of an entry is opened to, by the reference -/
def OpensRef (m : Nat → UInt8) (s R : ByteArray) (E : Nat) : Prop := ∀ w, Calls Tryz.prog 48 #[.agg (blk 16 m), .string (s.extract 4 16), .string ⟨#[114, 105, 110, 103]⟩, .string (s.extract 16 s.size)] w fun e w' => e = .returned (.tuple #[.string R, .int .i64 (E : Int)]) ∧ Below w.heap.size w w'
set_option maxRecDepth 100000 in
set_option maxHeartbeats 1000000 in
theorem refUnlock_term (m : Nat → UInt8) (s : ByteArray) (h : 32 ≤ s.size) (ht : numAt s 0 4 ≠ 0) (w : World) : Calls Tryz.prog 33 #[.agg (blk 16 m), .string s] w fun e w' => e = .returned (.tuple #[.slice none 0 0, .int .i64 4]) ∧ Below w.heap.size w w' := by
  have d1 : decide ((s.size : Int) < 32) = false := decide_eq_false (by omega)
  have d2 : (4 : Int) ≤ (s.size : Int) := by omega
  have d3 : 4 ≤ s.size := by omega
  have e1 := first4 s d3
  rw [decide_eq_false ht] at e1
  have HC := Lib.hid ((St.nil w).pushA (blk 16 m) 22 rfl)
  go_enter Tryz.func33, Tryz.ntmps33
  go_wp2_with fail
  refine St.qregion HC.out (by kernel_rfl) (by decide +kernel) ?_
  (first
     | (apply qw_skip rfl)
     | (apply qw_step rfl
        focus
          intro w0 hC
          (fail))
     | (apply qw_step rfl
        focus
          intro w0 hC
          have hC' := Lib.hid hC
          obtain ⟨r1, f1, i1, b1, l1⟩ := St.facts1 hC
          clear hC
          go_simp
          have hC := hC'.out
          (first
             | with_reducible rfl
             | (skip
                (first
                   | (go_at_call 49; refine (noughts4 _).mono ?_)
                   | (go_at_call 48; refine (HO.out _).mono ?_))
                rintro e w' ⟨rfl, hw⟩
                exact ⟨rfl, St.call (by assumption) hw⟩)))
   try simp only [Act.put, List.setIfInBounds_toArray, List.set])
  (first
     | (apply qw_skip rfl)
     | (apply qw_step rfl
        focus
          intro w0 hC
          (fail))
     | (apply qw_step rfl
        focus
          intro w0 hC
          have hC' := Lib.hid hC
          obtain ⟨r1, f1, i1, b1, l1⟩ := St.facts1 hC
          clear hC
          go_simp
          have hC := hC'.out
          (first
             | with_reducible rfl
             | (skip
                (first
                   | (go_at_call 49; refine (noughts4 _).mono ?_)
                   | (go_at_call 48; refine (HO.out _).mono ?_))
                rintro e w' ⟨rfl, hw⟩
                exact ⟨rfl, St.call (by assumption) hw⟩)))
   try simp only [Act.put, List.setIfInBounds_toArray, List.set])
  (first
     | (apply qw_skip rfl)
     | (apply qw_step rfl
        focus
          intro w0 hC
          (fail))
     | (apply qw_step rfl
        focus
          intro w0 hC
          have hC' := Lib.hid hC
          obtain ⟨r1, f1, i1, b1, l1⟩ := St.facts1 hC
          clear hC
          go_simp
          have hC := hC'.out
          (first
             | with_reducible rfl
             | (skip
                (first
                   | (go_at_call 49; refine (noughts4 _).mono ?_)
                   | (go_at_call 48; refine (HO.out _).mono ?_))
                rintro e w' ⟨rfl, hw⟩
                exact ⟨rfl, St.call (by assumption) hw⟩)))
   try simp only [Act.put, List.setIfInBounds_toArray, List.set])
  (first
     | (apply qw_skip rfl)
     | (apply qw_step rfl
        focus
          intro w0 hC
          (fail))
     | (apply qw_step rfl
        focus
          intro w0 hC
          have hC' := Lib.hid hC
          obtain ⟨r1, f1, i1, b1, l1⟩ := St.facts1 hC
          clear hC
          go_simp
          have hC := hC'.out
          (first
             | with_reducible rfl
             | (skip
                (first
                   | (go_at_call 49; refine (noughts4 _).mono ?_)
                   | (go_at_call 48; refine (HO.out _).mono ?_))
                rintro e w' ⟨rfl, hw⟩
                exact ⟨rfl, St.call (by assumption) hw⟩)))
   try simp only [Act.put, List.setIfInBounds_toArray, List.set])
  refine qw_nil ?_
  intro w1 hC
  have HC := Lib.hid hC
  clear hC
  go_wp2_with fail
  go_ret2
  exact ⟨rfl, HC.out.below⟩
set_option maxRecDepth 100000 in
set_option maxHeartbeats 1000000 in
theorem refUnlock_key (m : Nat → UInt8) (s R : ByteArray) (E : Nat) (h : 32 ≤ s.size) (ht : numAt s 0 4 = 0) (hE : E ≠ 0) (hO : OpensRef m s R E) (w : World) : Calls Tryz.prog 33 #[.agg (blk 16 m), .string s] w fun e w' => e = .returned (.tuple #[.slice none 0 0, .int .i64 (E : Int)]) ∧ Below w.heap.size w w' := by
  have d1 : decide ((s.size : Int) < 32) = false := decide_eq_false (by omega)
  have d2 : (4 : Int) ≤ (s.size : Int) := by omega
  have d3 : 4 ≤ s.size := by omega
  have d4 : (16 : Int) ≤ (s.size : Int) := by omega
  have d5 : 16 ≤ s.size := by omega
  have e1 := first4 s d3
  rw [decide_eq_true ht] at e1
  have HO := Lib.hid hO
  have d6 : ((E : Int) != 0) = true := by rw [bne_iff_ne]; omega
  clear hO ht hE
  have HC := Lib.hid ((St.nil w).pushA (blk 16 m) 22 rfl)
  go_enter Tryz.func33, Tryz.ntmps33
  go_wp2_with fail
  refine St.qregion HC.out (by kernel_rfl) (by decide +kernel) ?_
  (first
     | (apply qw_skip rfl)
     | (apply qw_step rfl
        focus
          intro w0 hC
          (fail))
     | (apply qw_step rfl
        focus
          intro w0 hC
          have hC' := Lib.hid hC
          obtain ⟨r1, f1, i1, b1, l1⟩ := St.facts1 hC
          clear hC
          go_simp
          have hC := hC'.out
          (first
             | with_reducible rfl
             | (skip
                (first
                   | (go_at_call 49; refine (noughts4 _).mono ?_)
                   | (go_at_call 48; refine (HO.out _).mono ?_))
                rintro e w' ⟨rfl, hw⟩
                exact ⟨rfl, St.call (by assumption) hw⟩)))
   try simp only [Act.put, List.setIfInBounds_toArray, List.set])
  (first
     | (apply qw_skip rfl)
     | (apply qw_step rfl
        focus
          intro w0 hC
          (fail))
     | (apply qw_step rfl
        focus
          intro w0 hC
          have hC' := Lib.hid hC
          obtain ⟨r1, f1, i1, b1, l1⟩ := St.facts1 hC
          clear hC
          go_simp
          have hC := hC'.out
          (first
             | with_reducible rfl
             | (skip
                (first
                   | (go_at_call 49; refine (noughts4 _).mono ?_)
                   | (go_at_call 48; refine (HO.out _).mono ?_))
                rintro e w' ⟨rfl, hw⟩
                exact ⟨rfl, St.call (by assumption) hw⟩)))
   try simp only [Act.put, List.setIfInBounds_toArray, List.set])
  (first
     | (apply qw_skip rfl)
     | (apply qw_step rfl
        focus
          intro w0 hC
          (fail))
     | (apply qw_step rfl
        focus
          intro w0 hC
          have hC' := Lib.hid hC
          obtain ⟨r1, f1, i1, b1, l1⟩ := St.facts1 hC
          clear hC
          go_simp
          have hC := hC'.out
          (first
             | with_reducible rfl
             | (skip
                (first
                   | (go_at_call 49; refine (noughts4 _).mono ?_)
                   | (go_at_call 48; refine (HO.out _).mono ?_))
                rintro e w' ⟨rfl, hw⟩
                exact ⟨rfl, St.call (by assumption) hw⟩)))
   try simp only [Act.put, List.setIfInBounds_toArray, List.set])
  (first
     | (apply qw_skip rfl)
     | (apply qw_step rfl
        focus
          intro w0 hC
          (fail))
     | (apply qw_step rfl
        focus
          intro w0 hC
          have hC' := Lib.hid hC
          obtain ⟨r1, f1, i1, b1, l1⟩ := St.facts1 hC
          clear hC
          go_simp
          have hC := hC'.out
          (first
             | with_reducible rfl
             | (skip
                (first
                   | (go_at_call 49; refine (noughts4 _).mono ?_)
                   | (go_at_call 48; refine (HO.out _).mono ?_))
                rintro e w' ⟨rfl, hw⟩
                exact ⟨rfl, St.call (by assumption) hw⟩)))
   try simp only [Act.put, List.setIfInBounds_toArray, List.set])
  refine qw_nil ?_
  intro w1 hC
  have HC := Lib.hid hC
  clear hC
  go_wp2_with fail
  refine St.qregion HC.out (by kernel_rfl) (by decide +kernel) ?_
  (first
     | (apply qw_skip rfl)
     | (apply qw_step rfl
        focus
          intro w0 hC
          (fail))
     | (apply qw_step rfl
        focus
          intro w0 hC
          have hC' := Lib.hid hC
          obtain ⟨r1, f1, i1, b1, l1⟩ := St.facts1 hC
          clear hC
          go_simp
          have hC := hC'.out
          (first
             | with_reducible rfl
             | (skip
                (first
                   | (go_at_call 49; refine (noughts4 _).mono ?_)
                   | (go_at_call 48; refine (HO.out _).mono ?_))
                rintro e w' ⟨rfl, hw⟩
                exact ⟨rfl, St.call (by assumption) hw⟩)))
   try simp only [Act.put, List.setIfInBounds_toArray, List.set])
  (first
     | (apply qw_skip rfl)
     | (apply qw_step rfl
        focus
          intro w0 hC
          (fail))
     | (apply qw_step rfl
        focus
          intro w0 hC
          have hC' := Lib.hid hC
          obtain ⟨r1, f1, i1, b1, l1⟩ := St.facts1 hC
          clear hC
          go_simp
          have hC := hC'.out
          (first
             | with_reducible rfl
             | (skip
                (first
                   | (go_at_call 49; refine (noughts4 _).mono ?_)
                   | (go_at_call 48; refine (HO.out _).mono ?_))
                rintro e w' ⟨rfl, hw⟩
                exact ⟨rfl, St.call (by assumption) hw⟩)))
   try simp only [Act.put, List.setIfInBounds_toArray, List.set])
  (first
     | (apply qw_skip rfl)
     | (apply qw_step rfl
        focus
          intro w0 hC
          (fail))
     | (apply qw_step rfl
        focus
          intro w0 hC
          have hC' := Lib.hid hC
          obtain ⟨r1, f1, i1, b1, l1⟩ := St.facts1 hC
          clear hC
          go_simp
          have hC := hC'.out
          (first
             | with_reducible rfl
             | (skip
                (first
                   | (go_at_call 49; refine (noughts4 _).mono ?_)
                   | (go_at_call 48; refine (HO.out _).mono ?_))
                rintro e w' ⟨rfl, hw⟩
                exact ⟨rfl, St.call (by assumption) hw⟩)))
   try simp only [Act.put, List.setIfInBounds_toArray, List.set])
  (first
     | (apply qw_skip rfl)
     | (apply qw_step rfl
        focus
          intro w0 hC
          (fail))
     | (apply qw_step rfl
        focus
          intro w0 hC
          have hC' := Lib.hid hC
          obtain ⟨r1, f1, i1, b1, l1⟩ := St.facts1 hC
          clear hC
          go_simp
          have hC := hC'.out
          (first
             | with_reducible rfl
             | (skip
                (first
                   | (go_at_call 49; refine (noughts4 _).mono ?_)
                   | (go_at_call 48; refine (HO.out _).mono ?_))
                rintro e w' ⟨rfl, hw⟩
                exact ⟨rfl, St.call (by assumption) hw⟩)))
   try simp only [Act.put, List.setIfInBounds_toArray, List.set])
  (first
     | (apply qw_skip rfl)
     | (apply qw_step rfl
        focus
          intro w0 hC
          (fail))
     | (apply qw_step rfl
        focus
          intro w0 hC
          have hC' := Lib.hid hC
          obtain ⟨r1, f1, i1, b1, l1⟩ := St.facts1 hC
          clear hC
          go_simp
          have hC := hC'.out
          (first
             | with_reducible rfl
             | (skip
                (first
                   | (go_at_call 49; refine (noughts4 _).mono ?_)
                   | (go_at_call 48; refine (HO.out _).mono ?_))
                rintro e w' ⟨rfl, hw⟩
                exact ⟨rfl, St.call (by assumption) hw⟩)))
   try simp only [Act.put, List.setIfInBounds_toArray, List.set])
  (first
     | (apply qw_skip rfl)
     | (apply qw_step rfl
        focus
          intro w0 hC
          (fail))
     | (apply qw_step rfl
        focus
          intro w0 hC
          have hC' := Lib.hid hC
          obtain ⟨r1, f1, i1, b1, l1⟩ := St.facts1 hC
          clear hC
          go_simp
          have hC := hC'.out
          (first
             | with_reducible rfl
             | (skip
                (first
                   | (go_at_call 49; refine (noughts4 _).mono ?_)
                   | (go_at_call 48; refine (HO.out _).mono ?_))
                rintro e w' ⟨rfl, hw⟩
                exact ⟨rfl, St.call (by assumption) hw⟩)))
   try simp only [Act.put, List.setIfInBounds_toArray, List.set])
  (first
     | (apply qw_skip rfl)
     | (apply qw_step rfl
        focus
          intro w0 hC
          (fail))
     | (apply qw_step rfl
        focus
          intro w0 hC
          have hC' := Lib.hid hC
          obtain ⟨r1, f1, i1, b1, l1⟩ := St.facts1 hC
          clear hC
          go_simp
          have hC := hC'.out
          (first
             | with_reducible rfl
             | (skip
                (first
                   | (go_at_call 49; refine (noughts4 _).mono ?_)
                   | (go_at_call 48; refine (HO.out _).mono ?_))
                rintro e w' ⟨rfl, hw⟩
                exact ⟨rfl, St.call (by assumption) hw⟩)))
   try simp only [Act.put, List.setIfInBounds_toArray, List.set])
  (first
     | (apply qw_skip rfl)
     | (apply qw_step rfl
        focus
          intro w0 hC
          (fail))
     | (apply qw_step rfl
        focus
          intro w0 hC
          have hC' := Lib.hid hC
          obtain ⟨r1, f1, i1, b1, l1⟩ := St.facts1 hC
          clear hC
          go_simp
          have hC := hC'.out
          (first
             | with_reducible rfl
             | (skip
                (first
                   | (go_at_call 49; refine (noughts4 _).mono ?_)
                   | (go_at_call 48; refine (HO.out _).mono ?_))
                rintro e w' ⟨rfl, hw⟩
                exact ⟨rfl, St.call (by assumption) hw⟩)))
   try simp only [Act.put, List.setIfInBounds_toArray, List.set])
  (first
     | (apply qw_skip rfl)
     | (apply qw_step rfl
        focus
          intro w0 hC
          (fail))
     | (apply qw_step rfl
        focus
          intro w0 hC
          have hC' := Lib.hid hC
          obtain ⟨r1, f1, i1, b1, l1⟩ := St.facts1 hC
          clear hC
          go_simp
          have hC := hC'.out
          (first
             | with_reducible rfl
             | (skip
                (first
                   | (go_at_call 49; refine (noughts4 _).mono ?_)
                   | (go_at_call 48; refine (HO.out _).mono ?_))
                rintro e w' ⟨rfl, hw⟩
                exact ⟨rfl, St.call (by assumption) hw⟩)))
   try simp only [Act.put, List.setIfInBounds_toArray, List.set])
  (first
     | (apply qw_skip rfl)
     | (apply qw_step rfl
        focus
          intro w0 hC
          (fail))
     | (apply qw_step rfl
        focus
          intro w0 hC
          have hC' := Lib.hid hC
          obtain ⟨r1, f1, i1, b1, l1⟩ := St.facts1 hC
          clear hC
          go_simp
          have hC := hC'.out
          (first
             | with_reducible rfl
             | (skip
                (first
                   | (go_at_call 49; refine (noughts4 _).mono ?_)
                   | (go_at_call 48; refine (HO.out _).mono ?_))
                rintro e w' ⟨rfl, hw⟩
                exact ⟨rfl, St.call (by assumption) hw⟩)))
   try simp only [Act.put, List.setIfInBounds_toArray, List.set])
  (first
     | (apply qw_skip rfl)
     | (apply qw_step rfl
        focus
          intro w0 hC
          (fail))
     | (apply qw_step rfl
        focus
          intro w0 hC
          have hC' := Lib.hid hC
          obtain ⟨r1, f1, i1, b1, l1⟩ := St.facts1 hC
          clear hC
          go_simp
          have hC := hC'.out
          (first
             | with_reducible rfl
             | (skip
                (first
                   | (go_at_call 49; refine (noughts4 _).mono ?_)
                   | (go_at_call 48; refine (HO.out _).mono ?_))
                rintro e w' ⟨rfl, hw⟩
                exact ⟨rfl, St.call (by assumption) hw⟩)))
   try simp only [Act.put, List.setIfInBounds_toArray, List.set])
  refine qw_nil ?_
  intro w2 hC
  have HC := Lib.hid hC
  clear hC
  go_wp2_with fail
  go_ret2
  exact ⟨rfl, HC.out.below⟩
set_option maxRecDepth 100000 in
set_option maxHeartbeats 1000000 in
theorem refUnlock_form (m : Nat → UInt8) (s R : ByteArray) (d : Nat) (h : 32 ≤ s.size) (ht : numAt s 0 4 = 0) (hO : OpensRef m s R 0) (hd : 1 ≤ d) (hP : ∀ w, Calls Tryz.prog 63 #[.string R] w fun e w' => e = .returned (.tuple #[.slice none 0 0, .int .i64 (d : Int)]) ∧ Below w.heap.size w w') (w : World) : Calls Tryz.prog 33 #[.agg (blk 16 m), .string s] w fun e w' => e = .returned (.tuple #[.slice none 0 0, .int .i64 4]) ∧ Below w.heap.size w w' := by
  have d1 : decide ((s.size : Int) < 32) = false := decide_eq_false (by omega)
  have d2 : (4 : Int) ≤ (s.size : Int) := by omega
  have d3 : 4 ≤ s.size := by omega
  have d4 : (16 : Int) ≤ (s.size : Int) := by omega
  have d5 : 16 ≤ s.size := by omega
  have e1 := first4 s d3
  rw [decide_eq_true ht] at e1
  have HO := Lib.hid hO
  have d6 : ((d : Int) != 0) = true := by rw [bne_iff_ne]; omega
  have HP := Lib.hid hP
  clear hO ht hd hP
  have HC := Lib.hid ((St.nil w).pushA (blk 16 m) 22 rfl)
  go_enter Tryz.func33, Tryz.ntmps33
  go_wp2_with fail
  refine St.qregion HC.out (by kernel_rfl) (by decide +kernel) ?_
  (first
     | (apply qw_skip rfl)
     | (apply qw_step rfl
        focus
          intro w0 hC
          (fail))
     | (apply qw_step rfl
        focus
          intro w0 hC
          have hC' := Lib.hid hC
          obtain ⟨r1, f1, i1, b1, l1⟩ := St.facts1 hC
          clear hC
          go_simp
          have hC := hC'.out
          (first
             | with_reducible rfl
             | (skip
                (first
                   | (go_at_call 49; refine (noughts4 _).mono ?_)
                   | (go_at_call 48; refine (HO.out _).mono ?_))
                rintro e w' ⟨rfl, hw⟩
                exact ⟨rfl, St.call (by assumption) hw⟩)))
   try simp only [Act.put, List.setIfInBounds_toArray, List.set])
  (first
     | (apply qw_skip rfl)
     | (apply qw_step rfl
        focus
          intro w0 hC
          (fail))
     | (apply qw_step rfl
        focus
          intro w0 hC
          have hC' := Lib.hid hC
          obtain ⟨r1, f1, i1, b1, l1⟩ := St.facts1 hC
          clear hC
          go_simp
          have hC := hC'.out
          (first
             | with_reducible rfl
             | (skip
                (first
                   | (go_at_call 49; refine (noughts4 _).mono ?_)
                   | (go_at_call 48; refine (HO.out _).mono ?_))
                rintro e w' ⟨rfl, hw⟩
                exact ⟨rfl, St.call (by assumption) hw⟩)))
   try simp only [Act.put, List.setIfInBounds_toArray, List.set])
  (first
     | (apply qw_skip rfl)
     | (apply qw_step rfl
        focus
          intro w0 hC
          (fail))
     | (apply qw_step rfl
        focus
          intro w0 hC
          have hC' := Lib.hid hC
          obtain ⟨r1, f1, i1, b1, l1⟩ := St.facts1 hC
          clear hC
          go_simp
          have hC := hC'.out
          (first
             | with_reducible rfl
             | (skip
                (first
                   | (go_at_call 49; refine (noughts4 _).mono ?_)
                   | (go_at_call 48; refine (HO.out _).mono ?_))
                rintro e w' ⟨rfl, hw⟩
                exact ⟨rfl, St.call (by assumption) hw⟩)))
   try simp only [Act.put, List.setIfInBounds_toArray, List.set])
  (first
     | (apply qw_skip rfl)
     | (apply qw_step rfl
        focus
          intro w0 hC
          (fail))
     | (apply qw_step rfl
        focus
          intro w0 hC
          have hC' := Lib.hid hC
          obtain ⟨r1, f1, i1, b1, l1⟩ := St.facts1 hC
          clear hC
          go_simp
          have hC := hC'.out
          (first
             | with_reducible rfl
             | (skip
                (first
                   | (go_at_call 49; refine (noughts4 _).mono ?_)
                   | (go_at_call 48; refine (HO.out _).mono ?_))
                rintro e w' ⟨rfl, hw⟩
                exact ⟨rfl, St.call (by assumption) hw⟩)))
   try simp only [Act.put, List.setIfInBounds_toArray, List.set])
  refine qw_nil ?_
  intro w1 hC
  have HC := Lib.hid hC
  clear hC
  go_wp2_with fail
  refine St.qregion HC.out (by kernel_rfl) (by decide +kernel) ?_
  (first
     | (apply qw_skip rfl)
     | (apply qw_step rfl
        focus
          intro w0 hC
          (fail))
     | (apply qw_step rfl
        focus
          intro w0 hC
          have hC' := Lib.hid hC
          obtain ⟨r1, f1, i1, b1, l1⟩ := St.facts1 hC
          clear hC
          go_simp
          have hC := hC'.out
          (first
             | with_reducible rfl
             | (skip
                (first
                   | (go_at_call 49; refine (noughts4 _).mono ?_)
                   | (go_at_call 48; refine (HO.out _).mono ?_))
                rintro e w' ⟨rfl, hw⟩
                exact ⟨rfl, St.call (by assumption) hw⟩)))
   try simp only [Act.put, List.setIfInBounds_toArray, List.set])
  (first
     | (apply qw_skip rfl)
     | (apply qw_step rfl
        focus
          intro w0 hC
          (fail))
     | (apply qw_step rfl
        focus
          intro w0 hC
          have hC' := Lib.hid hC
          obtain ⟨r1, f1, i1, b1, l1⟩ := St.facts1 hC
          clear hC
          go_simp
          have hC := hC'.out
          (first
             | with_reducible rfl
             | (skip
                (first
                   | (go_at_call 49; refine (noughts4 _).mono ?_)
                   | (go_at_call 48; refine (HO.out _).mono ?_))
                rintro e w' ⟨rfl, hw⟩
                exact ⟨rfl, St.call (by assumption) hw⟩)))
   try simp only [Act.put, List.setIfInBounds_toArray, List.set])
  (first
     | (apply qw_skip rfl)
     | (apply qw_step rfl
        focus
          intro w0 hC
          (fail))
     | (apply qw_step rfl
        focus
          intro w0 hC
          have hC' := Lib.hid hC
          obtain ⟨r1, f1, i1, b1, l1⟩ := St.facts1 hC
          clear hC
          go_simp
          have hC := hC'.out
          (first
             | with_reducible rfl
             | (skip
                (first
                   | (go_at_call 49; refine (noughts4 _).mono ?_)
                   | (go_at_call 48; refine (HO.out _).mono ?_))
                rintro e w' ⟨rfl, hw⟩
                exact ⟨rfl, St.call (by assumption) hw⟩)))
   try simp only [Act.put, List.setIfInBounds_toArray, List.set])
  (first
     | (apply qw_skip rfl)
     | (apply qw_step rfl
        focus
          intro w0 hC
          (fail))
     | (apply qw_step rfl
        focus
          intro w0 hC
          have hC' := Lib.hid hC
          obtain ⟨r1, f1, i1, b1, l1⟩ := St.facts1 hC
          clear hC
          go_simp
          have hC := hC'.out
          (first
             | with_reducible rfl
             | (skip
                (first
                   | (go_at_call 49; refine (noughts4 _).mono ?_)
                   | (go_at_call 48; refine (HO.out _).mono ?_))
                rintro e w' ⟨rfl, hw⟩
                exact ⟨rfl, St.call (by assumption) hw⟩)))
   try simp only [Act.put, List.setIfInBounds_toArray, List.set])
  (first
     | (apply qw_skip rfl)
     | (apply qw_step rfl
        focus
          intro w0 hC
          (fail))
     | (apply qw_step rfl
        focus
          intro w0 hC
          have hC' := Lib.hid hC
          obtain ⟨r1, f1, i1, b1, l1⟩ := St.facts1 hC
          clear hC
          go_simp
          have hC := hC'.out
          (first
             | with_reducible rfl
             | (skip
                (first
                   | (go_at_call 49; refine (noughts4 _).mono ?_)
                   | (go_at_call 48; refine (HO.out _).mono ?_))
                rintro e w' ⟨rfl, hw⟩
                exact ⟨rfl, St.call (by assumption) hw⟩)))
   try simp only [Act.put, List.setIfInBounds_toArray, List.set])
  (first
     | (apply qw_skip rfl)
     | (apply qw_step rfl
        focus
          intro w0 hC
          (fail))
     | (apply qw_step rfl
        focus
          intro w0 hC
          have hC' := Lib.hid hC
          obtain ⟨r1, f1, i1, b1, l1⟩ := St.facts1 hC
          clear hC
          go_simp
          have hC := hC'.out
          (first
             | with_reducible rfl
             | (skip
                (first
                   | (go_at_call 49; refine (noughts4 _).mono ?_)
                   | (go_at_call 48; refine (HO.out _).mono ?_))
                rintro e w' ⟨rfl, hw⟩
                exact ⟨rfl, St.call (by assumption) hw⟩)))
   try simp only [Act.put, List.setIfInBounds_toArray, List.set])
  (first
     | (apply qw_skip rfl)
     | (apply qw_step rfl
        focus
          intro w0 hC
          (fail))
     | (apply qw_step rfl
        focus
          intro w0 hC
          have hC' := Lib.hid hC
          obtain ⟨r1, f1, i1, b1, l1⟩ := St.facts1 hC
          clear hC
          go_simp
          have hC := hC'.out
          (first
             | with_reducible rfl
             | (skip
                (first
                   | (go_at_call 49; refine (noughts4 _).mono ?_)
                   | (go_at_call 48; refine (HO.out _).mono ?_))
                rintro e w' ⟨rfl, hw⟩
                exact ⟨rfl, St.call (by assumption) hw⟩)))
   try simp only [Act.put, List.setIfInBounds_toArray, List.set])
  (first
     | (apply qw_skip rfl)
     | (apply qw_step rfl
        focus
          intro w0 hC
          (fail))
     | (apply qw_step rfl
        focus
          intro w0 hC
          have hC' := Lib.hid hC
          obtain ⟨r1, f1, i1, b1, l1⟩ := St.facts1 hC
          clear hC
          go_simp
          have hC := hC'.out
          (first
             | with_reducible rfl
             | (skip
                (first
                   | (go_at_call 49; refine (noughts4 _).mono ?_)
                   | (go_at_call 48; refine (HO.out _).mono ?_))
                rintro e w' ⟨rfl, hw⟩
                exact ⟨rfl, St.call (by assumption) hw⟩)))
   try simp only [Act.put, List.setIfInBounds_toArray, List.set])
  (first
     | (apply qw_skip rfl)
     | (apply qw_step rfl
        focus
          intro w0 hC
          (fail))
     | (apply qw_step rfl
        focus
          intro w0 hC
          have hC' := Lib.hid hC
          obtain ⟨r1, f1, i1, b1, l1⟩ := St.facts1 hC
          clear hC
          go_simp
          have hC := hC'.out
          (first
             | with_reducible rfl
             | (skip
                (first
                   | (go_at_call 49; refine (noughts4 _).mono ?_)
                   | (go_at_call 48; refine (HO.out _).mono ?_))
                rintro e w' ⟨rfl, hw⟩
                exact ⟨rfl, St.call (by assumption) hw⟩)))
   try simp only [Act.put, List.setIfInBounds_toArray, List.set])
  (first
     | (apply qw_skip rfl)
     | (apply qw_step rfl
        focus
          intro w0 hC
          (fail))
     | (apply qw_step rfl
        focus
          intro w0 hC
          have hC' := Lib.hid hC
          obtain ⟨r1, f1, i1, b1, l1⟩ := St.facts1 hC
          clear hC
          go_simp
          have hC := hC'.out
          (first
             | with_reducible rfl
             | (skip
                (first
                   | (go_at_call 49; refine (noughts4 _).mono ?_)
                   | (go_at_call 48; refine (HO.out _).mono ?_))
                rintro e w' ⟨rfl, hw⟩
                exact ⟨rfl, St.call (by assumption) hw⟩)))
   try simp only [Act.put, List.setIfInBounds_toArray, List.set])
  (first
     | (apply qw_skip rfl)
     | (apply qw_step rfl
        focus
          intro w0 hC
          (fail))
     | (apply qw_step rfl
        focus
          intro w0 hC
          have hC' := Lib.hid hC
          obtain ⟨r1, f1, i1, b1, l1⟩ := St.facts1 hC
          clear hC
          go_simp
          have hC := hC'.out
          (first
             | with_reducible rfl
             | (skip
                (first
                   | (go_at_call 49; refine (noughts4 _).mono ?_)
                   | (go_at_call 48; refine (HO.out _).mono ?_))
                rintro e w' ⟨rfl, hw⟩
                exact ⟨rfl, St.call (by assumption) hw⟩)))
   try simp only [Act.put, List.setIfInBounds_toArray, List.set])
  refine qw_nil ?_
  intro w2 hC
  have HC := Lib.hid hC
  clear hC
  go_wp2_with fail
  refine (HP.out _).mono ?_; rintro e w3 ⟨rfl, hw⟩
  have HC := Lib.hid (HC.out.call hw)
  clear hw
  go_wp2_with fail
  go_ret2
  exact ⟨rfl, HC.out.below⟩
set_option maxRecDepth 100000 in
set_option maxHeartbeats 1000000 in
theorem refUnlock_ok (m : Nat → UInt8) (s R : ByteArray) (N : Nat) (f : Nat → UInt8) (h : 32 ≤ s.size) (ht : numAt s 0 4 = 0) (hO : OpensRef m s R 0) (w0 w : World) (L : List (Nat × Array Value)) (hP : ∀ w L, St w0 L w → Calls Tryz.prog 63 #[.string R] w (Keyed w0 L N f)) (hC : St w0 L w) : Calls Tryz.prog 33 #[.agg (blk 16 m), .string s] w (Keyed w0 L N f) := by
  have d1 : decide ((s.size : Int) < 32) = false := decide_eq_false (by omega)
  have d2 : (4 : Int) ≤ (s.size : Int) := by omega
  have d3 : 4 ≤ s.size := by omega
  have d4 : (16 : Int) ≤ (s.size : Int) := by omega
  have d5 : 16 ≤ s.size := by omega
  have e1 := first4 s d3
  rw [decide_eq_true ht] at e1
  have HO := Lib.hid hO
  have HP := Lib.hid hP
  clear hO ht hP
  have HC := Lib.hid (hC.push (blk 16 m) 22)
  clear hC
  go_enter Tryz.func33, Tryz.ntmps33
  go_wp2_with fail
  refine St.qregion HC.out (by kernel_rfl) (by decide +kernel) ?_
  (first
     | (apply qw_skip rfl)
     | (apply qw_step rfl
        focus
          intro w0 hC
          (fail))
     | (apply qw_step rfl
        focus
          intro w0 hC
          have hC' := Lib.hid hC
          obtain ⟨r1, f1, i1, b1, l1⟩ := St.facts1 (hC.pick [0] (by decide) rfl)
          clear hC
          go_simp
          have hC := hC'.out
          (first
             | with_reducible rfl
             | (skip
                (first
                   | (go_at_call 49; refine (noughts4 _).mono ?_)
                   | (go_at_call 48; refine (HO.out _).mono ?_))
                rintro e w' ⟨rfl, hw⟩
                exact ⟨rfl, St.call (by assumption) hw⟩)))
   try simp only [Act.put, List.setIfInBounds_toArray, List.set])
  (first
     | (apply qw_skip rfl)
     | (apply qw_step rfl
        focus
          intro w0 hC
          (fail))
     | (apply qw_step rfl
        focus
          intro w0 hC
          have hC' := Lib.hid hC
          obtain ⟨r1, f1, i1, b1, l1⟩ := St.facts1 (hC.pick [0] (by decide) rfl)
          clear hC
          go_simp
          have hC := hC'.out
          (first
             | with_reducible rfl
             | (skip
                (first
                   | (go_at_call 49; refine (noughts4 _).mono ?_)
                   | (go_at_call 48; refine (HO.out _).mono ?_))
                rintro e w' ⟨rfl, hw⟩
                exact ⟨rfl, St.call (by assumption) hw⟩)))
   try simp only [Act.put, List.setIfInBounds_toArray, List.set])
  (first
     | (apply qw_skip rfl)
     | (apply qw_step rfl
        focus
          intro w0 hC
          (fail))
     | (apply qw_step rfl
        focus
          intro w0 hC
          have hC' := Lib.hid hC
          obtain ⟨r1, f1, i1, b1, l1⟩ := St.facts1 (hC.pick [0] (by decide) rfl)
          clear hC
          go_simp
          have hC := hC'.out
          (first
             | with_reducible rfl
             | (skip
                (first
                   | (go_at_call 49; refine (noughts4 _).mono ?_)
                   | (go_at_call 48; refine (HO.out _).mono ?_))
                rintro e w' ⟨rfl, hw⟩
                exact ⟨rfl, St.call (by assumption) hw⟩)))
   try simp only [Act.put, List.setIfInBounds_toArray, List.set])
  (first
     | (apply qw_skip rfl)
     | (apply qw_step rfl
        focus
          intro w0 hC
          (fail))
     | (apply qw_step rfl
        focus
          intro w0 hC
          have hC' := Lib.hid hC
          obtain ⟨r1, f1, i1, b1, l1⟩ := St.facts1 (hC.pick [0] (by decide) rfl)
          clear hC
          go_simp
          have hC := hC'.out
          (first
             | with_reducible rfl
             | (skip
                (first
                   | (go_at_call 49; refine (noughts4 _).mono ?_)
                   | (go_at_call 48; refine (HO.out _).mono ?_))
                rintro e w' ⟨rfl, hw⟩
                exact ⟨rfl, St.call (by assumption) hw⟩)))
   try simp only [Act.put, List.setIfInBounds_toArray, List.set])
  refine qw_nil ?_
  intro w1 hC
  have HC := Lib.hid hC
  clear hC
  go_wp2_with fail
  refine St.qregion HC.out (by kernel_rfl) (by decide +kernel) ?_
  (first
     | (apply qw_skip rfl)
     | (apply qw_step rfl
        focus
          intro w0 hC
          (fail))
     | (apply qw_step rfl
        focus
          intro w0 hC
          have hC' := Lib.hid hC
          obtain ⟨r1, f1, i1, b1, l1⟩ := St.facts1 (hC.pick [0] (by decide) rfl)
          clear hC
          go_simp
          have hC := hC'.out
          (first
             | with_reducible rfl
             | (skip
                (first
                   | (go_at_call 49; refine (noughts4 _).mono ?_)
                   | (go_at_call 48; refine (HO.out _).mono ?_))
                rintro e w' ⟨rfl, hw⟩
                exact ⟨rfl, St.call (by assumption) hw⟩)))
   try simp only [Act.put, List.setIfInBounds_toArray, List.set])
  (first
     | (apply qw_skip rfl)
     | (apply qw_step rfl
        focus
          intro w0 hC
          (fail))
     | (apply qw_step rfl
        focus
          intro w0 hC
          have hC' := Lib.hid hC
          obtain ⟨r1, f1, i1, b1, l1⟩ := St.facts1 (hC.pick [0] (by decide) rfl)
          clear hC
          go_simp
          have hC := hC'.out
          (first
             | with_reducible rfl
             | (skip
                (first
                   | (go_at_call 49; refine (noughts4 _).mono ?_)
                   | (go_at_call 48; refine (HO.out _).mono ?_))
                rintro e w' ⟨rfl, hw⟩
                exact ⟨rfl, St.call (by assumption) hw⟩)))
   try simp only [Act.put, List.setIfInBounds_toArray, List.set])
  (first
     | (apply qw_skip rfl)
     | (apply qw_step rfl
        focus
          intro w0 hC
          (fail))
     | (apply qw_step rfl
        focus
          intro w0 hC
          have hC' := Lib.hid hC
          obtain ⟨r1, f1, i1, b1, l1⟩ := St.facts1 (hC.pick [0] (by decide) rfl)
          clear hC
          go_simp
          have hC := hC'.out
          (first
             | with_reducible rfl
             | (skip
                (first
                   | (go_at_call 49; refine (noughts4 _).mono ?_)
                   | (go_at_call 48; refine (HO.out _).mono ?_))
                rintro e w' ⟨rfl, hw⟩
                exact ⟨rfl, St.call (by assumption) hw⟩)))
   try simp only [Act.put, List.setIfInBounds_toArray, List.set])
  (first
     | (apply qw_skip rfl)
     | (apply qw_step rfl
        focus
          intro w0 hC
          (fail))
     | (apply qw_step rfl
        focus
          intro w0 hC
          have hC' := Lib.hid hC
          obtain ⟨r1, f1, i1, b1, l1⟩ := St.facts1 (hC.pick [0] (by decide) rfl)
          clear hC
          go_simp
          have hC := hC'.out
          (first
             | with_reducible rfl
             | (skip
                (first
                   | (go_at_call 49; refine (noughts4 _).mono ?_)
                   | (go_at_call 48; refine (HO.out _).mono ?_))
                rintro e w' ⟨rfl, hw⟩
                exact ⟨rfl, St.call (by assumption) hw⟩)))
   try simp only [Act.put, List.setIfInBounds_toArray, List.set])
  (first
     | (apply qw_skip rfl)
     | (apply qw_step rfl
        focus
          intro w0 hC
          (fail))
     | (apply qw_step rfl
        focus
          intro w0 hC
          have hC' := Lib.hid hC
          obtain ⟨r1, f1, i1, b1, l1⟩ := St.facts1 (hC.pick [0] (by decide) rfl)
          clear hC
          go_simp
          have hC := hC'.out
          (first
             | with_reducible rfl
             | (skip
                (first
                   | (go_at_call 49; refine (noughts4 _).mono ?_)
                   | (go_at_call 48; refine (HO.out _).mono ?_))
                rintro e w' ⟨rfl, hw⟩
                exact ⟨rfl, St.call (by assumption) hw⟩)))
   try simp only [Act.put, List.setIfInBounds_toArray, List.set])
  (first
     | (apply qw_skip rfl)
     | (apply qw_step rfl
        focus
          intro w0 hC
          (fail))
     | (apply qw_step rfl
        focus
          intro w0 hC
          have hC' := Lib.hid hC
          obtain ⟨r1, f1, i1, b1, l1⟩ := St.facts1 (hC.pick [0] (by decide) rfl)
          clear hC
          go_simp
          have hC := hC'.out
          (first
             | with_reducible rfl
             | (skip
                (first
                   | (go_at_call 49; refine (noughts4 _).mono ?_)
                   | (go_at_call 48; refine (HO.out _).mono ?_))
                rintro e w' ⟨rfl, hw⟩
                exact ⟨rfl, St.call (by assumption) hw⟩)))
   try simp only [Act.put, List.setIfInBounds_toArray, List.set])
  (first
     | (apply qw_skip rfl)
     | (apply qw_step rfl
        focus
          intro w0 hC
          (fail))
     | (apply qw_step rfl
        focus
          intro w0 hC
          have hC' := Lib.hid hC
          obtain ⟨r1, f1, i1, b1, l1⟩ := St.facts1 (hC.pick [0] (by decide) rfl)
          clear hC
          go_simp
          have hC := hC'.out
          (first
             | with_reducible rfl
             | (skip
                (first
                   | (go_at_call 49; refine (noughts4 _).mono ?_)
                   | (go_at_call 48; refine (HO.out _).mono ?_))
                rintro e w' ⟨rfl, hw⟩
                exact ⟨rfl, St.call (by assumption) hw⟩)))
   try simp only [Act.put, List.setIfInBounds_toArray, List.set])
  (first
     | (apply qw_skip rfl)
     | (apply qw_step rfl
        focus
          intro w0 hC
          (fail))
     | (apply qw_step rfl
        focus
          intro w0 hC
          have hC' := Lib.hid hC
          obtain ⟨r1, f1, i1, b1, l1⟩ := St.facts1 (hC.pick [0] (by decide) rfl)
          clear hC
          go_simp
          have hC := hC'.out
          (first
             | with_reducible rfl
             | (skip
                (first
                   | (go_at_call 49; refine (noughts4 _).mono ?_)
                   | (go_at_call 48; refine (HO.out _).mono ?_))
                rintro e w' ⟨rfl, hw⟩
                exact ⟨rfl, St.call (by assumption) hw⟩)))
   try simp only [Act.put, List.setIfInBounds_toArray, List.set])
  (first
     | (apply qw_skip rfl)
     | (apply qw_step rfl
        focus
          intro w0 hC
          (fail))
     | (apply qw_step rfl
        focus
          intro w0 hC
          have hC' := Lib.hid hC
          obtain ⟨r1, f1, i1, b1, l1⟩ := St.facts1 (hC.pick [0] (by decide) rfl)
          clear hC
          go_simp
          have hC := hC'.out
          (first
             | with_reducible rfl
             | (skip
                (first
                   | (go_at_call 49; refine (noughts4 _).mono ?_)
                   | (go_at_call 48; refine (HO.out _).mono ?_))
                rintro e w' ⟨rfl, hw⟩
                exact ⟨rfl, St.call (by assumption) hw⟩)))
   try simp only [Act.put, List.setIfInBounds_toArray, List.set])
  (first
     | (apply qw_skip rfl)
     | (apply qw_step rfl
        focus
          intro w0 hC
          (fail))
     | (apply qw_step rfl
        focus
          intro w0 hC
          have hC' := Lib.hid hC
          obtain ⟨r1, f1, i1, b1, l1⟩ := St.facts1 (hC.pick [0] (by decide) rfl)
          clear hC
          go_simp
          have hC := hC'.out
          (first
             | with_reducible rfl
             | (skip
                (first
                   | (go_at_call 49; refine (noughts4 _).mono ?_)
                   | (go_at_call 48; refine (HO.out _).mono ?_))
                rintro e w' ⟨rfl, hw⟩
                exact ⟨rfl, St.call (by assumption) hw⟩)))
   try simp only [Act.put, List.setIfInBounds_toArray, List.set])
  (first
     | (apply qw_skip rfl)
     | (apply qw_step rfl
        focus
          intro w0 hC
          (fail))
     | (apply qw_step rfl
        focus
          intro w0 hC
          have hC' := Lib.hid hC
          obtain ⟨r1, f1, i1, b1, l1⟩ := St.facts1 (hC.pick [0] (by decide) rfl)
          clear hC
          go_simp
          have hC := hC'.out
          (first
             | with_reducible rfl
             | (skip
                (first
                   | (go_at_call 49; refine (noughts4 _).mono ?_)
                   | (go_at_call 48; refine (HO.out _).mono ?_))
                rintro e w' ⟨rfl, hw⟩
                exact ⟨rfl, St.call (by assumption) hw⟩)))
   try simp only [Act.put, List.setIfInBounds_toArray, List.set])
  refine qw_nil ?_
  intro w2 hC
  have HC := Lib.hid hC
  clear hC
  go_wp2_with fail
  refine (HP.out _ _ HC.out).mono ?_; rintro e w3 ⟨g, c, F, rfl, h1, h2, hw⟩
  have HC := Lib.hid hw
  have H1 := Lib.hid h1
  have H2 := Lib.hid h2
  clear h1 h2 hw
  go_wp2_with fail
  go_ret2
  exact ⟨g, c, F, rfl, H1.out, H2.out, HC.out.swap.tail⟩
end Go.Proofs.YtgaecjhghpkcoaaGreat
end

section
namespace Go.Proofs.YtgaecjhghpkcoaaGreat
open Go.RowKit
attribute [local go_sem] B_xor B_or B_and
attribute [local go_sem] blk_set blk_size blk_get blk_getE upd_same oneCells_blk paste_blk cut_blk szOf
attribute [local go_sem high] paste_all cut_head
attribute [local go_sem] rowAt_alloc rowAt_drew rowAt_drewN isRow_alloc isRow_drew isRow_drewN freeRow_alloc freeRow_end freeRow_drew freeRow_drewN
attribute [local go_sem] setRow_alloc setRow_drew setRow_drewN setCell_drewN alloc_drewN rowAt_put isRow_setRow freeRow_put
attribute [local go_sem ↓] loadS_in storeS_in indexS_in copyS_in
attribute [local go_sem] loadS_row loadS_one storeS_row storeS_one indexS_blk copyS_rows run_equalIn_blk same_refl arrayAt_row
attribute [local go_sem] cell_row frozen_row st_setCell st_blk_ne stepAt stepUpon
attribute [local go_sem high] run_eql_blk run_neq_blk
attribute [local go_sem ↓] convBS_in
attribute [local go_sem] convBS_row convBS_nil allBytes_blk bytesOf_blk
attribute [local go_sem] rg_size rg_get0 rg_getE0 rg_ne rg_set0 rg_one rg_cut rg_key rg_put rg_paste part_rg0 part_rg1
attribute [local go_sem] size_cn agg_cn cn_size cn_get0 cn_get1 cn_getE0 cn_getE1 cn_set0 cn_set1 cn_ne cn_one cn_cut cn_paste
attribute [local go_sem] br_size br_get0 br_get1 br_get2 br_getE0 br_getE1 br_getE2 br_ne br_ring br_count br_whole br_put_ring br_put_count br_paste br_one size_br agg_br

def turnE (b : Br) (n : Nat) : Nat := if b.n = 0 then 12 else if n = 0 then 2 else 0
def Br.turned (b : Br) (n : Nat) (f : Nat → UInt8) : Br := if turnE b n = 0 then { b with n := n, f := f } else b
set_option maxRecDepth 100000 in
set_option maxHeartbeats 2000000 in
theorem turn_st (b : Br) (hm : b.md = true) (n : Nat) (f : Nat → UInt8) (g : Nat) (w0 w : World) (L : List (Nat × Array Value)) (hC : St w0 ((g, br b) :: L) w) : Calls Tryz.prog 18 #[.pointer (some ⟨g, 0, none⟩), .agg (rg n f)] w fun r w' => r = .returned (.int .i64 ((turnE b n : Nat) : Int)) ∧ St w0 ((g, br (b.turned n f)) :: L) w' ∧ Mk w w' := by
  unfold Br.turned
  by_cases hn : b.n = 0
  · have hE : turnE b n = 12 := by unfold turnE; rw [if_pos hn]
    rw [hE]
    have HC := Lib.hid (hC.push (rg n f) 44)
    have HM := Lib.hid hm
    have HN := Lib.hid hn
    clear hC hm hn hE
    go_enter Tryz.func18, Tryz.ntmps18
    go_wp2_with fail
    refine (state_made b HM.out g w0 _ _ HC.out.tail 12 (.inl ⟨HN.out, rfl⟩)).mono ?_; rintro r w1 ⟨rfl, hw⟩
    have HC := Lib.hid (HC.out.call hw)
    have HW1 := Lib.hid hw
    clear hw
    go_wp2_with fail
    go_ret
    refine ⟨rfl, HC.out.tail, ?_⟩
    (repeat
       first
         | (with_reducible exact Mk.refl _)
         | (with_reducible refine Mk.setRow ?_ _ _)
         | (with_reducible refine Mk.alloc ?_ _)
         | (with_reducible refine Mk.drew ?_)
         | (with_reducible refine Mk.drewN ?_ _)
         | (with_reducible refine Mk.call HW1.out ?_)
         | (with_reducible refine Mk.call HW2.out ?_)
         | (with_reducible refine Mk.call HW3.out ?_)
         | (with_reducible refine Mk.call HW4.out ?_)
         | (with_reducible refine Mk.call HW5.out ?_)
         | (with_reducible refine Mk.call HW6.out ?_))
  · by_cases h0 : n = 0
    · have hE : turnE b n = 2 := by unfold turnE; rw [if_neg hn, if_pos h0]
      rw [hE]
      have d1 : ((n : Int) == 0) = true := by rw [beq_iff_eq]; omega
      have HC := Lib.hid (hC.push (rg n f) 44)
      have HM := Lib.hid hm
      have HN := Lib.hid hn
      clear hC hm hn hE h0
      go_enter Tryz.func18, Tryz.ntmps18
      go_wp2_with fail
      refine (state_made b HM.out g w0 _ _ HC.out.tail 0 (.inr ⟨HN.out, rfl⟩)).mono ?_; rintro r w1 ⟨rfl, hw⟩
      have HC := Lib.hid (HC.out.call hw)
      have HW1 := Lib.hid hw
      clear hw
      (obtain ⟨⟨r1, f1, i1, b1, l1⟩, ⟨r2, f2, i2, b2, l2⟩, m12, m21⟩ := St.facts2 (HC.out.pick [0, 1] (by decide) rfl))
      go_wp2_with fail
      (clear r1 f1 i1 b1 l1 r2 f2 i2 b2 l2 m12 m21)
      refine (term_any n f _).mono ?_; rintro e w2 ⟨rfl, hw⟩
      have HC := Lib.hid (HC.out.call hw)
      have HW2 := Lib.hid hw
      clear hw
      (obtain ⟨⟨r1, f1, i1, b1, l1⟩, ⟨r2, f2, i2, b2, l2⟩, m12, m21⟩ := St.facts2 (HC.out.pick [0, 1] (by decide) rfl))
      go_wp2_with fail
      go_ret
      refine ⟨rfl, HC.out.tail, ?_⟩
      (repeat
         first
           | (with_reducible exact Mk.refl _)
           | (with_reducible refine Mk.setRow ?_ _ _)
           | (with_reducible refine Mk.alloc ?_ _)
           | (with_reducible refine Mk.drew ?_)
           | (with_reducible refine Mk.drewN ?_ _)
           | (with_reducible refine Mk.call HW1.out ?_)
           | (with_reducible refine Mk.call HW2.out ?_)
           | (with_reducible refine Mk.call HW3.out ?_)
           | (with_reducible refine Mk.call HW4.out ?_)
           | (with_reducible refine Mk.call HW5.out ?_)
           | (with_reducible refine Mk.call HW6.out ?_))
    · have hE : turnE b n = 0 := by unfold turnE; rw [if_neg hn, if_neg h0]
      rw [hE]
      have d1 : ((n : Int) == 0) = false := by rw [beq_eq_false_iff_ne]; omega
      have HC := Lib.hid (hC.push (rg n f) 44)
      have HM := Lib.hid hm
      have HN := Lib.hid hn
      clear hC hm hn hE h0
      go_enter Tryz.func18, Tryz.ntmps18
      go_wp2_with fail
      refine (state_made b HM.out g w0 _ _ HC.out.tail 0 (.inr ⟨HN.out, rfl⟩)).mono ?_; rintro r w1 ⟨rfl, hw⟩
      have HC := Lib.hid (HC.out.call hw)
      have HW1 := Lib.hid hw
      clear hw
      (obtain ⟨⟨r1, f1, i1, b1, l1⟩, ⟨r2, f2, i2, b2, l2⟩, m12, m21⟩ := St.facts2 (HC.out.pick [0, 1] (by decide) rfl))
      go_wp2_with fail
      (clear r1 f1 i1 b1 l1 r2 f2 i2 b2 l2 m12 m21)
      refine (term_any n f _).mono ?_; rintro e w2 ⟨rfl, hw⟩
      have HC := Lib.hid (HC.out.call hw)
      have HW2 := Lib.hid hw
      clear hw
      (obtain ⟨⟨r1, f1, i1, b1, l1⟩, ⟨r2, f2, i2, b2, l2⟩, m12, m21⟩ := St.facts2 (HC.out.pick [0, 1] (by decide) rfl))
      go_wp2_with fail
      go_ret
      refine ⟨rfl, HC.out.tail.set_head (br { b with n := n, f := f }) (by rw [br_size, br_size]), ?_⟩
      (repeat
         first
           | (with_reducible exact Mk.refl _)
           | (with_reducible refine Mk.setRow ?_ _ _)
           | (with_reducible refine Mk.alloc ?_ _)
           | (with_reducible refine Mk.drew ?_)
           | (with_reducible refine Mk.drewN ?_ _)
           | (with_reducible refine Mk.call HW1.out ?_)
           | (with_reducible refine Mk.call HW2.out ?_)
           | (with_reducible refine Mk.call HW3.out ?_)
           | (with_reducible refine Mk.call HW4.out ?_)
           | (with_reducible refine Mk.call HW5.out ?_)
           | (with_reducible refine Mk.call HW6.out ?_))
theorem turn_sk (b : Br) (hm : b.md = true) (n : Nat) (f : Nat → UInt8) (g : Nat) (v w0 w : World) (L : List (Nat × Array Value)) (hC : Sk v w0 ((g, br b) :: L) w) : Calls Tryz.prog 18 #[.pointer (some ⟨g, 0, none⟩), .agg (rg n f)] w fun r w' => r = .returned (.int .i64 ((turnE b n : Nat) : Int)) ∧ Sk v w0 ((g, br (b.turned n f)) :: L) w' :=
  (turn_st b hm n f g w0 w L hC.toSt).mono fun _ _ ⟨h1, h2⟩ => ⟨h1, hC.next h2⟩
/-- a ring's text -/
def ringT (n : Nat) (f : Nat → UInt8) : ByteArray := strOf (1 + n * 16) (ringB n f)
theorem ringT_size (n : Nat) (f : Nat → UInt8) : (ringT n f).size = 1 + n * 16 := strOf_size _ _
theorem nonceS_size (e c : Nat) : (nonceS e c).size = 12 := strOf_size _ _
def sealedR (m : Nat → UInt8) (n : Nat) (f : Nat → UInt8) (e c : Nat) : ByteArray := sealS (Ci.rounds m) (ofText (nonceS e c)) ⟨#[114, 105, 110, 103]⟩ (ringT n f)
def lockS (b : Br) (m : Nat → UInt8) : ByteArray := if takeE b = 0 then headS 0 (nonceS b.e b.c) ++ sealedR m b.n b.f b.e b.c else ⟨#[]⟩
theorem sealRing_at (m : Nat → UInt8) (n : Nat) (f : Nat → UInt8) (e c : Nat) (h6 : n ≤ 6) (w : World) : Calls Tryz.prog 53 #[.agg (blk 16 m), .string (nonceS e c), .string ⟨#[114, 105, 110, 103]⟩, .string (ringT n f)] w fun e' w' => e' = .returned (.tuple #[.string (sealedR m n f e c), .int .i64 0]) ∧ Below w.heap.size w w' :=
  gcSeal_any m (nonceS e c) ⟨#[114, 105, 110, 103]⟩ (ringT n f) (by show 4 < 2 ^ 40; omega) (by rw [ringT_size]; omega) (nonceS_size _ _) w
set_option maxRecDepth 100000 in
set_option maxHeartbeats 2000000 in
theorem lock_sk (b : Br) (hm : b.md = true) (h6 : b.n ≤ 6) (m : Nat → UInt8) (g : Nat) (v w0 w : World) (L : List (Nat × Array Value)) (hC : Sk v w0 ((g, br b) :: L) w) : Calls Tryz.prog 20 #[.pointer (some ⟨g, 0, none⟩), .agg (blk 16 m)] w fun r w' => r = .returned (.tuple #[.string (lockS b m), .int .i64 ((takeE b : Nat) : Int)]) ∧ Sk v w0 ((g, br b.took) :: L) w' := by
  have HC := Lib.hid (hC.push (blk 16 m) 41)
  have HT := Lib.hid (fun w L hC => take_sk b hm g v w0 w L hC)
  clear hC
  by_cases hE : takeE b = 0
  · have e1 : takeS b = nonceS b.e b.c := by unfold takeS; rw [if_pos hE]
    have e2 : b.took = { b with c := b.c + 1 } := by unfold Br.took; rw [if_pos hE]
    have e3 : lockS b m = headS 0 (nonceS b.e b.c) ++ sealedR m b.n b.f b.e b.c := by unfold lockS; rw [if_pos hE]
    rw [e1, e2, hE] at HT
    rw [e2, e3, hE]
    clear e1 e2 e3 hE hm
    have T1 := Lib.hid (text_any b.n b.f h6)
    have T2 := Lib.hid (sealRing_at m b.n b.f b.e b.c h6)
    have T3 := Lib.hid (fun w => head_any 0 (by omega) (nonceS b.e b.c) (by rw [nonceS_size]; omega) w)
    obtain ⟨SR, hSR⟩ : ∃ SR, sealedR m b.n b.f b.e b.c = SR := ⟨_, rfl⟩
    have hsr : SR.size = 113 + b.n * 16 - 96 := by rw [← hSR]; unfold sealedR; rw [sealS_size, ringT_size]; omega
    obtain ⟨HS, hHS⟩ : ∃ HS, headS 0 (nonceS b.e b.c) = HS := ⟨_, rfl⟩
    have hhs : HS.size = 16 := by rw [← hHS]; unfold headS; rw [ByteArray.size_append, strOf_size, nonceS_size]
    have hsz : HS.size + SR.size ≤ 9223372036854775807 := by omega
    rw [hSR] at T2 ⊢
    rw [hHS] at T3 ⊢
    clear hSR hHS hsr hhs h6
    go_enter Tryz.func20, Tryz.ntmps20
    go_wp2_with fail
    refine (HT.out _ _ HC.out.swap).mono ?_; rintro r w1 ⟨rfl, hC⟩
    have HC := Lib.hid hC
    clear hC
    (obtain ⟨⟨r1, f1, i1, b1, l1⟩, ⟨r2, f2, i2, b2, l2⟩, m12, m21⟩ := St.facts2 (HC.out.pick [0, 1] (by decide) rfl))
    go_wp2_with fail
    (clear r1 f1 i1 b1 l1 r2 f2 i2 b2 l2 m12 m21)
    refine Sk.region HC.out (by kernel_rfl) (by decide +kernel) ?_
    (first
       | (apply head_skip rfl)
       | (apply head_step_g rfl
          focus
            intro w0 hC
            (fail))
       | (apply head_step_g rfl
          focus
            intro w0 hC
            have hC' := Lib.hid hC
            obtain ⟨⟨r1, f1, i1, b1, l1⟩, ⟨r2, f2, i2, b2, l2⟩, m12, m21⟩ := St.facts2 (hC.pick [0, 1] (by decide) rfl)
            clear hC
            go_simp
            have hC := hC'.out
            (first
               | with_reducible rfl
               | (skip
                  (first
                     | (go_at_call 54; refine (T1.out _).mono ?_)
                     | (go_at_call 53; refine (T2.out _).mono ?_))
                  rintro e w' ⟨rfl, hw⟩
                  exact ⟨rfl, Sk.call (by assumption) hw⟩)))
     try simp only [Act.put, List.setIfInBounds_toArray, List.set])
    (first
       | (apply head_skip rfl)
       | (apply head_step_g rfl
          focus
            intro w0 hC
            (fail))
       | (apply head_step_g rfl
          focus
            intro w0 hC
            have hC' := Lib.hid hC
            obtain ⟨⟨r1, f1, i1, b1, l1⟩, ⟨r2, f2, i2, b2, l2⟩, m12, m21⟩ := St.facts2 (hC.pick [0, 1] (by decide) rfl)
            clear hC
            go_simp
            have hC := hC'.out
            (first
               | with_reducible rfl
               | (skip
                  (first
                     | (go_at_call 54; refine (T1.out _).mono ?_)
                     | (go_at_call 53; refine (T2.out _).mono ?_))
                  rintro e w' ⟨rfl, hw⟩
                  exact ⟨rfl, Sk.call (by assumption) hw⟩)))
     try simp only [Act.put, List.setIfInBounds_toArray, List.set])
    (first
       | (apply head_skip rfl)
       | (apply head_step_g rfl
          focus
            intro w0 hC
            (fail))
       | (apply head_step_g rfl
          focus
            intro w0 hC
            have hC' := Lib.hid hC
            obtain ⟨⟨r1, f1, i1, b1, l1⟩, ⟨r2, f2, i2, b2, l2⟩, m12, m21⟩ := St.facts2 (hC.pick [0, 1] (by decide) rfl)
            clear hC
            go_simp
            have hC := hC'.out
            (first
               | with_reducible rfl
               | (skip
                  (first
                     | (go_at_call 54; refine (T1.out _).mono ?_)
                     | (go_at_call 53; refine (T2.out _).mono ?_))
                  rintro e w' ⟨rfl, hw⟩
                  exact ⟨rfl, Sk.call (by assumption) hw⟩)))
     try simp only [Act.put, List.setIfInBounds_toArray, List.set])
    (first
       | (apply head_skip rfl)
       | (apply head_step_g rfl
          focus
            intro w0 hC
            (fail))
       | (apply head_step_g rfl
          focus
            intro w0 hC
            have hC' := Lib.hid hC
            obtain ⟨⟨r1, f1, i1, b1, l1⟩, ⟨r2, f2, i2, b2, l2⟩, m12, m21⟩ := St.facts2 (hC.pick [0, 1] (by decide) rfl)
            clear hC
            go_simp
            have hC := hC'.out
            (first
               | with_reducible rfl
               | (skip
                  (first
                     | (go_at_call 54; refine (T1.out _).mono ?_)
                     | (go_at_call 53; refine (T2.out _).mono ?_))
                  rintro e w' ⟨rfl, hw⟩
                  exact ⟨rfl, Sk.call (by assumption) hw⟩)))
     try simp only [Act.put, List.setIfInBounds_toArray, List.set])
    (first
       | (apply head_skip rfl)
       | (apply head_step_g rfl
          focus
            intro w0 hC
            (fail))
       | (apply head_step_g rfl
          focus
            intro w0 hC
            have hC' := Lib.hid hC
            obtain ⟨⟨r1, f1, i1, b1, l1⟩, ⟨r2, f2, i2, b2, l2⟩, m12, m21⟩ := St.facts2 (hC.pick [0, 1] (by decide) rfl)
            clear hC
            go_simp
            have hC := hC'.out
            (first
               | with_reducible rfl
               | (skip
                  (first
                     | (go_at_call 54; refine (T1.out _).mono ?_)
                     | (go_at_call 53; refine (T2.out _).mono ?_))
                  rintro e w' ⟨rfl, hw⟩
                  exact ⟨rfl, Sk.call (by assumption) hw⟩)))
     try simp only [Act.put, List.setIfInBounds_toArray, List.set])
    (first
       | (apply head_skip rfl)
       | (apply head_step_g rfl
          focus
            intro w0 hC
            (fail))
       | (apply head_step_g rfl
          focus
            intro w0 hC
            have hC' := Lib.hid hC
            obtain ⟨⟨r1, f1, i1, b1, l1⟩, ⟨r2, f2, i2, b2, l2⟩, m12, m21⟩ := St.facts2 (hC.pick [0, 1] (by decide) rfl)
            clear hC
            go_simp
            have hC := hC'.out
            (first
               | with_reducible rfl
               | (skip
                  (first
                     | (go_at_call 54; refine (T1.out _).mono ?_)
                     | (go_at_call 53; refine (T2.out _).mono ?_))
                  rintro e w' ⟨rfl, hw⟩
                  exact ⟨rfl, Sk.call (by assumption) hw⟩)))
     try simp only [Act.put, List.setIfInBounds_toArray, List.set])
    (first
       | (apply head_skip rfl)
       | (apply head_step_g rfl
          focus
            intro w0 hC
            (fail))
       | (apply head_step_g rfl
          focus
            intro w0 hC
            have hC' := Lib.hid hC
            obtain ⟨⟨r1, f1, i1, b1, l1⟩, ⟨r2, f2, i2, b2, l2⟩, m12, m21⟩ := St.facts2 (hC.pick [0, 1] (by decide) rfl)
            clear hC
            go_simp
            have hC := hC'.out
            (first
               | with_reducible rfl
               | (skip
                  (first
                     | (go_at_call 54; refine (T1.out _).mono ?_)
                     | (go_at_call 53; refine (T2.out _).mono ?_))
                  rintro e w' ⟨rfl, hw⟩
                  exact ⟨rfl, Sk.call (by assumption) hw⟩)))
     try simp only [Act.put, List.setIfInBounds_toArray, List.set])
    (first
       | (apply head_skip rfl)
       | (apply head_step_g rfl
          focus
            intro w0 hC
            (fail))
       | (apply head_step_g rfl
          focus
            intro w0 hC
            have hC' := Lib.hid hC
            obtain ⟨⟨r1, f1, i1, b1, l1⟩, ⟨r2, f2, i2, b2, l2⟩, m12, m21⟩ := St.facts2 (hC.pick [0, 1] (by decide) rfl)
            clear hC
            go_simp
            have hC := hC'.out
            (first
               | with_reducible rfl
               | (skip
                  (first
                     | (go_at_call 54; refine (T1.out _).mono ?_)
                     | (go_at_call 53; refine (T2.out _).mono ?_))
                  rintro e w' ⟨rfl, hw⟩
                  exact ⟨rfl, Sk.call (by assumption) hw⟩)))
     try simp only [Act.put, List.setIfInBounds_toArray, List.set])
    (first
       | (apply head_skip rfl)
       | (apply head_step_g rfl
          focus
            intro w0 hC
            (fail))
       | (apply head_step_g rfl
          focus
            intro w0 hC
            have hC' := Lib.hid hC
            obtain ⟨⟨r1, f1, i1, b1, l1⟩, ⟨r2, f2, i2, b2, l2⟩, m12, m21⟩ := St.facts2 (hC.pick [0, 1] (by decide) rfl)
            clear hC
            go_simp
            have hC := hC'.out
            (first
               | with_reducible rfl
               | (skip
                  (first
                     | (go_at_call 54; refine (T1.out _).mono ?_)
                     | (go_at_call 53; refine (T2.out _).mono ?_))
                  rintro e w' ⟨rfl, hw⟩
                  exact ⟨rfl, Sk.call (by assumption) hw⟩)))
     try simp only [Act.put, List.setIfInBounds_toArray, List.set])
    (first
       | (apply head_skip rfl)
       | (apply head_step_g rfl
          focus
            intro w0 hC
            (fail))
       | (apply head_step_g rfl
          focus
            intro w0 hC
            have hC' := Lib.hid hC
            obtain ⟨⟨r1, f1, i1, b1, l1⟩, ⟨r2, f2, i2, b2, l2⟩, m12, m21⟩ := St.facts2 (hC.pick [0, 1] (by decide) rfl)
            clear hC
            go_simp
            have hC := hC'.out
            (first
               | with_reducible rfl
               | (skip
                  (first
                     | (go_at_call 54; refine (T1.out _).mono ?_)
                     | (go_at_call 53; refine (T2.out _).mono ?_))
                  rintro e w' ⟨rfl, hw⟩
                  exact ⟨rfl, Sk.call (by assumption) hw⟩)))
     try simp only [Act.put, List.setIfInBounds_toArray, List.set])
    (first
       | (apply head_skip rfl)
       | (apply head_step_g rfl
          focus
            intro w0 hC
            (fail))
       | (apply head_step_g rfl
          focus
            intro w0 hC
            have hC' := Lib.hid hC
            obtain ⟨⟨r1, f1, i1, b1, l1⟩, ⟨r2, f2, i2, b2, l2⟩, m12, m21⟩ := St.facts2 (hC.pick [0, 1] (by decide) rfl)
            clear hC
            go_simp
            have hC := hC'.out
            (first
               | with_reducible rfl
               | (skip
                  (first
                     | (go_at_call 54; refine (T1.out _).mono ?_)
                     | (go_at_call 53; refine (T2.out _).mono ?_))
                  rintro e w' ⟨rfl, hw⟩
                  exact ⟨rfl, Sk.call (by assumption) hw⟩)))
     try simp only [Act.put, List.setIfInBounds_toArray, List.set])
    (first
       | (apply head_skip rfl)
       | (apply head_step_g rfl
          focus
            intro w0 hC
            (fail))
       | (apply head_step_g rfl
          focus
            intro w0 hC
            have hC' := Lib.hid hC
            obtain ⟨⟨r1, f1, i1, b1, l1⟩, ⟨r2, f2, i2, b2, l2⟩, m12, m21⟩ := St.facts2 (hC.pick [0, 1] (by decide) rfl)
            clear hC
            go_simp
            have hC := hC'.out
            (first
               | with_reducible rfl
               | (skip
                  (first
                     | (go_at_call 54; refine (T1.out _).mono ?_)
                     | (go_at_call 53; refine (T2.out _).mono ?_))
                  rintro e w' ⟨rfl, hw⟩
                  exact ⟨rfl, Sk.call (by assumption) hw⟩)))
     try simp only [Act.put, List.setIfInBounds_toArray, List.set])
    (first
       | (apply head_skip rfl)
       | (apply head_step_g rfl
          focus
            intro w0 hC
            (fail))
       | (apply head_step_g rfl
          focus
            intro w0 hC
            have hC' := Lib.hid hC
            obtain ⟨⟨r1, f1, i1, b1, l1⟩, ⟨r2, f2, i2, b2, l2⟩, m12, m21⟩ := St.facts2 (hC.pick [0, 1] (by decide) rfl)
            clear hC
            go_simp
            have hC := hC'.out
            (first
               | with_reducible rfl
               | (skip
                  (first
                     | (go_at_call 54; refine (T1.out _).mono ?_)
                     | (go_at_call 53; refine (T2.out _).mono ?_))
                  rintro e w' ⟨rfl, hw⟩
                  exact ⟨rfl, Sk.call (by assumption) hw⟩)))
     try simp only [Act.put, List.setIfInBounds_toArray, List.set])
    refine wpQuiet_nil ?_
    intro w2 hC
    have HC := Lib.hid hC
    clear hC
    go_wp2_with fail
    refine (T3.out _).mono ?_; rintro e w3 ⟨rfl, hw⟩
    have HC := Lib.hid (HC.out.call hw)
    clear hw
    go_wp2_with fail
    go_ret2
    exact ⟨rfl, HC.out.swap.tail⟩
  · have e1 : takeS b = ⟨#[]⟩ := by unfold takeS; rw [if_neg hE]
    have e2 : b.took = b := by unfold Br.took; rw [if_neg hE]
    have e3 : lockS b m = ⟨#[]⟩ := by unfold lockS; rw [if_neg hE]
    rw [e1, e2] at HT
    rw [e2, e3]
    have d1 : (((takeE b : Nat) : Int) != 0) = true := by rw [bne_iff_ne]; omega
    obtain ⟨E, hEE⟩ : ∃ E, takeE b = E := ⟨_, rfl⟩
    rw [hEE] at d1 HT ⊢
    clear e1 e2 e3 hE hm hEE
    go_enter Tryz.func20, Tryz.ntmps20
    go_wp2_with fail
    refine (HT.out _ _ HC.out.swap).mono ?_; rintro r w1 ⟨rfl, hC⟩
    have HC := Lib.hid hC
    clear hC
    go_wp2_with fail
    go_ret2
    exact ⟨rfl, HC.out.swap.tail⟩
end Go.Proofs.YtgaecjhghpkcoaaGreat
end

section
namespace Go.Proofs.YtgaecjhghpkcoaaGreat
open Go.RowKit
attribute [local go_sem] B_xor B_or B_and
attribute [local go_sem] blk_set blk_size blk_get blk_getE upd_same oneCells_blk paste_blk cut_blk szOf
attribute [local go_sem high] paste_all cut_head
attribute [local go_sem] rowAt_alloc rowAt_drew rowAt_drewN isRow_alloc isRow_drew isRow_drewN freeRow_alloc freeRow_end freeRow_drew freeRow_drewN
attribute [local go_sem] setRow_alloc setRow_drew setRow_drewN setCell_drewN alloc_drewN rowAt_put isRow_setRow freeRow_put
attribute [local go_sem ↓] loadS_in storeS_in indexS_in copyS_in
attribute [local go_sem] loadS_row loadS_one storeS_row storeS_one indexS_blk copyS_rows run_equalIn_blk same_refl arrayAt_row
attribute [local go_sem] cell_row frozen_row st_setCell st_blk_ne stepAt stepUpon
attribute [local go_sem high] run_eql_blk run_neq_blk
attribute [local go_sem ↓] convBS_in
attribute [local go_sem] convBS_row convBS_nil allBytes_blk bytesOf_blk
attribute [local go_sem] rg_size rg_get0 rg_getE0 rg_ne rg_set0 rg_one rg_cut rg_key rg_put rg_paste part_rg0 part_rg1
attribute [local go_sem] size_cn agg_cn cn_size cn_get0 cn_get1 cn_getE0 cn_getE1 cn_set0 cn_set1 cn_ne cn_one cn_cut cn_paste
attribute [local go_sem] br_size br_get0 br_get1 br_get2 br_getE0 br_getE1 br_getE2 br_ne br_ring br_count br_whole br_put_ring br_put_count br_paste br_one size_br agg_br

/-- a text in secret, by the newest key of a ring -/
def sealedT (n : Nat) (f : Nat → UInt8) (e c : Nat) (p t : ByteArray) : ByteArray := sealS (Ci.rounds (keyB f (n - 1))) (ofText (nonceS e c)) p t
def putRealS (b : Br) (p t : ByteArray) : ByteArray := if takeE b = 0 then headS b.n (nonceS b.e b.c) ++ sealedT b.n b.f b.e b.c p t else ⟨#[]⟩
theorem sealText_at (n : Nat) (f : Nat → UInt8) (e c : Nat) (p t : ByteArray) (hp : p.size < 2 ^ 39) (ht : t.size < 2 ^ 39) (w : World) : Calls Tryz.prog 53 #[.agg (blk 16 (keyB f (n - 1))), .string (nonceS e c), .string p, .string t] w fun e' w' => e' = .returned (.tuple #[.string (sealedT n f e c p t), .int .i64 0]) ∧ Below w.heap.size w w' :=
  gcSeal_any (keyB f (n - 1)) (nonceS e c) p t (by omega) (by omega) (nonceS_size _ _) w
theorem takeE_n {b : Br} (h : takeE b = 0) : 1 ≤ b.n := by
  unfold takeE at h
  split at h
  · cases h
  · omega
theorem put_no (b : Br) (hm : b.md = true) (hE : takeE b ≠ 0) (p t : ByteArray) (g : Nat) (v w0 w : World) (L : List (Nat × Array Value)) (hC : Sk v w0 ((g, br b) :: L) w) : Calls Tryz.prog 23 #[.pointer (some ⟨g, 0, none⟩), .string p, .string t] w fun r w' => r = .returned (.tuple #[.string ⟨#[]⟩, .int .i64 ((takeE b : Nat) : Int)]) ∧ Sk v w0 ((g, br b) :: L) w' := by
  have HC := Lib.hid hC
  have HT := Lib.hid (take_sk b hm g v w0 w L hC)
  clear hC
  have e1 : takeS b = ⟨#[]⟩ := by unfold takeS; rw [if_neg hE]
  have e2 : b.took = b := by unfold Br.took; rw [if_neg hE]
  rw [e1, e2] at HT
  have d1 : (((takeE b : Nat) : Int) != 0) = true := by rw [bne_iff_ne]; omega
  obtain ⟨E, hEE⟩ : ∃ E, takeE b = E := ⟨_, rfl⟩
  rw [hEE] at d1 HT ⊢
  clear e1 e2 hE hm hEE
  go_enter Tryz.func23, Tryz.ntmps23
  go_wp2_with fail
  refine HT.out.mono ?_; rintro r w1 ⟨rfl, hC⟩
  have HC := Lib.hid hC
  clear hC
  go_wp2_with fail
  go_ret2
  exact ⟨rfl, HC.out⟩
set_option maxRecDepth 100000 in
set_option maxHeartbeats 2000000 in
theorem put_real (b : Br) (hm : b.md = true) (hkd : b.kd = 0) (h6 : b.n ≤ 6) (hE : takeE b = 0) (p t : ByteArray) (hp : p.size < 2 ^ 39) (ht : t.size < 2 ^ 39) (g : Nat) (v w0 w : World) (L : List (Nat × Array Value)) (hC : Sk v w0 ((g, br b) :: L) w) : Calls Tryz.prog 23 #[.pointer (some ⟨g, 0, none⟩), .string p, .string t] w fun r w' => r = .returned (.tuple #[.string (headS b.n (nonceS b.e b.c) ++ sealedT b.n b.f b.e b.c p t), .int .i64 0]) ∧ Sk v w0 ((g, br { b with c := b.c + 1 }) :: L) w' := by
  have hz := zero16
  have HC := Lib.hid hC
  have HT := Lib.hid (take_sk b hm g v w0 w L hC)
  have hn1 := takeE_n hE
  have hkI : ((b.kd : Int) == 1) = false := by rw [hkd]; rfl
  clear hC
  have e1 : takeS b = nonceS b.e b.c := by unfold takeS; rw [if_pos hE]
  have e2 : b.took = { b with c := b.c + 1 } := by unfold Br.took; rw [if_pos hE]
  rw [e1, e2, hE] at HT
  clear e1 e2 hE hm hkd
  have T0 := Lib.hid (key_yes b.n b.f b.n (b.n - 1) (by omega) (Nat.le_refl _) h6)
  have T2 := Lib.hid (sealText_at b.n b.f b.e b.c p t hp ht)
  have T3 := Lib.hid (fun w => head_any b.n h6 (nonceS b.e b.c) (by rw [nonceS_size]; omega) w)
  obtain ⟨SR, hSR⟩ : ∃ SR, sealedT b.n b.f b.e b.c p t = SR := ⟨_, rfl⟩
  have hsr : SR.size = t.size + 16 := by rw [← hSR]; unfold sealedT; rw [sealS_size]
  obtain ⟨HS, hHS⟩ : ∃ HS, headS b.n (nonceS b.e b.c) = HS := ⟨_, rfl⟩
  have hhs : HS.size = 16 := by rw [← hHS]; unfold headS; rw [ByteArray.size_append, strOf_size, nonceS_size]
  have hsz : HS.size + SR.size ≤ 9223372036854775807 := by omega
  rw [hSR] at T2 ⊢
  rw [hHS] at T3 ⊢
  clear hSR hHS hsr hhs h6 hn1 hp ht
  go_enter Tryz.func23, Tryz.ntmps23
  go_wp2_with fail
  refine HT.out.mono ?_; rintro r w1 ⟨rfl, hC⟩
  have HC := Lib.hid hC
  clear hC
  (obtain ⟨r1, f1, i1, b1, l1⟩ := St.facts1 (HC.out.pick [0] (by decide) rfl))
  go_wp2_with fail
  (clear r1 f1 i1 b1 l1)
  refine (term_any b.n b.f _).mono ?_; rintro e w2 ⟨rfl, hw⟩
  have HC := Lib.hid (HC.out.call hw)
  clear hw
  (obtain ⟨r1, f1, i1, b1, l1⟩ := St.facts1 (HC.out.pick [0] (by decide) rfl))
  go_wp2_with fail
  (clear r1 f1 i1 b1 l1)
  refine (T0.out _).mono ?_; rintro e w3 ⟨rfl, hw⟩
  have HC := Lib.hid (HC.out.call hw)
  clear hw
  (obtain ⟨r1, f1, i1, b1, l1⟩ := St.facts1 (HC.out.pick [0] (by decide) rfl))
  go_wp2_with fail
  (clear r1 f1 i1 b1 l1)
  have HC := Lib.hid (HC.out.push (blk 16 (keyB b.f (b.n - 1))) 41)
  refine (T2.out _).mono ?_; rintro e w4 ⟨rfl, hw⟩
  have HC := Lib.hid (HC.out.call hw)
  clear hw
  (obtain ⟨⟨r1, f1, i1, b1, l1⟩, ⟨r2, f2, i2, b2, l2⟩, m12, m21⟩ := St.facts2 (HC.out.pick [0, 1] (by decide) rfl))
  go_wp2_with fail
  (clear r1 f1 i1 b1 l1 r2 f2 i2 b2 l2 m12 m21)
  refine (T3.out _).mono ?_; rintro e w5 ⟨rfl, hw⟩
  have HC := Lib.hid (HC.out.call hw)
  clear hw
  (obtain ⟨⟨r1, f1, i1, b1, l1⟩, ⟨r2, f2, i2, b2, l2⟩, m12, m21⟩ := St.facts2 (HC.out.pick [0, 1] (by decide) rfl))
  go_wp2_with fail
  go_ret2
  exact ⟨rfl, HC.out.tail⟩

/-! ### Get -/
def openR (k : Nat → UInt8) (nn a s : ByteArray) : ByteArray × Nat := if tagged (Ci.rounds k) (ofText nn) a s = true then (strS (Ci.rounds k) (ofText nn) 2 (cutS s), 0) else (⟨#[]⟩, 11)
theorem openR_at (k : Nat → UInt8) (nn a s : ByteArray) (ha : a.size < 2 ^ 40) (hs : s.size < 2 ^ 40) (h : nn.size = 12) (hl : 16 ≤ s.size) (w : World) : Calls Tryz.prog 45 #[.agg (blk 16 k), .string nn, .string a, .string s] w fun e w' => e = .returned (.tuple #[.string (openR k nn a s).1, .int .i64 (((openR k nn a s).2 : Nat) : Int)]) ∧ Below w.heap.size w w' := by
  unfold openR
  split
  · rename_i hk; exact gcOpen_full k nn a s ha hs h hl true hk _ 0 (.inl ⟨rfl, rfl, rfl⟩) w
  · rename_i hk; exact gcOpen_full k nn a s ha hs h hl false (by simpa using hk) _ 11 (.inr ⟨rfl, rfl, rfl⟩) w
/-- what an ideal barrier tells of a text that was told at a path -/
def idealR (x : Option (ByteArray × ByteArray)) (p r : ByteArray) : ByteArray × Nat := match x with
  | none => (⟨#[]⟩, 11)
  | some (q, t) => if q = p ∧ r = strOf (t.size + 16) (fun _ => 0) then (t, 0) else (⟨#[]⟩, 11)
/-- what is got -/
def getO (ideal : Bool) (n : Nat) (f : Nat → UInt8) (N : ByteArray → Option (ByteArray × ByteArray)) (p s : ByteArray) : ByteArray × Nat :=
  if n = 0 then (⟨#[]⟩, 12) else if s.size < 32 then (⟨#[]⟩, 3) else if numAt s 0 4 < 1 ∨ n < numAt s 0 4 then (⟨#[]⟩, 6) else
    if ideal = true then idealR (N (s.extract 4 16)) p (s.extract 16 s.size) else openR (keyB f (numAt s 0 4 - 1)) (s.extract 4 16) p (s.extract 16 s.size)
set_option maxRecDepth 100000 in
set_option maxHeartbeats 2000000 in
theorem get_sealed (b : Br) (hm : b.md = true) (hn : b.n = 0) (p s : ByteArray) (g : Nat) (w0 w : World) (L : List (Nat × Array Value)) (hC : St w0 ((g, br b) :: L) w) : Calls Tryz.prog 12 #[.pointer (some ⟨g, 0, none⟩), .string p, .string s] w fun r w' => r = .returned (.tuple #[.string ⟨#[]⟩, .int .i64 12]) ∧ Below w.heap.size w w' := by
  have HS := Lib.hid (state_made b hm g w0 w L hC 12 (.inl ⟨hn, rfl⟩))
  have HC := Lib.hid (St.nil w)
  clear hC hm hn
  go_enter Tryz.func12, Tryz.ntmps12
  go_wp2_with fail
  refine (HS.out).mono ?_; rintro e w1 ⟨rfl, hw⟩
  have HC := Lib.hid (HC.out.call hw)
  clear hw
  go_wp2_with fail
  go_ret2
  exact ⟨rfl, HC.out.below⟩
set_option maxRecDepth 100000 in
set_option maxHeartbeats 2000000 in
theorem get_short (b : Br) (hm : b.md = true) (hn : b.n ≠ 0) (p s : ByteArray) (hs : s.size < 32) (g : Nat) (w0 w : World) (L : List (Nat × Array Value)) (hC : St w0 ((g, br b) :: L) w) : Calls Tryz.prog 12 #[.pointer (some ⟨g, 0, none⟩), .string p, .string s] w fun r w' => r = .returned (.tuple #[.string ⟨#[]⟩, .int .i64 3]) ∧ Below w.heap.size w w' := by
  have HS := Lib.hid (state_made b hm g w0 w L hC 0 (.inr ⟨hn, rfl⟩))
  have T1 := Lib.hid (parts_short s hs)
  have HC := Lib.hid (St.nil w)
  clear hC hm hn hs
  go_enter Tryz.func12, Tryz.ntmps12
  go_wp2_with fail
  refine (HS.out).mono ?_; rintro e w1 ⟨rfl, hw⟩
  have HC := Lib.hid (HC.out.call hw)
  clear hw
  go_wp2_with fail
  refine (T1.out _).mono ?_; rintro e w2 ⟨rfl, hw⟩
  have HC := Lib.hid (HC.out.call hw)
  clear hw
  go_wp2_with fail
  go_ret2
  exact ⟨rfl, HC.out.below⟩
set_option maxRecDepth 100000 in
set_option maxHeartbeats 2000000 in
theorem get_none (b : Br) (hm : b.md = true) (hn : b.n ≠ 0) (p s : ByteArray) (h : 32 ≤ s.size) (hs : s.size < 2 ^ 40) (ht : numAt s 0 4 < 1 ∨ b.n < numAt s 0 4) (g : Nat) (w0 w : World) (L : List (Nat × Array Value)) (hC : St w0 ((g, br b) :: L) w) : Calls Tryz.prog 12 #[.pointer (some ⟨g, 0, none⟩), .string p, .string s] w fun r w' => r = .returned (.tuple #[.string ⟨#[]⟩, .int .i64 6]) ∧ Below w.heap.size w w' := by
  have hz := zero16
  have HS := Lib.hid (state_made b hm g w0 w L hC 0 (.inr ⟨hn, rfl⟩))
  have T1 := Lib.hid (parts_any s h hs)
  have T2 := Lib.hid (key_no b.n b.f ((numAt s 0 4 : Nat) : Int) (by omega))
  obtain ⟨N, hN⟩ : ∃ N, numAt s 0 4 = N := ⟨_, rfl⟩
  rw [hN] at T1 T2
  have HB := Lib.hid hC
  have HC := Lib.hid (St.nil w)
  clear hC hm hn hs h ht hN
  go_enter Tryz.func12, Tryz.ntmps12
  go_wp2_with fail
  refine HS.out.mono ?_; rintro e w1 ⟨rfl, hw⟩
  have HB := Lib.hid (HB.out.call hw)
  have HC := Lib.hid (HC.out.call hw)
  clear hw
  go_wp2_with fail
  refine (T1.out _).mono ?_; rintro e w2 ⟨rfl, hw⟩
  have HB := Lib.hid (HB.out.call hw)
  have HC := Lib.hid (HC.out.call hw)
  clear hw
  obtain ⟨r1, f1, i1, b1, l1⟩ := St.facts1 (HB.out.pick [0] (by decide) rfl)
  go_wp2_with fail
  refine (T2.out _).mono ?_; rintro e w3 ⟨rfl, hw⟩
  have HC := Lib.hid (HC.out.call hw)
  clear hw
  go_wp2_with fail
  go_ret2
  exact ⟨rfl, (HC.out.skip _).below⟩
set_option maxRecDepth 100000 in
set_option maxHeartbeats 2000000 in
theorem get_real (b : Br) (hm : b.md = true) (hkd : b.kd = 0) (hn : b.n ≠ 0) (h6 : b.n ≤ 6) (p s : ByteArray) (h : 32 ≤ s.size) (hs : s.size < 2 ^ 40) (hp : p.size < 2 ^ 40) (ht : ¬ (numAt s 0 4 < 1 ∨ b.n < numAt s 0 4)) (R : ByteArray × Nat) (hR : openR (keyB b.f (numAt s 0 4 - 1)) (s.extract 4 16) p (s.extract 16 s.size) = R) (g : Nat) (w0 w : World) (L : List (Nat × Array Value)) (hC : St w0 ((g, br b) :: L) w) : Calls Tryz.prog 12 #[.pointer (some ⟨g, 0, none⟩), .string p, .string s] w fun r w' => r = .returned (.tuple #[.string R.1, .int .i64 ((R.2 : Nat) : Int)]) ∧ Below w.heap.size w w' := by
  have hz := zero16
  have HS := Lib.hid (state_made b hm g w0 w L hC 0 (.inr ⟨hn, rfl⟩))
  have T1 := Lib.hid (parts_any s h hs)
  have T2 := Lib.hid (key_yes b.n b.f (numAt s 0 4) (numAt s 0 4 - 1) (by omega) (by omega) h6)
  have T3 := Lib.hid (openR_at (keyB b.f (numAt s 0 4 - 1)) (s.extract 4 16) p (s.extract 16 s.size) hp (by rw [ByteArray.size_extract]; omega) (by rw [ByteArray.size_extract]; omega) (by rw [ByteArray.size_extract]; omega))
  have hkI : ((b.kd : Int) != 1) = true := by rw [hkd]; rfl
  obtain ⟨N, hN⟩ : ∃ N, numAt s 0 4 = N := ⟨_, rfl⟩
  rw [hR] at T3
  rw [hN] at T1 T2 T3
  have HB := Lib.hid hC
  have HC := Lib.hid (St.nil w)
  clear hC hm hn hs h ht hN hR hp hkd
  go_enter Tryz.func12, Tryz.ntmps12
  go_wp2_with fail
  refine HS.out.mono ?_; rintro e w1 ⟨rfl, hw⟩
  have HB := Lib.hid (HB.out.call hw)
  have HC := Lib.hid (HC.out.call hw)
  clear hw
  go_wp2_with fail
  refine (T1.out _).mono ?_; rintro e w2 ⟨rfl, hw⟩
  have HB := Lib.hid (HB.out.call hw)
  have HC := Lib.hid (HC.out.call hw)
  clear hw
  obtain ⟨r1, f1, i1, b1, l1⟩ := St.facts1 (HB.out.pick [0] (by decide) rfl)
  go_wp2_with fail
  refine (T2.out _).mono ?_; rintro e w3 ⟨rfl, hw⟩
  have HB := Lib.hid ((HB.out.call hw).skip (.cells (blk 16 (keyB b.f (N - 1))) 41))
  have HC := Lib.hid ((HC.out.call hw).push (blk 16 (keyB b.f (N - 1))) 41)
  clear hw r1 f1 i1 b1 l1
  obtain ⟨r1, f1, i1, b1, l1⟩ := St.facts1 (HB.out.pick [0] (by decide) rfl)
  obtain ⟨r2, f2, i2, b2, l2⟩ := St.facts1 HC.out
  go_wp2_with fail
  refine (T3.out _).mono ?_; rintro e w4 ⟨rfl, hw⟩
  have HC := Lib.hid (HC.out.call hw)
  clear hw
  go_wp2_with fail
  go_ret2
  exact ⟨rfl, HC.out.below⟩
end Go.Proofs.YtgaecjhghpkcoaaGreat
end

section
namespace Go.Proofs.YtgaecjhghpkcoaaGreat
open Go.RowKit
attribute [local go_sem] B_xor B_or B_and
attribute [local go_sem] blk_set blk_size blk_get blk_getE upd_same oneCells_blk paste_blk cut_blk szOf
attribute [local go_sem high] paste_all cut_head
attribute [local go_sem] rowAt_alloc rowAt_drew rowAt_drewN isRow_alloc isRow_drew isRow_drewN freeRow_alloc freeRow_end freeRow_drew freeRow_drewN
attribute [local go_sem] setRow_alloc setRow_drew setRow_drewN setCell_drewN alloc_drewN rowAt_put isRow_setRow freeRow_put
attribute [local go_sem ↓] loadS_in storeS_in indexS_in copyS_in
attribute [local go_sem] loadS_row loadS_one storeS_row storeS_one indexS_blk copyS_rows run_equalIn_blk same_refl arrayAt_row
attribute [local go_sem] cell_row frozen_row st_setCell st_blk_ne stepAt stepUpon
attribute [local go_sem high] run_eql_blk run_neq_blk
attribute [local go_sem ↓] convBS_in
attribute [local go_sem] convBS_row convBS_nil allBytes_blk bytesOf_blk
attribute [local go_sem] size_cn agg_cn cn_size cn_get0 cn_get1 cn_getE0 cn_getE1 cn_set0 cn_set1 cn_ne cn_one cn_cut cn_paste
attribute [local go_sem] br_size br_get0 br_get1 br_get2 br_getE0 br_getE1 br_getE2 br_ne br_ring br_count br_whole br_put_ring br_put_count br_paste br_one size_br agg_br

/-- a barrier that is new -/
def Br.fresh (kd : Nat) (nt : Value) : Br := ⟨true, kd, nt, 0, fun _ => 0, 0, 0⟩
def Br.zero : Br := ⟨false, 0, .pointer none, 0, fun _ => 0, 0, 0⟩
theorem br_zero : Tryz.zeroCells80 = br Br.zero := by kernel_rfl
theorem br_set0 (b : Br) (x : Bool) : (br b).setIfInBounds 0 (.bool x) = br { b with md := x } := by
  refine br_ext (by simp [br_size]) fun i hi => ?_
  rw [Array.getElem?_setIfInBounds, br_at b i hi]
  by_cases h : 0 = i
  · subst h; rw [if_pos rfl, if_pos (by rw [br_size]; omega)]; rfl
  · rw [if_neg h]; unfold brAt; rw [if_neg (Ne.symm h), if_neg (Ne.symm h)]
theorem br_set1 (b : Br) (k : Nat) : (br b).setIfInBounds 1 (.int .u8 (k : Int)) = br { b with kd := k } := by
  refine br_ext (by simp [br_size]) fun i hi => ?_
  rw [Array.getElem?_setIfInBounds, br_at b i hi]
  by_cases h : 1 = i
  · subst h; rw [if_pos rfl, if_pos (by rw [br_size]; omega)]; rfl
  · rw [if_neg h]; unfold brAt; rw [if_neg (Ne.symm h), if_neg (Ne.symm h)]
theorem br_set2 (b : Br) (v : Value) : (br b).setIfInBounds 2 v = br { b with nt := v } := by
  refine br_ext (by simp [br_size]) fun i hi => ?_
  rw [Array.getElem?_setIfInBounds, br_at b i hi]
  by_cases h : 2 = i
  · subst h; rw [if_pos rfl, if_pos (by rw [br_size]; omega)]; rfl
  · rw [if_neg h]; unfold brAt; rw [if_neg (Ne.symm h), if_neg (Ne.symm h)]
theorem fresh_real : (Tryz.zeroCells80.setIfInBounds 0 (.bool true)).setIfInBounds 1 (.int .u8 0) = br (Br.fresh 0 (.pointer none)) := by
  rw [br_zero, br_set0]; exact br_set1 _ 0
theorem fresh_ideal (p : Value) : ((Tryz.zeroCells80.setIfInBounds 0 (.bool true)).setIfInBounds 1 (.int .u8 1)).setIfInBounds 2 p = br (Br.fresh 1 p) := by
  rw [br_zero, br_set0]
  rw [show (Value.int .u8 1) = .int .u8 ((1 : Nat) : Int) from rfl, br_set1, br_set2]; rfl
theorem new_real (p : Value) (v w0 w : World) (L : List (Nat × Array Value)) (hC : Sk v w0 L w) : Calls Tryz.prog 9 #[.int .u8 0, p] w fun e w' => ∃ g, e = .returned (.tuple #[.pointer (some ⟨g, 0, none⟩), .int .i64 0]) ∧ Sk v w0 ((g, br (Br.fresh 0 (.pointer none))) :: L) w' := by
  have HC := Lib.hid hC
  clear hC
  go_enter Tryz.func9, Tryz.ntmps9
  go_wp2_with fail
  rw [fresh_real]
  go_ret2
  exact ⟨_, rfl, HC.out.push _ _⟩
/-- two texts in a row -/
def np (a b : ByteArray) : Array Value := #[.string a, .string b]
theorem np_size (a b : ByteArray) : (np a b).size = 2 := by simp [np]
theorem np_get0 (a b : ByteArray) : (np a b)[0]? = some (.string a) := by simp [np]
theorem np_get1 (a b : ByteArray) : (np a b)[1]? = some (.string b) := by simp [np]
theorem np_getE0 (a b : ByteArray) (h : 0 < (np a b).size) : (np a b)[0]'h = .string a := by simp [np]
theorem np_getE1 (a b : ByteArray) (h : 1 < (np a b).size) : (np a b)[1]'h = .string b := by simp [np]
theorem np_ne (a b : ByteArray) : (np a b = #[]) = False := by simp [np]
theorem np_one (a b : ByteArray) : oneCells (np a b) = true := by simp [oneCells, np, Value.oneCell']
theorem np_cut (a b : ByteArray) : cut (np a b) 0 2 = np a b := by simp [cut, np]
theorem np_paste (a b c d : ByteArray) : paste (np a b) 0 (np c d) = np c d := paste_whole _ _ (by rw [np_size, np_size])
theorem size_np (w : World) : (sizeOf 97).run Tryz.prog w = .ok 2 w := by simp [go_sem]
theorem agg_np (w : World) : (isAgg 97).run Tryz.prog w = .ok true w := by simp [go_sem]
theorem np_zero : #[Value.string ⟨#[]⟩, .string ⟨#[]⟩] = np ⟨#[]⟩ ⟨#[]⟩ := rfl
/-- how a note is held -/
def encN (x : ByteArray × ByteArray) : Value := .agg (np x.1 x.2)
/-- notes: a block that holds a map -/
def NotesAt (w : World) (q m : Nat) (N : List (ByteArray × (ByteArray × ByteArray))) : Prop := q < w.heap.size ∧ rowAt w q = #[.map (some m)] ∧ isRow w q = true ∧ Mp encN w m N
theorem NotesAt.call {w w' : World} {q m : Nat} {N : List (ByteArray × (ByteArray × ByteArray))} (h : NotesAt w q m N) (hb : Below w.heap.size w w') : NotesAt w' q m N :=
  ⟨Nat.lt_of_lt_of_le h.1 hb.size, (below_rowAt hb h.1).trans h.2.1, (below_isRow hb h.1).trans h.2.2.1, h.2.2.2.call _ hb⟩
theorem ok_yes (q m : Nat) (w : World) (hg : rowAt w q = #[.map (some m)]) (hi : isRow w q = true) : Calls Tryz.prog 40 #[.pointer (some ⟨q, 0, none⟩)] w fun e w' => e = .returned (.bool true) ∧ Below w.heap.size w w' := by
  have hq := fun w => run_neq_map_nil (P := Tryz.prog) w 76 9 97 (some m) Tryz.underlying76
  go_enter Tryz.func40, Tryz.ntmps40
  go_wp2_with fail
  go_ret
  exact ⟨rfl, Below.refl _ _⟩
theorem new_ideal (q m : Nat) (v w0 w : World) (L : List (Nat × Array Value)) (hg : rowAt w q = #[.map (some m)]) (hi : isRow w q = true) (hC : Sk v w0 L w) : Calls Tryz.prog 9 #[.int .u8 1, .pointer (some ⟨q, 0, none⟩)] w fun e w' => ∃ g, e = .returned (.tuple #[.pointer (some ⟨g, 0, none⟩), .int .i64 0]) ∧ Sk v w0 ((g, br (Br.fresh 1 (.pointer (some ⟨q, 0, none⟩)))) :: L) w' := by
  have HO := Lib.hid (ok_yes q m w hg hi)
  have HC := Lib.hid hC
  clear hC hg hi
  go_enter Tryz.func9, Tryz.ntmps9
  go_wp2_with fail
  refine (HO.out).mono ?_; rintro e w1 ⟨rfl, hw⟩
  have HC := Lib.hid (HC.out.call hw)
  clear hw
  go_wp2_with fail
  rw [fresh_ideal]
  go_ret2
  exact ⟨_, rfl, HC.out.push _ _⟩
theorem new_no (w : World) : Calls Tryz.prog 9 #[.int .u8 1, .pointer none] w fun e w' => e = .returned (.tuple #[.pointer none, .int .i64 1]) ∧ Below w.heap.size w w' := by
  have HC := Lib.hid (St.nil w)
  go_enter Tryz.func9, Tryz.ntmps9
  go_wp2_with fail
  refine (ok_nil _).mono ?_; rintro e w1 ⟨rfl, hw⟩
  have HC := Lib.hid (HC.out.call hw)
  clear hw
  go_wp2_with fail
  go_ret2
  exact ⟨rfl, HC.out.below⟩
theorem new_kind (w : World) : Calls Tryz.prog 9 #[.int .u8 2, .pointer none] w fun e w' => e = .returned (.tuple #[.pointer none, .int .i64 22]) ∧ Below w.heap.size w w' := by
  have HC := Lib.hid (St.nil w)
  go_enter Tryz.func9, Tryz.ntmps9
  go_wp2_with fail
  go_ret2
  exact ⟨rfl, HC.out.below⟩
theorem fork_any (b : Br) (hm : b.md = true) (hn : b.nt.oneCell' = true) (g : Nat) (v w0 w : World) (L : List (Nat × Array Value)) (hC : Sk v w0 ((g, br b) :: L) w) : Calls Tryz.prog 22 #[.pointer (some ⟨g, 0, none⟩)] w fun e w' => ∃ q, e = .returned (.pointer (some ⟨q, 0, none⟩)) ∧ Sk v w0 ((q, br b) :: (g, br b) :: L) w' := by
  have h1 := br_one b hn
  have HC := Lib.hid hC
  clear hC hn
  (obtain ⟨r1, f1, i1, b1, l1⟩ := St.facts1 (HC.out.pick [0] (by decide) rfl))
  go_enter Tryz.func22, Tryz.ntmps22
  go_wp2_with fail
  go_ret
  exact ⟨_, rfl, HC.out.push _ _⟩
theorem Mp.new {α : Type} (enc : α → Value) (w : World) : Mp enc (w.alloc (.map #[] 0)) w.heap.size [] := ⟨#[], 0, (MapKept.heap_alloc w _).1, rfl⟩
theorem newNotes_any (v w0 w : World) (L : List (Nat × Array Value)) (hC : Sk v w0 L w) : Calls Tryz.prog 10 #[] w fun e w' => ∃ q m, e = .returned (.pointer (some ⟨q, 0, none⟩)) ∧ Sk v w0 ((q, #[.map (some m)]) :: L) w' ∧ Mp encN w' m [] ∧ w0.heap.size ≤ m := by
  have hmm := @run_makeMap Tryz.prog
  have HC := Lib.hid hC
  clear hC
  go_enter Tryz.func10, Tryz.ntmps10
  go_wp2_with fail
  go_ret
  exact ⟨_, w.heap.size, rfl, (HC.out.skip (.map #[] 0)).pushA _ _ (by simp), (Mp.new encN w).call _ ((Below.refl _ _).alloc (Nat.le_refl _) _), HC.out.below.size⟩
end Go.Proofs.YtgaecjhghpkcoaaGreat
end

section
namespace Go.Proofs.YtgaecjhghpkcoaaGreat
open Go.RowKit Go.Shelf
attribute [local go_sem] B_xor B_or B_and
attribute [local go_sem] blk_set blk_size blk_get blk_getE upd_same oneCells_blk paste_blk cut_blk szOf
attribute [local go_sem high] paste_all cut_head
attribute [local go_sem] rowAt_alloc rowAt_drew rowAt_drewN isRow_alloc isRow_drew isRow_drewN freeRow_alloc freeRow_end freeRow_drew freeRow_drewN
attribute [local go_sem] setRow_alloc setRow_drew setRow_drewN setCell_drewN alloc_drewN rowAt_put isRow_setRow freeRow_put
attribute [local go_sem ↓] loadS_in storeS_in indexS_in copyS_in
attribute [local go_sem] loadS_row loadS_one storeS_row storeS_one indexS_blk copyS_rows run_equalIn_blk same_refl arrayAt_row
attribute [local go_sem] cell_row frozen_row st_setCell st_blk_ne stepAt stepUpon
attribute [local go_sem high] run_eql_blk run_neq_blk
attribute [local go_sem ↓] convBS_in
attribute [local go_sem] convBS_row convBS_nil allBytes_blk bytesOf_blk

def Tryz.laysRepeat_ren : Go.Shelf.Ren := ⟨fun | 105 => 74 | 212 => 97 | 99 => 98 | 165 => 99 | 166 => 100 | 170 => 101 | 169 => 102 | 263 => 127 | 264 => 128 | 206 => 129 | 240 => 130 | 241 => 131 | 276 => 142 | 277 => 143 | n => n, fun | 9 => 9 | 3 => 3 | 4 => 4 | 20 => 20 | 0 => 0 | 46 => 151 | 109 => 160 | 5 => 5 | 72 => 165 | 76 => 169 | 51 => 137 | 146 => 194 | 53 => 33 | 148 => 196 | 70 => 163 | 37 => 134 | 75 => 168 | 127 => 198 | 164 => 207 | 80 => 111 | n => n, fun | n => n⟩
theorem Tryz.laysRepeat : Go.Proofs.Lays.n105 Tryz.prog Tryz.laysRepeat_ren := {
  mixed := by kernel_rfl
  f99 := Tryz.func98.trans (congrArg some (by kernel_rfl))
  f105 := Tryz.func74.trans (congrArg some (by kernel_rfl))
  f165 := Tryz.func99.trans (congrArg some (by kernel_rfl))
  f166 := Tryz.func100.trans (congrArg some (by kernel_rfl))
  f169 := Tryz.func102.trans (congrArg some (by kernel_rfl))
  f170 := Tryz.func101.trans (congrArg some (by kernel_rfl))
  f206 := Tryz.func129.trans (congrArg some (by kernel_rfl))
  f212 := Tryz.func97.trans (congrArg some (by kernel_rfl))
  f240 := Tryz.func130.trans (congrArg some (by kernel_rfl))
  f241 := Tryz.func131.trans (congrArg some (by kernel_rfl))
  f263 := Tryz.func127.trans (congrArg some (by kernel_rfl))
  f264 := Tryz.func128.trans (congrArg some (by kernel_rfl))
  f276 := Tryz.func142.trans (congrArg some (by kernel_rfl))
  f277 := Tryz.func143.trans (congrArg some (by kernel_rfl))
  t0 := Tryz.underlying0
  a0 := Tryz.isAgg0
  z0 := Tryz.sizeOf0
  v0 := Tryz.zeroValue0
  t3 := Tryz.underlying3
  a3 := Tryz.isAgg3
  z3 := Tryz.sizeOf3
  v3 := Tryz.zeroValue3
  t4 := Tryz.underlying4
  a4 := Tryz.isAgg4
  z4 := Tryz.sizeOf4
  v4 := Tryz.zeroValue4
  t5 := Tryz.underlying5
  a5 := Tryz.isAgg5
  z5 := Tryz.sizeOf5
  v5 := Tryz.zeroValue5
  t9 := Tryz.underlying9
  a9 := Tryz.isAgg9
  z9 := Tryz.sizeOf9
  v9 := Tryz.zeroValue9
  t20 := Tryz.underlying20
  a20 := Tryz.isAgg20
  z20 := Tryz.sizeOf20
  v20 := Tryz.zeroValue20
  t37 := Tryz.underlying134
  a37 := Tryz.isAgg134
  z37 := Tryz.sizeOf134
  v37 := Tryz.zeroValue134
  t46 := Tryz.underlying151
  a46 := Tryz.isAgg151
  z46 := Tryz.sizeOf151
  v46 := Tryz.zeroValue151
  t51 := Tryz.underlying137
  a51 := Tryz.isAgg137
  z51 := Tryz.sizeOf137
  v51 := Tryz.zeroValue137
  t53 := Tryz.underlying33
  a53 := Tryz.isAgg33
  z53 := Tryz.sizeOf33
  v53 := Tryz.zeroValue33
  t70 := Tryz.underlying163
  a70 := Tryz.isAgg163
  z70 := Tryz.sizeOf163
  v70 := Tryz.zeroValue163
  t72 := Tryz.underlying165
  a72 := Tryz.isAgg165
  z72 := Tryz.sizeOf165
  v72 := Tryz.zeroValue165
  t75 := Tryz.underlying168
  a75 := Tryz.isAgg168
  z75 := Tryz.sizeOf168
  v75 := Tryz.zeroValue168
  t76 := Tryz.underlying169
  a76 := Tryz.isAgg169
  z76 := Tryz.sizeOf169
  v76 := Tryz.zeroValue169
  t109 := Tryz.underlying160
  a109 := Tryz.isAgg160
  z109 := Tryz.sizeOf160
  v109 := Tryz.zeroValue160
  t127 := Tryz.underlying198
  a127 := Tryz.isAgg198
  z127 := Tryz.sizeOf198
  v127 := Tryz.zeroValue198
  t146 := Tryz.underlying194
  a146 := Tryz.isAgg194
  z146 := Tryz.sizeOf194
  v146 := Tryz.zeroValue194
  t148 := Tryz.underlying196
  a148 := Tryz.isAgg196
  z148 := Tryz.sizeOf196
  v148 := Tryz.zeroValue196
  t164 := Tryz.underlying207
  a164 := Tryz.isAgg207
  z164 := Tryz.sizeOf207
  v164 := Tryz.zeroValue207 }

theorem extraB : Builder.Extra Tryz.prog Tryz.laysRepeat_ren := {
  sizeBuilder := by kernel_rfl
  liesBuilder := by kernel_rfl
  t5 := Tryz.laysRepeat.t5
  a5 := Tryz.laysRepeat.a5
  z5 := Tryz.laysRepeat.z5
  v5 := Tryz.laysRepeat.v5
  infoByte := by kernel_rfl
  cellsByte := by kernel_rfl
  sizeByte := by kernel_rfl
  neB5 := by decide }
theorem repeat_list : ∀ n, Lib.repeatL [0] n = List.replicate n (0 : UInt8)
  | 0 => rfl
  | n + 1 => by
    have ih := repeat_list n
    show [0] ++ Lib.repeatL [0] n = _
    rw [ih]; rfl
theorem repeat_zero (n : Nat) : (⟨(Lib.repeatL [0] n).toArray⟩ : ByteArray) = nilS n := by
  rw [repeat_list]
  unfold nilS strOf
  congr 1
  apply Array.ext_getElem?
  intro i
  rw [List.getElem?_toArray, List.getElem?_toArray, List.getElem?_replicate, List.getElem?_map]
  by_cases h : i < n <;> simp [h]
theorem repeat_any (n : Nat) (h : n ≤ 2 ^ 40) (w : World) : Calls Tryz.prog 74 #[.string ⟨#[0]⟩, .int .i64 (n : Int)] w fun e w' => e = .returned (.string (nilS n)) ∧ Below w.heap.size w w' := by
  have h1 := Any.strings_Repeat Tryz.laysRepeat extraB ⟨#[0]⟩ n w (by omega) (by show 1 * n ≤ _; omega)
  rw [show (⟨#[0]⟩ : ByteArray).data.toList = [0] from rfl, repeat_zero] at h1
  exact h1
theorem blank_any (s : ByteArray) (h : s.size ≤ 2 ^ 39) (w : World) : Calls Tryz.prog 46 #[.string s] w fun e w' => e = .returned (.string (nilS (s.size + 16))) ∧ Below w.heap.size w w' := by
  have t1 : ∀ w, Calls Tryz.prog 74 #[.string ⟨#[0]⟩, .int .i64 ((s.size : Int) + 16)] w fun e w' => e = .returned (.string (nilS (s.size + 16))) ∧ Below w.heap.size w w' := fun w => repeat_any (s.size + 16) (by omega) w
  have T1 := Lib.hid t1
  have n1 : (s.size : Int) ≤ 549755813888 := by omega
  clear t1
  have HC := Lib.hid (St.nil w)
  go_enter Tryz.func46, Tryz.ntmps46
  go_wp2_with fail
  refine (T1.out _).mono ?_; rintro e w1 ⟨rfl, hw⟩
  have HC := Lib.hid (HC.out.call hw)
  clear hw
  go_wp2_with fail
  go_ret
  exact ⟨rfl, HC.out.below⟩
end Go.Proofs.YtgaecjhghpkcoaaGreat
end

section
namespace Go.Proofs.YtgaecjhghpkcoaaGreat
open Go.RowKit
attribute [local go_sem] B_xor B_or B_and
attribute [local go_sem] blk_set blk_size blk_get blk_getE upd_same oneCells_blk paste_blk cut_blk szOf
attribute [local go_sem high] paste_all cut_head
attribute [local go_sem] rowAt_alloc rowAt_drew rowAt_drewN isRow_alloc isRow_drew isRow_drewN freeRow_alloc freeRow_end freeRow_drew freeRow_drewN
attribute [local go_sem] setRow_alloc setRow_drew setRow_drewN setCell_drewN alloc_drewN rowAt_put isRow_setRow freeRow_put
attribute [local go_sem ↓] loadS_in storeS_in indexS_in copyS_in
attribute [local go_sem] loadS_row loadS_one storeS_row storeS_one indexS_blk copyS_rows run_equalIn_blk same_refl arrayAt_row
attribute [local go_sem] cell_row frozen_row st_setCell st_blk_ne stepAt stepUpon
attribute [local go_sem high] run_eql_blk run_neq_blk
attribute [local go_sem ↓] convBS_in
attribute [local go_sem] convBS_row convBS_nil allBytes_blk bytesOf_blk
attribute [local go_sem] rg_size rg_get0 rg_getE0 rg_ne rg_set0 rg_one rg_cut rg_key rg_put rg_paste part_rg0 part_rg1
attribute [local go_sem] size_cn agg_cn cn_size cn_get0 cn_get1 cn_getE0 cn_getE1 cn_set0 cn_set1 cn_ne cn_one cn_cut cn_paste
attribute [local go_sem] br_size br_get0 br_get1 br_get2 br_getE0 br_getE1 br_getE2 br_ne br_ring br_count br_whole br_put_ring br_put_count br_paste br_one size_br agg_br

attribute [local go_sem] size_np agg_np np_size np_get0 np_get1 np_getE0 np_getE1 np_ne np_one np_cut np_paste
/-- all maps of v but one are as they were -/
def Mo (m : Nat) (v w : World) : Prop := ∀ (k : Nat) (es : Array MapEntry) (c : Nat), k ≠ m → v.heap[k]? = some (Obj.map es c) → w.heap[k]? = some (Obj.map es c)
theorem Mp.mo {α : Type} {enc : α → Value} {v w : World} {k m : Nat} {N : List (ByteArray × α)} (h : Mp enc v k N) (hm : Mo m v w) (hk : k ≠ m) : Mp enc w k N := by
  obtain ⟨es, c, h1, h2⟩ := h
  exact ⟨es, c, hm k es c hk h1, h2⟩
set_option maxRecDepth 100000 in
set_option maxHeartbeats 2000000 in
theorem put_ideal (b : Br) (hm : b.md = true) (hkd : b.kd = 1) (h6 : b.n ≤ 6) (hE : takeE b = 0) (q m : Nat) (hnt : b.nt = .pointer (some ⟨q, 0, none⟩)) (N : List (ByteArray × (ByteArray × ByteArray))) (p t : ByteArray) (ht : t.size < 2 ^ 39) (g : Nat) (v w0 w : World) (L : List (Nat × Array Value)) (hC : Sk v w0 ((g, br b) :: (q, #[.map (some m)]) :: L) w) (hM : Mp encN v m N) (h0 : w0.heap.size ≤ m) :
    Calls Tryz.prog 23 #[.pointer (some ⟨g, 0, none⟩), .string p, .string t] w fun r w' => r = .returned (.tuple #[.string (headS b.n (nonceS b.e b.c) ++ nilS (t.size + 16)), .int .i64 0]) ∧ Mo m v w' ∧ Mp encN w' m (putN (nonceS b.e b.c) (p, t) N) ∧ Sk w' w0 ((g, br { b with c := b.c + 1 }) :: (q, #[.map (some m)]) :: L) w' := by
  have HC := Lib.hid hC
  have HT := Lib.hid (take_sk b hm g v w0 w _ hC)
  have hn1 := takeE_n hE
  have hkI : ((b.kd : Int) == 1) = true := by rw [hkd]; rfl
  clear hC
  have e1 : takeS b = nonceS b.e b.c := by unfold takeS; rw [if_pos hE]
  have e2 : b.took = { b with c := b.c + 1 } := by unfold Br.took; rw [if_pos hE]
  rw [e1, e2, hE] at HT
  clear e1 e2 hE hm hkd
  have T2 := Lib.hid (blank_any t (by omega))
  have T3 := Lib.hid (fun w => head_any b.n h6 (nonceS b.e b.c) (by rw [nonceS_size]; omega) w)
  obtain ⟨SR, hSR⟩ : ∃ SR, nilS (t.size + 16) = SR := ⟨_, rfl⟩
  have hsr : SR.size = t.size + 16 := by rw [← hSR]; exact strOf_size _ _
  obtain ⟨HS, hHS⟩ : ∃ HS, headS b.n (nonceS b.e b.c) = HS := ⟨_, rfl⟩
  have hhs : HS.size = 16 := by rw [← hHS]; unfold headS; rw [ByteArray.size_append, strOf_size, nonceS_size]
  have hsz : HS.size + SR.size ≤ 9223372036854775807 := by omega
  rw [hSR] at T2 ⊢
  rw [hHS] at T3 ⊢
  clear hSR hHS hsr hhs h6 hn1 ht
  go_enter Tryz.func23, Tryz.ntmps23
  go_wp2_with fail
  refine HT.out.mono ?_; rintro r w1 ⟨rfl, hC⟩
  have HC := Lib.hid hC
  clear hC
  (obtain ⟨⟨r1, f1, i1, b1, l1⟩, ⟨r2, f2, i2, b2, l2⟩, m12, m21⟩ := St.facts2 (HC.out.pick [0, 1] (by decide) rfl))
  go_wp2_with fail
  (clear r1 f1 i1 b1 l1 r2 f2 i2 b2 l2 m12 m21)
  refine (term_any b.n b.f _).mono ?_; rintro e w2 ⟨rfl, hw⟩
  have HC := Lib.hid (HC.out.call hw)
  clear hw
  (obtain ⟨⟨r1, f1, i1, b1, l1⟩, ⟨r2, f2, i2, b2, l2⟩, m12, m21⟩ := St.facts2 (HC.out.pick [0, 1] (by decide) rfl))
  go_wp2_with fail
  (clear r1 f1 i1 b1 l1 r2 f2 i2 b2 l2 m12 m21)
  obtain ⟨w3, hmu, hbut, hmp⟩ := run_update_text (P := Tryz.prog) encN 76 9 97 Tryz.underlying76 Tryz.underlying9 (hM.mk encN HC.out.kept) (nonceS b.e b.c) (p, t)
  have hmo : Mo m v w3 := fun k es c hk hv => (hbut.block k hk).trans (HC.out.kept k es c hv)
  have HC := Lib.hid (St.sk (HC.out.toSt.but hbut h0 (hM.mk encN HC.out.kept).row))
  have HM := Lib.hid (And.intro hmo hmp)
  unfold encN np at hmu
  rw [hmu]
  clear hbut hmo hmp hmu hM
  (obtain ⟨⟨r1, f1, i1, b1, l1⟩, ⟨r2, f2, i2, b2, l2⟩, m12, m21⟩ := St.facts2 (HC.out.pick [0, 1] (by decide) rfl))
  simp only [Result.andThen]
  go_wp2_with fail
  (clear r1 f1 i1 b1 l1 r2 f2 i2 b2 l2 m12 m21)
  refine (T3.out _).mono ?_; rintro e w4 ⟨rfl, hw⟩
  have HC := Lib.hid (HC.out.call hw)
  clear hw
  (obtain ⟨⟨r1, f1, i1, b1, l1⟩, ⟨r2, f2, i2, b2, l2⟩, m12, m21⟩ := St.facts2 (HC.out.pick [0, 1] (by decide) rfl))
  go_wp2_with fail
  (clear r1 f1 i1 b1 l1 r2 f2 i2 b2 l2 m12 m21)
  refine (T2.out _).mono ?_; rintro e w5 ⟨rfl, hw⟩
  have HC := Lib.hid (HC.out.call hw)
  clear hw
  (obtain ⟨⟨r1, f1, i1, b1, l1⟩, ⟨r2, f2, i2, b2, l2⟩, m12, m21⟩ := St.facts2 (HC.out.pick [0, 1] (by decide) rfl))
  go_wp2_with fail
  go_ret2
  exact ⟨rfl, fun k es c hk hv => HC.out.kept k es c (HM.out.1 k es c hk hv), HM.out.2.mk encN HC.out.kept, HC.out.base⟩
/-- what a look-up tells -/
theorem run_lookup_note {w : World} {m : Nat} {N : List (ByteArray × (ByteArray × ByteArray))} (hM : Mp encN w m N) (k : ByteArray) :
    (Instr.lookup 76 (.map (some m)) (.string k) true).run Tryz.prog w = .ok (.tuple #[((findN k N).map encN).getD (.agg (np ⟨#[]⟩ ⟨#[]⟩)), .bool (findN k N).isSome]) w :=
  run_lookup_text (P := Tryz.prog) encN 76 9 97 Tryz.underlying76 Tryz.underlying9 _ (by simp [go_sem]; rfl) hM k
set_option maxRecDepth 100000 in
set_option maxHeartbeats 2000000 in
theorem get_ideal (b : Br) (hm : b.md = true) (hkd : b.kd = 1) (hn : b.n ≠ 0) (h6 : b.n ≤ 6) (q m : Nat) (hnt : b.nt = .pointer (some ⟨q, 0, none⟩)) (N : List (ByteArray × (ByteArray × ByteArray))) (p s : ByteArray) (h : 32 ≤ s.size) (hs : s.size < 2 ^ 40) (ht : ¬ (numAt s 0 4 < 1 ∨ b.n < numAt s 0 4)) (X : Option (ByteArray × ByteArray)) (hX : findN (s.extract 4 16) N = X) (hXs : ∀ q t, X = some (q, t) → t.size ≤ 2 ^ 39) (g : Nat) (v w0 w : World) (L : List (Nat × Array Value)) (hC : Sk v w0 ((g, br b) :: (q, #[.map (some m)]) :: L) w) (hM : Mp encN v m N) :
    Calls Tryz.prog 12 #[.pointer (some ⟨g, 0, none⟩), .string p, .string s] w fun r w' => r = .returned (.tuple #[.string (idealR X p (s.extract 16 s.size)).1, .int .i64 (((idealR X p (s.extract 16 s.size)).2 : Nat) : Int)]) ∧ Below w.heap.size w w' := by
  have hz := zero16
  have hz4 := np_zero
  have HS := Lib.hid (state_made b hm g w0 w _ hC.toSt 0 (.inr ⟨hn, rfl⟩))
  have T1 := Lib.hid (parts_any s h hs)
  have T2 := Lib.hid (key_yes b.n b.f (numAt s 0 4) (numAt s 0 4 - 1) (by omega) (by omega) h6)
  have hkI : ((b.kd : Int) != 1) = false := by rw [hkd]; rfl
  obtain ⟨T, hT⟩ : ∃ T, numAt s 0 4 = T := ⟨_, rfl⟩
  obtain ⟨nn, hnn⟩ : ∃ nn, s.extract 4 16 = nn := ⟨_, rfl⟩
  obtain ⟨rest, hrest⟩ : ∃ r, s.extract 16 s.size = r := ⟨_, rfl⟩
  rw [hT] at T1 T2
  rw [hnn] at T1 hX
  rw [hrest] at T1 ⊢
  have HB := Lib.hid hC
  have HC := Lib.hid (St.nil w)
  have HX := Lib.hid hXs
  have HE := Lib.hid hX
  obtain ⟨R, hR⟩ : ∃ R, idealR X p rest = R := ⟨_, rfl⟩
  rw [hR]
  have HR := Lib.hid hR
  clear hC hm hn hs h ht hT hkd hnn hrest hX hXs hR
  go_enter Tryz.func12, Tryz.ntmps12
  go_wp2_with fail
  refine HS.out.mono ?_; rintro e w1 ⟨rfl, hw⟩
  have HB := Lib.hid (HB.out.call hw)
  have HC := Lib.hid (HC.out.call hw)
  clear hw
  go_wp2_with fail
  refine (T1.out _).mono ?_; rintro e w2 ⟨rfl, hw⟩
  have HB := Lib.hid (HB.out.call hw)
  have HC := Lib.hid (HC.out.call hw)
  clear hw
  obtain ⟨r1, f1, i1, b1, l1⟩ := St.facts1 (HB.out.pick [0] (by decide) rfl)
  go_wp2_with fail
  refine (T2.out _).mono ?_; rintro e w3 ⟨rfl, hw⟩
  have HB := Lib.hid ((HB.out.call hw).skip (.cells (blk 16 (keyB b.f (T - 1))) 41))
  have HC := Lib.hid ((HC.out.call hw).push (blk 16 (keyB b.f (T - 1))) 41)
  clear hw r1 f1 i1 b1 l1
  have hlk := run_lookup_note (hM.mk encN HB.out.kept) nn
  rw [HE.out] at hlk
  obtain ⟨⟨r1, f1, i1, b1, l1⟩, ⟨r2, f2, i2, b2, l2⟩, m12, m21⟩ := St.facts2 (HB.out.pick [0, 1] (by decide) rfl)
  rcases X with _ | ⟨q', t'⟩
  · clear HX
    obtain rfl := HR.out
    simp only [Option.map_none, Option.getD_none, Option.isSome_none] at hlk
    go_wp2_with fail
    go_ret2
    refine ⟨rfl, ?_⟩
    exact (HC.out.skip _).below
  · simp only [Option.map_some, Option.getD_some, Option.isSome_some, encN] at hlk
    have T3 := Lib.hid (blank_any t' (HX.out q' t' rfl))
    by_cases hq : q' = p
    · subst hq
      have hs1 := text_same q'
      by_cases hr : rest = nilS (t'.size + 16)
      · have hs2 : (rest.toList == (nilS (t'.size + 16)).toList) = true := by rw [hr]; exact text_same _
        have he : idealR (some (q', t')) q' rest = (t', 0) := by unfold idealR; rw [hr]; exact if_pos ⟨rfl, rfl⟩
        have HR := Lib.hid (he.symm.trans HR.out)
        clear hr he
        go_wp2_with fail
        have HC := Lib.hid (HC.out.pushA (np q' t') 97 (g := w3.heap.size + 1) (by simp))
        refine (T3.out _).mono ?_; rintro e w4 ⟨rfl, hw⟩
        have HC := Lib.hid (HC.out.call hw)
        clear hw
        (obtain ⟨⟨r1, f1, i1, b1, l1⟩, ⟨r2, f2, i2, b2, l2⟩, m12, m21⟩ := St.facts2 (HC.out.pick [0, 1] (by decide) rfl))
        go_wp2_with fail
        go_ret2
        obtain rfl := HR.out
        exact ⟨rfl, HC.out.below⟩
      · have hs2 := text_ne hr
        have he : idealR (some (q', t')) q' rest = (⟨#[]⟩, 11) := by unfold idealR; exact if_neg fun h => hr h.2
        have HR := Lib.hid (he.symm.trans HR.out)
        clear hr he
        go_wp2_with fail
        refine (T3.out _).mono ?_; rintro e w4 ⟨rfl, hw⟩
        have HC := Lib.hid ((HC.out.skip _).call hw)
        clear hw
        go_wp2_with fail
        go_ret2
        obtain rfl := HR.out
        exact ⟨rfl, HC.out.below⟩
    · have hs1 := text_ne hq
      have he : idealR (some (q', t')) p rest = (⟨#[]⟩, 11) := by unfold idealR; exact if_neg fun h => hq h.1
      have HR := Lib.hid (he.symm.trans HR.out)
      clear hq he
      go_wp2_with fail
      go_ret2
      obtain rfl := HR.out
      exact ⟨rfl, (HC.out.skip _).below⟩
end Go.Proofs.YtgaecjhghpkcoaaGreat
end

section
namespace Go.Proofs.YtgaecjhghpkcoaaGreat
open Go.RowKit

/-! ### plain -/
theorem ofText_lead (a b : ByteArray) (i : Nat) (h : i < a.size) : ofText (a ++ b) i = ofText a i := by
  have h' : i < a.data.size := h
  unfold ofText
  rw [ByteArray.data_append, Array.getD_eq_getD_getElem?, Array.getD_eq_getD_getElem?, Array.getElem?_append_left h']
theorem strS_again (r v : Nat → UInt8) (n : Nat) (s : ByteArray) : strS r v n (strS r v n s) = s := by
  unfold strS
  rw [strOf_size]
  refine (strOf_congr fun i hi => ?_).trans (strOf_ofText s s.size rfl)
  unfold strB
  rw [ofText_strOf _ _ _ hi, UInt8.xor_assoc, UInt8.xor_self, UInt8.xor_zero]
theorem extract_mid (A B C : ByteArray) (a b : Nat) (ha : A.size = a) (hb : a + B.size = b) : (A ++ B ++ C).extract a b = B := by
  apply ByteArray.ext
  rw [ByteArray.data_extract, ByteArray.data_append, ByteArray.data_append]
  have ha' : A.data.size = a := ha
  have hb' : a + B.data.size = b := hb
  have s2 : (A.data ++ B.data).size = A.data.size + B.data.size := by simp only [Array.size_append]
  have s3 : (A.data ++ B.data ++ C.data).size = A.data.size + B.data.size + C.data.size := by simp only [Array.size_append]
  apply Array.ext_getElem?
  intro i
  rw [Array.getElem?_extract]
  by_cases h : i < B.data.size
  · rw [if_pos (by omega), Array.getElem?_append_left (by omega), Array.getElem?_append_right (by omega)]
    congr 1; omega
  · rw [if_neg (by omega), Array.getElem?_eq_none (by omega)]
theorem extract_end (A B : ByteArray) (a b : Nat) (ha : A.size = a) (hb : a + B.size = b) : (A ++ B).extract a b = B := by
  have h := extract_mid A B ⟨#[]⟩ a b ha hb
  have e : A ++ B ++ (⟨#[]⟩ : ByteArray) = A ++ B := by
    apply ByteArray.ext
    rw [ByteArray.data_append]
    exact Array.append_empty
  rwa [e] at h
theorem be4 (t : Nat) (h : t < 4294967296) : numTo (beB t 4) 4 = t := by
  simp only [numTo, beB, UInt8.toNat_ofNat', Nat.reducePow, Nat.reduceSub, Nat.reduceMul, Nat.pow_zero, Nat.div_one]
  omega
theorem be6 (t : Nat) (h : t < 281474976710656) : numTo (beB t 6) 6 = t := by
  simp only [numTo, beB, UInt8.toNat_ofNat', Nat.reducePow, Nat.reduceSub, Nat.reduceMul, Nat.pow_zero, Nat.div_one]
  omega
theorem headS_size (t : Nat) (n : ByteArray) : (headS t n).size = 4 + n.size := by unfold headS; rw [ByteArray.size_append, strOf_size]
section
variable (t : Nat) (n X : ByteArray) (hn : n.size = 12)
include hn
theorem entry_size : (headS t n ++ X).size = 16 + X.size := by rw [ByteArray.size_append, headS_size, hn]
theorem entry_nonce : (headS t n ++ X).extract 4 16 = n := by
  unfold headS
  exact extract_mid _ _ _ 4 16 (strOf_size _ _) (by omega)
theorem entry_rest : (headS t n ++ X).extract 16 (headS t n ++ X).size = X := by
  rw [entry_size t n X hn]
  exact extract_end _ _ 16 _ (by rw [headS_size, hn]) rfl
omit hn in
theorem entry_term (ht : t < 4294967296) : numAt (headS t n ++ X) 0 4 = t := by
  unfold numAt
  refine (numTo_congr (c := beB t 4) fun i hi => ?_).trans (be4 t ht)
  rw [Nat.zero_add, ofText_lead _ _ _ (by rw [headS_size]; omega)]
  unfold headS
  rw [ofText_lead _ _ _ (by rw [strOf_size]; omega), ofText_strOf _ _ _ hi]
end
theorem openR_own (k : Nat → UInt8) (nn a t : ByteArray) : openR k nn a (sealS (Ci.rounds k) (ofText nn) a t) = (t, 0) := by
  unfold openR
  rw [if_pos (tagged_own _ _ _ _), cut_seal, strS_again]

/-! ### a ring's text -/
def parseR (t : ByteArray) : Option (Nat × (Nat → UInt8)) :=
  if t.size = 0 then none else if (ofText t 0).toNat < 1 ∨ 6 < (ofText t 0).toNat then none else if t.size ≠ 1 + (ofText t 0).toNat * 16 then none else some ((ofText t 0).toNat, parseB (t.extract 1 t.size) ((ofText t 0).toNat * 16))
theorem parseR_n {t : ByteArray} {n : Nat} {f : Nat → UInt8} (h : parseR t = some (n, f)) : 1 ≤ n ∧ n ≤ 6 := by
  unfold parseR at h
  split at h
  · cases h
  · split at h
    · cases h
    · split at h
      · cases h
      · rename_i h1 _
        have := congrArg Prod.fst (Option.some.inj h)
        simp only at this
        omega
/-- both take the same ring of a text, or none -/
theorem parse_both (t : ByteArray) (hs : t.size < 2 ^ 40) : (∃ d : Nat, parseR t = none ∧ 1 ≤ d ∧ (∀ w, Calls Tryz.prog 61 #[.string t] w fun e w' => e = .returned (.tuple #[.agg (rg 0 fun _ => 0), .int .i64 (d : Int)]) ∧ Below w.heap.size w w') ∧
      ∀ w, Calls Tryz.prog 63 #[.string t] w fun e w' => e = .returned (.tuple #[.slice none 0 0, .int .i64 (d : Int)]) ∧ Below w.heap.size w w') ∨
    ∃ (n : Nat) (f : Nat → UInt8), parseR t = some (n, f) ∧ (∀ w, Calls Tryz.prog 61 #[.string t] w fun e w' => e = .returned (.tuple #[.agg (rg n f), .int .i64 0]) ∧ Below w.heap.size w w') ∧
      ∀ w0 w L, St w0 L w → Calls Tryz.prog 63 #[.string t] w (Keyed w0 L n f) := by
  unfold parseR
  by_cases h0 : t.size = 0
  · rw [if_pos h0]
    exact .inl ⟨3, rfl, by omega, fun w => parse_empty t h0 w, fun w => refParse_empty t h0 w⟩
  · rw [if_neg h0]
    obtain ⟨N, hN⟩ : ∃ N, (ofText t 0).toNat = N := ⟨_, rfl⟩
    rw [hN]
    by_cases h1 : N < 1 ∨ 6 < N
    · rw [if_pos h1]
      exact .inl ⟨4, rfl, by omega, fun w => parse_form t N (by omega) hN hs h1 w, fun w => refParse_form t N (by omega) hN h1 w⟩
    · rw [if_neg h1]
      by_cases h2 : t.size = 1 + N * 16
      · rw [if_neg (fun h => h h2)]
        exact .inr ⟨N, _, rfl, fun w => parse_ok t _ N (by omega) hN (by omega) (by omega) h2 rfl w, fun w0 w L hC => refParse_ok t _ N (by omega) hN (by omega) (by omega) h2 rfl w0 w L hC⟩
      · rw [if_pos h2]
        rcases Nat.lt_or_gt_of_ne h2 with h3 | h3
        · exact .inl ⟨3, rfl, by omega, fun w => parse_size t N 3 (by omega) hN hs (by omega) (by omega) (.inl ⟨h3, rfl⟩) w, fun w => refParse_size t N 3 (by omega) hN (by omega) (by omega) (.inl ⟨h3, rfl⟩) w⟩
        · exact .inl ⟨4, rfl, by omega, fun w => parse_size t N 4 (by omega) hN hs (by omega) (by omega) (.inr ⟨h3, rfl⟩) w, fun w => refParse_size t N 4 (by omega) hN (by omega) (by omega) (.inr ⟨h3, rfl⟩) w⟩
theorem parseR_back (n : Nat) (f : Nat → UInt8) (h1 : 1 ≤ n) (h6 : n ≤ 6) : parseR (ringT n f) = some (n, parseB ((ringT n f).extract 1 (ringT n f).size) (n * 16)) := by
  have hN : (ofText (ringT n f) 0).toNat = n := by
    unfold ringT
    rw [ofText_strOf _ _ _ (by omega)]
    unfold ringB glue
    rw [if_pos (by omega), UInt8.toNat_ofNat_of_lt' (by have : UInt8.size = 256 := rfl; omega)]
  unfold parseR
  rw [if_neg (by rw [ringT_size]; omega), hN, if_neg (by omega), if_neg (by rw [ringT_size]; omega)]

/-! ### Unlock -/
def ringW : ByteArray := ⟨#[114, 105, 110, 103]⟩
theorem ringW_size : ringW.size < 2 ^ 40 := by decide
/-- the ring of an entry, and why there is none -/
def unlockR (m : Nat → UInt8) (s : ByteArray) : Nat × (Nat → UInt8) × Nat :=
  if s.size < 32 then (0, fun _ => 0, 3) else if numAt s 0 4 ≠ 0 then (0, fun _ => 0, 4) else
    if (openR m (s.extract 4 16) ringW (s.extract 16 s.size)).2 ≠ 0 then (0, fun _ => 0, (openR m (s.extract 4 16) ringW (s.extract 16 s.size)).2) else
      match parseR (openR m (s.extract 4 16) ringW (s.extract 16 s.size)).1 with
      | none => (0, fun _ => 0, 4)
      | some (n, f) => (n, f, 0)
theorem openRef_at (k : Nat → UInt8) (nn a s : ByteArray) (ha : a.size < 2 ^ 40) (hs : s.size < 2 ^ 40) (h : nn.size = 12) (hl : 16 ≤ s.size) (w : World) : Calls Tryz.prog 48 #[.agg (blk 16 k), .string nn, .string a, .string s] w fun e w' => e = .returned (.tuple #[.string (openR k nn a s).1, .int .i64 (((openR k nn a s).2 : Nat) : Int)]) ∧ Below w.heap.size w w' := by
  unfold openR
  split
  · rename_i hk; exact refOpen09_full k nn a s ha hs h hl true hk _ 0 (.inl ⟨rfl, rfl, rfl⟩) w
  · rename_i hk; exact refOpen09_full k nn a s ha hs h hl false (by simpa using hk) _ 11 (.inr ⟨rfl, rfl, rfl⟩) w
theorem openR_size (k : Nat → UInt8) (nn a s : ByteArray) : (openR k nn a s).1.size ≤ s.size := by
  unfold openR
  split
  · show (strS _ _ 2 (cutS s)).size ≤ _
    rw [show (strS (Ci.rounds k) (ofText nn) 2 (cutS s)).size = (cutS s).size from strOf_size _ _]
    unfold cutS; rw [ByteArray.size_extract]; omega
  · exact Nat.zero_le _
theorem unlock_any (m : Nat → UInt8) (s : ByteArray) (hs : s.size < 2 ^ 40) (w : World) : Calls Tryz.prog 30 #[.agg (blk 16 m), .string s] w fun e w' => e = .returned (.tuple #[.agg (rg (unlockR m s).1 (unlockR m s).2.1), .int .i64 (((unlockR m s).2.2 : Nat) : Int)]) ∧ Below w.heap.size w w' := by
  unfold unlockR
  by_cases h : s.size < 32
  · rw [if_pos h]; exact unlock_short m s h w
  · rw [if_neg h]
    by_cases ht : numAt s 0 4 = 0
    · rw [if_neg (fun k => k ht)]
      have hO : OpensTo m s (openR m (s.extract 4 16) ringW (s.extract 16 s.size)).1 (openR m (s.extract 4 16) ringW (s.extract 16 s.size)).2 := fun w => openR_at m _ ringW _ ringW_size (by rw [ByteArray.size_extract]; omega) (by rw [ByteArray.size_extract]; omega) (by rw [ByteArray.size_extract]; omega) w
      have hz := openR_size m (s.extract 4 16) ringW (s.extract 16 s.size)
      rw [show (s.extract 16 s.size).size = s.size - 16 by rw [ByteArray.size_extract]; omega] at hz
      obtain ⟨⟨R, E⟩, hRE⟩ : ∃ x, openR m (s.extract 4 16) ringW (s.extract 16 s.size) = x := ⟨_, rfl⟩
      rw [hRE] at hO hz ⊢
      simp only at hO hz ⊢
      by_cases hE : E = 0
      · subst hE
        rw [if_neg (fun k => k rfl)]
        rcases parse_both R (by omega) with ⟨d, e1, e2, e3, _⟩ | ⟨n, f, e1, e2, _⟩
        · rw [e1]; exact unlock_form m s R d (by omega) hs ht hO e2 e3 w
        · rw [e1]; exact unlock_ok m s R n f (by omega) hs ht hO e2 w
      · rw [if_pos hE]
        exact unlock_key m s R E (by omega) hs ht hE hO w
    · rw [if_pos ht]; exact unlock_term m s (by omega) hs ht w
/-- a list of keys that is handed back with an error -/
def KeysE (w0 : World) (L : List (Nat × Array Value)) (n : Nat) (f : Nat → UInt8) (E : Nat) (e : Ending) (w : World) : Prop := ∃ v, e = .returned (.tuple #[v, .int .i64 (E : Int)]) ∧ Out16 w0 L v n f w
theorem refUnlock_any (m : Nat → UInt8) (s : ByteArray) (hs : s.size < 2 ^ 40) (w0 w : World) (L : List (Nat × Array Value)) (hC : St w0 L w) : Calls Tryz.prog 33 #[.agg (blk 16 m), .string s] w (KeysE w0 L (unlockR m s).1 (unlockR m s).2.1 (unlockR m s).2.2) := by
  have hno : ∀ (E : Nat) (e : Ending) (w' : World), (e = .returned (.tuple #[.slice none 0 0, .int .i64 (E : Int)]) ∧ Below w.heap.size w w') → KeysE w0 L 0 (fun _ => 0) E e w' := fun E e w' h => ⟨_, h.1, .inl ⟨rfl, rfl, hC.call h.2⟩⟩
  unfold unlockR
  by_cases h : s.size < 32
  · rw [if_pos h]; exact (refUnlock_short m s h w).mono (hno 3)
  · rw [if_neg h]
    by_cases ht : numAt s 0 4 = 0
    · rw [if_neg (fun k => k ht)]
      have hO : OpensRef m s (openR m (s.extract 4 16) ringW (s.extract 16 s.size)).1 (openR m (s.extract 4 16) ringW (s.extract 16 s.size)).2 := fun w => openRef_at m _ ringW _ ringW_size (by rw [ByteArray.size_extract]; omega) (by rw [ByteArray.size_extract]; omega) (by rw [ByteArray.size_extract]; omega) w
      have hz := openR_size m (s.extract 4 16) ringW (s.extract 16 s.size)
      rw [show (s.extract 16 s.size).size = s.size - 16 by rw [ByteArray.size_extract]; omega] at hz
      obtain ⟨⟨R, E⟩, hRE⟩ : ∃ x, openR m (s.extract 4 16) ringW (s.extract 16 s.size) = x := ⟨_, rfl⟩
      rw [hRE] at hO hz ⊢
      simp only at hO hz ⊢
      by_cases hE : E = 0
      · subst hE
        rw [if_neg (fun k => k rfl)]
        rcases parse_both R (by omega) with ⟨d, e1, e2, _, e3⟩ | ⟨n, f, e1, _, e2⟩
        · rw [e1]; exact (refUnlock_form m s R d (by omega) ht hO e2 e3 w).mono (hno 4)
        · rw [e1]
          refine (refUnlock_ok m s R n f (by omega) ht hO w0 w L (fun w L h => e2 w0 w L h) hC).mono ?_
          rintro e w' ⟨g, c, F, rfl, h1, h2, h3⟩
          exact ⟨_, rfl, .inr ⟨g, c, F, rfl, h1, h2, h3⟩⟩
      · rw [if_pos hE]
        exact (refUnlock_key m s R E (by omega) ht hE hO w).mono (hno E)
    · rw [if_pos ht]; exact (refUnlock_term m s (by omega) ht w).mono (hno 4)
theorem unlock_back (m : Nat → UInt8) (n : Nat) (f : Nat → UInt8) (e c : Nat) (h1 : 1 ≤ n) (h6 : n ≤ 6) : unlockR m (headS 0 (nonceS e c) ++ sealedR m n f e c) = (n, parseB ((ringT n f).extract 1 (ringT n f).size) (n * 16), 0) := by
  have hn := nonceS_size e c
  unfold unlockR
  rw [if_neg (by rw [entry_size 0 _ _ hn]; unfold sealedR; rw [sealS_size, ringT_size]; omega), if_neg (fun h => h (entry_term 0 _ _ (by omega))), entry_nonce 0 _ _ hn, entry_rest 0 _ _ hn]
  unfold sealedR
  rw [show (⟨#[114, 105, 110, 103]⟩ : ByteArray) = ringW from rfl, openR_own]
  simp only [ne_eq, not_true_eq_false, if_false]
  rw [parseR_back n f h1 h6]
end Go.Proofs.YtgaecjhghpkcoaaGreat
end

section
namespace Go.Proofs.YtgaecjhghpkcoaaGreat
open Go.RowKit
attribute [local go_sem] B_xor B_or B_and
attribute [local go_sem] blk_set blk_size blk_get blk_getE upd_same oneCells_blk paste_blk cut_blk szOf
attribute [local go_sem high] paste_all cut_head
attribute [local go_sem] rowAt_alloc rowAt_drew rowAt_drewN isRow_alloc isRow_drew isRow_drewN freeRow_alloc freeRow_end freeRow_drew freeRow_drewN
attribute [local go_sem] setRow_alloc setRow_drew setRow_drewN setCell_drewN alloc_drewN rowAt_put isRow_setRow freeRow_put
attribute [local go_sem ↓] loadS_in storeS_in indexS_in copyS_in
attribute [local go_sem] loadS_row loadS_one storeS_row storeS_one indexS_blk copyS_rows run_equalIn_blk same_refl arrayAt_row
attribute [local go_sem] cell_row frozen_row st_setCell st_blk_ne stepAt stepUpon
attribute [local go_sem high] run_eql_blk run_neq_blk
attribute [local go_sem ↓] convBS_in
attribute [local go_sem] convBS_row convBS_nil allBytes_blk bytesOf_blk
attribute [local go_sem] rg_size rg_get0 rg_getE0 rg_ne rg_set0 rg_one rg_cut rg_key rg_put rg_paste part_rg0 part_rg1
attribute [local go_sem] size_cn agg_cn cn_size cn_get0 cn_get1 cn_getE0 cn_getE1 cn_set0 cn_set1 cn_ne cn_one cn_cut cn_paste

def txA : ByteArray := ⟨#[97]⟩
def txXyz : ByteArray := ⟨#[120, 121, 122]⟩
theorem get_put_real (n : Nat) (f : Nat → UInt8) (e c : Nat) (p t : ByteArray) : openR (keyB f (numAt (headS n (nonceS e c) ++ sealedT n f e c p t) 0 4 - 1)) ((headS n (nonceS e c) ++ sealedT n f e c p t).extract 4 16) p ((headS n (nonceS e c) ++ sealedT n f e c p t).extract 16 (headS n (nonceS e c) ++ sealedT n f e c p t).size) = openR (keyB f (numAt (headS n (nonceS e c) ++ sealedT n f e c p t) 0 4 - 1)) (nonceS e c) p (sealedT n f e c p t) := by
  rw [entry_nonce _ _ _ (nonceS_size e c), entry_rest _ _ _ (nonceS_size e c)]
/-- an open barrier of the real kind -/
def b21 (F : Nat → UInt8) (c : Nat) : Br := ⟨true, 0, .pointer none, 1, F, 1, c⟩
theorem b21_take (F : Nat → UInt8) (c : Nat) (h : c < 100) : takeE (b21 F c) = 0 := by
  have h1 : (b21 F c).n = 1 := rfl
  have h2 : (b21 F c).e = 1 := rfl
  have h3 : (b21 F c).c = c := rfl
  have hm : mayC 1 c := ⟨by omega, by omega, by omega⟩
  unfold takeE
  rw [h1, h2, h3, if_neg (by omega), if_neg (fun k => k hm), if_neg (by omega)]
section
variable (F : Nat → UInt8) (g : Nat) (v w0 w : World) (L : List (Nat × Array Value))
theorem b21_put0 (hC : Sk v w0 ((g, br (Br.fresh 0 (.pointer none))) :: L) w) : Calls Tryz.prog 23 #[.pointer (some ⟨g, 0, none⟩), .string ⟨#[97]⟩, .string ⟨#[120]⟩] w fun r w' => r = .returned (.tuple #[.string ⟨#[]⟩, .int .i64 12]) ∧ Sk v w0 ((g, br (Br.fresh 0 (.pointer none))) :: L) w' :=
  put_no (Br.fresh 0 (.pointer none)) rfl (by decide) _ _ g v w0 w L hC
theorem b21_open (hC : Sk v w0 ((g, br (Br.fresh 0 (.pointer none))) :: L) w) : Calls Tryz.prog 14 #[.pointer (some ⟨g, 0, none⟩), .agg (rg 1 F), .agg (cn 1 0)] w fun r w' => r = .returned (.int .i64 0) ∧ Sk v w0 ((g, br (b21 F 0)) :: L) w' :=
  open_sk (Br.fresh 0 (.pointer none)) rfl 1 F 1 0 g v w0 w L hC
theorem b21_put (hC : Sk v w0 ((g, br (b21 F 0)) :: L) w) : Calls Tryz.prog 23 #[.pointer (some ⟨g, 0, none⟩), .string ⟨#[97]⟩, .string ⟨#[120, 121, 122]⟩] w fun r w' => r = .returned (.tuple #[.string (headS 1 (nonceS 1 0) ++ sealedT 1 F 1 0 txA txXyz), .int .i64 0]) ∧ Sk v w0 ((g, br (b21 F 1)) :: L) w' :=
  put_real (b21 F 0) rfl rfl (by show 1 ≤ 6; omega) (b21_take F 0 (by omega)) txA txXyz (by decide) (by decide) g v w0 w L hC
theorem b21_size : (headS 1 (nonceS 1 0) ++ sealedT 1 F 1 0 txA txXyz).size = 35 := by
  rw [entry_size _ _ _ (nonceS_size _ _)]
  unfold sealedT
  rw [sealS_size]; rfl
theorem b21_get (hC : Sk v w0 ((g, br (b21 F 1)) :: L) w) : Calls Tryz.prog 12 #[.pointer (some ⟨g, 0, none⟩), .string ⟨#[97]⟩, .string (headS 1 (nonceS 1 0) ++ sealedT 1 F 1 0 txA txXyz)] w fun r w' => r = .returned (.tuple #[.string ⟨#[120, 121, 122]⟩, .int .i64 0]) ∧ Below w.heap.size w w' := by
  have ht := entry_term 1 (nonceS 1 0) (sealedT 1 F 1 0 txA txXyz) (by omega)
  refine get_real (b21 F 1) rfl rfl (by show 1 ≠ 0; omega) (by show 1 ≤ 6; omega) txA _ (by rw [b21_size]; omega) (by rw [b21_size]; omega) (by decide) (by rw [ht]; show ¬ (1 < 1 ∨ 1 < 1); omega) (txXyz, 0) ?_ g w0 w L hC.toSt
  rw [ht, entry_nonce _ _ _ (nonceS_size _ _), entry_rest _ _ _ (nonceS_size _ _)]
  exact openR_own _ _ _ _
theorem b21_lock (m : Nat → UInt8) (hC : Sk v w0 ((g, br (b21 F 1)) :: L) w) : Calls Tryz.prog 20 #[.pointer (some ⟨g, 0, none⟩), .agg (blk 16 m)] w fun r w' => r = .returned (.tuple #[.string (headS 0 (nonceS 1 1) ++ sealedR m 1 F 1 1), .int .i64 0]) ∧ Sk v w0 ((g, br (b21 F 2)) :: L) w' := by
  have hE := b21_take F 1 (by omega)
  have h := lock_sk (b21 F 1) rfl (by show 1 ≤ 6; omega) m g v w0 w L hC
  have e1 : lockS (b21 F 1) m = headS 0 (nonceS 1 1) ++ sealedR m 1 F 1 1 := by unfold lockS; rw [if_pos hE]; rfl
  have e2 : (b21 F 1).took = b21 F 2 := by unfold Br.took; rw [if_pos hE]; rfl
  rw [e1, e2, hE] at h
  exact h
theorem b21_unlock (m : Nat → UInt8) (w : World) : ∃ G, Calls Tryz.prog 30 #[.agg (blk 16 m), .string (headS 0 (nonceS 1 1) ++ sealedR m 1 F 1 1)] w fun r w' => r = .returned (.tuple #[.agg (rg 1 G), .int .i64 0]) ∧ Below w.heap.size w w' := by
  have h := unlock_any m (headS 0 (nonceS 1 1) ++ sealedR m 1 F 1 1) (by rw [entry_size _ _ _ (nonceS_size _ _)]; unfold sealedR; rw [sealS_size, ringT_size]; omega) w
  rw [unlock_back m 1 F 1 1 (by omega) (by omega)] at h
  exact ⟨_, h⟩
theorem b21_seal (hC : Sk v w0 ((g, br (b21 F 2)) :: L) w) : Calls Tryz.prog 16 #[.pointer (some ⟨g, 0, none⟩)] w fun r w' => r = .returned (.tuple #[]) ∧ Sk v w0 ((g, br (Br.fresh 0 (.pointer none))) :: L) w' := seal_sk (b21 F 2) g v w0 w L hC
theorem b21_sealed (hC : Sk v w0 ((g, br (Br.fresh 0 (.pointer none))) :: L) w) : Calls Tryz.prog 36 #[.pointer (some ⟨g, 0, none⟩)] w fun r w' => r = .returned (.bool true) ∧ Below w.heap.size w w' := sealed_shut (Br.fresh 0 (.pointer none)) rfl rfl g w0 w L hC.toSt
end
set_option maxRecDepth 100000 in
set_option maxHeartbeats 4000000 in
theorem awake21_any (w : World) : Calls Tryz.prog 8 #[] w fun e w' => e = .returned (.bool true) ∧ Below w.heap.size w w' := by
  have hz2 := zero97
  have hz := zero16
  obtain ⟨m, hm⟩ : ∃ m : Nat → UInt8, (blk 16 fun _ => 0).setIfInBounds 0 (.int .u8 1) = blk 16 m := ⟨upd (fun _ => 0) 0 1, blk_set 16 (fun _ => 0) 0 1⟩
  have hcn : (#[Value.int .u64 1, .int .u64 0] : Array Value) = cn 1 0 := rfl
  obtain ⟨F, hF⟩ : ∃ F, newB m = F := ⟨_, rfl⟩
  have K1 := Lib.hid (fun w => new_any m w)
  rw [hF] at K1
  obtain ⟨S, hS⟩ : ∃ S, headS 1 (nonceS 1 0) ++ sealedT 1 F 1 0 txA txXyz = S := ⟨_, rfl⟩
  have hss := b21_size F
  have K2 := Lib.hid (fun g v w0 w L => b21_put F g v w0 w L)
  have K3 := Lib.hid (fun g v w0 w L => b21_get F g v w0 w L)
  rw [hS] at hss K2 K3
  obtain ⟨T, hT⟩ : ∃ T, headS 0 (nonceS 1 1) ++ sealedR m 1 F 1 1 = T := ⟨_, rfl⟩
  have K4 := Lib.hid (fun g v w0 w L => b21_lock F g v w0 w L m)
  have K5 := Lib.hid (fun w => b21_unlock F m w)
  rw [hT] at K4 K5
  clear hF hS hT
  have HC := Lib.hid (Sk.nil w)
  go_enter Tryz.func8, Tryz.ntmps8
  go_wp2_with fail
  refine (new_real _ _ _ _ _ HC.out).mono ?_; rintro e w1 ⟨g, rfl, hC⟩
  have HC := Lib.hid hC
  clear hC
  go_wp2_with fail
  refine (b21_put0 g _ _ _ _ HC.out).mono ?_; rintro e w2 ⟨rfl, hC⟩
  have HC := Lib.hid hC
  clear hC
  go_wp2_with fail
  refine (K1.out _).mono ?_; rintro e w3 ⟨rfl, hw⟩
  have HC := Lib.hid (HC.out.call hw)
  clear hw
  go_wp2_with fail
  refine (b21_open F g _ _ _ _ HC.out).mono ?_; rintro e w4 ⟨rfl, hC⟩
  have HC := Lib.hid hC
  clear hC
  go_wp2_with fail
  refine (K2.out g _ _ _ _ HC.out).mono ?_; rintro e w5 ⟨rfl, hC⟩
  have HC := Lib.hid hC
  clear hC
  go_wp2_with fail
  refine (K3.out g _ _ _ _ HC.out).mono ?_; rintro e w6 ⟨rfl, hw⟩
  have HC := Lib.hid (HC.out.call hw)
  clear hw
  go_wp2_with fail
  refine (K4.out g _ _ _ _ HC.out).mono ?_; rintro e w7 ⟨rfl, hC⟩
  have HC := Lib.hid hC
  clear hC
  go_wp2_with fail
  obtain ⟨G, hG⟩ := K5.out w7
  clear K5
  refine (hG).mono ?_; rintro e w8 ⟨rfl, hw⟩
  have HC := Lib.hid (HC.out.call hw)
  clear hw
  go_wp2_with fail
  have HC := Lib.hid ((HC.out.push (rg 1 G) 44).swap)
  refine (b21_seal F g _ _ _ _ HC.out).mono ?_; rintro e w9 ⟨rfl, hC⟩
  have HC := Lib.hid hC
  clear hC
  go_wp2_with fail
  refine (new_kind _).mono ?_; rintro e w10 ⟨rfl, hw⟩
  have HC := Lib.hid (HC.out.call hw)
  clear hw
  go_wp2_with fail
  refine (new_no _).mono ?_; rintro e w11 ⟨rfl, hw⟩
  have HC := Lib.hid (HC.out.call hw)
  clear hw
  (obtain ⟨⟨r1, f1, i1, b1, l1⟩, ⟨r2, f2, i2, b2, l2⟩, m12, m21⟩ := St.facts2 (HC.out.pick [0, 1] (by decide) rfl))
  go_wp2_with fail
  (clear r1 f1 i1 b1 l1 r2 f2 i2 b2 l2 m12 m21)
  refine (term_any 1 G _).mono ?_; rintro e w12 ⟨rfl, hw⟩
  have HC := Lib.hid (HC.out.call hw)
  clear hw
  (obtain ⟨⟨r1, f1, i1, b1, l1⟩, ⟨r2, f2, i2, b2, l2⟩, m12, m21⟩ := St.facts2 (HC.out.pick [0, 1] (by decide) rfl))
  go_wp2_with fail
  (clear r1 f1 i1 b1 l1 r2 f2 i2 b2 l2 m12 m21)
  refine (b21_sealed g _ _ _ _ HC.out).mono ?_; rintro e w13 ⟨rfl, hw⟩
  have HC := Lib.hid (HC.out.call hw)
  clear hw
  (obtain ⟨⟨r1, f1, i1, b1, l1⟩, ⟨r2, f2, i2, b2, l2⟩, m12, m21⟩ := St.facts2 (HC.out.pick [0, 1] (by decide) rfl))
  go_wp2_with fail
  go_ret
  exact ⟨rfl, HC.out.below⟩
end Go.Proofs.YtgaecjhghpkcoaaGreat
end
