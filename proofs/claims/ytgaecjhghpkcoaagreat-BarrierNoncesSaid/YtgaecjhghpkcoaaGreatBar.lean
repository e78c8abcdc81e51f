/- A barrier as a row of cells; its state, Sealed, Ring, Count. -/
import Derived.Test.YtgaecjhghpkcoaaGreatNonce2
namespace Go.Proofs.YtgaecjhghpkcoaaGreat
open Go.RowKit
attribute [local go_sem] B_xor B_or B_and
attribute [local go_sem] blk_set blk_size blk_get blk_getE upd_same oneCells_blk paste_blk cut_blk szOf
attribute [local go_sem high] paste_all cut_head
attribute [local go_sem] rowAt_alloc rowAt_drew rowAt_drewN isRow_alloc isRow_drew isRow_drewN freeRow_alloc freeRow_end freeRow_drew freeRow_drewN
attribute [local go_sem] setRow_alloc setRow_drew setRow_drewN setCell_drewN alloc_drewN rowAt_put isRow_setRow freeRow_put
attribute [local go_sem ↓] loadS_in storeS_in indexS_in copyS_in
attribute [local go_sem] loadS_row loadS_one storeS_row storeS_one indexS_blk copyS_rows run_equalIn_blk same_refl arrayAt_row
attribute [local go_sem] cell_row frozen_row st_setCell st_blk_ne stepAt stepUpon
attribute [local go_sem high] run_eql_blk run_neq_blk
attribute [local go_sem ↓] convBS_in
attribute [local go_sem] convBS_row convBS_nil allBytes_blk bytesOf_blk
attribute [local go_sem] rg_size rg_get0 rg_getE0 rg_ne rg_set0 rg_one rg_cut rg_key rg_put rg_paste part_rg0 part_rg1
attribute [local go_sem] size_cn agg_cn cn_size cn_get0 cn_get1 cn_getE0 cn_getE1 cn_set0 cn_set1 cn_ne cn_one cn_cut cn_paste

/-- a barrier: was it made, its kind, its notes, its ring, its count -/
structure Br where
  md : Bool
  kd : Nat
  nt : Value
  n : Nat
  f : Nat → UInt8
  e : Nat
  c : Nat
def brAt (b : Br) (i : Nat) : Value :=
  if i = 0 then .bool b.md else if i = 1 then .int .u8 (b.kd : Int) else if i = 2 then b.nt else if i = 3 then .int .i64 (b.n : Int) else if i < 100 then .int .u8 (B (b.f (i - 4))) else if i = 100 then .int .u64 (b.e : Int) else .int .u64 (b.c : Int)
def br (b : Br) : Array Value := ((List.range 102).map (brAt b)).toArray
theorem br_size (b : Br) : (br b).size = 102 := by simp [br]
theorem br_at (b : Br) (i : Nat) (h : i < 102) : (br b)[i]? = some (brAt b i) := by simp [br, h]
theorem br_get0 (b : Br) : (br b)[0]? = some (.bool b.md) := br_at b 0 (by omega)
theorem br_get1 (b : Br) : (br b)[1]? = some (.int .u8 (b.kd : Int)) := br_at b 1 (by omega)
theorem br_get2 (b : Br) : (br b)[2]? = some b.nt := br_at b 2 (by omega)
theorem br_getE0 (b : Br) (h : 0 < (br b).size) : (br b)[0]'h = .bool b.md := by
  have := br_get0 b
  rw [Array.getElem?_eq_getElem h] at this
  exact Option.some.inj this
theorem br_getE1 (b : Br) (h : 1 < (br b).size) : (br b)[1]'h = .int .u8 (b.kd : Int) := by
  have := br_get1 b
  rw [Array.getElem?_eq_getElem h] at this
  exact Option.some.inj this
theorem br_getE2 (b : Br) (h : 2 < (br b).size) : (br b)[2]'h = b.nt := by
  have := br_get2 b
  rw [Array.getElem?_eq_getElem h] at this
  exact Option.some.inj this
theorem br_ne (b : Br) : (br b = #[]) = False := by
  simp only [eq_iff_iff, iff_false]
  intro h
  have := congrArg Array.size h
  rw [br_size] at this; cases this
theorem br_ext {b : Br} {xs : Array Value} (h0 : xs.size = 102) (h : ∀ i, i < 102 → xs[i]? = some (brAt b i)) : xs = br b := by
  apply Array.ext_getElem?
  intro i
  by_cases hi : i < 102
  · rw [h i hi, br_at b i hi]
  · rw [Array.getElem?_eq_none (by omega), Array.getElem?_eq_none (by rw [br_size]; omega)]
theorem br_ring (b : Br) : cut (br b) 3 100 = rg b.n b.f := by
  refine rg_ext (by simp [cut, br_size]) ?_ (fun i hi => ?_)
  · unfold cut
    rw [Array.getElem?_extract, if_pos (by rw [br_size]; omega), br_at b _ (by omega)]
    rfl
  · unfold cut
    rw [Array.getElem?_extract, if_pos (by rw [br_size]; omega), br_at b _ (by omega)]
    unfold brAt
    rw [if_neg (by omega), if_neg (by omega), if_neg (by omega), if_neg (by omega), if_pos (by omega)]
    congr 3; congr 1; omega
theorem br_count (b : Br) : cut (br b) 100 102 = cn b.e b.c := by
  apply Array.ext_getElem?
  intro i
  unfold cut
  rw [Array.getElem?_extract]
  match i with
  | 0 => rw [if_pos (by rw [br_size]; omega), br_at b _ (by omega), cn_get0]; rfl
  | 1 => rw [if_pos (by rw [br_size]; omega), br_at b _ (by omega), cn_get1]; rfl
  | i + 2 => rw [if_neg (by omega), Array.getElem?_eq_none (by rw [cn_size]; omega)]
theorem br_whole (b : Br) : cut (br b) 0 102 = br b := by
  unfold cut
  have := @Array.extract_size Value (br b)
  rwa [br_size] at this
theorem br_put_ring (b : Br) (n : Nat) (f : Nat → UInt8) : paste (br b) 3 (rg n f) = br { b with n := n, f := f } := by
  refine br_ext (by rw [paste_size _ _ _ (by rw [br_size, rg_size]; omega), br_size]) fun i hi => ?_
  rw [paste_get _ _ _ (by rw [br_size, rg_size]; omega), rg_size]
  by_cases h : 3 ≤ i ∧ i < 3 + 97
  · rw [if_pos h]
    by_cases h3 : i = 3
    · subst h3; rw [rg_get0]; rfl
    · rw [show i - 3 = 1 + (i - 4) by omega, rg_get, blk_get _ _ _ (by omega)]
      unfold brAt
      rw [if_neg (by omega), if_neg (by omega), if_neg (by omega), if_neg (by omega), if_pos (by omega)]
  · rw [if_neg h, br_at b i hi]
    unfold brAt
    by_cases h4 : i < 3
    · congr 1
      split
      · rfl
      · split
        · rfl
        · rw [if_pos (by omega), if_pos (by omega)]
    · have e0 : ¬ i = 0 := by omega
      have e1 : ¬ i = 1 := by omega
      have e2 : ¬ i = 2 := by omega
      have e3 : ¬ i = 3 := by omega
      have e4 : ¬ i < 100 := by omega
      simp only [e0, e1, e2, e3, e4, if_false]
theorem br_put_count (b : Br) (e c : Nat) : paste (br b) 100 (cn e c) = br { b with e := e, c := c } := by
  refine br_ext (by rw [paste_size _ _ _ (by rw [br_size, cn_size]; omega), br_size]) fun i hi => ?_
  rw [paste_get _ _ _ (by rw [br_size, cn_size]; omega), cn_size]
  by_cases h : 100 ≤ i ∧ i < 100 + 2
  · rw [if_pos h]
    by_cases h3 : i = 100
    · subst h3; rw [cn_get0]; rfl
    · obtain rfl : i = 101 := by omega
      rw [cn_get1]; rfl
  · rw [if_neg h, br_at b i hi]
    unfold brAt
    congr 1
    by_cases h4 : i < 4
    · split
      · rfl
      · split
        · rfl
        · split
          · rfl
          · rw [if_pos (by omega), if_pos (by omega)]
    · rw [if_neg (by omega), if_neg (by omega), if_neg (by omega), if_neg (by omega), if_pos (by omega), if_neg (by omega), if_neg (by omega), if_neg (by omega), if_neg (by omega), if_pos (by omega)]
theorem br_paste (a b : Br) : paste (br a) 0 (br b) = br b := paste_whole _ _ (by rw [br_size, br_size])
theorem br_one (b : Br) (h : b.nt.oneCell' = true) : oneCells (br b) = true := by
  unfold oneCells br
  simp only [List.all_toArray, List.all_map, List.all_eq_true]
  intro i _
  simp only [Function.comp]
  unfold brAt
  repeat (first | rfl | exact h | split)
theorem size_br (w : World) : (sizeOf 80).run Tryz.prog w = .ok 102 w := by simp [go_sem]
theorem agg_br (w : World) : (isAgg 80).run Tryz.prog w = .ok true w := by simp [go_sem]
attribute [local go_sem] br_size br_get0 br_get1 br_get2 br_getE0 br_getE1 br_getE2 br_ne br_ring br_count br_whole br_put_ring br_put_count br_paste br_one size_br agg_br

theorem state_made (b : Br) (hm : b.md = true) (g : Nat) (w0 w : World) (L : List (Nat × Array Value)) (hC : St w0 ((g, br b) :: L) w) (E : Nat) (hE : (b.n = 0 ∧ E = 12) ∨ (b.n ≠ 0 ∧ E = 0)) : Calls Tryz.prog 42 #[.pointer (some ⟨g, 0, none⟩)] w fun e w' => e = .returned (.int .i64 (E : Int)) ∧ Below w.heap.size w w' := by
  have HC := Lib.hid hC
  clear hC
  have HB := Lib.hid ((St.nil w))
  rcases hE with ⟨h, rfl⟩ | ⟨h, rfl⟩
  · have d1 : ((b.n : Int) == 0) = true := by rw [beq_iff_eq]; omega
    clear h
    (obtain ⟨r1, f1, i1, b1, l1⟩ := St.facts1 (HC.out.pick [0] (by decide) rfl))
    go_enter Tryz.func42, Tryz.ntmps42
    go_wp2_with fail
    refine (term_any b.n b.f _).mono ?_; rintro e w1 ⟨rfl, hw⟩
    have HB := Lib.hid (HB.out.call hw)
    clear hw
    go_wp2_with fail
    go_ret
    exact ⟨rfl, HB.out.below⟩
  · have d1 : ((b.n : Int) == 0) = false := by rw [beq_eq_false_iff_ne]; omega
    clear h
    (obtain ⟨r1, f1, i1, b1, l1⟩ := St.facts1 (HC.out.pick [0] (by decide) rfl))
    go_enter Tryz.func42, Tryz.ntmps42
    go_wp2_with fail
    refine (term_any b.n b.f _).mono ?_; rintro e w1 ⟨rfl, hw⟩
    have HB := Lib.hid (HB.out.call hw)
    clear hw
    go_wp2_with fail
    go_ret
    exact ⟨rfl, HB.out.below⟩
end Go.Proofs.YtgaecjhghpkcoaaGreat
