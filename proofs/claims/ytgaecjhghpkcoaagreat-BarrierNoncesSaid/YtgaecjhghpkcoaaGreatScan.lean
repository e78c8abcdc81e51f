/- The program's Scan (quill): stands, left, fails, sized, Num, Rest. Texts no longer than 2 to 40. -/
import Derived.Test.YtgaecjhghpkcoaaGreatKeys4
namespace Go.Proofs.YtgaecjhghpkcoaaGreat
open Go.RowKit
attribute [local go_sem] B_xor B_or B_and
attribute [local go_sem] blk_set blk_size blk_get blk_getE upd_same oneCells_blk paste_blk cut_blk szOf
attribute [local go_sem high] paste_all cut_head
attribute [local go_sem] rowAt_alloc rowAt_drew rowAt_drewN isRow_alloc isRow_drew isRow_drewN freeRow_alloc freeRow_end freeRow_drew freeRow_drewN
attribute [local go_sem] setRow_alloc setRow_drew setRow_drewN setCell_drewN alloc_drewN rowAt_put isRow_setRow freeRow_put
attribute [local go_sem ↓] loadS_in storeS_in indexS_in copyS_in
attribute [local go_sem] loadS_row loadS_one storeS_row storeS_one indexS_blk copyS_rows run_equalIn_blk same_refl arrayAt_row
attribute [local go_sem] cell_row frozen_row st_setCell st_blk_ne stepAt stepUpon
attribute [local go_sem high] run_eql_blk run_neq_blk
attribute [local go_sem ↓] convBS_in
attribute [local go_sem] convBS_row convBS_nil allBytes_blk bytesOf_blk
attribute [local go_sem ↓] convSB_in
attribute [local go_sem] convSB_row freeRow_endB

/-- where one is in a text -/
def sc (t : ByteArray) (p e : Nat) : Array Value := #[.string t, .int .i64 (p : Int), .int .i64 (e : Int)]
theorem sc_size (t : ByteArray) (p e : Nat) : (sc t p e).size = 3 := by simp [sc]
theorem sc_get0 (t : ByteArray) (p e : Nat) : (sc t p e)[0]? = some (.string t) := by simp [sc]
theorem sc_get1 (t : ByteArray) (p e : Nat) : (sc t p e)[1]? = some (.int .i64 (p : Int)) := by simp [sc]
theorem sc_get2 (t : ByteArray) (p e : Nat) : (sc t p e)[2]? = some (.int .i64 (e : Int)) := by simp [sc]
theorem sc_getE0 (t : ByteArray) (p e : Nat) (h : 0 < (sc t p e).size) : (sc t p e)[0]'h = .string t := by simp [sc]
theorem sc_getE1 (t : ByteArray) (p e : Nat) (h : 1 < (sc t p e).size) : (sc t p e)[1]'h = .int .i64 (p : Int) := by simp [sc]
theorem sc_getE2 (t : ByteArray) (p e : Nat) (h : 2 < (sc t p e).size) : (sc t p e)[2]'h = .int .i64 (e : Int) := by simp [sc]
theorem sc_set1 (t : ByteArray) (p q e : Nat) : (sc t p e).setIfInBounds 1 (.int .i64 (q : Int)) = sc t q e := by simp [sc]
theorem sc_set2 (t : ByteArray) (p e d : Nat) : (sc t p e).setIfInBounds 2 (.int .i64 (d : Int)) = sc t p d := by simp [sc]
theorem sc_ne (t : ByteArray) (p e : Nat) : (sc t p e = #[]) = False := by simp [sc]
theorem sc_one (t : ByteArray) (p e : Nat) : oneCells (sc t p e) = true := by simp [oneCells, sc, Value.oneCell']
theorem sc_cut (t : ByteArray) (p e : Nat) : cut (sc t p e) 0 3 = sc t p e := by simp [cut, sc]
theorem sc_paste (t u : ByteArray) (p e q d : Nat) : paste (sc t p e) 0 (sc u q d) = sc u q d := paste_whole _ _ (by rw [sc_size, sc_size])
theorem size_sc (w : World) : (sizeOf 120).run Tryz.prog w = .ok 3 w := by simp [go_sem]
theorem agg_sc (w : World) : (isAgg 120).run Tryz.prog w = .ok true w := by simp [go_sem]
attribute [local go_sem] size_sc agg_sc sc_size sc_get0 sc_get1 sc_get2 sc_getE0 sc_getE1 sc_getE2 sc_set1 sc_set2 sc_ne sc_one sc_cut sc_paste

theorem sized_any (k : Nat) (h1 : 1 ≤ k) (h8 : k ≤ 8) (w : World) : Calls Tryz.prog 87 #[.int .i64 (k : Int)] w fun e w' => e = .returned (.bool true) ∧ Below w.heap.size w w' := by
  have d1 : (1 : Int) ≤ (k : Int) := by omega
  have d2 : (k : Int) ≤ 8 := by omega
  go_enter Tryz.func87, Tryz.ntmps87
  go_wp2_with fail
  go_ret
  exact ⟨rfl, Below.refl _ _⟩
theorem stands_any (t : ByteArray) (p e : Nat) (h : p ≤ t.size) (w : World) : Calls Tryz.prog 86 #[.agg (sc t p e)] w fun e w' => e = .returned (.bool true) ∧ Below w.heap.size w w' := by
  have d1 : (0 : Int) ≤ (p : Int) := by omega
  go_enter Tryz.func86, Tryz.ntmps86
  go_wp2_with fail
  go_ret
  exact ⟨rfl, (Below.refl _ _).alloc (Nat.le_refl _) _⟩
theorem left_any (t : ByteArray) (p e l : Nat) (h : p + l = t.size) (hs : t.size < 2 ^ 40) (w : World) : Calls Tryz.prog 89 #[.agg (sc t p e)] w fun e w' => e = .returned (.int .i64 (l : Int)) ∧ Below w.heap.size w w' := by
  have v1 : (t.size : Int) - (p : Int) = (l : Int) := by omega
  have v2 : IntKind.i64.wrap ((t.size : Int) - (p : Int)) = (l : Int) := by rw [IntWalk.i64_in _ (by omega)]; exact v1
  clear h
  go_enter Tryz.func89, Tryz.ntmps89
  go_wp2_with fail
  go_ret
  exact ⟨rfl, (Below.refl _ _).alloc (Nat.le_refl _) _⟩
set_option maxRecDepth 100000 in
theorem fails_any (t : ByteArray) (p e d : Nat) (w : World) : Calls Tryz.prog 88 #[.agg (sc t p e), .int .i64 (d : Int)] w fun e w' => e = .returned (.agg (sc t p d)) ∧ Below w.heap.size w w' := by
  have hz : #[Value.string ⟨#[]⟩, .int .i64 0, .int .i64 0] = sc ⟨#[]⟩ 0 0 := rfl
  go_enter Tryz.func88, Tryz.ntmps88
  go_wp2_with fail
  refine bodyPost_ret (results_row rfl _ (w.heap.size + 1) rfl (sc t p d) ?_ ?_ ?_ ?_) rfl ⟨rfl, ((Below.refl _ _).alloc (Nat.le_refl _) _).alloc (by simp) _⟩
  · simp [go_sem]
  · simp [go_sem]
  · simp [go_sem]
  · simp [go_sem]
theorem rest_any (t : ByteArray) (p : Nat) (h : p ≤ t.size) (w : World) : Calls Tryz.prog 69 #[.agg (sc t p 0)] w fun e w' => e = .returned (.string (t.extract p t.size)) ∧ Below w.heap.size w w' := by
  have d1 : (p : Int) ≤ (t.size : Int) := by omega
  have HC := Lib.hid ((St.nil w).pushA (sc t p 0) 120 rfl)
  go_enter Tryz.func69, Tryz.ntmps69
  go_wp2_with fail
  refine (stands_any t p 0 h _).mono ?_; rintro e w1 ⟨rfl, hw⟩
  have HC := Lib.hid (HC.out.call hw)
  clear hw
  have hC := HC.out
  (have HC := Lib.hid hC
   have sos := hC.below.os
   obtain ⟨r1, f1, i1, b1, l1⟩ := St.facts1 hC
   clear hC)
  go_wp2_with fail
  go_ret
  exact ⟨rfl, HC.out.below⟩
end Go.Proofs.YtgaecjhghpkcoaaGreat
