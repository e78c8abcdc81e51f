/- The program's barriers are made: New, NewNotes, Fork. -/
import Derived.Test.YtgaecjhghpkcoaaGreatBar11
import Derived.Test.YtgaecjhghpkcoaaGreatBar8
namespace Go.Proofs.YtgaecjhghpkcoaaGreat
open Go.RowKit
attribute [local go_sem] B_xor B_or B_and
attribute [local go_sem] blk_set blk_size blk_get blk_getE upd_same oneCells_blk paste_blk cut_blk szOf
attribute [local go_sem high] paste_all cut_head
attribute [local go_sem] rowAt_alloc rowAt_drew rowAt_drewN isRow_alloc isRow_drew isRow_drewN freeRow_alloc freeRow_end freeRow_drew freeRow_drewN
attribute [local go_sem] setRow_alloc setRow_drew setRow_drewN setCell_drewN alloc_drewN rowAt_put isRow_setRow freeRow_put
attribute [local go_sem ↓] loadS_in storeS_in indexS_in copyS_in
attribute [local go_sem] loadS_row loadS_one storeS_row storeS_one indexS_blk copyS_rows run_equalIn_blk same_refl arrayAt_row
attribute [local go_sem] cell_row frozen_row st_setCell st_blk_ne stepAt stepUpon
attribute [local go_sem high] run_eql_blk run_neq_blk
attribute [local go_sem ↓] convBS_in
attribute [local go_sem] convBS_row convBS_nil allBytes_blk bytesOf_blk
attribute [local go_sem] size_cn agg_cn cn_size cn_get0 cn_get1 cn_getE0 cn_getE1 cn_set0 cn_set1 cn_ne cn_one cn_cut cn_paste
attribute [local go_sem] br_size br_get0 br_get1 br_get2 br_getE0 br_getE1 br_getE2 br_ne br_ring br_count br_whole br_put_ring br_put_count br_paste br_one size_br agg_br

/-- a barrier that is new -/
def Br.fresh (kd : Nat) (nt : Value) : Br := ⟨true, kd, nt, 0, fun _ => 0, 0, 0⟩
def Br.zero : Br := ⟨false, 0, .pointer none, 0, fun _ => 0, 0, 0⟩
theorem br_zero : Tryz.zeroCells80 = br Br.zero := by kernel_rfl
theorem br_set0 (b : Br) (x : Bool) : (br b).setIfInBounds 0 (.bool x) = br { b with md := x } := by
  refine br_ext (by simp [br_size]) fun i hi => ?_
  rw [Array.getElem?_setIfInBounds, br_at b i hi]
  by_cases h : 0 = i
  · subst h; rw [if_pos rfl, if_pos (by rw [br_size]; omega)]; rfl
  · rw [if_neg h]; unfold brAt; rw [if_neg (Ne.symm h), if_neg (Ne.symm h)]
theorem br_set1 (b : Br) (k : Nat) : (br b).setIfInBounds 1 (.int .u8 (k : Int)) = br { b with kd := k } := by
  refine br_ext (by simp [br_size]) fun i hi => ?_
  rw [Array.getElem?_setIfInBounds, br_at b i hi]
  by_cases h : 1 = i
  · subst h; rw [if_pos rfl, if_pos (by rw [br_size]; omega)]; rfl
  · rw [if_neg h]; unfold brAt; rw [if_neg (Ne.symm h), if_neg (Ne.symm h)]
theorem br_set2 (b : Br) (v : Value) : (br b).setIfInBounds 2 v = br { b with nt := v } := by
  refine br_ext (by simp [br_size]) fun i hi => ?_
  rw [Array.getElem?_setIfInBounds, br_at b i hi]
  by_cases h : 2 = i
  · subst h; rw [if_pos rfl, if_pos (by rw [br_size]; omega)]; rfl
  · rw [if_neg h]; unfold brAt; rw [if_neg (Ne.symm h), if_neg (Ne.symm h)]
theorem fresh_real : (Tryz.zeroCells80.setIfInBounds 0 (.bool true)).setIfInBounds 1 (.int .u8 0) = br (Br.fresh 0 (.pointer none)) := by
  rw [br_zero, br_set0]; exact br_set1 _ 0
theorem fresh_ideal (p : Value) : ((Tryz.zeroCells80.setIfInBounds 0 (.bool true)).setIfInBounds 1 (.int .u8 1)).setIfInBounds 2 p = br (Br.fresh 1 p) := by
  rw [br_zero, br_set0]
  rw [show (Value.int .u8 1) = .int .u8 ((1 : Nat) : Int) from rfl, br_set1, br_set2]; rfl
theorem new_real (p : Value) (v w0 w : World) (L : List (Nat × Array Value)) (hC : Sk v w0 L w) : Calls Tryz.prog 9 #[.int .u8 0, p] w fun e w' => ∃ g, e = .returned (.tuple #[.pointer (some ⟨g, 0, none⟩), .int .i64 0]) ∧ Sk v w0 ((g, br (Br.fresh 0 (.pointer none))) :: L) w' := by
  have HC := Lib.hid hC
  clear hC
  go_enter Tryz.func9, Tryz.ntmps9
  go_wp2_with fail
  rw [fresh_real]
  go_ret2
  exact ⟨_, rfl, HC.out.push _ _⟩
/-- two texts in a row -/
def np (a b : ByteArray) : Array Value := #[.string a, .string b]
theorem np_size (a b : ByteArray) : (np a b).size = 2 := by simp [np]
theorem np_get0 (a b : ByteArray) : (np a b)[0]? = some (.string a) := by simp [np]
theorem np_get1 (a b : ByteArray) : (np a b)[1]? = some (.string b) := by simp [np]
theorem np_getE0 (a b : ByteArray) (h : 0 < (np a b).size) : (np a b)[0]'h = .string a := by simp [np]
theorem np_getE1 (a b : ByteArray) (h : 1 < (np a b).size) : (np a b)[1]'h = .string b := by simp [np]
theorem np_ne (a b : ByteArray) : (np a b = #[]) = False := by simp [np]
theorem np_one (a b : ByteArray) : oneCells (np a b) = true := by simp [oneCells, np, Value.oneCell']
theorem np_cut (a b : ByteArray) : cut (np a b) 0 2 = np a b := by simp [cut, np]
theorem np_paste (a b c d : ByteArray) : paste (np a b) 0 (np c d) = np c d := paste_whole _ _ (by rw [np_size, np_size])
theorem size_np (w : World) : (sizeOf 97).run Tryz.prog w = .ok 2 w := by simp [go_sem]
theorem agg_np (w : World) : (isAgg 97).run Tryz.prog w = .ok true w := by simp [go_sem]
theorem np_zero : #[Value.string ⟨#[]⟩, .string ⟨#[]⟩] = np ⟨#[]⟩ ⟨#[]⟩ := rfl
/-- how a note is held -/
def encN (x : ByteArray × ByteArray) : Value := .agg (np x.1 x.2)
/-- notes: a block that holds a map -/
def NotesAt (w : World) (q m : Nat) (N : List (ByteArray × (ByteArray × ByteArray))) : Prop := q < w.heap.size ∧ rowAt w q = #[.map (some m)] ∧ isRow w q = true ∧ Mp encN w m N
theorem NotesAt.call {w w' : World} {q m : Nat} {N : List (ByteArray × (ByteArray × ByteArray))} (h : NotesAt w q m N) (hb : Below w.heap.size w w') : NotesAt w' q m N :=
  ⟨Nat.lt_of_lt_of_le h.1 hb.size, (below_rowAt hb h.1).trans h.2.1, (below_isRow hb h.1).trans h.2.2.1, h.2.2.2.call _ hb⟩
theorem ok_yes (q m : Nat) (w : World) (hg : rowAt w q = #[.map (some m)]) (hi : isRow w q = true) : Calls Tryz.prog 40 #[.pointer (some ⟨q, 0, none⟩)] w fun e w' => e = .returned (.bool true) ∧ Below w.heap.size w w' := by
  have hq := fun w => run_neq_map_nil (P := Tryz.prog) w 76 9 97 (some m) Tryz.underlying76
  go_enter Tryz.func40, Tryz.ntmps40
  go_wp2_with fail
  go_ret
  exact ⟨rfl, Below.refl _ _⟩
theorem new_ideal (q m : Nat) (v w0 w : World) (L : List (Nat × Array Value)) (hg : rowAt w q = #[.map (some m)]) (hi : isRow w q = true) (hC : Sk v w0 L w) : Calls Tryz.prog 9 #[.int .u8 1, .pointer (some ⟨q, 0, none⟩)] w fun e w' => ∃ g, e = .returned (.tuple #[.pointer (some ⟨g, 0, none⟩), .int .i64 0]) ∧ Sk v w0 ((g, br (Br.fresh 1 (.pointer (some ⟨q, 0, none⟩)))) :: L) w' := by
  have HO := Lib.hid (ok_yes q m w hg hi)
  have HC := Lib.hid hC
  clear hC hg hi
  go_enter Tryz.func9, Tryz.ntmps9
  go_wp2_with fail
  refine (HO.out).mono ?_; rintro e w1 ⟨rfl, hw⟩
  have HC := Lib.hid (HC.out.call hw)
  clear hw
  go_wp2_with fail
  rw [fresh_ideal]
  go_ret2
  exact ⟨_, rfl, HC.out.push _ _⟩
theorem new_no (w : World) : Calls Tryz.prog 9 #[.int .u8 1, .pointer none] w fun e w' => e = .returned (.tuple #[.pointer none, .int .i64 1]) ∧ Below w.heap.size w w' := by
  have HC := Lib.hid (St.nil w)
  go_enter Tryz.func9, Tryz.ntmps9
  go_wp2_with fail
  refine (ok_nil _).mono ?_; rintro e w1 ⟨rfl, hw⟩
  have HC := Lib.hid (HC.out.call hw)
  clear hw
  go_wp2_with fail
  go_ret2
  exact ⟨rfl, HC.out.below⟩
theorem new_kind (w : World) : Calls Tryz.prog 9 #[.int .u8 2, .pointer none] w fun e w' => e = .returned (.tuple #[.pointer none, .int .i64 22]) ∧ Below w.heap.size w w' := by
  have HC := Lib.hid (St.nil w)
  go_enter Tryz.func9, Tryz.ntmps9
  go_wp2_with fail
  go_ret2
  exact ⟨rfl, HC.out.below⟩
theorem fork_any (b : Br) (hm : b.md = true) (hn : b.nt.oneCell' = true) (g : Nat) (v w0 w : World) (L : List (Nat × Array Value)) (hC : Sk v w0 ((g, br b) :: L) w) : Calls Tryz.prog 22 #[.pointer (some ⟨g, 0, none⟩)] w fun e w' => ∃ q, e = .returned (.pointer (some ⟨q, 0, none⟩)) ∧ Sk v w0 ((q, br b) :: (g, br b) :: L) w' := by
  have h1 := br_one b hn
  have HC := Lib.hid hC
  clear hC hn
  (obtain ⟨r1, f1, i1, b1, l1⟩ := St.facts1 (HC.out.pick [0] (by decide) rfl))
  go_enter Tryz.func22, Tryz.ntmps22
  go_wp2_with fail
  go_ret
  exact ⟨_, rfl, HC.out.push _ _⟩
theorem Mp.new {α : Type} (enc : α → Value) (w : World) : Mp enc (w.alloc (.map #[] 0)) w.heap.size [] := ⟨#[], 0, (MapKept.heap_alloc w _).1, rfl⟩
theorem newNotes_any (v w0 w : World) (L : List (Nat × Array Value)) (hC : Sk v w0 L w) : Calls Tryz.prog 10 #[] w fun e w' => ∃ q m, e = .returned (.pointer (some ⟨q, 0, none⟩)) ∧ Sk v w0 ((q, #[.map (some m)]) :: L) w' ∧ Mp encN w' m [] ∧ w0.heap.size ≤ m := by
  have hmm := @run_makeMap Tryz.prog
  have HC := Lib.hid hC
  clear hC
  go_enter Tryz.func10, Tryz.ntmps10
  go_wp2_with fail
  go_ret
  exact ⟨_, w.heap.size, rfl, (HC.out.skip (.map #[] 0)).pushA _ _ (by simp), (Mp.new encN w).call _ ((Below.refl _ _).alloc (Nat.le_refl _) _), HC.out.below.size⟩
end Go.Proofs.YtgaecjhghpkcoaaGreat
