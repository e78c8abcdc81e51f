/- strings.Repeat, laid at this program; the program's blank. -/
import Derived.Test.YtgaecjhghpkcoaaGreatBar8
import Derived.Shelf.Strings.Repeat
import Derived.Shelf.Lay
import Derived.Ground.NamesProg
namespace Go.Proofs.YtgaecjhghpkcoaaGreat
open Go.RowKit Go.Shelf
attribute [local go_sem] B_xor B_or B_and
attribute [local go_sem] blk_set blk_size blk_get blk_getE upd_same oneCells_blk paste_blk cut_blk szOf
attribute [local go_sem high] paste_all cut_head
attribute [local go_sem] rowAt_alloc rowAt_drew rowAt_drewN isRow_alloc isRow_drew isRow_drewN freeRow_alloc freeRow_end freeRow_drew freeRow_drewN
attribute [local go_sem] setRow_alloc setRow_drew setRow_drewN setCell_drewN alloc_drewN rowAt_put isRow_setRow freeRow_put
attribute [local go_sem ↓] loadS_in storeS_in indexS_in copyS_in
attribute [local go_sem] loadS_row loadS_one storeS_row storeS_one indexS_blk copyS_rows run_equalIn_blk same_refl arrayAt_row
attribute [local go_sem] cell_row frozen_row st_setCell st_blk_ne stepAt stepUpon
attribute [local go_sem high] run_eql_blk run_neq_blk
attribute [local go_sem ↓] convBS_in
attribute [local go_sem] convBS_row convBS_nil allBytes_blk bytesOf_blk

shelf_lay Lays.n105 Nm 105 at Tryz as Tryz.laysRepeat

theorem extraB : Builder.Extra Tryz.prog Tryz.laysRepeat_ren where
  sizeBuilder := by kernel_rfl
  liesBuilder := by kernel_rfl
  t5 := Tryz.laysRepeat.t5
  a5 := Tryz.laysRepeat.a5
  z5 := Tryz.laysRepeat.z5
  v5 := Tryz.laysRepeat.v5
  infoByte := by kernel_rfl
  cellsByte := by kernel_rfl
  sizeByte := by kernel_rfl
  neB5 := by decide
theorem repeat_list : ∀ n, Lib.repeatL [0] n = List.replicate n (0 : UInt8)
  | 0 => rfl
  | n + 1 => by
    have ih := repeat_list n
    show [0] ++ Lib.repeatL [0] n = _
    rw [ih]; rfl
theorem repeat_zero (n : Nat) : (⟨(Lib.repeatL [0] n).toArray⟩ : ByteArray) = nilS n := by
  rw [repeat_list]
  unfold nilS strOf
  congr 1
  apply Array.ext_getElem?
  intro i
  rw [List.getElem?_toArray, List.getElem?_toArray, List.getElem?_replicate, List.getElem?_map]
  by_cases h : i < n <;> simp [h]
theorem repeat_any (n : Nat) (h : n ≤ 2 ^ 40) (w : World) : Calls Tryz.prog 74 #[.string ⟨#[0]⟩, .int .i64 (n : Int)] w fun e w' => e = .returned (.string (nilS n)) ∧ Below w.heap.size w w' := by
  have h1 := Any.strings_Repeat Tryz.laysRepeat extraB ⟨#[0]⟩ n w (by omega) (by show 1 * n ≤ _; omega)
  rw [show (⟨#[0]⟩ : ByteArray).data.toList = [0] from rfl, repeat_zero] at h1
  exact h1
theorem blank_any (s : ByteArray) (h : s.size ≤ 2 ^ 39) (w : World) : Calls Tryz.prog 46 #[.string s] w fun e w' => e = .returned (.string (nilS (s.size + 16))) ∧ Below w.heap.size w w' := by
  have t1 : ∀ w, Calls Tryz.prog 74 #[.string ⟨#[0]⟩, .int .i64 ((s.size : Int) + 16)] w fun e w' => e = .returned (.string (nilS (s.size + 16))) ∧ Below w.heap.size w w' := fun w => repeat_any (s.size + 16) (by omega) w
  have T1 := Lib.hid t1
  have n1 : (s.size : Int) ≤ 549755813888 := by omega
  clear t1
  have HC := Lib.hid (St.nil w)
  go_enter Tryz.func46, Tryz.ntmps46
  go_wp2_with fail
  refine (T1.out _).mono ?_; rintro e w1 ⟨rfl, hw⟩
  have HC := Lib.hid (HC.out.call hw)
  clear hw
  go_wp2_with fail
  go_ret
  exact ⟨rfl, HC.out.below⟩
end Go.Proofs.YtgaecjhghpkcoaaGreat
