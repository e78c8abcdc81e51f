/- awake of chapter 10: what every right program tells of some values. -/
import Derived.Test.YtinlcpenllfcpaaEnFind
namespace Go.Proofs.Ytinlcpenllfcpaa
open Go.RowKit
attribute [local go_sem] B_xor B_or B_and
attribute [local go_sem] blk_set blk_size blk_get blk_getE upd_same oneCells_blk paste_blk cut_blk szOf
attribute [local go_sem high] paste_all cut_head
attribute [local go_sem] rowAt_alloc rowAt_drew rowAt_drewN isRow_alloc isRow_drew isRow_drewN freeRow_alloc freeRow_end freeRow_drew freeRow_drewN
attribute [local go_sem] setRow_alloc setRow_drew setRow_drewN setCell_drewN alloc_drewN rowAt_put isRow_setRow freeRow_put
attribute [local go_sem ↓] loadS_in storeS_in indexS_in copyS_in
attribute [local go_sem] loadS_row loadS_one storeS_row storeS_one indexS_blk copyS_rows run_equalIn_blk same_refl arrayAt_row
attribute [local go_sem] cell_row frozen_row st_setCell st_blk_ne stepAt stepUpon
attribute [local go_sem high] run_eql_blk run_neq_blk
attribute [local go_sem ↓] convBS_in
attribute [local go_sem] convBS_row convBS_nil allBytes_blk bytesOf_blk
attribute [local go_sem] pairC_size pairC_get0 pairC_get1 pairC_getE0 pairC_getE1 pairC_ne pairC_one pairC_cut pairC_paste pairC_set0 pairC_set1 size_pair agg_pair
attribute [local go_sem] as_bool_yes as_u64_yes as_text_yes as_list_yes as_pairs_yes as_text_must as_u64_must as_bool_no as_u64_no as_text_no as_list_no as_pairs_no as_bool_nil as_u64_nil as_text_nil as_list_nil as_pairs_nil

def ndTrue : Nd := .mk 1 1 noT [] []
def ndOdd : Nd := .mk 6 0 noT [] []
def ndA : Nd := .mk 4 0 noT [.zero, ndTrue] []
def txB : ByteArray := ⟨#[98]⟩
def txA1 : ByteArray := ⟨#[97]⟩
def ndB : Nd := .mk 3 0 txB [] []
def ndP : Nd := .mk 5 0 noT [ndB] [txA1]
theorem small_leaf (k n : Nat) (s : ByteArray) (h : s.size ≤ 1000) : Small (.mk k n s [] []) := .mk _ _ _ _ _ h (by decide) (by decide) (fun t h => by cases h) (fun t h => by cases h)
theorem small_true : Small ndTrue := small_leaf 1 1 noT (by decide)
theorem small_odd : Small ndOdd := small_leaf 6 0 noT (by decide)
theorem small_A : Small ndA := .mk _ _ _ _ _ (by decide) (by decide) (by decide) (fun t h => by cases h) (fun x h => by
  rcases List.mem_cons.1 h with rfl | h
  · exact small_leaf 0 0 noT (by decide)
  · rw [List.mem_singleton] at h; rw [h]; exact small_true)
theorem put_A : ndPut ndA = [5, 2, 0, 2] := by decide +kernel
theorem chk_A : ndChk ndA 0 = 0 := by decide +kernel
theorem chk_odd : ndChk ndOdd 0 = 22 := by decide +kernel
theorem same_true : sameB ndTrue ndTrue = true := by decide +kernel
theorem same_odd : sameB ndOdd ndOdd = false := by decide +kernel
theorem take_A : ndTake ⟨#[5, 2, 0, 2]⟩ = .ok ndA := by kernel_rfl
theorem find_P : ndFind ndP txA1 = some 0 := by decide +kernel
theorem any_true (w : World) : AnyAt w (.iface 4 (.bool true)) ndTrue := .bool 1 noT [] []
theorem any_odd (w : World) : AnyAt w (.iface 3 (.int .i64 5)) ndOdd := .odd 6 0 noT [] [] (by decide) (by decide)
theorem any_num (n : Nat) (w : World) (h : n < 18446744073709551616) : AnyAt w (.iface 22 (.int .u64 (n : Int))) (.mk 2 n noT [] []) := .num n noT [] [] h
theorem any_A (g : Nat) : AnyIn [(g, #[.nilIface, .iface 4 (.bool true)])] (.iface 57 (.slice (some ⟨g, 0, none⟩) 2 2)) ndA := by
  refine AnyIn.list 0 noT [.zero, ndTrue] [] (some ⟨g, 0, none⟩) 2 (fun i => if i = 0 then .nilIface else .iface 4 (.bool true)) (.inr ⟨g, (fun i => if i = 0 then .nilIface else .iface 4 (.bool true)), rfl, by decide, .head _, fun i hi j hj => ?_⟩) fun i hi => ?_
  · obtain rfl : j = 0 := by omega
    rw [Nat.mul_one, Nat.add_zero]
    rfl
  · have hi2 : i < 2 := hi
    obtain rfl | rfl : i = 0 ∨ i = 1 := by omega
    · exact .nil 0 noT [] []
    · exact .bool 1 noT [] []
theorem any_P (g : Nat) : AnyIn [(g, pairC txA1 (.iface 9 (.string txB)))] (.iface 61 (.slice (some ⟨g, 0, none⟩) 1 1)) ndP := by
  refine AnyIn.pairs 0 noT [ndB] [txA1] (some ⟨g, 0, none⟩) 1 (fun _ => .iface 9 (.string txB)) (.inr ⟨g, (fun i => if i = 0 then .string txA1 else .iface 9 (.string txB)), rfl, by decide, .head _, fun i hi j hj => ?_⟩) fun i hi => ?_
  · have hi2 : i < 1 := hi
    obtain rfl : i = 0 := by omega
    obtain rfl | rfl : j = 0 ∨ j = 1 := by omega
    · rfl
    · rfl
  · have hi2 : i < 1 := hi
    obtain rfl : i = 0 := by omega
    exact .text 0 txB [] []
theorem check10_odd (w : World) : Calls Try.prog 13 #[.iface 3 (.int .i64 5)] w fun e w' => e = .returned (.int .i64 22) ∧ Below w.heap.size w w' := by
  have k := checkTop_any ndOdd _ w (any_odd w)
  rw [chk_odd] at k
  exact k
theorem same10_yes (w : World) : Calls Try.prog 23 #[.iface 4 (.bool true), .iface 4 (.bool true)] w fun e w' => e = .returned (.bool true) ∧ Below w.heap.size w w' := by
  have k := same10_any ndTrue ndTrue small_true small_true (by decide +kernel) (by decide +kernel) _ _ w (any_true w) (any_true w)
  rw [same_true] at k
  exact k
theorem same10_no (w : World) : Calls Try.prog 23 #[.iface 3 (.int .i64 5), .iface 3 (.int .i64 5)] w fun e w' => e = .returned (.bool false) ∧ Below w.heap.size w w' := by
  have k := same10_any ndOdd ndOdd small_odd small_odd (by decide +kernel) (by decide +kernel) _ _ w (any_odd w) (any_odd w)
  rw [same_odd] at k
  exact k
theorem put10_A (g : Nat) (w0 w : World) (hC : St w0 [(g, #[.nilIface, .iface 4 (.bool true)])] w) : Calls Try.prog 11 #[.iface 57 (.slice (some ⟨g, 0, none⟩) 2 2)] w fun e w' => ∃ g' c F, e = .returned (.tuple #[.slice (some ⟨g', 0, none⟩) 4 c, .int .i64 0]) ∧ 4 ≤ c ∧ strOf 4 F = ⟨#[5, 2, 0, 2]⟩ ∧ St w [(g', blk c F)] w' := by
  have k := put10_any ndA small_A (by decide +kernel) _ w ((any_A g).at hC)
  rw [put_A, chk_A] at k
  refine k.mono ?_
  rintro e w' ⟨v, E, rfl, hp⟩
  cases hp with
  | bad h => exact absurd rfl h
  | ok h g' c F hv hE hc hF hC' =>
    subst hv hE
    exact ⟨g', c, F, rfl, hc, (strOf_congr hF).trans rfl, hC'⟩
theorem take10_A (w : World) : Calls Try.prog 15 #[.string ⟨#[5, 2, 0, 2]⟩] w fun e w' => ∃ a c, e = .returned (.tuple #[.iface 57 (.slice a 2 c), .int .i64 0]) ∧ Below w.heap.size w w' := by
  have k := take_any10 ⟨#[5, 2, 0, 2]⟩ (by decide) w
  rw [take_A] at k
  refine k.mono ?_
  rintro e w' ⟨v, E, rfl, ht⟩
  cases ht with
  | ok x L hx hE hC =>
    subst hE
    cases hx with
    | list n s kids names a c vs h3 h4 => exact ⟨a, c, rfl, hC.below⟩
    | odd k n s kids names hk h2 => exact absurd hk (by decide)
theorem find10_P (g : Nat) (w0 w : World) (hC : St w0 [(g, pairC txA1 (.iface 9 (.string txB)))] w) : Calls Try.prog 21 #[.iface 61 (.slice (some ⟨g, 0, none⟩) 1 1), .string ⟨#[97]⟩] w fun e w' => e = .returned (.tuple #[.iface 9 (.string ⟨#[98]⟩), .bool true]) ∧ Below w.heap.size w w' := by
  have k := find10_any ndP _ txA1 w ((any_P g).at hC) (by decide)
  rw [find_P] at k
  refine k.mono ?_
  rintro e w' ⟨u, b, rfl, hf⟩
  cases hf with
  | some i hi hu hb hw =>
    subst hb
    cases hu with
    | text n s kids names => exact ⟨rfl, hw⟩
    | odd k n s kids names hk h2 => exact absurd hk (by decide)
theorem text10_B (w : World) : Calls Try.prog 19 #[.iface 9 (.string ⟨#[98]⟩)] w fun e w' => e = .returned (.tuple #[.string ⟨#[98]⟩, .bool true]) ∧ Below w.heap.size w w' :=
  text10_any ndB _ w (.text 0 txB [] [])
theorem text10_7 (w : World) : Calls Try.prog 19 #[.iface 22 (.int .u64 7)] w fun e w' => e = .returned (.tuple #[.string ⟨#[]⟩, .bool false]) ∧ Below w.heap.size w w' :=
  text10_any (.mk 2 7 noT [] []) _ w (any_num 7 w (by decide))
theorem num10_7 (w : World) : Calls Try.prog 20 #[.iface 22 (.int .u64 7)] w fun e w' => e = .returned (.tuple #[.int .u64 7, .bool true]) ∧ Below w.heap.size w w' :=
  num10_any (.mk 2 7 noT [] []) _ w (any_num 7 w (by decide))
set_option maxRecDepth 100000 in
set_option maxHeartbeats 4000000 in
theorem awake10_any (w : World) : Calls Try.prog 9 #[] w fun e w' => e = .returned (.bool true) ∧ Below w.heap.size w w' := by
  have hpz := pairC_zero
  have HC := Lib.hid (St.nil w)
  go_enter Try.func9, Try.ntmps9
  go_wp2_with fail
  have HP := Lib.hid (HC.out.push #[.nilIface, .iface 4 (.bool true)] 20)
  refine (put10_A _ w _ HP.out).mono ?_; rintro r w1 ⟨g1, c1, F1, rfl, h4, hstr, hw⟩
  have HC := Lib.hid (HP.out.joins hw).free
  have HG := Lib.hid hw
  clear HP hw
  obtain ⟨r1, f1, i1, b1, l1⟩ := St.facts1 HG.out
  go_wp2_with fail
  clear r1 f1 i1 b1 l1
  refine (take10_A _).mono ?_; rintro r w2 ⟨a2, c2, rfl, hw⟩
  have HC := Lib.hid (HC.out.call hw)
  have HG := Lib.hid (HG.out.call hw)
  clear hw
  go_wp2_with fail
  refine (num10_7 _).mono ?_; rintro r w3 ⟨rfl, hw⟩
  have HC := Lib.hid (HC.out.call hw)
  have HG := Lib.hid (HG.out.call hw)
  clear hw
  go_wp2_with fail
  refine (text10_7 _).mono ?_; rintro r w4 ⟨rfl, hw⟩
  have HC := Lib.hid (HC.out.call hw)
  have HG := Lib.hid (HG.out.call hw)
  clear hw
  go_wp2_with fail
  have HP := Lib.hid (HG.out.push (pairC txA1 (.iface 9 (.string txB))) 60)
  refine (find10_P _ _ _ (HP.out.pick [0] (by decide) rfl)).mono ?_; rintro r w5 ⟨rfl, hw⟩
  have HC := Lib.hid ((HC.out.skip _).call hw)
  have HG := Lib.hid (HP.out.tail.call hw)
  clear hw HP
  go_wp2_with fail
  refine (text10_B _).mono ?_; rintro r w6 ⟨rfl, hw⟩
  have HC := Lib.hid (HC.out.call hw)
  have HG := Lib.hid (HG.out.call hw)
  clear hw
  obtain ⟨r1, f1, i1, b1, l1⟩ := St.facts1 HG.out
  go_wp2_with fail
  clear r1 f1 i1 b1 l1
  refine (check10_odd _).mono ?_; rintro r w7 ⟨rfl, hw⟩
  have HC := Lib.hid (HC.out.call hw)
  clear hw
  go_wp2_with fail
  refine (same10_yes _).mono ?_; rintro r w8 ⟨rfl, hw⟩
  have HC := Lib.hid (HC.out.call hw)
  clear hw
  go_wp2_with fail
  refine (same10_no _).mono ?_; rintro r w9 ⟨rfl, hw⟩
  have HC := Lib.hid (HC.out.call hw)
  clear hw
  go_wp2_with fail
  refine (mustNum_any 3 _).mono ?_; rintro r wa ⟨rfl, hw⟩
  have HC := Lib.hid (HC.out.call hw)
  clear hw
  go_wp2_with fail
  go_ret
  exact ⟨rfl, HC.out.below⟩
end Go.Proofs.Ytinlcpenllfcpaa
