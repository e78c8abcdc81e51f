/- The program's barrier: Seal, Open, take. -/
import Derived.Test.YtgaecjhghpkcoaaGreatBar2
import Derived.Test.YtgaecjhghpkcoaaGreatMap
namespace Go.Proofs.YtgaecjhghpkcoaaGreat
open Go.RowKit
attribute [local go_sem] B_xor B_or B_and
attribute [local go_sem] blk_set blk_size blk_get blk_getE upd_same oneCells_blk paste_blk cut_blk szOf
attribute [local go_sem high] paste_all cut_head
attribute [local go_sem] rowAt_alloc rowAt_drew rowAt_drewN isRow_alloc isRow_drew isRow_drewN freeRow_alloc freeRow_end freeRow_drew freeRow_drewN
attribute [local go_sem] setRow_alloc setRow_drew setRow_drewN setCell_drewN alloc_drewN rowAt_put isRow_setRow freeRow_put
attribute [local go_sem ↓] loadS_in storeS_in indexS_in copyS_in
attribute [local go_sem] loadS_row loadS_one storeS_row storeS_one indexS_blk copyS_rows run_equalIn_blk same_refl arrayAt_row
attribute [local go_sem] cell_row frozen_row st_setCell st_blk_ne stepAt stepUpon
attribute [local go_sem high] run_eql_blk run_neq_blk
attribute [local go_sem ↓] convBS_in
attribute [local go_sem] convBS_row convBS_nil allBytes_blk bytesOf_blk
attribute [local go_sem] rg_size rg_get0 rg_getE0 rg_ne rg_set0 rg_one rg_cut rg_key rg_put rg_paste part_rg0 part_rg1
attribute [local go_sem] size_cn agg_cn cn_size cn_get0 cn_get1 cn_getE0 cn_getE1 cn_set0 cn_set1 cn_ne cn_one cn_cut cn_paste
attribute [local go_sem] br_size br_get0 br_get1 br_get2 br_getE0 br_getE1 br_getE2 br_ne br_ring br_count br_whole br_put_ring br_put_count br_paste br_one size_br agg_br

/-- sealed -/
def Br.shut (b : Br) : Br := { b with n := 0, f := fun _ => 0, e := 0, c := 0 }
theorem seal_made (b : Br) (g : Nat) (w0 w : World) (L : List (Nat × Array Value)) (hC : St w0 ((g, br b) :: L) w) : Calls Tryz.prog 16 #[.pointer (some ⟨g, 0, none⟩)] w fun e w' => e = .returned (.tuple #[]) ∧ St w0 ((g, br b.shut) :: L) w' ∧ Mk w w' := by
  have hz2 := zero97
  have hz3 := cn_zero
  have HC := Lib.hid hC
  clear hC
  (obtain ⟨r1, f1, i1, b1, l1⟩ := St.facts1 (HC.out.pick [0] (by decide) rfl))
  go_enter Tryz.func16, Tryz.ntmps16
  go_wp2_with fail
  go_end0
  refine ⟨rfl, (HC.out.set_head (br { b with n := 0, f := fun _ => 0 }) (by rw [br_size, br_size])).set_head (br b.shut) (by rw [br_size, br_size]), ?_⟩
  (repeat
     first
       | (with_reducible exact Mk.refl _)
       | (with_reducible refine Mk.setRow ?_ _ _)
       | (with_reducible refine Mk.alloc ?_ _)
       | (with_reducible refine Mk.drew ?_)
       | (with_reducible refine Mk.drewN ?_ _)
       | (with_reducible refine Mk.call HW1.out ?_)
       | (with_reducible refine Mk.call HW2.out ?_)
       | (with_reducible refine Mk.call HW3.out ?_)
       | (with_reducible refine Mk.call HW4.out ?_)
       | (with_reducible refine Mk.call HW5.out ?_)
       | (with_reducible refine Mk.call HW6.out ?_))
set_option maxRecDepth 100000 in
set_option maxHeartbeats 1000000 in
theorem take_shut (b : Br) (hm : b.md = true) (hn : b.n = 0) (g : Nat) (w0 w : World) (L : List (Nat × Array Value)) (hC : St w0 ((g, br b) :: L) w) : Calls Tryz.prog 52 #[.pointer (some ⟨g, 0, none⟩)] w fun e w' => e = .returned (.tuple #[.string ⟨#[]⟩, .int .i64 12]) ∧ Below w.heap.size w w' := by
  have HC := Lib.hid hC
  have HB := Lib.hid (St.nil w)
  have HS := Lib.hid (state_made b hm g w0 w L hC 12 (.inl ⟨hn, rfl⟩))
  clear hC hm hn
  go_enter Tryz.func52, Tryz.ntmps52
  go_wp2_with fail
  refine HS.out.mono ?_; rintro e w1 ⟨rfl, hw⟩
  have HB := Lib.hid (HB.out.call hw)
  clear hw
  go_wp2_with fail
  go_ret2
  exact ⟨rfl, HB.out.below⟩
set_option maxRecDepth 100000 in
set_option maxHeartbeats 1000000 in
theorem take_open (b : Br) (hm : b.md = true) (hn : b.n ≠ 0) (hk : mayC b.e b.c) (hc : b.c ≠ 281474976710656) (g : Nat) (w0 w : World) (L : List (Nat × Array Value)) (hC : St w0 ((g, br b) :: L) w) : Calls Tryz.prog 52 #[.pointer (some ⟨g, 0, none⟩)] w fun e w' => e = .returned (.tuple #[.string (strOf 12 (nonceB b.e b.c)), .int .i64 0]) ∧ St w0 ((g, br { b with c := b.c + 1 }) :: L) w' ∧ Mk w w' := by
  have hz3 := cn_zero
  have HC := Lib.hid hC
  have HS := Lib.hid (state_made b hm g w0 w L hC 0 (.inr ⟨hn, rfl⟩))
  have HK := Lib.hid hk
  have HE := Lib.hid hc
  clear hC hm hn hk hc
  go_enter Tryz.func52, Tryz.ntmps52
  go_wp2_with fail
  refine HS.out.mono ?_; rintro e w1 ⟨rfl, hw⟩
  have HC := Lib.hid (HC.out.call hw)
  have HW1 := Lib.hid hw
  clear hw
  (obtain ⟨r1, f1, i1, b1, l1⟩ := St.facts1 (HC.out.pick [0] (by decide) rfl))
  go_wp2_with fail
  (clear r1 f1 i1 b1 l1)
  refine (nonceTake_yes b.e b.c HK.out HE.out _).mono ?_; rintro e w2 ⟨rfl, hw⟩
  have HC := Lib.hid (HC.out.call hw)
  have HW2 := Lib.hid hw
  clear hw
  (obtain ⟨r1, f1, i1, b1, l1⟩ := St.facts1 (HC.out.pick [0] (by decide) rfl))
  go_wp2_with fail
  go_ret2
  refine ⟨rfl, (HC.out.set_head (br { b with c := b.c + 1 }) (by rw [br_size, br_size])).skip _, ?_⟩
  (repeat
     first
       | (with_reducible exact Mk.refl _)
       | (with_reducible refine Mk.setRow ?_ _ _)
       | (with_reducible refine Mk.alloc ?_ _)
       | (with_reducible refine Mk.drew ?_)
       | (with_reducible refine Mk.drewN ?_ _)
       | (with_reducible refine Mk.call HW1.out ?_)
       | (with_reducible refine Mk.call HW2.out ?_)
       | (with_reducible refine Mk.call HW3.out ?_)
       | (with_reducible refine Mk.call HW4.out ?_)
       | (with_reducible refine Mk.call HW5.out ?_)
       | (with_reducible refine Mk.call HW6.out ?_))
set_option maxRecDepth 100000 in
set_option maxHeartbeats 1000000 in
theorem take_bad (b : Br) (hm : b.md = true) (hn : b.n ≠ 0) (d : Nat) (hd : (¬ mayC b.e b.c ∧ d = 2) ∨ (mayC b.e b.c ∧ b.c = 281474976710656 ∧ d = 19)) (g : Nat) (w0 w : World) (L : List (Nat × Array Value)) (hC : St w0 ((g, br b) :: L) w) : Calls Tryz.prog 52 #[.pointer (some ⟨g, 0, none⟩)] w fun e w' => e = .returned (.tuple #[.string ⟨#[]⟩, .int .i64 (d : Int)]) ∧ St w0 ((g, br b) :: L) w' ∧ Mk w w' := by
  have hz3 := cn_zero
  have HC := Lib.hid hC
  have HS := Lib.hid (state_made b hm g w0 w L hC 0 (.inr ⟨hn, rfl⟩))
  have HD := Lib.hid hd
  clear hC hm hn hd
  go_enter Tryz.func52, Tryz.ntmps52
  go_wp2_with fail
  refine HS.out.mono ?_; rintro e w1 ⟨rfl, hw⟩
  have HC := Lib.hid (HC.out.call hw)
  have HW1 := Lib.hid hw
  clear hw
  (obtain ⟨r1, f1, i1, b1, l1⟩ := St.facts1 (HC.out.pick [0] (by decide) rfl))
  go_wp2_with fail
  (clear r1 f1 i1 b1 l1)
  refine (nonceTake_no b.e b.c d HD.out _).mono ?_; rintro e w2 ⟨rfl, hw⟩
  have HC := Lib.hid (HC.out.call hw)
  have HW2 := Lib.hid hw
  clear hw
  (obtain ⟨r1, f1, i1, b1, l1⟩ := St.facts1 (HC.out.pick [0] (by decide) rfl))
  go_wp2_with fail
  go_ret2
  refine ⟨rfl, (HC.out.set_head (br b) rfl).skip _, ?_⟩
  (repeat
     first
       | (with_reducible exact Mk.refl _)
       | (with_reducible refine Mk.setRow ?_ _ _)
       | (with_reducible refine Mk.alloc ?_ _)
       | (with_reducible refine Mk.drew ?_)
       | (with_reducible refine Mk.drewN ?_ _)
       | (with_reducible refine Mk.call HW1.out ?_)
       | (with_reducible refine Mk.call HW2.out ?_)
       | (with_reducible refine Mk.call HW3.out ?_)
       | (with_reducible refine Mk.call HW4.out ?_)
       | (with_reducible refine Mk.call HW5.out ?_)
       | (with_reducible refine Mk.call HW6.out ?_))
/-! ### in one -/
instance (e n : Nat) : Decidable (mayC e n) := inferInstanceAs (Decidable (_ ∧ _ ∧ _))
/-- why no nonce is taken -/
def takeE (b : Br) : Nat := if b.n = 0 then 12 else if ¬ mayC b.e b.c then 2 else if b.c = 281474976710656 then 19 else 0
def nonceS (e c : Nat) : ByteArray := strOf 12 (nonceB e c)
def takeS (b : Br) : ByteArray := if takeE b = 0 then nonceS b.e b.c else ⟨#[]⟩
def Br.took (b : Br) : Br := if takeE b = 0 then { b with c := b.c + 1 } else b
theorem take_any (b : Br) (hm : b.md = true) (g : Nat) (w0 w : World) (L : List (Nat × Array Value)) (hC : St w0 ((g, br b) :: L) w) : Calls Tryz.prog 52 #[.pointer (some ⟨g, 0, none⟩)] w fun e w' => e = .returned (.tuple #[.string (takeS b), .int .i64 ((takeE b : Nat) : Int)]) ∧ St w0 ((g, br b.took) :: L) w' ∧ Mk w w' := by
  unfold takeS Br.took
  by_cases hn : b.n = 0
  · have hE : takeE b = 12 := by unfold takeE; rw [if_pos hn]
    rw [hE]
    refine (take_shut b hm hn g w0 w L hC).mono ?_
    rintro e w' ⟨rfl, hw⟩
    exact ⟨rfl, hC.call hw, Mk.call hw (Mk.refl _)⟩
  · by_cases hk : mayC b.e b.c
    · by_cases hc : b.c = 281474976710656
      · have hE : takeE b = 19 := by unfold takeE; rw [if_neg hn, if_neg (fun h => h hk), if_pos hc]
        rw [hE]
        exact take_bad b hm hn 19 (.inr ⟨hk, hc, rfl⟩) g w0 w L hC
      · have hE : takeE b = 0 := by unfold takeE; rw [if_neg hn, if_neg (fun h => h hk), if_neg hc]
        rw [hE]
        exact take_open b hm hn hk hc g w0 w L hC
    · have hE : takeE b = 2 := by unfold takeE; rw [if_neg hn, if_pos hk]
      rw [hE]
      exact take_bad b hm hn 2 (.inl ⟨hk, rfl⟩) g w0 w L hC
theorem take_sk (b : Br) (hm : b.md = true) (g : Nat) (v w0 w : World) (L : List (Nat × Array Value)) (hC : Sk v w0 ((g, br b) :: L) w) : Calls Tryz.prog 52 #[.pointer (some ⟨g, 0, none⟩)] w fun e w' => e = .returned (.tuple #[.string (takeS b), .int .i64 ((takeE b : Nat) : Int)]) ∧ Sk v w0 ((g, br b.took) :: L) w' :=
  (take_any b hm g w0 w L hC.toSt).mono fun _ _ ⟨h1, h2⟩ => ⟨h1, hC.next h2⟩
theorem seal_sk (b : Br) (g : Nat) (v w0 w : World) (L : List (Nat × Array Value)) (hC : Sk v w0 ((g, br b) :: L) w) : Calls Tryz.prog 16 #[.pointer (some ⟨g, 0, none⟩)] w fun e w' => e = .returned (.tuple #[]) ∧ Sk v w0 ((g, br b.shut) :: L) w' :=
  (seal_made b g w0 w L hC.toSt).mono fun _ _ ⟨h1, h2⟩ => ⟨h1, hC.next h2⟩
end Go.Proofs.YtgaecjhghpkcoaaGreat
