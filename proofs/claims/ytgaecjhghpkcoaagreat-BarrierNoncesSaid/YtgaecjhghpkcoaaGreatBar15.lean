/- padlocklaw21.awake returns true. -/
import Derived.Test.YtgaecjhghpkcoaaGreatBar14
namespace Go.Proofs.YtgaecjhghpkcoaaGreat
open Go.RowKit
attribute [local go_sem] B_xor B_or B_and
attribute [local go_sem] blk_set blk_size blk_get blk_getE upd_same oneCells_blk paste_blk cut_blk szOf
attribute [local go_sem high] paste_all cut_head
attribute [local go_sem] rowAt_alloc rowAt_drew rowAt_drewN isRow_alloc isRow_drew isRow_drewN freeRow_alloc freeRow_end freeRow_drew freeRow_drewN
attribute [local go_sem] setRow_alloc setRow_drew setRow_drewN setCell_drewN alloc_drewN rowAt_put isRow_setRow freeRow_put
attribute [local go_sem ↓] loadS_in storeS_in indexS_in copyS_in
attribute [local go_sem] loadS_row loadS_one storeS_row storeS_one indexS_blk copyS_rows run_equalIn_blk same_refl arrayAt_row
attribute [local go_sem] cell_row frozen_row st_setCell st_blk_ne stepAt stepUpon
attribute [local go_sem high] run_eql_blk run_neq_blk
attribute [local go_sem ↓] convBS_in
attribute [local go_sem] convBS_row convBS_nil allBytes_blk bytesOf_blk
attribute [local go_sem] rg_size rg_get0 rg_getE0 rg_ne rg_set0 rg_one rg_cut rg_key rg_put rg_paste part_rg0 part_rg1
attribute [local go_sem] size_cn agg_cn cn_size cn_get0 cn_get1 cn_getE0 cn_getE1 cn_set0 cn_set1 cn_ne cn_one cn_cut cn_paste

def txA : ByteArray := ⟨#[97]⟩
def txXyz : ByteArray := ⟨#[120, 121, 122]⟩
theorem get_put_real (n : Nat) (f : Nat → UInt8) (e c : Nat) (p t : ByteArray) : openR (keyB f (numAt (headS n (nonceS e c) ++ sealedT n f e c p t) 0 4 - 1)) ((headS n (nonceS e c) ++ sealedT n f e c p t).extract 4 16) p ((headS n (nonceS e c) ++ sealedT n f e c p t).extract 16 (headS n (nonceS e c) ++ sealedT n f e c p t).size) = openR (keyB f (numAt (headS n (nonceS e c) ++ sealedT n f e c p t) 0 4 - 1)) (nonceS e c) p (sealedT n f e c p t) := by
  rw [entry_nonce _ _ _ (nonceS_size e c), entry_rest _ _ _ (nonceS_size e c)]
/-- an open barrier of the real kind -/
def b21 (F : Nat → UInt8) (c : Nat) : Br := ⟨true, 0, .pointer none, 1, F, 1, c⟩
theorem b21_take (F : Nat → UInt8) (c : Nat) (h : c < 100) : takeE (b21 F c) = 0 := by
  have h1 : (b21 F c).n = 1 := rfl
  have h2 : (b21 F c).e = 1 := rfl
  have h3 : (b21 F c).c = c := rfl
  have hm : mayC 1 c := ⟨by omega, by omega, by omega⟩
  unfold takeE
  rw [h1, h2, h3, if_neg (by omega), if_neg (fun k => k hm), if_neg (by omega)]
section
variable (F : Nat → UInt8) (g : Nat) (v w0 w : World) (L : List (Nat × Array Value))
theorem b21_put0 (hC : Sk v w0 ((g, br (Br.fresh 0 (.pointer none))) :: L) w) : Calls Tryz.prog 23 #[.pointer (some ⟨g, 0, none⟩), .string ⟨#[97]⟩, .string ⟨#[120]⟩] w fun r w' => r = .returned (.tuple #[.string ⟨#[]⟩, .int .i64 12]) ∧ Sk v w0 ((g, br (Br.fresh 0 (.pointer none))) :: L) w' :=
  put_no (Br.fresh 0 (.pointer none)) rfl (by decide) _ _ g v w0 w L hC
theorem b21_open (hC : Sk v w0 ((g, br (Br.fresh 0 (.pointer none))) :: L) w) : Calls Tryz.prog 14 #[.pointer (some ⟨g, 0, none⟩), .agg (rg 1 F), .agg (cn 1 0)] w fun r w' => r = .returned (.int .i64 0) ∧ Sk v w0 ((g, br (b21 F 0)) :: L) w' :=
  open_sk (Br.fresh 0 (.pointer none)) rfl 1 F 1 0 g v w0 w L hC
theorem b21_put (hC : Sk v w0 ((g, br (b21 F 0)) :: L) w) : Calls Tryz.prog 23 #[.pointer (some ⟨g, 0, none⟩), .string ⟨#[97]⟩, .string ⟨#[120, 121, 122]⟩] w fun r w' => r = .returned (.tuple #[.string (headS 1 (nonceS 1 0) ++ sealedT 1 F 1 0 txA txXyz), .int .i64 0]) ∧ Sk v w0 ((g, br (b21 F 1)) :: L) w' :=
  put_real (b21 F 0) rfl rfl (by show 1 ≤ 6; omega) (b21_take F 0 (by omega)) txA txXyz (by decide) (by decide) g v w0 w L hC
theorem b21_size : (headS 1 (nonceS 1 0) ++ sealedT 1 F 1 0 txA txXyz).size = 35 := by
  rw [entry_size _ _ _ (nonceS_size _ _)]
  unfold sealedT
  rw [sealS_size]; rfl
theorem b21_get (hC : Sk v w0 ((g, br (b21 F 1)) :: L) w) : Calls Tryz.prog 12 #[.pointer (some ⟨g, 0, none⟩), .string ⟨#[97]⟩, .string (headS 1 (nonceS 1 0) ++ sealedT 1 F 1 0 txA txXyz)] w fun r w' => r = .returned (.tuple #[.string ⟨#[120, 121, 122]⟩, .int .i64 0]) ∧ Below w.heap.size w w' := by
  have ht := entry_term 1 (nonceS 1 0) (sealedT 1 F 1 0 txA txXyz) (by omega)
  refine get_real (b21 F 1) rfl rfl (by show 1 ≠ 0; omega) (by show 1 ≤ 6; omega) txA _ (by rw [b21_size]; omega) (by rw [b21_size]; omega) (by decide) (by rw [ht]; show ¬ (1 < 1 ∨ 1 < 1); omega) (txXyz, 0) ?_ g w0 w L hC.toSt
  rw [ht, entry_nonce _ _ _ (nonceS_size _ _), entry_rest _ _ _ (nonceS_size _ _)]
  exact openR_own _ _ _ _
theorem b21_lock (m : Nat → UInt8) (hC : Sk v w0 ((g, br (b21 F 1)) :: L) w) : Calls Tryz.prog 20 #[.pointer (some ⟨g, 0, none⟩), .agg (blk 16 m)] w fun r w' => r = .returned (.tuple #[.string (headS 0 (nonceS 1 1) ++ sealedR m 1 F 1 1), .int .i64 0]) ∧ Sk v w0 ((g, br (b21 F 2)) :: L) w' := by
  have hE := b21_take F 1 (by omega)
  have h := lock_sk (b21 F 1) rfl (by show 1 ≤ 6; omega) m g v w0 w L hC
  have e1 : lockS (b21 F 1) m = headS 0 (nonceS 1 1) ++ sealedR m 1 F 1 1 := by unfold lockS; rw [if_pos hE]; rfl
  have e2 : (b21 F 1).took = b21 F 2 := by unfold Br.took; rw [if_pos hE]; rfl
  rw [e1, e2, hE] at h
  exact h
theorem b21_unlock (m : Nat → UInt8) (w : World) : ∃ G, Calls Tryz.prog 30 #[.agg (blk 16 m), .string (headS 0 (nonceS 1 1) ++ sealedR m 1 F 1 1)] w fun r w' => r = .returned (.tuple #[.agg (rg 1 G), .int .i64 0]) ∧ Below w.heap.size w w' := by
  have h := unlock_any m (headS 0 (nonceS 1 1) ++ sealedR m 1 F 1 1) (by rw [entry_size _ _ _ (nonceS_size _ _)]; unfold sealedR; rw [sealS_size, ringT_size]; omega) w
  rw [unlock_back m 1 F 1 1 (by omega) (by omega)] at h
  exact ⟨_, h⟩
theorem b21_seal (hC : Sk v w0 ((g, br (b21 F 2)) :: L) w) : Calls Tryz.prog 16 #[.pointer (some ⟨g, 0, none⟩)] w fun r w' => r = .returned (.tuple #[]) ∧ Sk v w0 ((g, br (Br.fresh 0 (.pointer none))) :: L) w' := seal_sk (b21 F 2) g v w0 w L hC
theorem b21_sealed (hC : Sk v w0 ((g, br (Br.fresh 0 (.pointer none))) :: L) w) : Calls Tryz.prog 36 #[.pointer (some ⟨g, 0, none⟩)] w fun r w' => r = .returned (.bool true) ∧ Below w.heap.size w w' := sealed_shut (Br.fresh 0 (.pointer none)) rfl rfl g w0 w L hC.toSt
end
set_option maxRecDepth 100000 in
set_option maxHeartbeats 4000000 in
theorem awake21_any (w : World) : Calls Tryz.prog 8 #[] w fun e w' => e = .returned (.bool true) ∧ Below w.heap.size w w' := by
  have hz2 := zero97
  have hz := zero16
  obtain ⟨m, hm⟩ : ∃ m : Nat → UInt8, (blk 16 fun _ => 0).setIfInBounds 0 (.int .u8 1) = blk 16 m := ⟨upd (fun _ => 0) 0 1, blk_set 16 (fun _ => 0) 0 1⟩
  have hcn : (#[Value.int .u64 1, .int .u64 0] : Array Value) = cn 1 0 := rfl
  obtain ⟨F, hF⟩ : ∃ F, newB m = F := ⟨_, rfl⟩
  have K1 := Lib.hid (fun w => new_any m w)
  rw [hF] at K1
  obtain ⟨S, hS⟩ : ∃ S, headS 1 (nonceS 1 0) ++ sealedT 1 F 1 0 txA txXyz = S := ⟨_, rfl⟩
  have hss := b21_size F
  have K2 := Lib.hid (fun g v w0 w L => b21_put F g v w0 w L)
  have K3 := Lib.hid (fun g v w0 w L => b21_get F g v w0 w L)
  rw [hS] at hss K2 K3
  obtain ⟨T, hT⟩ : ∃ T, headS 0 (nonceS 1 1) ++ sealedR m 1 F 1 1 = T := ⟨_, rfl⟩
  have K4 := Lib.hid (fun g v w0 w L => b21_lock F g v w0 w L m)
  have K5 := Lib.hid (fun w => b21_unlock F m w)
  rw [hT] at K4 K5
  clear hF hS hT
  have HC := Lib.hid (Sk.nil w)
  go_enter Tryz.func8, Tryz.ntmps8
  go_wp2_with fail
  refine (new_real _ _ _ _ _ HC.out).mono ?_; rintro e w1 ⟨g, rfl, hC⟩
  have HC := Lib.hid hC
  clear hC
  go_wp2_with fail
  refine (b21_put0 g _ _ _ _ HC.out).mono ?_; rintro e w2 ⟨rfl, hC⟩
  have HC := Lib.hid hC
  clear hC
  go_wp2_with fail
  refine (K1.out _).mono ?_; rintro e w3 ⟨rfl, hw⟩
  have HC := Lib.hid (HC.out.call hw)
  clear hw
  go_wp2_with fail
  refine (b21_open F g _ _ _ _ HC.out).mono ?_; rintro e w4 ⟨rfl, hC⟩
  have HC := Lib.hid hC
  clear hC
  go_wp2_with fail
  refine (K2.out g _ _ _ _ HC.out).mono ?_; rintro e w5 ⟨rfl, hC⟩
  have HC := Lib.hid hC
  clear hC
  go_wp2_with fail
  refine (K3.out g _ _ _ _ HC.out).mono ?_; rintro e w6 ⟨rfl, hw⟩
  have HC := Lib.hid (HC.out.call hw)
  clear hw
  go_wp2_with fail
  refine (K4.out g _ _ _ _ HC.out).mono ?_; rintro e w7 ⟨rfl, hC⟩
  have HC := Lib.hid hC
  clear hC
  go_wp2_with fail
  obtain ⟨G, hG⟩ := K5.out w7
  clear K5
  refine (hG).mono ?_; rintro e w8 ⟨rfl, hw⟩
  have HC := Lib.hid (HC.out.call hw)
  clear hw
  go_wp2_with fail
  have HC := Lib.hid ((HC.out.push (rg 1 G) 44).swap)
  refine (b21_seal F g _ _ _ _ HC.out).mono ?_; rintro e w9 ⟨rfl, hC⟩
  have HC := Lib.hid hC
  clear hC
  go_wp2_with fail
  refine (new_kind _).mono ?_; rintro e w10 ⟨rfl, hw⟩
  have HC := Lib.hid (HC.out.call hw)
  clear hw
  go_wp2_with fail
  refine (new_no _).mono ?_; rintro e w11 ⟨rfl, hw⟩
  have HC := Lib.hid (HC.out.call hw)
  clear hw
  (obtain ⟨⟨r1, f1, i1, b1, l1⟩, ⟨r2, f2, i2, b2, l2⟩, m12, m21⟩ := St.facts2 (HC.out.pick [0, 1] (by decide) rfl))
  go_wp2_with fail
  (clear r1 f1 i1 b1 l1 r2 f2 i2 b2 l2 m12 m21)
  refine (term_any 1 G _).mono ?_; rintro e w12 ⟨rfl, hw⟩
  have HC := Lib.hid (HC.out.call hw)
  clear hw
  (obtain ⟨⟨r1, f1, i1, b1, l1⟩, ⟨r2, f2, i2, b2, l2⟩, m12, m21⟩ := St.facts2 (HC.out.pick [0, 1] (by decide) rfl))
  go_wp2_with fail
  (clear r1 f1 i1 b1 l1 r2 f2 i2 b2 l2 m12 m21)
  refine (b21_sealed g _ _ _ _ HC.out).mono ?_; rintro e w13 ⟨rfl, hw⟩
  have HC := Lib.hid (HC.out.call hw)
  clear hw
  (obtain ⟨⟨r1, f1, i1, b1, l1⟩, ⟨r2, f2, i2, b2, l2⟩, m12, m21⟩ := St.facts2 (HC.out.pick [0, 1] (by decide) rfl))
  go_wp2_with fail
  go_ret
  exact ⟨rfl, HC.out.below⟩
end Go.Proofs.YtgaecjhghpkcoaaGreat
