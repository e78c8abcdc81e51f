/- The program's barrier of the ideal kind: Put, Get. -/
import Derived.Test.YtgaecjhghpkcoaaGreatBar12
import Derived.Test.YtgaecjhghpkcoaaGreatBlank
namespace Go.Proofs.YtgaecjhghpkcoaaGreat
open Go.RowKit
attribute [local go_sem] B_xor B_or B_and
attribute [local go_sem] blk_set blk_size blk_get blk_getE upd_same oneCells_blk paste_blk cut_blk szOf
attribute [local go_sem high] paste_all cut_head
attribute [local go_sem] rowAt_alloc rowAt_drew rowAt_drewN isRow_alloc isRow_drew isRow_drewN freeRow_alloc freeRow_end freeRow_drew freeRow_drewN
attribute [local go_sem] setRow_alloc setRow_drew setRow_drewN setCell_drewN alloc_drewN rowAt_put isRow_setRow freeRow_put
attribute [local go_sem ↓] loadS_in storeS_in indexS_in copyS_in
attribute [local go_sem] loadS_row loadS_one storeS_row storeS_one indexS_blk copyS_rows run_equalIn_blk same_refl arrayAt_row
attribute [local go_sem] cell_row frozen_row st_setCell st_blk_ne stepAt stepUpon
attribute [local go_sem high] run_eql_blk run_neq_blk
attribute [local go_sem ↓] convBS_in
attribute [local go_sem] convBS_row convBS_nil allBytes_blk bytesOf_blk
attribute [local go_sem] rg_size rg_get0 rg_getE0 rg_ne rg_set0 rg_one rg_cut rg_key rg_put rg_paste part_rg0 part_rg1
attribute [local go_sem] size_cn agg_cn cn_size cn_get0 cn_get1 cn_getE0 cn_getE1 cn_set0 cn_set1 cn_ne cn_one cn_cut cn_paste
attribute [local go_sem] br_size br_get0 br_get1 br_get2 br_getE0 br_getE1 br_getE2 br_ne br_ring br_count br_whole br_put_ring br_put_count br_paste br_one size_br agg_br

attribute [local go_sem] size_np agg_np np_size np_get0 np_get1 np_getE0 np_getE1 np_ne np_one np_cut np_paste
/-- all maps of v but one are as they were -/
def Mo (m : Nat) (v w : World) : Prop := ∀ (k : Nat) (es : Array MapEntry) (c : Nat), k ≠ m → v.heap[k]? = some (Obj.map es c) → w.heap[k]? = some (Obj.map es c)
theorem Mp.mo {α : Type} {enc : α → Value} {v w : World} {k m : Nat} {N : List (ByteArray × α)} (h : Mp enc v k N) (hm : Mo m v w) (hk : k ≠ m) : Mp enc w k N := by
  obtain ⟨es, c, h1, h2⟩ := h
  exact ⟨es, c, hm k es c hk h1, h2⟩
set_option maxRecDepth 100000 in
set_option maxHeartbeats 2000000 in
theorem put_ideal (b : Br) (hm : b.md = true) (hkd : b.kd = 1) (h6 : b.n ≤ 6) (hE : takeE b = 0) (q m : Nat) (hnt : b.nt = .pointer (some ⟨q, 0, none⟩)) (N : List (ByteArray × (ByteArray × ByteArray))) (p t : ByteArray) (ht : t.size < 2 ^ 39) (g : Nat) (v w0 w : World) (L : List (Nat × Array Value)) (hC : Sk v w0 ((g, br b) :: (q, #[.map (some m)]) :: L) w) (hM : Mp encN v m N) (h0 : w0.heap.size ≤ m) :
    Calls Tryz.prog 23 #[.pointer (some ⟨g, 0, none⟩), .string p, .string t] w fun r w' => r = .returned (.tuple #[.string (headS b.n (nonceS b.e b.c) ++ nilS (t.size + 16)), .int .i64 0]) ∧ Mo m v w' ∧ Mp encN w' m (putN (nonceS b.e b.c) (p, t) N) ∧ Sk w' w0 ((g, br { b with c := b.c + 1 }) :: (q, #[.map (some m)]) :: L) w' := by
  have HC := Lib.hid hC
  have HT := Lib.hid (take_sk b hm g v w0 w _ hC)
  have hn1 := takeE_n hE
  have hkI : ((b.kd : Int) == 1) = true := by rw [hkd]; rfl
  clear hC
  have e1 : takeS b = nonceS b.e b.c := by unfold takeS; rw [if_pos hE]
  have e2 : b.took = { b with c := b.c + 1 } := by unfold Br.took; rw [if_pos hE]
  rw [e1, e2, hE] at HT
  clear e1 e2 hE hm hkd
  have T2 := Lib.hid (blank_any t (by omega))
  have T3 := Lib.hid (fun w => head_any b.n h6 (nonceS b.e b.c) (by rw [nonceS_size]; omega) w)
  obtain ⟨SR, hSR⟩ : ∃ SR, nilS (t.size + 16) = SR := ⟨_, rfl⟩
  have hsr : SR.size = t.size + 16 := by rw [← hSR]; exact strOf_size _ _
  obtain ⟨HS, hHS⟩ : ∃ HS, headS b.n (nonceS b.e b.c) = HS := ⟨_, rfl⟩
  have hhs : HS.size = 16 := by rw [← hHS]; unfold headS; rw [ByteArray.size_append, strOf_size, nonceS_size]
  have hsz : HS.size + SR.size ≤ 9223372036854775807 := by omega
  rw [hSR] at T2 ⊢
  rw [hHS] at T3 ⊢
  clear hSR hHS hsr hhs h6 hn1 ht
  go_enter Tryz.func23, Tryz.ntmps23
  go_wp2_with fail
  refine HT.out.mono ?_; rintro r w1 ⟨rfl, hC⟩
  have HC := Lib.hid hC
  clear hC
  (obtain ⟨⟨r1, f1, i1, b1, l1⟩, ⟨r2, f2, i2, b2, l2⟩, m12, m21⟩ := St.facts2 (HC.out.pick [0, 1] (by decide) rfl))
  go_wp2_with fail
  (clear r1 f1 i1 b1 l1 r2 f2 i2 b2 l2 m12 m21)
  refine (term_any b.n b.f _).mono ?_; rintro e w2 ⟨rfl, hw⟩
  have HC := Lib.hid (HC.out.call hw)
  clear hw
  (obtain ⟨⟨r1, f1, i1, b1, l1⟩, ⟨r2, f2, i2, b2, l2⟩, m12, m21⟩ := St.facts2 (HC.out.pick [0, 1] (by decide) rfl))
  go_wp2_with fail
  (clear r1 f1 i1 b1 l1 r2 f2 i2 b2 l2 m12 m21)
  obtain ⟨w3, hmu, hbut, hmp⟩ := run_update_text (P := Tryz.prog) encN 76 9 97 Tryz.underlying76 Tryz.underlying9 (hM.mk encN HC.out.kept) (nonceS b.e b.c) (p, t)
  have hmo : Mo m v w3 := fun k es c hk hv => (hbut.block k hk).trans (HC.out.kept k es c hv)
  have HC := Lib.hid (St.sk (HC.out.toSt.but hbut h0 (hM.mk encN HC.out.kept).row))
  have HM := Lib.hid (And.intro hmo hmp)
  unfold encN np at hmu
  rw [hmu]
  clear hbut hmo hmp hmu hM
  (obtain ⟨⟨r1, f1, i1, b1, l1⟩, ⟨r2, f2, i2, b2, l2⟩, m12, m21⟩ := St.facts2 (HC.out.pick [0, 1] (by decide) rfl))
  simp only [Result.andThen]
  go_wp2_with fail
  (clear r1 f1 i1 b1 l1 r2 f2 i2 b2 l2 m12 m21)
  refine (T3.out _).mono ?_; rintro e w4 ⟨rfl, hw⟩
  have HC := Lib.hid (HC.out.call hw)
  clear hw
  (obtain ⟨⟨r1, f1, i1, b1, l1⟩, ⟨r2, f2, i2, b2, l2⟩, m12, m21⟩ := St.facts2 (HC.out.pick [0, 1] (by decide) rfl))
  go_wp2_with fail
  (clear r1 f1 i1 b1 l1 r2 f2 i2 b2 l2 m12 m21)
  refine (T2.out _).mono ?_; rintro e w5 ⟨rfl, hw⟩
  have HC := Lib.hid (HC.out.call hw)
  clear hw
  (obtain ⟨⟨r1, f1, i1, b1, l1⟩, ⟨r2, f2, i2, b2, l2⟩, m12, m21⟩ := St.facts2 (HC.out.pick [0, 1] (by decide) rfl))
  go_wp2_with fail
  go_ret2
  exact ⟨rfl, fun k es c hk hv => HC.out.kept k es c (HM.out.1 k es c hk hv), HM.out.2.mk encN HC.out.kept, HC.out.base⟩
/-- what a look-up tells -/
theorem run_lookup_note {w : World} {m : Nat} {N : List (ByteArray × (ByteArray × ByteArray))} (hM : Mp encN w m N) (k : ByteArray) :
    (Instr.lookup 76 (.map (some m)) (.string k) true).run Tryz.prog w = .ok (.tuple #[((findN k N).map encN).getD (.agg (np ⟨#[]⟩ ⟨#[]⟩)), .bool (findN k N).isSome]) w :=
  run_lookup_text (P := Tryz.prog) encN 76 9 97 Tryz.underlying76 Tryz.underlying9 _ (by simp [go_sem]; rfl) hM k
set_option maxRecDepth 100000 in
set_option maxHeartbeats 2000000 in
theorem get_ideal (b : Br) (hm : b.md = true) (hkd : b.kd = 1) (hn : b.n ≠ 0) (h6 : b.n ≤ 6) (q m : Nat) (hnt : b.nt = .pointer (some ⟨q, 0, none⟩)) (N : List (ByteArray × (ByteArray × ByteArray))) (p s : ByteArray) (h : 32 ≤ s.size) (hs : s.size < 2 ^ 40) (ht : ¬ (numAt s 0 4 < 1 ∨ b.n < numAt s 0 4)) (X : Option (ByteArray × ByteArray)) (hX : findN (s.extract 4 16) N = X) (hXs : ∀ q t, X = some (q, t) → t.size ≤ 2 ^ 39) (g : Nat) (v w0 w : World) (L : List (Nat × Array Value)) (hC : Sk v w0 ((g, br b) :: (q, #[.map (some m)]) :: L) w) (hM : Mp encN v m N) :
    Calls Tryz.prog 12 #[.pointer (some ⟨g, 0, none⟩), .string p, .string s] w fun r w' => r = .returned (.tuple #[.string (idealR X p (s.extract 16 s.size)).1, .int .i64 (((idealR X p (s.extract 16 s.size)).2 : Nat) : Int)]) ∧ Below w.heap.size w w' := by
  have hz := zero16
  have hz4 := np_zero
  have HS := Lib.hid (state_made b hm g w0 w _ hC.toSt 0 (.inr ⟨hn, rfl⟩))
  have T1 := Lib.hid (parts_any s h hs)
  have T2 := Lib.hid (key_yes b.n b.f (numAt s 0 4) (numAt s 0 4 - 1) (by omega) (by omega) h6)
  have hkI : ((b.kd : Int) != 1) = false := by rw [hkd]; rfl
  obtain ⟨T, hT⟩ : ∃ T, numAt s 0 4 = T := ⟨_, rfl⟩
  obtain ⟨nn, hnn⟩ : ∃ nn, s.extract 4 16 = nn := ⟨_, rfl⟩
  obtain ⟨rest, hrest⟩ : ∃ r, s.extract 16 s.size = r := ⟨_, rfl⟩
  rw [hT] at T1 T2
  rw [hnn] at T1 hX
  rw [hrest] at T1 ⊢
  have HB := Lib.hid hC
  have HC := Lib.hid (St.nil w)
  have HX := Lib.hid hXs
  have HE := Lib.hid hX
  obtain ⟨R, hR⟩ : ∃ R, idealR X p rest = R := ⟨_, rfl⟩
  rw [hR]
  have HR := Lib.hid hR
  clear hC hm hn hs h ht hT hkd hnn hrest hX hXs hR
  go_enter Tryz.func12, Tryz.ntmps12
  go_wp2_with fail
  refine HS.out.mono ?_; rintro e w1 ⟨rfl, hw⟩
  have HB := Lib.hid (HB.out.call hw)
  have HC := Lib.hid (HC.out.call hw)
  clear hw
  go_wp2_with fail
  refine (T1.out _).mono ?_; rintro e w2 ⟨rfl, hw⟩
  have HB := Lib.hid (HB.out.call hw)
  have HC := Lib.hid (HC.out.call hw)
  clear hw
  obtain ⟨r1, f1, i1, b1, l1⟩ := St.facts1 (HB.out.pick [0] (by decide) rfl)
  go_wp2_with fail
  refine (T2.out _).mono ?_; rintro e w3 ⟨rfl, hw⟩
  have HB := Lib.hid ((HB.out.call hw).skip (.cells (blk 16 (keyB b.f (T - 1))) 41))
  have HC := Lib.hid ((HC.out.call hw).push (blk 16 (keyB b.f (T - 1))) 41)
  clear hw r1 f1 i1 b1 l1
  have hlk := run_lookup_note (hM.mk encN HB.out.kept) nn
  rw [HE.out] at hlk
  obtain ⟨⟨r1, f1, i1, b1, l1⟩, ⟨r2, f2, i2, b2, l2⟩, m12, m21⟩ := St.facts2 (HB.out.pick [0, 1] (by decide) rfl)
  rcases X with _ | ⟨q', t'⟩
  · clear HX
    obtain rfl := HR.out
    simp only [Option.map_none, Option.getD_none, Option.isSome_none] at hlk
    go_wp2_with fail
    go_ret2
    refine ⟨rfl, ?_⟩
    exact (HC.out.skip _).below
  · simp only [Option.map_some, Option.getD_some, Option.isSome_some, encN] at hlk
    have T3 := Lib.hid (blank_any t' (HX.out q' t' rfl))
    by_cases hq : q' = p
    · subst hq
      have hs1 := text_same q'
      by_cases hr : rest = nilS (t'.size + 16)
      · have hs2 : (rest.toList == (nilS (t'.size + 16)).toList) = true := by rw [hr]; exact text_same _
        have he : idealR (some (q', t')) q' rest = (t', 0) := by unfold idealR; rw [hr]; exact if_pos ⟨rfl, rfl⟩
        have HR := Lib.hid (he.symm.trans HR.out)
        clear hr he
        go_wp2_with fail
        have HC := Lib.hid (HC.out.pushA (np q' t') 97 (g := w3.heap.size + 1) (by simp))
        refine (T3.out _).mono ?_; rintro e w4 ⟨rfl, hw⟩
        have HC := Lib.hid (HC.out.call hw)
        clear hw
        (obtain ⟨⟨r1, f1, i1, b1, l1⟩, ⟨r2, f2, i2, b2, l2⟩, m12, m21⟩ := St.facts2 (HC.out.pick [0, 1] (by decide) rfl))
        go_wp2_with fail
        go_ret2
        obtain rfl := HR.out
        exact ⟨rfl, HC.out.below⟩
      · have hs2 := text_ne hr
        have he : idealR (some (q', t')) q' rest = (⟨#[]⟩, 11) := by unfold idealR; exact if_neg fun h => hr h.2
        have HR := Lib.hid (he.symm.trans HR.out)
        clear hr he
        go_wp2_with fail
        refine (T3.out _).mono ?_; rintro e w4 ⟨rfl, hw⟩
        have HC := Lib.hid ((HC.out.skip _).call hw)
        clear hw
        go_wp2_with fail
        go_ret2
        obtain rfl := HR.out
        exact ⟨rfl, HC.out.below⟩
    · have hs1 := text_ne hq
      have he : idealR (some (q', t')) p rest = (⟨#[]⟩, 11) := by unfold idealR; exact if_neg fun h => hq h.1
      have HR := Lib.hid (he.symm.trans HR.out)
      clear hq he
      go_wp2_with fail
      go_ret2
      obtain rfl := HR.out
      exact ⟨rfl, (HC.out.skip _).below⟩
end Go.Proofs.YtgaecjhghpkcoaaGreat
