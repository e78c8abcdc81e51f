/- The reference's barrier: Get, of the ideal kind. -/
import Derived.Test.YtgaecjhghpkcoaaGreatRb8
namespace Go.Proofs.YtgaecjhghpkcoaaGreat
open Go.RowKit
attribute [local go_sem] B_xor B_or B_and
attribute [local go_sem] blk_set blk_size blk_get blk_getE upd_same oneCells_blk paste_blk cut_blk szOf
attribute [local go_sem high] paste_all cut_head
attribute [local go_sem] rowAt_alloc rowAt_drew rowAt_drewN isRow_alloc isRow_drew isRow_drewN freeRow_alloc freeRow_end freeRow_drew freeRow_drewN
attribute [local go_sem] setRow_alloc setRow_drew setRow_drewN setCell_drewN alloc_drewN rowAt_put isRow_setRow freeRow_put
attribute [local go_sem ↓] loadS_in storeS_in indexS_in copyS_in
attribute [local go_sem] loadS_row loadS_one storeS_row storeS_one indexS_blk copyS_rows run_equalIn_blk same_refl arrayAt_row
attribute [local go_sem] cell_row frozen_row st_setCell st_blk_ne stepAt stepUpon
attribute [local go_sem high] run_eql_blk run_neq_blk
attribute [local go_sem ↓] convBS_in
attribute [local go_sem] convBS_row convBS_nil allBytes_blk bytesOf_blk
attribute [local go_sem] size_c19 agg_c19 cn_size cn_get0 cn_get1 cn_getE0 cn_getE1 cn_set0 cn_set1 cn_ne cn_one cn_cut cn_paste
attribute [local go_sem] rb_size rb_get0 rb_get1 rb_get2 rb_get3 rb_get4 rb_getE0 rb_getE1 rb_getE2 rb_getE3 rb_getE4 rb_ne rb_one rb_cut rb_count rb_paste rb_set0 rb_set1 rb_set3 rb_set4 rb_build size_rb agg_rb
attribute [local go_sem] size_rsc agg_rsc sc_size sc_get0 sc_get1 sc_get2 sc_getE0 sc_getE1 sc_getE2 sc_set1 sc_set2 sc_ne sc_one sc_cut sc_paste
/-- a note of the document's -/
def n3 (a b c : ByteArray) : Array Value := #[.string a, .string b, .string c]
theorem n3_size (a b c : ByteArray) : (n3 a b c).size = 3 := by simp [n3]
theorem n3_get0 (a b c : ByteArray) : (n3 a b c)[0]? = some (.string a) := by simp [n3]
theorem n3_get1 (a b c : ByteArray) : (n3 a b c)[1]? = some (.string b) := by simp [n3]
theorem n3_get2 (a b c : ByteArray) : (n3 a b c)[2]? = some (.string c) := by simp [n3]
theorem n3_getE0 (a b c : ByteArray) (h : 0 < (n3 a b c).size) : (n3 a b c)[0]'h = .string a := by simp [n3]
theorem n3_getE1 (a b c : ByteArray) (h : 1 < (n3 a b c).size) : (n3 a b c)[1]'h = .string b := by simp [n3]
theorem n3_getE2 (a b c : ByteArray) (h : 2 < (n3 a b c).size) : (n3 a b c)[2]'h = .string c := by simp [n3]
theorem n3_ne (a b c : ByteArray) : (n3 a b c = #[]) = False := by simp [n3]
theorem n3_one (a b c : ByteArray) : oneCells (n3 a b c) = true := by simp [oneCells, n3, Value.oneCell']
theorem n3_cut (a b c : ByteArray) : cut (n3 a b c) 0 3 = n3 a b c := by simp [cut, n3]
theorem n3_paste (a b c d e f : ByteArray) : paste (n3 a b c) 0 (n3 d e f) = n3 d e f := paste_whole _ _ (by rw [n3_size, n3_size])
theorem size_n3 (w : World) : (sizeOf 106).run Tryz.prog w = .ok 3 w := by simp [go_sem]
theorem agg_n3 (w : World) : (isAgg 106).run Tryz.prog w = .ok true w := by simp [go_sem]
theorem n3_zero : #[Value.string ⟨#[]⟩, .string ⟨#[]⟩, .string ⟨#[]⟩] = n3 ⟨#[]⟩ ⟨#[]⟩ ⟨#[]⟩ := rfl
attribute [local go_sem] n3_size n3_get0 n3_get1 n3_get2 n3_getE0 n3_getE1 n3_getE2 n3_ne n3_one n3_cut n3_paste size_n3 agg_n3
theorem cut_note (cap j : Nat) (F : Nat → Value) (l : List (ByteArray × ByteArray × ByteArray)) (h1 : l.length ≤ cap) (h : j < l.length) (h5 : ∀ i, i < l.length * 3 → F i = nCell l i) : cut (vlk (cap * 3) F) (j * 3) (j * 3 + 3) = n3 l[j].1 l[j].2.1 l[j].2.2 := by
  rw [vcut _ _ _ _ (by omega)]
  refine (vlk_ext (n3_size _ _ _) fun i hi => ?_).symm
  have e : F (j * 3 + i) = nCell l (j * 3 + i) := h5 _ (by omega)
  rw [e]
  unfold nCell
  rw [show (j * 3 + i) / 3 = j by omega, show (j * 3 + i) % 3 = i by omega, List.getElem?_eq_getElem h]
  obtain rfl | rfl | rfl : i = 0 ∨ i = 1 ∨ i = 2 := by omega
  all_goals rfl
theorem NotesV.open {w : World} {a : Option Addr} {n c : Nat} {l : List (ByteArray × ByteArray × ByteArray)} (h : NotesV w a n c l) (hn : l ≠ []) : ∃ g F, a = some ⟨g, 0, none⟩ ∧ l.length ≤ c ∧ g < w.heap.size ∧ rowAt w g = vlk (c * 3) F ∧ isRow w g = true ∧ ∀ i, i < l.length * 3 → F i = nCell l i := by
  cases h with
  | nil => exact absurd rfl hn
  | cons h _ F _ hl h1 h2 h3 h4 h5 => exact ⟨h, F, rfl, h1, h2, h3, h4, h5⟩
/-- what the last note of this nonce says -/
def lastN (k : ByteArray) (l : List (ByteArray × ByteArray × ByteArray)) : Option (ByteArray × ByteArray) := l.foldl (fun o x => if x.1 = k then some x.2 else o) none
theorem lastN_put (k : ByteArray) (l : List (ByteArray × ByteArray × ByteArray)) (x : ByteArray × ByteArray × ByteArray) : lastN k (l ++ [x]) = if x.1 = k then some x.2 else lastN k l := by
  unfold lastN; rw [List.foldl_append]; rfl
theorem lastN_take (k : ByteArray) (l : List (ByteArray × ByteArray × ByteArray)) (j : Nat) (h : j < l.length) : lastN k (l.take (j + 1)) = if l[j].1 = k then some l[j].2 else lastN k (l.take j) := by
  rw [List.take_succ_eq_append_getElem h, lastN_put]
set_option maxRecDepth 100000 in
set_option maxHeartbeats 4000000 in
theorem refGet_idealC (ka : Option Addr) (kn kc e c : Nat) (na : Option Addr) (nn nc : Nat) (l : List (ByteArray × ByteArray × ByteArray)) (p s : ByteArray) (h6 : kn ≤ 6) (h : 32 ≤ s.size) (hs : s.size < 2 ^ 40) (ht : ¬ (numAt s 0 4 < 1 ∨ kn < numAt s 0 4)) (w : World) (hN : NotesV w na nn nc l) (hl : l.length < 2 ^ 29) (hX : ∀ x ∈ l, x.2.2.size ≤ 2 ^ 39) : Calls Tryz.prog 13 #[.agg (rbC ⟨true, ka, kn, kc, e, c, na, nn, nc⟩), .string p, .string s] w fun x w' => x = .returned (.tuple #[.string (idealR (lastN (s.extract 4 16) l) p (s.extract 16 s.size)).1, .int .i64 (((idealR (lastN (s.extract 4 16) l) p (s.extract 16 s.size)).2 : Nat) : Int)]) ∧ Below w.heap.size w w' := by
  have hz := sc_nought
  have hz2 := sc_build s
  have HC := Lib.hid ((St.nil w).pushA (rbC ⟨true, ka, kn, kc, e, c, na, nn, nc⟩) 38 rfl)
  have T1 := Lib.hid (refTake4 s (by omega) hs)
  obtain ⟨T, hT⟩ : ∃ T, numAt s 0 4 = T := ⟨_, rfl⟩
  rw [hT] at T1 ht
  have d1 : ((kn : Int) == 0) = false := by rw [beq_eq_false_iff_ne]; omega
  have d2 : decide ((s.size : Int) < 32) = false := decide_eq_false (by omega)
  have d3 : decide (T < 1) = false := decide_eq_false (by omega)
  have d4 : decide ((T : Int) < 1) = false := decide_eq_false (by omega)
  have d5 : decide (kn < T) = false := decide_eq_false (by omega)
  have k6 : (kn : Int) ≤ 6 := by omega
  have t6 : (T : Int) ≤ 6 := by omega
  have s1 : (4 : Int) ≤ (s.size : Int) := by omega
  have s2 : (16 : Int) ≤ (s.size : Int) := by omega
  have hlen := hN.len
  have l29 : (nn : Int) ≤ 536870912 := by omega
  obtain ⟨k, hk⟩ : ∃ k, s.extract 4 16 = k := ⟨_, rfl⟩
  obtain ⟨rest, hrest⟩ : ∃ r, s.extract 16 s.size = r := ⟨_, rfl⟩
  rw [hk, hrest]
  have HN := Lib.hid hN
  have HX := Lib.hid hX
  have HL := Lib.hid hlen
  clear hT ht h hs h6 hN hX hl hlen
  go_enter Tryz.func13, Tryz.ntmps13
  (obtain ⟨r1, f1, i1, b1, l1⟩ := St.facts1 (HC.out.pick [0] (by decide) rfl))
  go_wp2_with fail
  (clear r1 f1 i1 b1 l1)
  refine (T1.out _).mono ?_; rintro e w1 ⟨rfl, hw⟩
  have HC := Lib.hid (HC.out.call hw)
  clear hw
  (obtain ⟨r1, f1, i1, b1, l1⟩ := St.facts1 (HC.out.pick [0] (by decide) rfl))
  go_upto_region 8 with fail
  (clear r1 f1 i1 b1 l1)
  have HC := Lib.hid (HC.out.skip (.cells (sc s 4 0) 101))
  generalize w1.alloc (Obj.cells (sc s 4 0) 101) = w2 at HC ⊢
  (obtain ⟨r1, f1, i1, b1, l1⟩ := St.facts1 (HC.out.pick [0] (by decide) rfl))
  go_region
  go_wp2_with fail
  (clear r1 f1 i1 b1 l1)
  have HC := Lib.hid HC.out.drew
  go_loopw [12] (fun i wr => ∃ j : Nat, j ≤ nn ∧ i = .int .i64 ((j : Int) - 1) ∧ Hid (lastN k l = lastN k (l.take j)) ∧ Hid (St w [(w.heap.size, rbC ⟨true, ka, kn, kc, e, c, na, nn, nc⟩)] wr)) (fun i _ => (intOf i + 1).toNat)
  case atStart => exact ⟨nn, Nat.le_refl _, by go_num, Lib.hid (by rw [List.take_of_length_le (by rw [HL.out]; exact Nat.le_refl _)]), HC⟩
  case round =>
    obtain ⟨j, hj, rfl, HT, HJ⟩ := hrel
    clear HC
    have HC := HJ
    by_cases hlt : 1 ≤ j
    · obtain ⟨u, rfl⟩ : ∃ u, j = u + 1 := ⟨j - 1, by omega⟩
      have hu : u < l.length := by rw [← HL.out]; omega
      obtain ⟨g, F, rfl, q1, q2, q3, q4, q5⟩ := HN.out.open (by intro h; rw [h] at hu; simp at hu)
      have v1 : ((u + 1 : Nat) : Int) - 1 = (u : Int) := by omega
      have d6 : 0 ≤ (u : Int) := by omega
      have d7 : (u : Int) < (nn : Int) := by omega
      have v3 : u < nn := by omega
      have v4 : IntKind.i64.wrap (u : Int) = (u : Int) := IntWalk.i64_in _ (by omega)
      have b1' : u * 3 + 3 ≤ nc * 3 := by omega
      have hcut := cut_note nc u F l q1 hu q5
      have htk := lastN_take k l u hu
      have hx3 := HX.out l[u] (List.getElem_mem hu)
      generalize l[u] = x at hcut htk hx3
      obtain ⟨xa, xb, xc⟩ := x
      have HQ := Lib.hid (And.intro htk hx3)
      have r0 : rowAt wr g = vlk (nc * 3) F := (below_rowAt HC.out.below q2).trans q3
      have i0 : isRow wr g = true := (below_isRow HC.out.below q2).trans q4
      have hvs := vlk_size (nc * 3) F
      have hz6 := n3_zero
      clear htk hx3 q1 q2 q3 q4 q5 hlt
      rw [v1]
      (obtain ⟨r1, f1, i1, b1, l1⟩ := St.facts1 (HC.out.pick [0] (by decide) rfl))
      by_cases hq : xa = k
      · have s3 := text_same xa
        have he : lastN k l = some (xb, xc) := by rw [HT.out, HQ.out.1, if_pos hq]
        subst hq
        have h39 : xc.size ≤ 2 ^ 39 := HQ.out.2
        have T3 := Lib.hid (fun w => noughts_any (xc.size + 16) (by omega) w)
        rw [show ((xc.size + 16 : Nat) : Int) = (xc.size : Int) + 16 by omega] at T3
        have v5 : IntKind.i64.wrap ((xc.size : Int) + 16) = (xc.size : Int) + 16 := IntWalk.i64_in _ (by omega)
        by_cases hp1 : xb = p
        · subst hp1
          have s4 := text_same xb
          by_cases hr : rest = nilS (xc.size + 16)
          · have s5 : (rest.toList == (nilS (xc.size + 16)).toList) = true := by rw [hr]; exact text_same _
            have he2 : idealR (some (xb, xc)) xb rest = (xc, 0) := by unfold idealR; rw [hr]; exact if_pos ⟨rfl, rfl⟩
            have HE := Lib.hid ((congrArg (fun o => idealR o xb rest) he).trans he2)
            clear hr he he2
            go_wp2_with fail
            have HC := Lib.hid (HC.out.push (n3 xa xb xc) 106)
            refine (T3.out _).mono ?_; rintro e w4 ⟨rfl, hw⟩
            have HC := Lib.hid (HC.out.call hw)
            clear hw
            (obtain ⟨⟨r1, f1, i1, b1, l1⟩, ⟨r2, f2, i2, b2, l2⟩, m12, m21⟩ := St.facts2 (HC.out.pick [0, 1] (by decide) rfl))
            go_wp2_with fail
            go_ret2
            exact ⟨by rw [HE.out]; rfl, HC.out.below⟩
          · have s5 := text_ne hr
            have he2 : idealR (some (xb, xc)) xb rest = (⟨#[]⟩, 11) := by unfold idealR; exact if_neg fun h => hr h.2
            have HE := Lib.hid ((congrArg (fun o => idealR o xb rest) he).trans he2)
            clear hr he he2
            go_wp2_with fail
            have HC := Lib.hid (HC.out.push (n3 xa xb xc) 106)
            refine (T3.out _).mono ?_; rintro e w4 ⟨rfl, hw⟩
            have HC := Lib.hid (HC.out.call hw)
            clear hw
            (obtain ⟨⟨r1, f1, i1, b1, l1⟩, ⟨r2, f2, i2, b2, l2⟩, m12, m21⟩ := St.facts2 (HC.out.pick [0, 1] (by decide) rfl))
            go_wp2_with fail
            go_ret2
            exact ⟨by rw [HE.out]; rfl, HC.out.below⟩
        · have s4 := text_ne hp1
          have he2 : idealR (some (xb, xc)) p rest = (⟨#[]⟩, 11) := by unfold idealR; exact if_neg fun h => hp1 h.1
          have HE := Lib.hid ((congrArg (fun o => idealR o p rest) he).trans he2)
          clear he he2
          go_wp2_with fail
          go_ret2
          exact ⟨by rw [HE.out]; rfl, (HC.out.skip _).below⟩
      · have s3 := text_ne hq
        have HE := Lib.hid (show lastN k l = lastN k (l.take u) by rw [HT.out, HQ.out.1, if_neg hq])
        go_wp2_with fail
        go_roundw
        case rel => exact ⟨u, by omega, rfl, HE, Lib.hid (HC.out.skip _)⟩
        case measure => simp [intOf]
    · have d6 : ¬ 0 ≤ (j : Int) - 1 := by omega
      obtain rfl : j = 0 := by omega
      have he : lastN k l = none := by rw [HT.out]; rfl
      rw [he]
      go_wp2_with fail
      go_ret2
      exact ⟨rfl, HC.out.below⟩
end Go.Proofs.YtgaecjhghpkcoaaGreat
