/- Over, over: a node that is too much to be looked at. -/
import Derived.Test.YtinlcpenllfcpaaEnAt
namespace Go.Proofs.Ytinlcpenllfcpaa
open Go.RowKit
attribute [local go_sem] B_xor B_or B_and
attribute [local go_sem] blk_set blk_size blk_get blk_getE upd_same oneCells_blk paste_blk cut_blk szOf
attribute [local go_sem high] paste_all cut_head
attribute [local go_sem] rowAt_alloc rowAt_drew rowAt_drewN isRow_alloc isRow_drew isRow_drewN freeRow_alloc freeRow_end freeRow_drew freeRow_drewN
attribute [local go_sem] setRow_alloc setRow_drew setRow_drewN setCell_drewN alloc_drewN rowAt_put isRow_setRow freeRow_put
attribute [local go_sem ↓] loadS_in storeS_in indexS_in copyS_in
attribute [local go_sem] loadS_row loadS_one storeS_row storeS_one indexS_blk copyS_rows run_equalIn_blk same_refl arrayAt_row
attribute [local go_sem] cell_row frozen_row st_setCell st_blk_ne stepAt stepUpon
attribute [local go_sem high] run_eql_blk run_neq_blk
attribute [local go_sem ↓] convBS_in
attribute [local go_sem] convBS_row convBS_nil allBytes_blk bytesOf_blk
attribute [local go_sem] ndC_size ndC_get0 ndC_get1 ndC_get2 ndC_get3 ndC_get4 ndC_getE0 ndC_getE1 ndC_getE2 ndC_getE3 ndC_getE4 ndC_ne ndC_one ndC_cut ndC_paste ndC_set0 ndC_set1 ndC_set2 ndC_set3 ndC_set4 size_nd agg_nd

theorem ovL_le : ∀ (l : List Nd) (u d left : Nat), u ≤ 1000 → left ≤ 1000 → ovL l u d left ≤ 1000
  | [], u, d, left, h, _ => by unfold ovL; exact h
  | x :: l, u, d, left, h, hl => by
    unfold ovL
    split
    · omega
    · exact ovL_le l _ d left (by omega) hl
theorem ovN_le (x : Nd) (d left : Nat) (h : left ≤ 1000) : ovN x d left ≤ 1000 := by
  cases x
  unfold ovN
  split
  · omega
  · split
    · omega
    · exact ovL_le _ _ _ _ (by omega) h
theorem nameOf_get (l : List ByteArray) (i : Nat) (h : i < l.length) : nameOf l i = l[i] := by
  unfold nameOf; simp [h]
set_option maxRecDepth 100000 in
set_option maxHeartbeats 2000000 in
theorem overC (k n : Nat) (s : ByteArray) (ka : Option Addr) (kc : Nat) (na : Option Addr) (nc : Nat) (kids : List Nd) (names : List ByteArray) (cs : Nat → NdC) (d left : Nat) (hd : d ≤ 8) (hleft : left ≤ 150) (w : World)
    (h3 : ElemsAt w ka kids.length 5 fun i => ndC (cs i)) (h5 : ElemsAt w na names.length 1 fun i => #[.string (nameOf names i)])
    (IH : ∀ i (h : i < kids.length) (l' : Nat) w', l' ≤ 150 → d + 1 ≤ 8 → Below w.heap.size w w' → Calls Try.prog 26 #[.agg (ndC (cs i)), .int .i64 ((d : Int) + 1), .int .i64 (l' : Int)] w' fun e w'' => e = .returned (.int .i64 ((ovN kids[i] (d + 1) l' : Nat) : Int)) ∧ Below w'.heap.size w' w'') :
    Calls Try.prog 26 #[.agg (ndC ⟨k, n, s, ka, kids.length, kc, na, names.length, nc⟩), .int .i64 (d : Int), .int .i64 (left : Int)] w fun e w' => e = .returned (.int .i64 ((ovN (.mk k n s kids names) d left : Nat) : Int)) ∧ Below w.heap.size w w' := by
  have HC := Lib.hid ((St.nil w).pushA (ndC ⟨k, n, s, ka, kids.length, kc, na, names.length, nc⟩) 26 rfl)
  have h7 : (d : Int) ≤ 8 := by omega
  have h150 : (left : Int) ≤ 150 := by omega
  obtain ⟨kl, hkl⟩ : ∃ kl, kids.length = kl := ⟨_, rfl⟩
  obtain ⟨nl, hnl⟩ : ∃ nl, names.length = nl := ⟨_, rfl⟩
  obtain ⟨R, hR⟩ : ∃ R, ovN (.mk k n s kids names) d left = R := ⟨_, rfl⟩
  rw [hR]
  unfold ovN at hR
  rw [hkl, hnl] at hR
  rw [hkl] at h3 HC
  rw [hnl] at h5 HC
  rw [hkl, hnl]
  by_cases c1 : 7 < d
  · rw [if_pos (.inl c1)] at hR
    have d1 : decide (7 < (d : Int)) = true := decide_eq_true (by omega)
    subst hR
    (go_enter Try.func26, Try.ntmps26
     (obtain ⟨r1, f1, i1, b1, l1⟩ := St.facts1 (HC.out.pick [0] (by decide) rfl))
     go_wp2_with fail
     go_ret
     exact ⟨rfl, HC.out.below⟩)
  · have d1 : decide (7 < (d : Int)) = false := decide_eq_false (by omega)
    by_cases c2 : left < 1
    · rw [if_pos (.inr (.inl c2))] at hR
      have d2 : decide ((left : Int) < 1) = true := decide_eq_true (by omega)
      subst hR
      (go_enter Try.func26, Try.ntmps26
       (obtain ⟨r1, f1, i1, b1, l1⟩ := St.facts1 (HC.out.pick [0] (by decide) rfl))
       go_wp2_with fail
       go_ret
       exact ⟨rfl, HC.out.below⟩)
    · have d2 : decide ((left : Int) < 1) = false := decide_eq_false (by omega)
      by_cases c3 : 200 < s.size
      · rw [if_pos (.inr (.inr (.inl c3)))] at hR
        have d3 : decide (200 < (s.size : Int)) = true := decide_eq_true (by omega)
        subst hR
        (go_enter Try.func26, Try.ntmps26
         (obtain ⟨r1, f1, i1, b1, l1⟩ := St.facts1 (HC.out.pick [0] (by decide) rfl))
         go_wp2_with fail
         go_ret
         exact ⟨rfl, HC.out.below⟩)
      · have d3 : decide (200 < (s.size : Int)) = false := decide_eq_false (by omega)
        by_cases c4 : 70 < kl
        · rw [if_pos (.inr (.inr (.inr (.inl c4))))] at hR
          have d4 : decide (70 < (kl : Int)) = true := decide_eq_true (by omega)
          subst hR
          (go_enter Try.func26, Try.ntmps26
           (obtain ⟨r1, f1, i1, b1, l1⟩ := St.facts1 (HC.out.pick [0] (by decide) rfl))
           go_wp2_with fail
           go_ret
           exact ⟨rfl, HC.out.below⟩)
        · have d4 : decide (70 < (kl : Int)) = false := decide_eq_false (by omega)
          by_cases c5 : 70 < nl
          · rw [if_pos (.inr (.inr (.inr (.inr c5))))] at hR
            have d5 : decide (70 < (nl : Int)) = true := decide_eq_true (by omega)
            subst hR
            (go_enter Try.func26, Try.ntmps26
             (obtain ⟨r1, f1, i1, b1, l1⟩ := St.facts1 (HC.out.pick [0] (by decide) rfl))
             go_wp2_with fail
             go_ret
             exact ⟨rfl, HC.out.below⟩)
          · have d5 : decide (70 < (nl : Int)) = false := decide_eq_false (by omega)
            rw [if_neg (fun h => h.elim c1 fun h => h.elim c2 fun h => h.elim c3 fun h => h.elim c4 c5)] at hR
            have HR := Lib.hid hR
            have hd7 : d ≤ 7 := by omega
            have hl1' : 1 ≤ left := by omega
            have H3 := Lib.hid h3
            have H5 := Lib.hid h5
            have HI := Lib.hid IH
            have HK := Lib.hid hkl
            have HN := Lib.hid hnl
            clear hR h3 h5 IH c1 c2 c3 hkl hnl
            go_enter Try.func26, Try.ntmps26
            (obtain ⟨r1, f1, i1, b1, l1⟩ := St.facts1 (HC.out.pick [0] (by decide) rfl))
            go_wp2_with fail
            (clear r1 f1 i1 b1 l1)
            go_loopw [8] (fun i wr => ∃ j : Nat, j ≤ nl ∧ i = .int .i64 (j : Int) ∧ Hid (∀ t ∈ names.take j, ¬ 200 < t.size) ∧ Hid (St w [(w.heap.size, ndC ⟨k, n, s, ka, kl, kc, na, nl, nc⟩)] wr)) (fun i _ => nl - (intOf i).toNat)
            case atStart => exact ⟨0, by omega, rfl, Lib.hid (by simp), HC⟩
            case round =>
              clear HC
              obtain ⟨j, hj, rfl, HA, HC⟩ := hrel
              by_cases hlt : j < nl
              · have d6 : (j : Int) < (nl : Int) := by omega
                have hjn : j < names.length := by rw [HN.out]; exact hlt
                obtain ⟨ad, rfl⟩ := H5.out.some j hlt
                have hl := ((H5.out.call HC.out.below (Nat.le_refl _)).at j hlt)
                rw [Nat.mul_one, nameOf_get _ _ hjn] at hl
                have k1 := hl.2.1
                have k2 := hl.first (by omega)
                rw [show (#[Value.string names[j]] : Array Value)[0]? = some (.string names[j]) from rfl] at k2
                clear hl
                have HT := Lib.hid (List.take_succ_eq_append_getElem hjn)
                have HG := Lib.hid (List.getElem_mem hjn)
                generalize names[j] = t at k2 HT HG
                by_cases ht : 200 < t.size
                · have d7 : decide (200 < (t.size : Int)) = true := decide_eq_true (by omega)
                  have hR := HR.out
                  rw [if_pos (List.any_eq_true.2 ⟨t, HG.out, decide_eq_true ht⟩)] at hR
                  subst hR
                  clear HR
                  (obtain ⟨r1, f1, i1, b1, l1⟩ := St.facts1 (HC.out.pick [0] (by decide) rfl))
                  go_wp2_with fail
                  go_ret
                  exact ⟨rfl, HC.out.below⟩
                · have d7 : decide (200 < (t.size : Int)) = false := decide_eq_false (by omega)
                  have HA2 := Lib.hid (show ∀ t' ∈ names.take (j + 1), ¬ 200 < t'.size from fun t' ht' => by
                    rw [HT.out] at ht'
                    rcases List.mem_append.1 ht' with h | h
                    · exact HA.out t' h
                    · rw [List.mem_singleton] at h; rw [h]; exact ht)
                  clear HT ht
                  (obtain ⟨r1, f1, i1, b1, l1⟩ := St.facts1 (HC.out.pick [0] (by decide) rfl))
                  go_wp2_with fail
                  go_roundw
                  case rel => exact ⟨j + 1, by omega, by go_num, HA2, HC⟩
                  case measure => simp [intOf]; omega
              · obtain rfl : j = nl := by omega
                have hR := HR.out
                rw [if_neg (fun h => by
                  obtain ⟨t, ht, hs⟩ := List.any_eq_true.1 h
                  exact HA.out t (by rw [← HN.out, List.take_length]; exact ht) (of_decide_eq_true hs))] at hR
                clear HR HA H5
                have HR := Lib.hid hR
                clear hR
                (obtain ⟨r1, f1, i1, b1, l1⟩ := St.facts1 (HC.out.pick [0] (by decide) rfl))
                go_wp2_with fail
                (clear r1 f1 i1 b1 l1)
                go_loopw [7, 9] (fun u i wr => ∃ i' u' : Nat, i' ≤ kl ∧ i = .int .i64 (i' : Int) ∧ u = .int .i64 (u' : Int) ∧ u' ≤ left ∧ Hid (ovL (kids.drop i') u' (d + 1) left = R) ∧ Hid (St w [(w.heap.size, ndC ⟨k, n, s, ka, kl, kc, na, j, nc⟩)] wr)) (fun _ i _ => kl - (intOf i).toNat)
                case atStart => exact ⟨0, 1, by omega, rfl, rfl, by omega, HR, HC⟩
                case round =>
                  clear HC HR
                  obtain ⟨i', u', hi, rfl, rfl, hu, HR, HC⟩ := hrel
                  by_cases hlt : i' < kl
                  · have d6 : (i' : Int) < (kl : Int) := by omega
                    have hjn : i' < kids.length := by rw [HK.out]; exact hlt
                    obtain ⟨ad, rfl⟩ := H3.out.some i' hlt
                    have hld := ((H3.out.call HC.out.below (Nat.le_refl _)).at i' hlt).node
                    have hR := HR.out
                    rw [List.drop_eq_getElem_cons hjn] at hR
                    unfold ovL at hR
                    obtain ⟨lu, hlu⟩ : ∃ lu, left - u' = lu := ⟨_, rfl⟩
                    rw [hlu] at hR
                    have v1 : IntKind.i64.wrap ((left : Int) - (u' : Int)) = (lu : Int) := by rw [IntWalk.i64_in _ (by omega)]; omega
                    have v2 : (left : Int) - (u' : Int) = (lu : Int) := by omega
                    have hx := ovN_le kids[i'] (d + 1) lu (by omega)
                    have HX := Lib.hid (fun w' (hb : Below w.heap.size w w') => HI.out i' hjn lu w' (by omega) (by omega) hb)
                    generalize ovN kids[i'] (d + 1) lu = X at hR hx HX
                    have u150 : (u' : Int) ≤ 150 := by omega
                    have x1000 : (X : Int) ≤ 1000 := by omega
                    clear hlu
                    by_cases hc : left < u' + X
                    · rw [if_pos hc] at hR
                      have d8 : (left : Int) < (u' : Int) + (X : Int) := by omega
                      subst hR
                      clear HR hc
                      (obtain ⟨r1, f1, i1, b1, l1⟩ := St.facts1 (HC.out.pick [0] (by decide) rfl))
                      go_wp2_with fail
                      (clear r1 f1 i1 b1 l1)
                      refine (HX.out _ HC.out.below).mono ?_; rintro e w2 ⟨rfl, hw⟩
                      have HC := Lib.hid (HC.out.call hw)
                      clear hw
                      go_wp2_with fail
                      go_ret
                      exact ⟨rfl, HC.out.below⟩
                    · rw [if_neg hc] at hR
                      have d8 : ¬ (left : Int) < (u' : Int) + (X : Int) := by omega
                      have HR2 := Lib.hid hR
                      have hcc : u' + X ≤ left := by omega
                      clear HR hc hR
                      (obtain ⟨r1, f1, i1, b1, l1⟩ := St.facts1 (HC.out.pick [0] (by decide) rfl))
                      go_wp2_with fail
                      (clear r1 f1 i1 b1 l1)
                      refine (HX.out _ HC.out.below).mono ?_; rintro e w2 ⟨rfl, hw⟩
                      have HC := Lib.hid (HC.out.call hw)
                      clear hw
                      go_wp2_with fail
                      go_roundw
                      case rel => exact ⟨i' + 1, u' + X, by omega, by go_num, by go_num, hcc, HR2, HC⟩
                      case measure => simp [intOf]; omega
                  · obtain rfl : i' = kl := by omega
                    have hR := HR.out
                    rw [List.drop_of_length_le (by rw [HK.out]; exact Nat.le_refl _)] at hR
                    unfold ovL at hR
                    subst hR
                    clear HR
                    (obtain ⟨r1, f1, i1, b1, l1⟩ := St.facts1 (HC.out.pick [0] (by decide) rfl))
                    go_wp2_with fail
                    go_ret
                    exact ⟨rfl, HC.out.below⟩
theorem over_one : ∀ (x : Nd) (c : NdC) (d left : Nat), d ≤ 8 → left ≤ 150 → ∀ w, NodeAt w c x → Calls Try.prog 26 #[.agg (ndC c), .int .i64 (d : Int), .int .i64 (left : Int)] w fun e w' => e = .returned (.int .i64 ((ovN x d left : Nat) : Int)) ∧ Below w.heap.size w w' := by
  refine Nd.ind fun k n s kids names ih => ?_
  · intro c d left hd hl w h
    cases h with
    | mk c kids names cs hk hn e1 e2 e3 e4 e5 =>
      obtain ⟨k, n, s, ka, kn, kc, na, nn, nc⟩ := c
      dsimp only at e1 e2 e3 e5
      subst e1 e2
      exact overC k n s ka kc na nc kids names cs d left hd hl w e3 e5 fun i hi l' w' hl' hd' hb => ih kids[i] (List.getElem_mem hi) (cs i) (d + 1) l' hd' hl' w' ((e4 i hi).call hb (Nat.le_refl _))
set_option maxRecDepth 100000 in
theorem over_any (x : Nd) (c : NdC) (w : World) (h : NodeAt w c x) (v : Bool) (hv : decide (150 < ovN x 0 150) = v) : Calls Try.prog 8 #[.agg (ndC c)] w fun e w' => e = .returned (.bool v) ∧ Below w.heap.size w w' := by
  have HC := Lib.hid ((St.nil w).pushA (ndC c) 26 rfl)
  have HX := Lib.hid (fun w' (hb : Below w.heap.size w w') => over_one x c 0 150 (by omega) (by omega) w' (h.call hb (Nat.le_refl _)))
  have hx := ovN_le x 0 150 (by omega)
  generalize ovN x 0 150 = X at hv HX hx
  have d1 : decide (150 < (X : Int)) = v := by rw [← hv]; exact decide_eq_decide.2 (by omega)
  clear hv h hx
  go_enter Try.func8, Try.ntmps8
  (obtain ⟨r1, f1, i1, b1, l1⟩ := St.facts1 (HC.out.pick [0] (by decide) rfl))
  go_wp2_with fail
  (clear r1 f1 i1 b1 l1)
  refine (HX.out _ HC.out.below).mono ?_; rintro e w2 ⟨rfl, hw⟩
  have HC := Lib.hid (HC.out.call hw)
  clear hw
  go_wp2_with fail
  go_ret
  exact ⟨rfl, HC.out.below⟩
end Go.Proofs.Ytinlcpenllfcpaa
