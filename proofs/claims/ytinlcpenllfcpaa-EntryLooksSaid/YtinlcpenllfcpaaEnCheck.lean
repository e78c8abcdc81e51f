/- The reference's name and Check; the program's within, checkAny, checkPairs, check, Check. -/
import Derived.Test.YtinlcpenllfcpaaEnOver
import Derived.Test.YtinlcpenllfcpaaMRegion
namespace Go.Proofs.Ytinlcpenllfcpaa
open Go.RowKit
attribute [local go_sem] B_xor B_or B_and
attribute [local go_sem] blk_set blk_size blk_get blk_getE upd_same oneCells_blk paste_blk cut_blk szOf
attribute [local go_sem high] paste_all cut_head
attribute [local go_sem] rowAt_alloc rowAt_drew rowAt_drewN isRow_alloc isRow_drew isRow_drewN freeRow_alloc freeRow_end freeRow_drew freeRow_drewN
attribute [local go_sem] setRow_alloc setRow_drew setRow_drewN setCell_drewN alloc_drewN rowAt_put isRow_setRow freeRow_put
attribute [local go_sem ↓] loadS_in storeS_in indexS_in copyS_in
attribute [local go_sem] loadS_row loadS_one storeS_row storeS_one indexS_blk copyS_rows run_equalIn_blk same_refl arrayAt_row
attribute [local go_sem] cell_row frozen_row st_setCell st_blk_ne stepAt stepUpon
attribute [local go_sem high] run_eql_blk run_neq_blk
attribute [local go_sem ↓] convBS_in
attribute [local go_sem] convBS_row convBS_nil allBytes_blk bytesOf_blk
attribute [local go_sem] ndC_size ndC_get0 ndC_get1 ndC_get2 ndC_get3 ndC_get4 ndC_getE0 ndC_getE1 ndC_getE2 ndC_getE3 ndC_getE4 ndC_ne ndC_one ndC_cut ndC_paste ndC_set0 ndC_set1 ndC_set2 ndC_set3 ndC_set4 size_nd agg_nd

theorem nameOf_out (l : List ByteArray) (i : Nat) (h : l.length ≤ i) : nameOf l i = ⟨#[]⟩ := by
  unfold nameOf; simp [h, noT]
set_option maxRecDepth 100000 in
theorem name_any (x : Nd) (c : NdC) (i : Nat) (w : World) (h : NodeAt w c x) : Calls Try.prog 28 #[.agg (ndC c), .int .i64 (i : Int)] w fun e w' => e = .returned (.string (nameOf x.names i)) ∧ Below w.heap.size w w' := by
  cases h with
  | mk c kids names cs hk hn e1 e2 e3 e4 e5 =>
    obtain ⟨k, n, s, ka, kn, kc, na, nn, nc⟩ := c
    dsimp only at e1 e2 e3 e5
    show Calls _ _ _ _ fun e w' => e = .returned (.string (nameOf names i)) ∧ _
    have HC := Lib.hid ((St.nil w).pushA (ndC ⟨k, n, s, ka, kn, kc, na, nn, nc⟩) 26 rfl)
    by_cases hlt : i < nn
    · have d1 : (i : Int) < (nn : Int) := by omega
      have hjn : i < names.length := by omega
      obtain ⟨ad, rfl⟩ := e5.some i hjn
      have hl := ((e5.call HC.out.below (Nat.le_refl _)).at i hjn)
      rw [Nat.mul_one] at hl
      have k1 := hl.2.1
      have k2 := hl.first (by omega)
      rw [show (#[Value.string (nameOf names i)] : Array Value)[0]? = some (.string (nameOf names i)) from rfl] at k2
      generalize nameOf names i = t at k2
      clear hl e1 e2 e3 e4 e5
      go_enter Try.func28, Try.ntmps28
      (obtain ⟨r1, f1, i1, b1, l1⟩ := St.facts1 (HC.out.pick [0] (by decide) rfl))
      go_wp2_with fail
      go_ret
      exact ⟨rfl, HC.out.below⟩
    · have d1 : ¬ (i : Int) < (nn : Int) := by omega
      rw [nameOf_out names i (by omega)]
      clear e1 e2 e3 e4 e5
      go_enter Try.func28, Try.ntmps28
      (obtain ⟨r1, f1, i1, b1, l1⟩ := St.facts1 (HC.out.pick [0] (by decide) rfl))
      go_wp2_with fail
      go_ret
      exact ⟨rfl, HC.out.below⟩
theorem add_nought (a : Addr) : a.add 0 = a := by
  obtain ⟨x, y, z⟩ := a
  cases z <;> simp [Addr.add]
theorem chkL_plain (names : List ByteArray) (i : Nat) (x : Nd) (l : List Nd) (d : Nat) : chkL false names i (x :: l) d = if ndChk x d ≠ 0 then ndChk x d else chkL false names (i + 1) l d := by
  rw [chkL, if_neg (fun h => Bool.noConfusion h.1), if_neg (fun h => Bool.noConfusion h.1)]
theorem chkL_named (names : List ByteArray) (i : Nat) (x : Nd) (l : List Nd) (d : Nat) : chkL true names i (x :: l) d = if 65535 < (nameOf names i).size then 5 else if 0 < i ∧ lessT (nameOf names (i - 1)) (nameOf names i) = false then 4 else if ndChk x d ≠ 0 then ndChk x d else chkL true names (i + 1) l d := by
  rw [chkL]
  simp only [true_and]
set_option maxRecDepth 100000 in
set_option maxHeartbeats 6000000 in
/-- the loop's part of it -/
theorem refCheckC (k n : Nat) (s : ByteArray) (ka : Option Addr) (kc : Nat) (na : Option Addr) (nc : Nat) (kids : List Nd) (names : List ByteArray) (cs : Nat → NdC) (d : Nat) (hd : d ≤ 10) (hk : k < 256) (w : World)
    (h3 : ElemsAt w ka kids.length 5 fun i => ndC (cs i))
    (HN : ∀ (i : Nat) w', Below w.heap.size w w' → Calls Try.prog 28 #[.agg (ndC ⟨k, n, s, ka, kids.length, kc, na, names.length, nc⟩), .int .i64 (i : Int)] w' fun e w'' => e = .returned (.string (nameOf names i)) ∧ Below w'.heap.size w' w'')
    (IH : ∀ i (h : i < kids.length) w', Below w.heap.size w w' → d + 1 ≤ 10 → Calls Try.prog 12 #[.agg (ndC (cs i)), .int .i64 ((d : Int) + 1)] w' fun e w'' => e = .returned (.int .i64 ((ndChk kids[i] (d + 1) : Nat) : Int)) ∧ Below w'.heap.size w' w'') :
    Calls Try.prog 12 #[.agg (ndC ⟨k, n, s, ka, kids.length, kc, na, names.length, nc⟩), .int .i64 (d : Int)] w fun e w' => e = .returned (.int .i64 ((ndChk (.mk k n s kids names) d : Nat) : Int)) ∧ Below w.heap.size w w' := by
  have HC := Lib.hid ((St.nil w).pushA (ndC ⟨k, n, s, ka, kids.length, kc, na, names.length, nc⟩) 26 rfl)
  obtain ⟨kl, hkl⟩ : ∃ kl, kids.length = kl := ⟨_, rfl⟩
  obtain ⟨nl, hnl⟩ : ∃ nl, names.length = nl := ⟨_, rfl⟩
  obtain ⟨R, hR⟩ : ∃ R, ndChk (.mk k n s kids names) d = R := ⟨_, rfl⟩
  rw [hR]
  unfold ndChk at hR
  rw [hkl] at hR h3 HC HN
  rw [hnl] at HC HN
  rw [hkl, hnl]
  by_cases c1 : 5 < k
  · rw [if_pos c1] at hR
    have d1 : decide (5 < (k : Int)) = true := decide_eq_true (by omega)
    subst hR
    (go_enter Try.func12, Try.ntmps12
     (obtain ⟨r1, f1, i1, b1, l1⟩ := St.facts1 (HC.out.pick [0] (by decide) rfl))
     go_wp2_with fail
     go_ret
     exact ⟨rfl, HC.out.below⟩)
  · rw [if_neg c1] at hR
    have d1 : decide (5 < (k : Int)) = false := decide_eq_false (by omega)
    by_cases c2 : k = 3
    · subst c2
      by_cases c3 : 65535 < s.size
      · rw [if_pos ⟨rfl, c3⟩] at hR
        have d2 : decide (65535 < (s.size : Int)) = true := decide_eq_true (by omega)
        subst hR
        clear c1 d1
        (go_enter Try.func12, Try.ntmps12
         (obtain ⟨r1, f1, i1, b1, l1⟩ := St.facts1 (HC.out.pick [0] (by decide) rfl))
         go_wp2_with fail
         go_ret
         exact ⟨rfl, HC.out.below⟩)
      · rw [if_neg (fun h => c3 h.2), if_pos (by omega)] at hR
        have d2 : decide (65535 < (s.size : Int)) = false := decide_eq_false (by omega)
        subst hR
        clear c1 d1
        (go_enter Try.func12, Try.ntmps12
         (obtain ⟨r1, f1, i1, b1, l1⟩ := St.facts1 (HC.out.pick [0] (by decide) rfl))
         go_wp2_with fail
         go_ret
         exact ⟨rfl, HC.out.below⟩)
    · rw [if_neg (fun h => c2 h.1)] at hR
      have d2 : ((k : Int) == 3) = false := by rw [beq_eq_false_iff_ne]; omega
      by_cases c4 : k < 4
      · rw [if_pos c4] at hR
        have d3 : decide ((k : Int) < 4) = true := decide_eq_true (by omega)
        subst hR
        (go_enter Try.func12, Try.ntmps12
         (obtain ⟨r1, f1, i1, b1, l1⟩ := St.facts1 (HC.out.pick [0] (by decide) rfl))
         go_wp2_with fail
         go_ret
         exact ⟨rfl, HC.out.below⟩)
      · rw [if_neg c4] at hR
        by_cases c5 : 4 ≤ d
        · rw [if_pos c5] at hR
          have d3 : decide ((k : Int) < 4) = false := decide_eq_false (by omega)
          have d4 : decide (4 ≤ (d : Int)) = true := decide_eq_true (by omega)
          subst hR
          (go_enter Try.func12, Try.ntmps12
           (obtain ⟨r1, f1, i1, b1, l1⟩ := St.facts1 (HC.out.pick [0] (by decide) rfl))
           go_wp2_with fail
           go_ret
           exact ⟨rfl, HC.out.below⟩)
        · rw [if_neg c5] at hR
          have d4 : decide (4 ≤ (d : Int)) = false := decide_eq_false (by omega)
          by_cases c6 : 64 < kl
          · rw [if_pos c6] at hR
            have d3 : decide ((k : Int) < 4) = false := decide_eq_false (by omega)
            have d5 : decide (64 < (kl : Int)) = true := decide_eq_true (by omega)
            subst hR
            (go_enter Try.func12, Try.ntmps12
             (obtain ⟨r1, f1, i1, b1, l1⟩ := St.facts1 (HC.out.pick [0] (by decide) rfl))
             go_wp2_with fail
             go_ret
             exact ⟨rfl, HC.out.below⟩)
          · rw [if_neg c6] at hR
            have d5 : decide (64 < (kl : Int)) = false := decide_eq_false (by omega)
            have d10 : (d : Int) ≤ 10 := by omega
            have hd9 : d + 1 ≤ 10 := by omega
            have HK := Lib.hid hkl
            have H3 := Lib.hid h3
            have HI := Lib.hid IH
            have HM := Lib.hid HN
            clear h3 IH HN c5 hnl hkl
            by_cases c7 : k = 5
            · subst c7
              rw [show decide (5 = 5) = true from rfl] at hR
              have HR := Lib.hid hR
              clear hR c1 d1 c2 d2 c4
              go_enter Try.func12, Try.ntmps12
              (obtain ⟨r1, f1, i1, b1, l1⟩ := St.facts1 (HC.out.pick [0] (by decide) rfl))
              go_wp2_with fail
              (clear r1 f1 i1 b1 l1)
              go_loopw [5] (fun i wr => ∃ j : Nat, j ≤ kl ∧ i = .int .i64 (j : Int) ∧ Hid (chkL true names j (kids.drop j) (d + 1) = R) ∧ Hid (St w [(w.heap.size, ndC ⟨5, n, s, ka, kl, kc, na, nl, nc⟩)] wr)) (fun i _ => kl - (intOf i).toNat)
              case atStart => exact ⟨0, by omega, rfl, HR, HC⟩
              case round =>
                clear HC HR
                obtain ⟨j, hj, rfl, HR, HC⟩ := hrel
                by_cases hlt : j < kl
                · have d6 : (j : Int) < (kl : Int) := by omega
                  have hjn : j < kids.length := by rw [HK.out]; exact hlt
                  obtain ⟨ad, rfl⟩ := H3.out.some j hlt
                  have HLD := Lib.hid (fun w' (hb : Below w.heap.size w w') => ((H3.out.call hb (Nat.le_refl _)).at j hlt).node)
                  have hR := HR.out
                  rw [List.drop_eq_getElem_cons hjn, chkL_named] at hR
                  have HX := Lib.hid (fun w' (hb : Below w.heap.size w w') => HI.out j hjn w' hb hd9)
                  generalize ndChk kids[j] (d + 1) = X at hR HX
                  have HNJ := Lib.hid (fun w' (hb : Below w.heap.size w w') => HM.out j w' hb)
                  obtain ⟨t, htj⟩ : ∃ t, nameOf names j = t := ⟨_, rfl⟩
                  rw [htj] at HNJ
                  rw [htj] at hR
                  by_cases hs : 65535 < t.size
                  · rw [if_pos hs] at hR
                    have d7 : decide (65535 < (t.size : Int)) = true := decide_eq_true (by omega)
                    subst hR
                    clear HR hs htj
                    (obtain ⟨r1, f1, i1, b1, l1⟩ := St.facts1 (HC.out.pick [0] (by decide) rfl))
                    go_wp2_with fail
                    (clear r1 f1 i1 b1 l1)
                    refine (HNJ.out _ HC.out.below).mono ?_; rintro e w2 ⟨rfl, hw⟩
                    have HC := Lib.hid (HC.out.call hw)
                    clear hw
                    go_wp2_with fail
                    go_ret
                    exact ⟨rfl, HC.out.below⟩
                  · rw [if_neg hs] at hR
                    have d7 : decide (65535 < (t.size : Int)) = false := decide_eq_false (by omega)
                    by_cases hj0 : j = 0
                    · rw [if_neg (fun h => absurd h.1 (by omega))] at hR
                      subst hj0
                      clear hs htj
                      (obtain ⟨r1, f1, i1, b1, l1⟩ := St.facts1 (HC.out.pick [0] (by decide) rfl))
                      go_wp2_with fail
                      (clear r1 f1 i1 b1 l1)
                      refine (HNJ.out _ HC.out.below).mono ?_; rintro e w2 ⟨rfl, hw⟩
                      have HC := Lib.hid (HC.out.call hw)
                      clear hw HNJ
                      go_upto_region 16 with fail
                      refine St.qregion HC.out (by kernel_rfl) (by decide +kernel) ?_
                      (first
                         | (apply qw_skip rfl)
                         | (apply qw_step rfl
                            focus
                              intro w0 hC
                              (fail))
                         | (apply qw_step rfl
                            focus
                              intro w0 hC
                              have hC' := Lib.hid hC
                              obtain ⟨r1, f1, i1, b1, l1⟩ := St.facts1 hC
                              clear hC
                              go_simp
                              have hC := hC'.out
                              (first
                                 | with_reducible rfl
                                 | (skip
                                    ((go_at_call 28; refine (HM.out _ _ hC.below).mono ?_))
                                    rintro e w' ⟨rfl, hw⟩
                                    exact ⟨rfl, St.call (by assumption) hw⟩)))
                       try simp only [Act.put, List.setIfInBounds_toArray, List.set])
                      (first
                         | (apply qw_skip rfl)
                         | (apply qw_step rfl
                            focus
                              intro w0 hC
                              (fail))
                         | (apply qw_step rfl
                            focus
                              intro w0 hC
                              have hC' := Lib.hid hC
                              obtain ⟨r1, f1, i1, b1, l1⟩ := St.facts1 hC
                              clear hC
                              go_simp
                              have hC := hC'.out
                              (first
                                 | with_reducible rfl
                                 | (skip
                                    ((go_at_call 28; refine (HM.out _ _ hC.below).mono ?_))
                                    rintro e w' ⟨rfl, hw⟩
                                    exact ⟨rfl, St.call (by assumption) hw⟩)))
                       try simp only [Act.put, List.setIfInBounds_toArray, List.set])
                      (first
                         | (apply qw_skip rfl)
                         | (apply qw_step rfl
                            focus
                              intro w0 hC
                              (fail))
                         | (apply qw_step rfl
                            focus
                              intro w0 hC
                              have hC' := Lib.hid hC
                              obtain ⟨r1, f1, i1, b1, l1⟩ := St.facts1 hC
                              clear hC
                              go_simp
                              have hC := hC'.out
                              (first
                                 | with_reducible rfl
                                 | (skip
                                    ((go_at_call 28; refine (HM.out _ _ hC.below).mono ?_))
                                    rintro e w' ⟨rfl, hw⟩
                                    exact ⟨rfl, St.call (by assumption) hw⟩)))
                       try simp only [Act.put, List.setIfInBounds_toArray, List.set])
                      (first
                         | (apply qw_skip rfl)
                         | (apply qw_step rfl
                            focus
                              intro w0 hC
                              (fail))
                         | (apply qw_step rfl
                            focus
                              intro w0 hC
                              have hC' := Lib.hid hC
                              obtain ⟨r1, f1, i1, b1, l1⟩ := St.facts1 hC
                              clear hC
                              go_simp
                              have hC := hC'.out
                              (first
                                 | with_reducible rfl
                                 | (skip
                                    ((go_at_call 28; refine (HM.out _ _ hC.below).mono ?_))
                                    rintro e w' ⟨rfl, hw⟩
                                    exact ⟨rfl, St.call (by assumption) hw⟩)))
                       try simp only [Act.put, List.setIfInBounds_toArray, List.set])
                      (first
                         | (apply qw_skip rfl)
                         | (apply qw_step rfl
                            focus
                              intro w0 hC
                              (fail))
                         | (apply qw_step rfl
                            focus
                              intro w0 hC
                              have hC' := Lib.hid hC
                              obtain ⟨r1, f1, i1, b1, l1⟩ := St.facts1 hC
                              clear hC
                              go_simp
                              have hC := hC'.out
                              (first
                                 | with_reducible rfl
                                 | (skip
                                    ((go_at_call 28; refine (HM.out _ _ hC.below).mono ?_))
                                    rintro e w' ⟨rfl, hw⟩
                                    exact ⟨rfl, St.call (by assumption) hw⟩)))
                       try simp only [Act.put, List.setIfInBounds_toArray, List.set])
                      (first
                         | (apply qw_skip rfl)
                         | (apply qw_step rfl
                            focus
                              intro w0 hC
                              (fail))
                         | (apply qw_step rfl
                            focus
                              intro w0 hC
                              have hC' := Lib.hid hC
                              obtain ⟨r1, f1, i1, b1, l1⟩ := St.facts1 hC
                              clear hC
                              go_simp
                              have hC := hC'.out
                              (first
                                 | with_reducible rfl
                                 | (skip
                                    ((go_at_call 28; refine (HM.out _ _ hC.below).mono ?_))
                                    rintro e w' ⟨rfl, hw⟩
                                    exact ⟨rfl, St.call (by assumption) hw⟩)))
                       try simp only [Act.put, List.setIfInBounds_toArray, List.set])
                      (first
                         | (apply qw_skip rfl)
                         | (apply qw_step rfl
                            focus
                              intro w0 hC
                              (fail))
                         | (apply qw_step rfl
                            focus
                              intro w0 hC
                              have hC' := Lib.hid hC
                              obtain ⟨r1, f1, i1, b1, l1⟩ := St.facts1 hC
                              clear hC
                              go_simp
                              have hC := hC'.out
                              (first
                                 | with_reducible rfl
                                 | (skip
                                    ((go_at_call 28; refine (HM.out _ _ hC.below).mono ?_))
                                    rintro e w' ⟨rfl, hw⟩
                                    exact ⟨rfl, St.call (by assumption) hw⟩)))
                       try simp only [Act.put, List.setIfInBounds_toArray, List.set])
                      (first
                         | (apply qw_skip rfl)
                         | (apply qw_step rfl
                            focus
                              intro w0 hC
                              (fail))
                         | (apply qw_step rfl
                            focus
                              intro w0 hC
                              have hC' := Lib.hid hC
                              obtain ⟨r1, f1, i1, b1, l1⟩ := St.facts1 hC
                              clear hC
                              go_simp
                              have hC := hC'.out
                              (first
                                 | with_reducible rfl
                                 | (skip
                                    ((go_at_call 28; refine (HM.out _ _ hC.below).mono ?_))
                                    rintro e w' ⟨rfl, hw⟩
                                    exact ⟨rfl, St.call (by assumption) hw⟩)))
                       try simp only [Act.put, List.setIfInBounds_toArray, List.set])
                      (first
                         | (apply qw_skip rfl)
                         | (apply qw_step rfl
                            focus
                              intro w0 hC
                              (fail))
                         | (apply qw_step rfl
                            focus
                              intro w0 hC
                              have hC' := Lib.hid hC
                              obtain ⟨r1, f1, i1, b1, l1⟩ := St.facts1 hC
                              clear hC
                              go_simp
                              have hC := hC'.out
                              (first
                                 | with_reducible rfl
                                 | (skip
                                    ((go_at_call 28; refine (HM.out _ _ hC.below).mono ?_))
                                    rintro e w' ⟨rfl, hw⟩
                                    exact ⟨rfl, St.call (by assumption) hw⟩)))
                       try simp only [Act.put, List.setIfInBounds_toArray, List.set])
                      (first
                         | (apply qw_skip rfl)
                         | (apply qw_step rfl
                            focus
                              intro w0 hC
                              (fail))
                         | (apply qw_step rfl
                            focus
                              intro w0 hC
                              have hC' := Lib.hid hC
                              obtain ⟨r1, f1, i1, b1, l1⟩ := St.facts1 hC
                              clear hC
                              go_simp
                              have hC := hC'.out
                              (first
                                 | with_reducible rfl
                                 | (skip
                                    ((go_at_call 28; refine (HM.out _ _ hC.below).mono ?_))
                                    rintro e w' ⟨rfl, hw⟩
                                    exact ⟨rfl, St.call (by assumption) hw⟩)))
                       try simp only [Act.put, List.setIfInBounds_toArray, List.set])
                      (first
                         | (apply qw_skip rfl)
                         | (apply qw_step rfl
                            focus
                              intro w0 hC
                              (fail))
                         | (apply qw_step rfl
                            focus
                              intro w0 hC
                              have hC' := Lib.hid hC
                              obtain ⟨r1, f1, i1, b1, l1⟩ := St.facts1 hC
                              clear hC
                              go_simp
                              have hC := hC'.out
                              (first
                                 | with_reducible rfl
                                 | (skip
                                    ((go_at_call 28; refine (HM.out _ _ hC.below).mono ?_))
                                    rintro e w' ⟨rfl, hw⟩
                                    exact ⟨rfl, St.call (by assumption) hw⟩)))
                       try simp only [Act.put, List.setIfInBounds_toArray, List.set])
                      (first
                         | (apply qw_skip rfl)
                         | (apply qw_step rfl
                            focus
                              intro w0 hC
                              (fail))
                         | (apply qw_step rfl
                            focus
                              intro w0 hC
                              have hC' := Lib.hid hC
                              obtain ⟨r1, f1, i1, b1, l1⟩ := St.facts1 hC
                              clear hC
                              go_simp
                              have hC := hC'.out
                              (first
                                 | with_reducible rfl
                                 | (skip
                                    ((go_at_call 28; refine (HM.out _ _ hC.below).mono ?_))
                                    rintro e w' ⟨rfl, hw⟩
                                    exact ⟨rfl, St.call (by assumption) hw⟩)))
                       try simp only [Act.put, List.setIfInBounds_toArray, List.set])
                      (first
                         | (apply qw_skip rfl)
                         | (apply qw_step rfl
                            focus
                              intro w0 hC
                              (fail))
                         | (apply qw_step rfl
                            focus
                              intro w0 hC
                              have hC' := Lib.hid hC
                              obtain ⟨r1, f1, i1, b1, l1⟩ := St.facts1 hC
                              clear hC
                              go_simp
                              have hC := hC'.out
                              (first
                                 | with_reducible rfl
                                 | (skip
                                    ((go_at_call 28; refine (HM.out _ _ hC.below).mono ?_))
                                    rintro e w' ⟨rfl, hw⟩
                                    exact ⟨rfl, St.call (by assumption) hw⟩)))
                       try simp only [Act.put, List.setIfInBounds_toArray, List.set])
                      (first
                         | (apply qw_skip rfl)
                         | (apply qw_step rfl
                            focus
                              intro w0 hC
                              (fail))
                         | (apply qw_step rfl
                            focus
                              intro w0 hC
                              have hC' := Lib.hid hC
                              obtain ⟨r1, f1, i1, b1, l1⟩ := St.facts1 hC
                              clear hC
                              go_simp
                              have hC := hC'.out
                              (first
                                 | with_reducible rfl
                                 | (skip
                                    ((go_at_call 28; refine (HM.out _ _ hC.below).mono ?_))
                                    rintro e w' ⟨rfl, hw⟩
                                    exact ⟨rfl, St.call (by assumption) hw⟩)))
                       try simp only [Act.put, List.setIfInBounds_toArray, List.set])
                      (first
                         | (apply qw_skip rfl)
                         | (apply qw_step rfl
                            focus
                              intro w0 hC
                              (fail))
                         | (apply qw_step rfl
                            focus
                              intro w0 hC
                              have hC' := Lib.hid hC
                              obtain ⟨r1, f1, i1, b1, l1⟩ := St.facts1 hC
                              clear hC
                              go_simp
                              have hC := hC'.out
                              (first
                                 | with_reducible rfl
                                 | (skip
                                    ((go_at_call 28; refine (HM.out _ _ hC.below).mono ?_))
                                    rintro e w' ⟨rfl, hw⟩
                                    exact ⟨rfl, St.call (by assumption) hw⟩)))
                       try simp only [Act.put, List.setIfInBounds_toArray, List.set])
                      (first
                         | (apply qw_skip rfl)
                         | (apply qw_step rfl
                            focus
                              intro w0 hC
                              (fail))
                         | (apply qw_step rfl
                            focus
                              intro w0 hC
                              have hC' := Lib.hid hC
                              obtain ⟨r1, f1, i1, b1, l1⟩ := St.facts1 hC
                              clear hC
                              go_simp
                              have hC := hC'.out
                              (first
                                 | with_reducible rfl
                                 | (skip
                                    ((go_at_call 28; refine (HM.out _ _ hC.below).mono ?_))
                                    rintro e w' ⟨rfl, hw⟩
                                    exact ⟨rfl, St.call (by assumption) hw⟩)))
                       try simp only [Act.put, List.setIfInBounds_toArray, List.set])
                      (first
                         | (apply qw_skip rfl)
                         | (apply qw_step rfl
                            focus
                              intro w0 hC
                              (fail))
                         | (apply qw_step rfl
                            focus
                              intro w0 hC
                              have hC' := Lib.hid hC
                              obtain ⟨r1, f1, i1, b1, l1⟩ := St.facts1 hC
                              clear hC
                              go_simp
                              have hC := hC'.out
                              (first
                                 | with_reducible rfl
                                 | (skip
                                    ((go_at_call 28; refine (HM.out _ _ hC.below).mono ?_))
                                    rintro e w' ⟨rfl, hw⟩
                                    exact ⟨rfl, St.call (by assumption) hw⟩)))
                       try simp only [Act.put, List.setIfInBounds_toArray, List.set])
                      refine qw_nil ?_
                      intro w3 hC
                      have HC := Lib.hid hC
                      clear hC
                      (by_cases hx0 : X = 0
                       · rw [if_neg (fun h => h hx0)] at hR
                         have HR2 := Lib.hid hR
                         subst hx0
                         clear HR hR
                         (obtain ⟨r1, f1, i1, b1, l1⟩ := St.facts1 (HC.out.pick [0] (by decide) rfl))
                         have hld := HLD.out _ HC.out.below
                         rw [Nat.zero_mul, add_nought] at hld
                         go_wp2_with fail
                         (clear r1 f1 i1 b1 l1)
                         clear hld
                         refine (HX.out _ HC.out.below).mono ?_; rintro e w4 ⟨rfl, hw⟩
                         have HC := Lib.hid (HC.out.call hw)
                         clear hw
                         go_wp2_with fail
                         go_roundw
                         case rel => exact ⟨0 + 1, by omega, by go_num, HR2, HC⟩
                         case measure => simp [intOf]; omega
                       · rw [if_pos hx0] at hR
                         have d8 : ((X : Int) != 0) = true := by rw [bne_iff_ne]; omega
                         subst hR
                         clear HR hx0
                         (obtain ⟨r1, f1, i1, b1, l1⟩ := St.facts1 (HC.out.pick [0] (by decide) rfl))
                         have hld := HLD.out _ HC.out.below
                         rw [Nat.zero_mul, add_nought] at hld
                         go_wp2_with fail
                         (clear r1 f1 i1 b1 l1)
                         clear hld
                         refine (HX.out _ HC.out.below).mono ?_; rintro e w4 ⟨rfl, hw⟩
                         have HC := Lib.hid (HC.out.call hw)
                         clear hw
                         go_wp2_with fail
                         go_ret
                         exact ⟨rfl, HC.out.below⟩)
                    · obtain ⟨u, hu⟩ : ∃ u, j - 1 = u := ⟨_, rfl⟩
                      rw [hu] at hR
                      have p1 : (0 : Int) < (j : Int) := by omega
                      have p2 : 0 < j := by omega
                      have v1 : IntKind.i64.wrap ((j : Int) - 1) = (u : Int) := by rw [IntWalk.i64_in _ (by omega)]; omega
                      have v2 : (j : Int) - 1 = (u : Int) := by omega
                      have v3 : IntKind.i64.wrap (u : Int) = (u : Int) := IntWalk.i64_in _ (by omega)
                      clear hs hu
                      (obtain ⟨r1, f1, i1, b1, l1⟩ := St.facts1 (HC.out.pick [0] (by decide) rfl))
                      go_wp2_with fail
                      (clear r1 f1 i1 b1 l1)
                      refine (HNJ.out _ HC.out.below).mono ?_; rintro e w2 ⟨rfl, hw⟩
                      have HC := Lib.hid (HC.out.call hw)
                      clear hw
                      rw [← htj] at hR
                      clear htj
                      by_cases hle : lessT (nameOf names u) (nameOf names j) = false
                      · rw [if_pos ⟨p2, hle⟩] at hR
                        subst hR
                        clear HR
                        unfold lessT at hle
                        go_upto_region 16 with fail
                        refine St.qregion HC.out (by kernel_rfl) (by decide +kernel) ?_
                        (first
                           | (apply qw_skip rfl)
                           | (apply qw_step rfl
                              focus
                                intro w0 hC
                                (fail))
                           | (apply qw_step rfl
                              focus
                                intro w0 hC
                                have hC' := Lib.hid hC
                                obtain ⟨r1, f1, i1, b1, l1⟩ := St.facts1 hC
                                clear hC
                                go_simp
                                have hC := hC'.out
                                (first
                                   | with_reducible rfl
                                   | (skip
                                      ((go_at_call 28; refine (HM.out _ _ hC.below).mono ?_))
                                      rintro e w' ⟨rfl, hw⟩
                                      exact ⟨rfl, St.call (by assumption) hw⟩)))
                         try simp only [Act.put, List.setIfInBounds_toArray, List.set])
                        (first
                           | (apply qw_skip rfl)
                           | (apply qw_step rfl
                              focus
                                intro w0 hC
                                (fail))
                           | (apply qw_step rfl
                              focus
                                intro w0 hC
                                have hC' := Lib.hid hC
                                obtain ⟨r1, f1, i1, b1, l1⟩ := St.facts1 hC
                                clear hC
                                go_simp
                                have hC := hC'.out
                                (first
                                   | with_reducible rfl
                                   | (skip
                                      ((go_at_call 28; refine (HM.out _ _ hC.below).mono ?_))
                                      rintro e w' ⟨rfl, hw⟩
                                      exact ⟨rfl, St.call (by assumption) hw⟩)))
                         try simp only [Act.put, List.setIfInBounds_toArray, List.set])
                        (first
                           | (apply qw_skip rfl)
                           | (apply qw_step rfl
                              focus
                                intro w0 hC
                                (fail))
                           | (apply qw_step rfl
                              focus
                                intro w0 hC
                                have hC' := Lib.hid hC
                                obtain ⟨r1, f1, i1, b1, l1⟩ := St.facts1 hC
                                clear hC
                                go_simp
                                have hC := hC'.out
                                (first
                                   | with_reducible rfl
                                   | (skip
                                      ((go_at_call 28; refine (HM.out _ _ hC.below).mono ?_))
                                      rintro e w' ⟨rfl, hw⟩
                                      exact ⟨rfl, St.call (by assumption) hw⟩)))
                         try simp only [Act.put, List.setIfInBounds_toArray, List.set])
                        (first
                           | (apply qw_skip rfl)
                           | (apply qw_step rfl
                              focus
                                intro w0 hC
                                (fail))
                           | (apply qw_step rfl
                              focus
                                intro w0 hC
                                have hC' := Lib.hid hC
                                obtain ⟨r1, f1, i1, b1, l1⟩ := St.facts1 hC
                                clear hC
                                go_simp
                                have hC := hC'.out
                                (first
                                   | with_reducible rfl
                                   | (skip
                                      ((go_at_call 28; refine (HM.out _ _ hC.below).mono ?_))
                                      rintro e w' ⟨rfl, hw⟩
                                      exact ⟨rfl, St.call (by assumption) hw⟩)))
                         try simp only [Act.put, List.setIfInBounds_toArray, List.set])
                        (first
                           | (apply qw_skip rfl)
                           | (apply qw_step rfl
                              focus
                                intro w0 hC
                                (fail))
                           | (apply qw_step rfl
                              focus
                                intro w0 hC
                                have hC' := Lib.hid hC
                                obtain ⟨r1, f1, i1, b1, l1⟩ := St.facts1 hC
                                clear hC
                                go_simp
                                have hC := hC'.out
                                (first
                                   | with_reducible rfl
                                   | (skip
                                      ((go_at_call 28; refine (HM.out _ _ hC.below).mono ?_))
                                      rintro e w' ⟨rfl, hw⟩
                                      exact ⟨rfl, St.call (by assumption) hw⟩)))
                         try simp only [Act.put, List.setIfInBounds_toArray, List.set])
                        (first
                           | (apply qw_skip rfl)
                           | (apply qw_step rfl
                              focus
                                intro w0 hC
                                (fail))
                           | (apply qw_step rfl
                              focus
                                intro w0 hC
                                have hC' := Lib.hid hC
                                obtain ⟨r1, f1, i1, b1, l1⟩ := St.facts1 hC
                                clear hC
                                go_simp
                                have hC := hC'.out
                                (first
                                   | with_reducible rfl
                                   | (skip
                                      ((go_at_call 28; refine (HM.out _ _ hC.below).mono ?_))
                                      rintro e w' ⟨rfl, hw⟩
                                      exact ⟨rfl, St.call (by assumption) hw⟩)))
                         try simp only [Act.put, List.setIfInBounds_toArray, List.set])
                        (first
                           | (apply qw_skip rfl)
                           | (apply qw_step rfl
                              focus
                                intro w0 hC
                                (fail))
                           | (apply qw_step rfl
                              focus
                                intro w0 hC
                                have hC' := Lib.hid hC
                                obtain ⟨r1, f1, i1, b1, l1⟩ := St.facts1 hC
                                clear hC
                                go_simp
                                have hC := hC'.out
                                (first
                                   | with_reducible rfl
                                   | (skip
                                      ((go_at_call 28; refine (HM.out _ _ hC.below).mono ?_))
                                      rintro e w' ⟨rfl, hw⟩
                                      exact ⟨rfl, St.call (by assumption) hw⟩)))
                         try simp only [Act.put, List.setIfInBounds_toArray, List.set])
                        (first
                           | (apply qw_skip rfl)
                           | (apply qw_step rfl
                              focus
                                intro w0 hC
                                (fail))
                           | (apply qw_step rfl
                              focus
                                intro w0 hC
                                have hC' := Lib.hid hC
                                obtain ⟨r1, f1, i1, b1, l1⟩ := St.facts1 hC
                                clear hC
                                go_simp
                                have hC := hC'.out
                                (first
                                   | with_reducible rfl
                                   | (skip
                                      ((go_at_call 28; refine (HM.out _ _ hC.below).mono ?_))
                                      rintro e w' ⟨rfl, hw⟩
                                      exact ⟨rfl, St.call (by assumption) hw⟩)))
                         try simp only [Act.put, List.setIfInBounds_toArray, List.set])
                        (first
                           | (apply qw_skip rfl)
                           | (apply qw_step rfl
                              focus
                                intro w0 hC
                                (fail))
                           | (apply qw_step rfl
                              focus
                                intro w0 hC
                                have hC' := Lib.hid hC
                                obtain ⟨r1, f1, i1, b1, l1⟩ := St.facts1 hC
                                clear hC
                                go_simp
                                have hC := hC'.out
                                (first
                                   | with_reducible rfl
                                   | (skip
                                      ((go_at_call 28; refine (HM.out _ _ hC.below).mono ?_))
                                      rintro e w' ⟨rfl, hw⟩
                                      exact ⟨rfl, St.call (by assumption) hw⟩)))
                         try simp only [Act.put, List.setIfInBounds_toArray, List.set])
                        (first
                           | (apply qw_skip rfl)
                           | (apply qw_step rfl
                              focus
                                intro w0 hC
                                (fail))
                           | (apply qw_step rfl
                              focus
                                intro w0 hC
                                have hC' := Lib.hid hC
                                obtain ⟨r1, f1, i1, b1, l1⟩ := St.facts1 hC
                                clear hC
                                go_simp
                                have hC := hC'.out
                                (first
                                   | with_reducible rfl
                                   | (skip
                                      ((go_at_call 28; refine (HM.out _ _ hC.below).mono ?_))
                                      rintro e w' ⟨rfl, hw⟩
                                      exact ⟨rfl, St.call (by assumption) hw⟩)))
                         try simp only [Act.put, List.setIfInBounds_toArray, List.set])
                        (first
                           | (apply qw_skip rfl)
                           | (apply qw_step rfl
                              focus
                                intro w0 hC
                                (fail))
                           | (apply qw_step rfl
                              focus
                                intro w0 hC
                                have hC' := Lib.hid hC
                                obtain ⟨r1, f1, i1, b1, l1⟩ := St.facts1 hC
                                clear hC
                                go_simp
                                have hC := hC'.out
                                (first
                                   | with_reducible rfl
                                   | (skip
                                      ((go_at_call 28; refine (HM.out _ _ hC.below).mono ?_))
                                      rintro e w' ⟨rfl, hw⟩
                                      exact ⟨rfl, St.call (by assumption) hw⟩)))
                         try simp only [Act.put, List.setIfInBounds_toArray, List.set])
                        (first
                           | (apply qw_skip rfl)
                           | (apply qw_step rfl
                              focus
                                intro w0 hC
                                (fail))
                           | (apply qw_step rfl
                              focus
                                intro w0 hC
                                have hC' := Lib.hid hC
                                obtain ⟨r1, f1, i1, b1, l1⟩ := St.facts1 hC
                                clear hC
                                go_simp
                                have hC := hC'.out
                                (first
                                   | with_reducible rfl
                                   | (skip
                                      ((go_at_call 28; refine (HM.out _ _ hC.below).mono ?_))
                                      rintro e w' ⟨rfl, hw⟩
                                      exact ⟨rfl, St.call (by assumption) hw⟩)))
                         try simp only [Act.put, List.setIfInBounds_toArray, List.set])
                        (first
                           | (apply qw_skip rfl)
                           | (apply qw_step rfl
                              focus
                                intro w0 hC
                                (fail))
                           | (apply qw_step rfl
                              focus
                                intro w0 hC
                                have hC' := Lib.hid hC
                                obtain ⟨r1, f1, i1, b1, l1⟩ := St.facts1 hC
                                clear hC
                                go_simp
                                have hC := hC'.out
                                (first
                                   | with_reducible rfl
                                   | (skip
                                      ((go_at_call 28; refine (HM.out _ _ hC.below).mono ?_))
                                      rintro e w' ⟨rfl, hw⟩
                                      exact ⟨rfl, St.call (by assumption) hw⟩)))
                         try simp only [Act.put, List.setIfInBounds_toArray, List.set])
                        (first
                           | (apply qw_skip rfl)
                           | (apply qw_step rfl
                              focus
                                intro w0 hC
                                (fail))
                           | (apply qw_step rfl
                              focus
                                intro w0 hC
                                have hC' := Lib.hid hC
                                obtain ⟨r1, f1, i1, b1, l1⟩ := St.facts1 hC
                                clear hC
                                go_simp
                                have hC := hC'.out
                                (first
                                   | with_reducible rfl
                                   | (skip
                                      ((go_at_call 28; refine (HM.out _ _ hC.below).mono ?_))
                                      rintro e w' ⟨rfl, hw⟩
                                      exact ⟨rfl, St.call (by assumption) hw⟩)))
                         try simp only [Act.put, List.setIfInBounds_toArray, List.set])
                        (first
                           | (apply qw_skip rfl)
                           | (apply qw_step rfl
                              focus
                                intro w0 hC
                                (fail))
                           | (apply qw_step rfl
                              focus
                                intro w0 hC
                                have hC' := Lib.hid hC
                                obtain ⟨r1, f1, i1, b1, l1⟩ := St.facts1 hC
                                clear hC
                                go_simp
                                have hC := hC'.out
                                (first
                                   | with_reducible rfl
                                   | (skip
                                      ((go_at_call 28; refine (HM.out _ _ hC.below).mono ?_))
                                      rintro e w' ⟨rfl, hw⟩
                                      exact ⟨rfl, St.call (by assumption) hw⟩)))
                         try simp only [Act.put, List.setIfInBounds_toArray, List.set])
                        (first
                           | (apply qw_skip rfl)
                           | (apply qw_step rfl
                              focus
                                intro w0 hC
                                (fail))
                           | (apply qw_step rfl
                              focus
                                intro w0 hC
                                have hC' := Lib.hid hC
                                obtain ⟨r1, f1, i1, b1, l1⟩ := St.facts1 hC
                                clear hC
                                go_simp
                                have hC := hC'.out
                                (first
                                   | with_reducible rfl
                                   | (skip
                                      ((go_at_call 28; refine (HM.out _ _ hC.below).mono ?_))
                                      rintro e w' ⟨rfl, hw⟩
                                      exact ⟨rfl, St.call (by assumption) hw⟩)))
                         try simp only [Act.put, List.setIfInBounds_toArray, List.set])
                        (first
                           | (apply qw_skip rfl)
                           | (apply qw_step rfl
                              focus
                                intro w0 hC
                                (fail))
                           | (apply qw_step rfl
                              focus
                                intro w0 hC
                                have hC' := Lib.hid hC
                                obtain ⟨r1, f1, i1, b1, l1⟩ := St.facts1 hC
                                clear hC
                                go_simp
                                have hC := hC'.out
                                (first
                                   | with_reducible rfl
                                   | (skip
                                      ((go_at_call 28; refine (HM.out _ _ hC.below).mono ?_))
                                      rintro e w' ⟨rfl, hw⟩
                                      exact ⟨rfl, St.call (by assumption) hw⟩)))
                         try simp only [Act.put, List.setIfInBounds_toArray, List.set])
                        refine qw_nil ?_
                        intro w3 hC
                        have HC := Lib.hid hC
                        clear hC
                        go_wp2_with fail
                        go_ret
                        exact ⟨rfl, HC.out.below⟩
                      · rw [if_neg (fun h => hle h.2)] at hR
                        have hle : lessT (nameOf names u) (nameOf names j) = true := by simpa using hle
                        unfold lessT at hle
                        go_upto_region 16 with fail
                        refine St.qregion HC.out (by kernel_rfl) (by decide +kernel) ?_
                        (first
                           | (apply qw_skip rfl)
                           | (apply qw_step rfl
                              focus
                                intro w0 hC
                                (fail))
                           | (apply qw_step rfl
                              focus
                                intro w0 hC
                                have hC' := Lib.hid hC
                                obtain ⟨r1, f1, i1, b1, l1⟩ := St.facts1 hC
                                clear hC
                                go_simp
                                have hC := hC'.out
                                (first
                                   | with_reducible rfl
                                   | (skip
                                      ((go_at_call 28; refine (HM.out _ _ hC.below).mono ?_))
                                      rintro e w' ⟨rfl, hw⟩
                                      exact ⟨rfl, St.call (by assumption) hw⟩)))
                         try simp only [Act.put, List.setIfInBounds_toArray, List.set])
                        (first
                           | (apply qw_skip rfl)
                           | (apply qw_step rfl
                              focus
                                intro w0 hC
                                (fail))
                           | (apply qw_step rfl
                              focus
                                intro w0 hC
                                have hC' := Lib.hid hC
                                obtain ⟨r1, f1, i1, b1, l1⟩ := St.facts1 hC
                                clear hC
                                go_simp
                                have hC := hC'.out
                                (first
                                   | with_reducible rfl
                                   | (skip
                                      ((go_at_call 28; refine (HM.out _ _ hC.below).mono ?_))
                                      rintro e w' ⟨rfl, hw⟩
                                      exact ⟨rfl, St.call (by assumption) hw⟩)))
                         try simp only [Act.put, List.setIfInBounds_toArray, List.set])
                        (first
                           | (apply qw_skip rfl)
                           | (apply qw_step rfl
                              focus
                                intro w0 hC
                                (fail))
                           | (apply qw_step rfl
                              focus
                                intro w0 hC
                                have hC' := Lib.hid hC
                                obtain ⟨r1, f1, i1, b1, l1⟩ := St.facts1 hC
                                clear hC
                                go_simp
                                have hC := hC'.out
                                (first
                                   | with_reducible rfl
                                   | (skip
                                      ((go_at_call 28; refine (HM.out _ _ hC.below).mono ?_))
                                      rintro e w' ⟨rfl, hw⟩
                                      exact ⟨rfl, St.call (by assumption) hw⟩)))
                         try simp only [Act.put, List.setIfInBounds_toArray, List.set])
                        (first
                           | (apply qw_skip rfl)
                           | (apply qw_step rfl
                              focus
                                intro w0 hC
                                (fail))
                           | (apply qw_step rfl
                              focus
                                intro w0 hC
                                have hC' := Lib.hid hC
                                obtain ⟨r1, f1, i1, b1, l1⟩ := St.facts1 hC
                                clear hC
                                go_simp
                                have hC := hC'.out
                                (first
                                   | with_reducible rfl
                                   | (skip
                                      ((go_at_call 28; refine (HM.out _ _ hC.below).mono ?_))
                                      rintro e w' ⟨rfl, hw⟩
                                      exact ⟨rfl, St.call (by assumption) hw⟩)))
                         try simp only [Act.put, List.setIfInBounds_toArray, List.set])
                        (first
                           | (apply qw_skip rfl)
                           | (apply qw_step rfl
                              focus
                                intro w0 hC
                                (fail))
                           | (apply qw_step rfl
                              focus
                                intro w0 hC
                                have hC' := Lib.hid hC
                                obtain ⟨r1, f1, i1, b1, l1⟩ := St.facts1 hC
                                clear hC
                                go_simp
                                have hC := hC'.out
                                (first
                                   | with_reducible rfl
                                   | (skip
                                      ((go_at_call 28; refine (HM.out _ _ hC.below).mono ?_))
                                      rintro e w' ⟨rfl, hw⟩
                                      exact ⟨rfl, St.call (by assumption) hw⟩)))
                         try simp only [Act.put, List.setIfInBounds_toArray, List.set])
                        (first
                           | (apply qw_skip rfl)
                           | (apply qw_step rfl
                              focus
                                intro w0 hC
                                (fail))
                           | (apply qw_step rfl
                              focus
                                intro w0 hC
                                have hC' := Lib.hid hC
                                obtain ⟨r1, f1, i1, b1, l1⟩ := St.facts1 hC
                                clear hC
                                go_simp
                                have hC := hC'.out
                                (first
                                   | with_reducible rfl
                                   | (skip
                                      ((go_at_call 28; refine (HM.out _ _ hC.below).mono ?_))
                                      rintro e w' ⟨rfl, hw⟩
                                      exact ⟨rfl, St.call (by assumption) hw⟩)))
                         try simp only [Act.put, List.setIfInBounds_toArray, List.set])
                        (first
                           | (apply qw_skip rfl)
                           | (apply qw_step rfl
                              focus
                                intro w0 hC
                                (fail))
                           | (apply qw_step rfl
                              focus
                                intro w0 hC
                                have hC' := Lib.hid hC
                                obtain ⟨r1, f1, i1, b1, l1⟩ := St.facts1 hC
                                clear hC
                                go_simp
                                have hC := hC'.out
                                (first
                                   | with_reducible rfl
                                   | (skip
                                      ((go_at_call 28; refine (HM.out _ _ hC.below).mono ?_))
                                      rintro e w' ⟨rfl, hw⟩
                                      exact ⟨rfl, St.call (by assumption) hw⟩)))
                         try simp only [Act.put, List.setIfInBounds_toArray, List.set])
                        (first
                           | (apply qw_skip rfl)
                           | (apply qw_step rfl
                              focus
                                intro w0 hC
                                (fail))
                           | (apply qw_step rfl
                              focus
                                intro w0 hC
                                have hC' := Lib.hid hC
                                obtain ⟨r1, f1, i1, b1, l1⟩ := St.facts1 hC
                                clear hC
                                go_simp
                                have hC := hC'.out
                                (first
                                   | with_reducible rfl
                                   | (skip
                                      ((go_at_call 28; refine (HM.out _ _ hC.below).mono ?_))
                                      rintro e w' ⟨rfl, hw⟩
                                      exact ⟨rfl, St.call (by assumption) hw⟩)))
                         try simp only [Act.put, List.setIfInBounds_toArray, List.set])
                        (first
                           | (apply qw_skip rfl)
                           | (apply qw_step rfl
                              focus
                                intro w0 hC
                                (fail))
                           | (apply qw_step rfl
                              focus
                                intro w0 hC
                                have hC' := Lib.hid hC
                                obtain ⟨r1, f1, i1, b1, l1⟩ := St.facts1 hC
                                clear hC
                                go_simp
                                have hC := hC'.out
                                (first
                                   | with_reducible rfl
                                   | (skip
                                      ((go_at_call 28; refine (HM.out _ _ hC.below).mono ?_))
                                      rintro e w' ⟨rfl, hw⟩
                                      exact ⟨rfl, St.call (by assumption) hw⟩)))
                         try simp only [Act.put, List.setIfInBounds_toArray, List.set])
                        (first
                           | (apply qw_skip rfl)
                           | (apply qw_step rfl
                              focus
                                intro w0 hC
                                (fail))
                           | (apply qw_step rfl
                              focus
                                intro w0 hC
                                have hC' := Lib.hid hC
                                obtain ⟨r1, f1, i1, b1, l1⟩ := St.facts1 hC
                                clear hC
                                go_simp
                                have hC := hC'.out
                                (first
                                   | with_reducible rfl
                                   | (skip
                                      ((go_at_call 28; refine (HM.out _ _ hC.below).mono ?_))
                                      rintro e w' ⟨rfl, hw⟩
                                      exact ⟨rfl, St.call (by assumption) hw⟩)))
                         try simp only [Act.put, List.setIfInBounds_toArray, List.set])
                        (first
                           | (apply qw_skip rfl)
                           | (apply qw_step rfl
                              focus
                                intro w0 hC
                                (fail))
                           | (apply qw_step rfl
                              focus
                                intro w0 hC
                                have hC' := Lib.hid hC
                                obtain ⟨r1, f1, i1, b1, l1⟩ := St.facts1 hC
                                clear hC
                                go_simp
                                have hC := hC'.out
                                (first
                                   | with_reducible rfl
                                   | (skip
                                      ((go_at_call 28; refine (HM.out _ _ hC.below).mono ?_))
                                      rintro e w' ⟨rfl, hw⟩
                                      exact ⟨rfl, St.call (by assumption) hw⟩)))
                         try simp only [Act.put, List.setIfInBounds_toArray, List.set])
                        (first
                           | (apply qw_skip rfl)
                           | (apply qw_step rfl
                              focus
                                intro w0 hC
                                (fail))
                           | (apply qw_step rfl
                              focus
                                intro w0 hC
                                have hC' := Lib.hid hC
                                obtain ⟨r1, f1, i1, b1, l1⟩ := St.facts1 hC
                                clear hC
                                go_simp
                                have hC := hC'.out
                                (first
                                   | with_reducible rfl
                                   | (skip
                                      ((go_at_call 28; refine (HM.out _ _ hC.below).mono ?_))
                                      rintro e w' ⟨rfl, hw⟩
                                      exact ⟨rfl, St.call (by assumption) hw⟩)))
                         try simp only [Act.put, List.setIfInBounds_toArray, List.set])
                        (first
                           | (apply qw_skip rfl)
                           | (apply qw_step rfl
                              focus
                                intro w0 hC
                                (fail))
                           | (apply qw_step rfl
                              focus
                                intro w0 hC
                                have hC' := Lib.hid hC
                                obtain ⟨r1, f1, i1, b1, l1⟩ := St.facts1 hC
                                clear hC
                                go_simp
                                have hC := hC'.out
                                (first
                                   | with_reducible rfl
                                   | (skip
                                      ((go_at_call 28; refine (HM.out _ _ hC.below).mono ?_))
                                      rintro e w' ⟨rfl, hw⟩
                                      exact ⟨rfl, St.call (by assumption) hw⟩)))
                         try simp only [Act.put, List.setIfInBounds_toArray, List.set])
                        (first
                           | (apply qw_skip rfl)
                           | (apply qw_step rfl
                              focus
                                intro w0 hC
                                (fail))
                           | (apply qw_step rfl
                              focus
                                intro w0 hC
                                have hC' := Lib.hid hC
                                obtain ⟨r1, f1, i1, b1, l1⟩ := St.facts1 hC
                                clear hC
                                go_simp
                                have hC := hC'.out
                                (first
                                   | with_reducible rfl
                                   | (skip
                                      ((go_at_call 28; refine (HM.out _ _ hC.below).mono ?_))
                                      rintro e w' ⟨rfl, hw⟩
                                      exact ⟨rfl, St.call (by assumption) hw⟩)))
                         try simp only [Act.put, List.setIfInBounds_toArray, List.set])
                        (first
                           | (apply qw_skip rfl)
                           | (apply qw_step rfl
                              focus
                                intro w0 hC
                                (fail))
                           | (apply qw_step rfl
                              focus
                                intro w0 hC
                                have hC' := Lib.hid hC
                                obtain ⟨r1, f1, i1, b1, l1⟩ := St.facts1 hC
                                clear hC
                                go_simp
                                have hC := hC'.out
                                (first
                                   | with_reducible rfl
                                   | (skip
                                      ((go_at_call 28; refine (HM.out _ _ hC.below).mono ?_))
                                      rintro e w' ⟨rfl, hw⟩
                                      exact ⟨rfl, St.call (by assumption) hw⟩)))
                         try simp only [Act.put, List.setIfInBounds_toArray, List.set])
                        (first
                           | (apply qw_skip rfl)
                           | (apply qw_step rfl
                              focus
                                intro w0 hC
                                (fail))
                           | (apply qw_step rfl
                              focus
                                intro w0 hC
                                have hC' := Lib.hid hC
                                obtain ⟨r1, f1, i1, b1, l1⟩ := St.facts1 hC
                                clear hC
                                go_simp
                                have hC := hC'.out
                                (first
                                   | with_reducible rfl
                                   | (skip
                                      ((go_at_call 28; refine (HM.out _ _ hC.below).mono ?_))
                                      rintro e w' ⟨rfl, hw⟩
                                      exact ⟨rfl, St.call (by assumption) hw⟩)))
                         try simp only [Act.put, List.setIfInBounds_toArray, List.set])
                        (first
                           | (apply qw_skip rfl)
                           | (apply qw_step rfl
                              focus
                                intro w0 hC
                                (fail))
                           | (apply qw_step rfl
                              focus
                                intro w0 hC
                                have hC' := Lib.hid hC
                                obtain ⟨r1, f1, i1, b1, l1⟩ := St.facts1 hC
                                clear hC
                                go_simp
                                have hC := hC'.out
                                (first
                                   | with_reducible rfl
                                   | (skip
                                      ((go_at_call 28; refine (HM.out _ _ hC.below).mono ?_))
                                      rintro e w' ⟨rfl, hw⟩
                                      exact ⟨rfl, St.call (by assumption) hw⟩)))
                         try simp only [Act.put, List.setIfInBounds_toArray, List.set])
                        refine qw_nil ?_
                        intro w3 hC
                        have HC := Lib.hid hC
                        clear hC p1 p2 v1 v2 v3 hle
                        (by_cases hx0 : X = 0
                         · rw [if_neg (fun h => h hx0)] at hR
                           have HR2 := Lib.hid hR
                           subst hx0
                           clear HR hR
                           (obtain ⟨r1, f1, i1, b1, l1⟩ := St.facts1 (HC.out.pick [0] (by decide) rfl))
                           have hld := HLD.out _ HC.out.below
                           go_wp2_with fail
                           (clear r1 f1 i1 b1 l1)
                           clear hld
                           refine (HX.out _ HC.out.below).mono ?_; rintro e w4 ⟨rfl, hw⟩
                           have HC := Lib.hid (HC.out.call hw)
                           clear hw
                           go_wp2_with fail
                           go_roundw
                           case rel => exact ⟨j + 1, by omega, by go_num, HR2, HC⟩
                           case measure => simp [intOf]; omega
                         · rw [if_pos hx0] at hR
                           have d8 : ((X : Int) != 0) = true := by rw [bne_iff_ne]; omega
                           subst hR
                           clear HR hx0
                           (obtain ⟨r1, f1, i1, b1, l1⟩ := St.facts1 (HC.out.pick [0] (by decide) rfl))
                           have hld := HLD.out _ HC.out.below
                           go_wp2_with fail
                           (clear r1 f1 i1 b1 l1)
                           clear hld
                           refine (HX.out _ HC.out.below).mono ?_; rintro e w4 ⟨rfl, hw⟩
                           have HC := Lib.hid (HC.out.call hw)
                           clear hw
                           go_wp2_with fail
                           go_ret
                           exact ⟨rfl, HC.out.below⟩)
                · (obtain rfl : j = kl := by omega
                   have hR := HR.out
                   rw [List.drop_of_length_le (by rw [HK.out]; exact Nat.le_refl _)] at hR
                   unfold chkL at hR
                   subst hR
                   clear HR
                   (obtain ⟨r1, f1, i1, b1, l1⟩ := St.facts1 (HC.out.pick [0] (by decide) rfl))
                   go_wp2_with fail
                   go_ret
                   exact ⟨rfl, HC.out.below⟩)
            · obtain rfl : k = 4 := by omega
              rw [show decide (4 = 5) = false from rfl] at hR
              have HR := Lib.hid hR
              clear hR c1 d1 c2 d2 c4 c7
              go_enter Try.func12, Try.ntmps12
              (obtain ⟨r1, f1, i1, b1, l1⟩ := St.facts1 (HC.out.pick [0] (by decide) rfl))
              go_wp2_with fail
              (clear r1 f1 i1 b1 l1)
              go_loopw [5] (fun i wr => ∃ j : Nat, j ≤ kl ∧ i = .int .i64 (j : Int) ∧ Hid (chkL false names j (kids.drop j) (d + 1) = R) ∧ Hid (St w [(w.heap.size, ndC ⟨4, n, s, ka, kl, kc, na, nl, nc⟩)] wr)) (fun i _ => kl - (intOf i).toNat)
              case atStart => exact ⟨0, by omega, rfl, HR, HC⟩
              case round =>
                clear HC HR
                obtain ⟨j, hj, rfl, HR, HC⟩ := hrel
                by_cases hlt : j < kl
                · have d6 : (j : Int) < (kl : Int) := by omega
                  have hjn : j < kids.length := by rw [HK.out]; exact hlt
                  obtain ⟨ad, rfl⟩ := H3.out.some j hlt
                  have HLD := Lib.hid (fun w' (hb : Below w.heap.size w w') => ((H3.out.call hb (Nat.le_refl _)).at j hlt).node)
                  have hR := HR.out
                  rw [List.drop_eq_getElem_cons hjn, chkL_plain] at hR
                  have HX := Lib.hid (fun w' (hb : Below w.heap.size w w') => HI.out j hjn w' hb hd9)
                  generalize ndChk kids[j] (d + 1) = X at hR HX
                  (obtain ⟨r1, f1, i1, b1, l1⟩ := St.facts1 (HC.out.pick [0] (by decide) rfl))
                  go_upto_region 16 with fail
                  (clear r1 f1 i1 b1 l1)
                  refine St.qregion HC.out (by kernel_rfl) (by decide +kernel) ?_
                  (first
                     | (apply qw_skip rfl)
                     | (apply qw_step rfl
                        focus
                          intro w0 hC
                          (fail))
                     | (apply qw_step rfl
                        focus
                          intro w0 hC
                          have hC' := Lib.hid hC
                          obtain ⟨r1, f1, i1, b1, l1⟩ := St.facts1 hC
                          clear hC
                          go_simp
                          have hC := hC'.out
                          (first
                             | with_reducible rfl
                             | (skip
                                ((go_at_call 28; refine (HM.out _ _ hC.below).mono ?_))
                                rintro e w' ⟨rfl, hw⟩
                                exact ⟨rfl, St.call (by assumption) hw⟩)))
                   try simp only [Act.put, List.setIfInBounds_toArray, List.set])
                  (first
                     | (apply qw_skip rfl)
                     | (apply qw_step rfl
                        focus
                          intro w0 hC
                          (fail))
                     | (apply qw_step rfl
                        focus
                          intro w0 hC
                          have hC' := Lib.hid hC
                          obtain ⟨r1, f1, i1, b1, l1⟩ := St.facts1 hC
                          clear hC
                          go_simp
                          have hC := hC'.out
                          (first
                             | with_reducible rfl
                             | (skip
                                ((go_at_call 28; refine (HM.out _ _ hC.below).mono ?_))
                                rintro e w' ⟨rfl, hw⟩
                                exact ⟨rfl, St.call (by assumption) hw⟩)))
                   try simp only [Act.put, List.setIfInBounds_toArray, List.set])
                  (first
                     | (apply qw_skip rfl)
                     | (apply qw_step rfl
                        focus
                          intro w0 hC
                          (fail))
                     | (apply qw_step rfl
                        focus
                          intro w0 hC
                          have hC' := Lib.hid hC
                          obtain ⟨r1, f1, i1, b1, l1⟩ := St.facts1 hC
                          clear hC
                          go_simp
                          have hC := hC'.out
                          (first
                             | with_reducible rfl
                             | (skip
                                ((go_at_call 28; refine (HM.out _ _ hC.below).mono ?_))
                                rintro e w' ⟨rfl, hw⟩
                                exact ⟨rfl, St.call (by assumption) hw⟩)))
                   try simp only [Act.put, List.setIfInBounds_toArray, List.set])
                  (first
                     | (apply qw_skip rfl)
                     | (apply qw_step rfl
                        focus
                          intro w0 hC
                          (fail))
                     | (apply qw_step rfl
                        focus
                          intro w0 hC
                          have hC' := Lib.hid hC
                          obtain ⟨r1, f1, i1, b1, l1⟩ := St.facts1 hC
                          clear hC
                          go_simp
                          have hC := hC'.out
                          (first
                             | with_reducible rfl
                             | (skip
                                ((go_at_call 28; refine (HM.out _ _ hC.below).mono ?_))
                                rintro e w' ⟨rfl, hw⟩
                                exact ⟨rfl, St.call (by assumption) hw⟩)))
                   try simp only [Act.put, List.setIfInBounds_toArray, List.set])
                  (first
                     | (apply qw_skip rfl)
                     | (apply qw_step rfl
                        focus
                          intro w0 hC
                          (fail))
                     | (apply qw_step rfl
                        focus
                          intro w0 hC
                          have hC' := Lib.hid hC
                          obtain ⟨r1, f1, i1, b1, l1⟩ := St.facts1 hC
                          clear hC
                          go_simp
                          have hC := hC'.out
                          (first
                             | with_reducible rfl
                             | (skip
                                ((go_at_call 28; refine (HM.out _ _ hC.below).mono ?_))
                                rintro e w' ⟨rfl, hw⟩
                                exact ⟨rfl, St.call (by assumption) hw⟩)))
                   try simp only [Act.put, List.setIfInBounds_toArray, List.set])
                  (first
                     | (apply qw_skip rfl)
                     | (apply qw_step rfl
                        focus
                          intro w0 hC
                          (fail))
                     | (apply qw_step rfl
                        focus
                          intro w0 hC
                          have hC' := Lib.hid hC
                          obtain ⟨r1, f1, i1, b1, l1⟩ := St.facts1 hC
                          clear hC
                          go_simp
                          have hC := hC'.out
                          (first
                             | with_reducible rfl
                             | (skip
                                ((go_at_call 28; refine (HM.out _ _ hC.below).mono ?_))
                                rintro e w' ⟨rfl, hw⟩
                                exact ⟨rfl, St.call (by assumption) hw⟩)))
                   try simp only [Act.put, List.setIfInBounds_toArray, List.set])
                  (first
                     | (apply qw_skip rfl)
                     | (apply qw_step rfl
                        focus
                          intro w0 hC
                          (fail))
                     | (apply qw_step rfl
                        focus
                          intro w0 hC
                          have hC' := Lib.hid hC
                          obtain ⟨r1, f1, i1, b1, l1⟩ := St.facts1 hC
                          clear hC
                          go_simp
                          have hC := hC'.out
                          (first
                             | with_reducible rfl
                             | (skip
                                ((go_at_call 28; refine (HM.out _ _ hC.below).mono ?_))
                                rintro e w' ⟨rfl, hw⟩
                                exact ⟨rfl, St.call (by assumption) hw⟩)))
                   try simp only [Act.put, List.setIfInBounds_toArray, List.set])
                  (first
                     | (apply qw_skip rfl)
                     | (apply qw_step rfl
                        focus
                          intro w0 hC
                          (fail))
                     | (apply qw_step rfl
                        focus
                          intro w0 hC
                          have hC' := Lib.hid hC
                          obtain ⟨r1, f1, i1, b1, l1⟩ := St.facts1 hC
                          clear hC
                          go_simp
                          have hC := hC'.out
                          (first
                             | with_reducible rfl
                             | (skip
                                ((go_at_call 28; refine (HM.out _ _ hC.below).mono ?_))
                                rintro e w' ⟨rfl, hw⟩
                                exact ⟨rfl, St.call (by assumption) hw⟩)))
                   try simp only [Act.put, List.setIfInBounds_toArray, List.set])
                  (first
                     | (apply qw_skip rfl)
                     | (apply qw_step rfl
                        focus
                          intro w0 hC
                          (fail))
                     | (apply qw_step rfl
                        focus
                          intro w0 hC
                          have hC' := Lib.hid hC
                          obtain ⟨r1, f1, i1, b1, l1⟩ := St.facts1 hC
                          clear hC
                          go_simp
                          have hC := hC'.out
                          (first
                             | with_reducible rfl
                             | (skip
                                ((go_at_call 28; refine (HM.out _ _ hC.below).mono ?_))
                                rintro e w' ⟨rfl, hw⟩
                                exact ⟨rfl, St.call (by assumption) hw⟩)))
                   try simp only [Act.put, List.setIfInBounds_toArray, List.set])
                  (first
                     | (apply qw_skip rfl)
                     | (apply qw_step rfl
                        focus
                          intro w0 hC
                          (fail))
                     | (apply qw_step rfl
                        focus
                          intro w0 hC
                          have hC' := Lib.hid hC
                          obtain ⟨r1, f1, i1, b1, l1⟩ := St.facts1 hC
                          clear hC
                          go_simp
                          have hC := hC'.out
                          (first
                             | with_reducible rfl
                             | (skip
                                ((go_at_call 28; refine (HM.out _ _ hC.below).mono ?_))
                                rintro e w' ⟨rfl, hw⟩
                                exact ⟨rfl, St.call (by assumption) hw⟩)))
                   try simp only [Act.put, List.setIfInBounds_toArray, List.set])
                  (first
                     | (apply qw_skip rfl)
                     | (apply qw_step rfl
                        focus
                          intro w0 hC
                          (fail))
                     | (apply qw_step rfl
                        focus
                          intro w0 hC
                          have hC' := Lib.hid hC
                          obtain ⟨r1, f1, i1, b1, l1⟩ := St.facts1 hC
                          clear hC
                          go_simp
                          have hC := hC'.out
                          (first
                             | with_reducible rfl
                             | (skip
                                ((go_at_call 28; refine (HM.out _ _ hC.below).mono ?_))
                                rintro e w' ⟨rfl, hw⟩
                                exact ⟨rfl, St.call (by assumption) hw⟩)))
                   try simp only [Act.put, List.setIfInBounds_toArray, List.set])
                  (first
                     | (apply qw_skip rfl)
                     | (apply qw_step rfl
                        focus
                          intro w0 hC
                          (fail))
                     | (apply qw_step rfl
                        focus
                          intro w0 hC
                          have hC' := Lib.hid hC
                          obtain ⟨r1, f1, i1, b1, l1⟩ := St.facts1 hC
                          clear hC
                          go_simp
                          have hC := hC'.out
                          (first
                             | with_reducible rfl
                             | (skip
                                ((go_at_call 28; refine (HM.out _ _ hC.below).mono ?_))
                                rintro e w' ⟨rfl, hw⟩
                                exact ⟨rfl, St.call (by assumption) hw⟩)))
                   try simp only [Act.put, List.setIfInBounds_toArray, List.set])
                  (first
                     | (apply qw_skip rfl)
                     | (apply qw_step rfl
                        focus
                          intro w0 hC
                          (fail))
                     | (apply qw_step rfl
                        focus
                          intro w0 hC
                          have hC' := Lib.hid hC
                          obtain ⟨r1, f1, i1, b1, l1⟩ := St.facts1 hC
                          clear hC
                          go_simp
                          have hC := hC'.out
                          (first
                             | with_reducible rfl
                             | (skip
                                ((go_at_call 28; refine (HM.out _ _ hC.below).mono ?_))
                                rintro e w' ⟨rfl, hw⟩
                                exact ⟨rfl, St.call (by assumption) hw⟩)))
                   try simp only [Act.put, List.setIfInBounds_toArray, List.set])
                  (first
                     | (apply qw_skip rfl)
                     | (apply qw_step rfl
                        focus
                          intro w0 hC
                          (fail))
                     | (apply qw_step rfl
                        focus
                          intro w0 hC
                          have hC' := Lib.hid hC
                          obtain ⟨r1, f1, i1, b1, l1⟩ := St.facts1 hC
                          clear hC
                          go_simp
                          have hC := hC'.out
                          (first
                             | with_reducible rfl
                             | (skip
                                ((go_at_call 28; refine (HM.out _ _ hC.below).mono ?_))
                                rintro e w' ⟨rfl, hw⟩
                                exact ⟨rfl, St.call (by assumption) hw⟩)))
                   try simp only [Act.put, List.setIfInBounds_toArray, List.set])
                  (first
                     | (apply qw_skip rfl)
                     | (apply qw_step rfl
                        focus
                          intro w0 hC
                          (fail))
                     | (apply qw_step rfl
                        focus
                          intro w0 hC
                          have hC' := Lib.hid hC
                          obtain ⟨r1, f1, i1, b1, l1⟩ := St.facts1 hC
                          clear hC
                          go_simp
                          have hC := hC'.out
                          (first
                             | with_reducible rfl
                             | (skip
                                ((go_at_call 28; refine (HM.out _ _ hC.below).mono ?_))
                                rintro e w' ⟨rfl, hw⟩
                                exact ⟨rfl, St.call (by assumption) hw⟩)))
                   try simp only [Act.put, List.setIfInBounds_toArray, List.set])
                  (first
                     | (apply qw_skip rfl)
                     | (apply qw_step rfl
                        focus
                          intro w0 hC
                          (fail))
                     | (apply qw_step rfl
                        focus
                          intro w0 hC
                          have hC' := Lib.hid hC
                          obtain ⟨r1, f1, i1, b1, l1⟩ := St.facts1 hC
                          clear hC
                          go_simp
                          have hC := hC'.out
                          (first
                             | with_reducible rfl
                             | (skip
                                ((go_at_call 28; refine (HM.out _ _ hC.below).mono ?_))
                                rintro e w' ⟨rfl, hw⟩
                                exact ⟨rfl, St.call (by assumption) hw⟩)))
                   try simp only [Act.put, List.setIfInBounds_toArray, List.set])
                  (first
                     | (apply qw_skip rfl)
                     | (apply qw_step rfl
                        focus
                          intro w0 hC
                          (fail))
                     | (apply qw_step rfl
                        focus
                          intro w0 hC
                          have hC' := Lib.hid hC
                          obtain ⟨r1, f1, i1, b1, l1⟩ := St.facts1 hC
                          clear hC
                          go_simp
                          have hC := hC'.out
                          (first
                             | with_reducible rfl
                             | (skip
                                ((go_at_call 28; refine (HM.out _ _ hC.below).mono ?_))
                                rintro e w' ⟨rfl, hw⟩
                                exact ⟨rfl, St.call (by assumption) hw⟩)))
                   try simp only [Act.put, List.setIfInBounds_toArray, List.set])
                  refine qw_nil ?_
                  intro w3 hC
                  have HC := Lib.hid hC
                  clear hC
                  (by_cases hx0 : X = 0
                   · rw [if_neg (fun h => h hx0)] at hR
                     have HR2 := Lib.hid hR
                     subst hx0
                     clear HR hR
                     (obtain ⟨r1, f1, i1, b1, l1⟩ := St.facts1 (HC.out.pick [0] (by decide) rfl))
                     have hld := HLD.out _ HC.out.below
                     go_wp2_with fail
                     (clear r1 f1 i1 b1 l1)
                     clear hld
                     refine (HX.out _ HC.out.below).mono ?_; rintro e w4 ⟨rfl, hw⟩
                     have HC := Lib.hid (HC.out.call hw)
                     clear hw
                     go_wp2_with fail
                     go_roundw
                     case rel => exact ⟨j + 1, by omega, by go_num, HR2, HC⟩
                     case measure => simp [intOf]; omega
                   · rw [if_pos hx0] at hR
                     have d8 : ((X : Int) != 0) = true := by rw [bne_iff_ne]; omega
                     subst hR
                     clear HR hx0
                     (obtain ⟨r1, f1, i1, b1, l1⟩ := St.facts1 (HC.out.pick [0] (by decide) rfl))
                     have hld := HLD.out _ HC.out.below
                     go_wp2_with fail
                     (clear r1 f1 i1 b1 l1)
                     clear hld
                     refine (HX.out _ HC.out.below).mono ?_; rintro e w4 ⟨rfl, hw⟩
                     have HC := Lib.hid (HC.out.call hw)
                     clear hw
                     go_wp2_with fail
                     go_ret
                     exact ⟨rfl, HC.out.below⟩)
                · (obtain rfl : j = kl := by omega
                   have hR := HR.out
                   rw [List.drop_of_length_le (by rw [HK.out]; exact Nat.le_refl _)] at hR
                   unfold chkL at hR
                   subst hR
                   clear HR
                   (obtain ⟨r1, f1, i1, b1, l1⟩ := St.facts1 (HC.out.pick [0] (by decide) rfl))
                   go_wp2_with fail
                   go_ret
                   exact ⟨rfl, HC.out.below⟩)
end Go.Proofs.Ytinlcpenllfcpaa
