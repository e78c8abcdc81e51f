/- The reference's Same. -/
import Derived.Test.YtinlcpenllfcpaaEnLaw4
import Derived.Test.YtinlcpenllfcpaaEnCheck
namespace Go.Proofs.Ytinlcpenllfcpaa
open Go.RowKit
attribute [local go_sem] B_xor B_or B_and
attribute [local go_sem] blk_set blk_size blk_get blk_getE upd_same oneCells_blk paste_blk cut_blk szOf
attribute [local go_sem high] paste_all cut_head
attribute [local go_sem] rowAt_alloc rowAt_drew rowAt_drewN isRow_alloc isRow_drew isRow_drewN freeRow_alloc freeRow_end freeRow_drew freeRow_drewN
attribute [local go_sem] setRow_alloc setRow_drew setRow_drewN setCell_drewN alloc_drewN rowAt_put isRow_setRow freeRow_put
attribute [local go_sem ↓] loadS_in storeS_in indexS_in copyS_in
attribute [local go_sem] loadS_row loadS_one storeS_row storeS_one indexS_blk copyS_rows run_equalIn_blk same_refl arrayAt_row
attribute [local go_sem] cell_row frozen_row st_setCell st_blk_ne stepAt stepUpon
attribute [local go_sem high] run_eql_blk run_neq_blk
attribute [local go_sem ↓] convBS_in
attribute [local go_sem] convBS_row convBS_nil allBytes_blk bytesOf_blk
attribute [local go_sem] ndC_size ndC_get0 ndC_get1 ndC_get2 ndC_get3 ndC_get4 ndC_getE0 ndC_getE1 ndC_getE2 ndC_getE3 ndC_getE4 ndC_ne ndC_one ndC_cut ndC_paste ndC_set0 ndC_set1 ndC_set2 ndC_set3 ndC_set4 size_nd agg_nd
theorem sm_start (cx cy : NdC) (w : World) : St w [(w.heap.size, ndC cx), (w.heap.size + 1, ndC cy)] ((w.alloc (.cells (ndC cx) 26)).alloc (.cells (ndC cy) 26)) :=
  (((St.nil w).pushA (ndC cx) 26 rfl).pushA (ndC cy) 26 (g := w.heap.size + 1) (by simp)).swap
set_option maxRecDepth 100000 in
set_option maxHeartbeats 4000000 in
theorem refSame_any : ∀ (x : Nd), Small x → ∀ (y : Nd) (cx cy : NdC) (w : World), NodeAt w cx x → NodeAt w cy y → Calls Try.prog 17 #[.agg (ndC cx), .agg (ndC cy)] w fun e w' => e = .returned (.bool (rSame x y)) ∧ Below w.heap.size w w' := by
  refine Nd.ind fun k n s kids names ih => ?_
  intro hs y cx cy w hx hy
  obtain ⟨k', n', s', kids', names'⟩ := y
  have HMXX := Lib.hid (fun (i : Nat) w' (hb : Below w.heap.size w w') => name_any _ cx i w' (hx.call hb (Nat.le_refl _)))
  have HMYY := Lib.hid (fun (i : Nat) w' (hb : Below w.heap.size w w') => name_any _ cy i w' (hy.call hb (Nat.le_refl _)))
  have HC := Lib.hid (sm_start cx cy w)
  obtain ⟨k0, n0, s0, ka, kn, kc, na, nn, nc⟩ := cx
  obtain ⟨k1, n1, s1, ka', kn', kc', na', nn', nc'⟩ := cy
  obtain ⟨e1, e2, e3, e4, e5⟩ : k0 = k ∧ n0 = n ∧ s0 = s ∧ kn = kids.length ∧ nn = names.length := by cases hx with | mk c kids names cs hk hn h1 h2 h3 h4 h5 => exact ⟨rfl, rfl, rfl, h1, h2⟩
  obtain ⟨g1, g2, g3, g4, g5⟩ : k1 = k' ∧ n1 = n' ∧ s1 = s' ∧ kn' = kids'.length ∧ nn' = names'.length := by cases hy with | mk c kids names cs hk hn h1 h2 h3 h4 h5 => exact ⟨rfl, rfl, rfl, h1, h2⟩
  subst e1 e2 e3 g1 g2 g3
  rw [rSame]
  by_cases hk : k0 ≠ k1
  · rw [if_pos hk]
    have d1 : ((k0 : Int) != (k1 : Int)) = true := by rw [bne_iff_ne]; omega
    clear ih hs hx hy HMXX HMYY hk e4 e5 g4 g5
    (go_enter Try.func17, Try.ntmps17
     (obtain ⟨⟨r1, f1, i1, b1, l1⟩, ⟨r2, f2, i2, b2, l2⟩, m12, m21⟩ := St.facts2 (HC.out.pick [0, 1] (by decide) rfl))
     go_wp2_with fail
     go_ret
     exact ⟨rfl, HC.out.below⟩)
  rw [if_neg hk]
  obtain rfl : k0 = k1 := Decidable.of_not_not hk
  clear hk
  by_cases k1 : k0 = 1
  · rw [if_pos k1]
    subst k1
    have d1 : ((n0 : Int) == 1) = decide (n0 = 1) := by by_cases h : n0 = 1 <;> simp [h] <;> omega
    have d2 : ((n1 : Int) == 1) = decide (n1 = 1) := by by_cases h : n1 = 1 <;> simp [h] <;> omega
    clear ih hs hx hy HMXX HMYY e4 e5 g4 g5
    (go_enter Try.func17, Try.ntmps17
     (obtain ⟨⟨r1, f1, i1, b1, l1⟩, ⟨r2, f2, i2, b2, l2⟩, m12, m21⟩ := St.facts2 (HC.out.pick [0, 1] (by decide) rfl))
     go_wp2_with fail
     go_ret
     exact ⟨rfl, HC.out.below⟩)
  rw [if_neg k1]
  have d1 : ((k0 : Int) == 1) = false := by rw [beq_eq_false_iff_ne]; omega
  by_cases k2 : k0 = 2
  · rw [if_pos k2]
    subst k2
    have d2 : ((n0 : Int) == (n1 : Int)) = decide (n0 = n1) := by by_cases h : n0 = n1 <;> simp [h] <;> omega
    clear ih hs hx hy HMXX HMYY e4 e5 g4 g5
    (go_enter Try.func17, Try.ntmps17
     (obtain ⟨⟨r1, f1, i1, b1, l1⟩, ⟨r2, f2, i2, b2, l2⟩, m12, m21⟩ := St.facts2 (HC.out.pick [0, 1] (by decide) rfl))
     go_wp2_with fail
     go_ret
     exact ⟨rfl, HC.out.below⟩)
  rw [if_neg k2]
  have d2 : ((k0 : Int) == 2) = false := by rw [beq_eq_false_iff_ne]; omega
  by_cases k3 : k0 = 3
  · rw [if_pos k3]
    subst k3
    have d3 : (s0.toList == s1.toList) = decide (s0 = s1) := by
      by_cases h : s0 = s1
      · rw [decide_eq_true h, h]; exact beq_self_eq_true _
      · rw [decide_eq_false h]; exact text_ne h
    clear ih hs hx hy HMXX HMYY e4 e5 g4 g5
    (go_enter Try.func17, Try.ntmps17
     (obtain ⟨⟨r1, f1, i1, b1, l1⟩, ⟨r2, f2, i2, b2, l2⟩, m12, m21⟩ := St.facts2 (HC.out.pick [0, 1] (by decide) rfl))
     go_wp2_with fail
     go_ret
     exact ⟨rfl, HC.out.below⟩)
  rw [if_neg k3]
  have d3 : ((k0 : Int) == 3) = false := by rw [beq_eq_false_iff_ne]; omega
  by_cases k4 : k0 < 4
  · rw [if_pos k4]
    have d4 : decide ((k0 : Int) < 4) = true := decide_eq_true (by omega)
    clear ih hs hx hy HMXX HMYY e4 e5 g4 g5
    (go_enter Try.func17, Try.ntmps17
     (obtain ⟨⟨r1, f1, i1, b1, l1⟩, ⟨r2, f2, i2, b2, l2⟩, m12, m21⟩ := St.facts2 (HC.out.pick [0, 1] (by decide) rfl))
     go_wp2_with fail
     go_ret
     exact ⟨rfl, HC.out.below⟩)
  rw [if_neg k4]
  have d4 : decide ((k0 : Int) < 4) = false := decide_eq_false (by omega)
  have hkl : kids.length ≤ 70 := by cases hs; assumption
  have hs5 : ∀ x ∈ kids, Small x := by cases hs; assumption
  by_cases hl : kids.length ≠ kids'.length
  · rw [if_pos hl]
    have d5 : ((kn : Int) != (kn' : Int)) = true := by rw [bne_iff_ne]; omega
    clear ih hs hx hy HMXX HMYY e4 e5 g4 g5 hs5
    (go_enter Try.func17, Try.ntmps17
     (obtain ⟨⟨r1, f1, i1, b1, l1⟩, ⟨r2, f2, i2, b2, l2⟩, m12, m21⟩ := St.facts2 (HC.out.pick [0, 1] (by decide) rfl))
     go_wp2_with fail
     go_ret
     exact ⟨rfl, HC.out.below⟩)
  rw [if_neg hl]
  have hl : kids.length = kids'.length := Decidable.of_not_not hl
  obtain rfl : kn = kn' := by omega
  obtain ⟨cs, hX3, hX4⟩ : ∃ cs : Nat → NdC, ElemsAt w ka kids.length 5 (fun i => ndC (cs i)) ∧ ∀ i (h : i < kids.length), NodeAt w (cs i) kids[i] := by cases hx with | mk c kids names cs hk hn h1 h2 h3 h4 h5 => exact ⟨_, h3, h4⟩
  obtain ⟨cs', hY3, hY4⟩ : ∃ cs : Nat → NdC, ElemsAt w ka' kids'.length 5 (fun i => ndC (cs i)) ∧ ∀ i (h : i < kids'.length), NodeAt w (cs i) kids'[i] := by cases hy with | mk c kids names cs hk hn h1 h2 h3 h4 h5 => exact ⟨_, h3, h4⟩
  rw [← e4] at hX3
  rw [← hl, ← e4] at hY3
  have HX3 := Lib.hid hX3
  have HY3 := Lib.hid hY3
  have HSS := Lib.hid (fun i (h : i < kids.length) (h' : i < kids'.length) w' (hb : Below w.heap.size w w') => ih kids[i] (List.getElem_mem h) (hs5 _ (List.getElem_mem h)) kids'[i] (cs i) (cs' i) w' ((hX4 i h).call hb (Nat.le_refl _)) ((hY4 i h').call hb (Nat.le_refl _)))
  have HK := Lib.hid (And.intro e4 (e4.trans hl))
  obtain ⟨pr, hpr⟩ : ∃ pr, decide (k0 = 5) = pr := ⟨_, rfl⟩
  obtain ⟨R, hR⟩ : ∃ R, sameLs pr names names' 0 kids kids' = R := ⟨_, rfl⟩
  rw [hpr, hR]
  have d6 : ((k0 : Int) == 5) = pr := by
    rw [← hpr]
    by_cases h : k0 = 5
    · subst h; rfl
    · rw [decide_eq_false h, beq_eq_false_iff_ne]; omega
  have HR := Lib.hid hR
  have kn70 : (kn : Int) ≤ 70 := by omega
  clear ih hs hx hy hR hpr hs5 hX3 hY3 hX4 hY4 g4 g5 e5 hl e4 hkl
  go_enter Try.func17, Try.ntmps17
  (obtain ⟨⟨r1, f1, i1, b1, l1⟩, ⟨r2, f2, i2, b2, l2⟩, m12, m21⟩ := St.facts2 (HC.out.pick [0, 1] (by decide) rfl))
  go_wp2_with fail
  (clear r1 f1 i1 b1 l1 r2 f2 i2 b2 l2 m12 m21)
  go_loopw [5] (fun i wr => ∃ j : Nat, j ≤ kn ∧ i = .int .i64 (j : Int) ∧ Hid (sameLs pr names names' j (kids.drop j) (kids'.drop j) = R) ∧ Hid (St w [(w.heap.size, ndC ⟨k0, n0, s0, ka, kn, kc, na, nn, nc⟩), (w.heap.size + 1, ndC ⟨k0, n1, s1, ka', kn, kc', na', nn', nc'⟩)] wr)) (fun i _ => kn - (intOf i).toNat)
  case atStart => exact ⟨0, by omega, rfl, HR, HC⟩
  case round =>
    clear HC HR
    obtain ⟨j, hj, rfl, HR, HC⟩ := hrel
    by_cases hlt : j < kn
    · have d7 : (j : Int) < (kn : Int) := by omega
      have hjx : j < kids.length := by have := HK.out.1; omega
      have hjy : j < kids'.length := by have := HK.out.2; omega
      obtain ⟨ad, rfl⟩ := HX3.out.some j hlt
      obtain ⟨ad', rfl⟩ := HY3.out.some j hlt
      have HLX := Lib.hid (fun w' (hb : Below w.heap.size w w') => ((HX3.out.call hb (Nat.le_refl _)).at j hlt).node)
      have HLY := Lib.hid (fun w' (hb : Below w.heap.size w w') => ((HY3.out.call hb (Nat.le_refl _)).at j hlt).node)
      have hR := HR.out
      rw [List.drop_eq_getElem_cons hjx, List.drop_eq_getElem_cons hjy, sameLs] at hR
      have HS := Lib.hid (HSS.out j hjx hjy)
      have HMX := Lib.hid (HMXX.out j)
      have HMY := Lib.hid (HMYY.out j)
      rw [show (Nd.mk k0 n0 s0 kids names).names = names from rfl] at HMX
      rw [show (Nd.mk k0 n1 s1 kids' names').names = names' from rfl] at HMY
      generalize rSame kids[j] kids'[j] = X at hR HS
      generalize nameOf names j = tx at hR HMX
      generalize nameOf names' j = ty at hR HMY
      clear HR
      cases pr with
      | false =>
        rw [if_neg (fun h => Bool.false_ne_true h.1)] at hR
        cases X with
        | false =>
          rw [if_pos rfl] at hR
          subst hR
          (((obtain ⟨⟨r1, f1, i1, b1, l1⟩, ⟨r2, f2, i2, b2, l2⟩, m12, m21⟩ := St.facts2 (HC.out.pick [0, 1] (by decide) rfl))
            go_upto_region 16 with fail
            (clear r1 f1 i1 b1 l1 r2 f2 i2 b2 l2 m12 m21)
            refine St.qregion HC.out (by kernel_rfl) (by decide +kernel) ?_
            (first
               | (apply qw_skip rfl)
               | (apply qw_step rfl
                  focus
                    intro w0 hC
                    (fail))
               | (apply qw_step rfl
                  focus
                    intro w0 hC
                    have hC' := Lib.hid hC
                    have hlx := HLX.out _ hC.below
                    have hly := HLY.out _ hC.below
                    obtain ⟨⟨r1, f1, i1, b1, l1⟩, ⟨r2, f2, i2, b2, l2⟩, m12, m21⟩ := St.facts2 hC
                    clear hC
                    go_simp
                    have hC := hC'.out
                    (first
                       | with_reducible rfl
                       | (skip
                          (first
                             | (go_at_call 28; first | with_reducible refine (HMX.out _ hC.below).mono ?_ | with_reducible refine (HMY.out _ hC.below).mono ?_)
                             | (go_at_call 17; refine (HS.out _ hC.below).mono ?_))
                          rintro e w' ⟨rfl, hw⟩
                          exact ⟨rfl, St.call (by assumption) hw⟩)))
             try simp only [Act.put, List.setIfInBounds_toArray, List.set])
            (first
               | (apply qw_skip rfl)
               | (apply qw_step rfl
                  focus
                    intro w0 hC
                    (fail))
               | (apply qw_step rfl
                  focus
                    intro w0 hC
                    have hC' := Lib.hid hC
                    have hlx := HLX.out _ hC.below
                    have hly := HLY.out _ hC.below
                    obtain ⟨⟨r1, f1, i1, b1, l1⟩, ⟨r2, f2, i2, b2, l2⟩, m12, m21⟩ := St.facts2 hC
                    clear hC
                    go_simp
                    have hC := hC'.out
                    (first
                       | with_reducible rfl
                       | (skip
                          (first
                             | (go_at_call 28; first | with_reducible refine (HMX.out _ hC.below).mono ?_ | with_reducible refine (HMY.out _ hC.below).mono ?_)
                             | (go_at_call 17; refine (HS.out _ hC.below).mono ?_))
                          rintro e w' ⟨rfl, hw⟩
                          exact ⟨rfl, St.call (by assumption) hw⟩)))
             try simp only [Act.put, List.setIfInBounds_toArray, List.set])
            (first
               | (apply qw_skip rfl)
               | (apply qw_step rfl
                  focus
                    intro w0 hC
                    (fail))
               | (apply qw_step rfl
                  focus
                    intro w0 hC
                    have hC' := Lib.hid hC
                    have hlx := HLX.out _ hC.below
                    have hly := HLY.out _ hC.below
                    obtain ⟨⟨r1, f1, i1, b1, l1⟩, ⟨r2, f2, i2, b2, l2⟩, m12, m21⟩ := St.facts2 hC
                    clear hC
                    go_simp
                    have hC := hC'.out
                    (first
                       | with_reducible rfl
                       | (skip
                          (first
                             | (go_at_call 28; first | with_reducible refine (HMX.out _ hC.below).mono ?_ | with_reducible refine (HMY.out _ hC.below).mono ?_)
                             | (go_at_call 17; refine (HS.out _ hC.below).mono ?_))
                          rintro e w' ⟨rfl, hw⟩
                          exact ⟨rfl, St.call (by assumption) hw⟩)))
             try simp only [Act.put, List.setIfInBounds_toArray, List.set])
            (first
               | (apply qw_skip rfl)
               | (apply qw_step rfl
                  focus
                    intro w0 hC
                    (fail))
               | (apply qw_step rfl
                  focus
                    intro w0 hC
                    have hC' := Lib.hid hC
                    have hlx := HLX.out _ hC.below
                    have hly := HLY.out _ hC.below
                    obtain ⟨⟨r1, f1, i1, b1, l1⟩, ⟨r2, f2, i2, b2, l2⟩, m12, m21⟩ := St.facts2 hC
                    clear hC
                    go_simp
                    have hC := hC'.out
                    (first
                       | with_reducible rfl
                       | (skip
                          (first
                             | (go_at_call 28; first | with_reducible refine (HMX.out _ hC.below).mono ?_ | with_reducible refine (HMY.out _ hC.below).mono ?_)
                             | (go_at_call 17; refine (HS.out _ hC.below).mono ?_))
                          rintro e w' ⟨rfl, hw⟩
                          exact ⟨rfl, St.call (by assumption) hw⟩)))
             try simp only [Act.put, List.setIfInBounds_toArray, List.set])
            (first
               | (apply qw_skip rfl)
               | (apply qw_step rfl
                  focus
                    intro w0 hC
                    (fail))
               | (apply qw_step rfl
                  focus
                    intro w0 hC
                    have hC' := Lib.hid hC
                    have hlx := HLX.out _ hC.below
                    have hly := HLY.out _ hC.below
                    obtain ⟨⟨r1, f1, i1, b1, l1⟩, ⟨r2, f2, i2, b2, l2⟩, m12, m21⟩ := St.facts2 hC
                    clear hC
                    go_simp
                    have hC := hC'.out
                    (first
                       | with_reducible rfl
                       | (skip
                          (first
                             | (go_at_call 28; first | with_reducible refine (HMX.out _ hC.below).mono ?_ | with_reducible refine (HMY.out _ hC.below).mono ?_)
                             | (go_at_call 17; refine (HS.out _ hC.below).mono ?_))
                          rintro e w' ⟨rfl, hw⟩
                          exact ⟨rfl, St.call (by assumption) hw⟩)))
             try simp only [Act.put, List.setIfInBounds_toArray, List.set])
            (first
               | (apply qw_skip rfl)
               | (apply qw_step rfl
                  focus
                    intro w0 hC
                    (fail))
               | (apply qw_step rfl
                  focus
                    intro w0 hC
                    have hC' := Lib.hid hC
                    have hlx := HLX.out _ hC.below
                    have hly := HLY.out _ hC.below
                    obtain ⟨⟨r1, f1, i1, b1, l1⟩, ⟨r2, f2, i2, b2, l2⟩, m12, m21⟩ := St.facts2 hC
                    clear hC
                    go_simp
                    have hC := hC'.out
                    (first
                       | with_reducible rfl
                       | (skip
                          (first
                             | (go_at_call 28; first | with_reducible refine (HMX.out _ hC.below).mono ?_ | with_reducible refine (HMY.out _ hC.below).mono ?_)
                             | (go_at_call 17; refine (HS.out _ hC.below).mono ?_))
                          rintro e w' ⟨rfl, hw⟩
                          exact ⟨rfl, St.call (by assumption) hw⟩)))
             try simp only [Act.put, List.setIfInBounds_toArray, List.set])
            (first
               | (apply qw_skip rfl)
               | (apply qw_step rfl
                  focus
                    intro w0 hC
                    (fail))
               | (apply qw_step rfl
                  focus
                    intro w0 hC
                    have hC' := Lib.hid hC
                    have hlx := HLX.out _ hC.below
                    have hly := HLY.out _ hC.below
                    obtain ⟨⟨r1, f1, i1, b1, l1⟩, ⟨r2, f2, i2, b2, l2⟩, m12, m21⟩ := St.facts2 hC
                    clear hC
                    go_simp
                    have hC := hC'.out
                    (first
                       | with_reducible rfl
                       | (skip
                          (first
                             | (go_at_call 28; first | with_reducible refine (HMX.out _ hC.below).mono ?_ | with_reducible refine (HMY.out _ hC.below).mono ?_)
                             | (go_at_call 17; refine (HS.out _ hC.below).mono ?_))
                          rintro e w' ⟨rfl, hw⟩
                          exact ⟨rfl, St.call (by assumption) hw⟩)))
             try simp only [Act.put, List.setIfInBounds_toArray, List.set])
            (first
               | (apply qw_skip rfl)
               | (apply qw_step rfl
                  focus
                    intro w0 hC
                    (fail))
               | (apply qw_step rfl
                  focus
                    intro w0 hC
                    have hC' := Lib.hid hC
                    have hlx := HLX.out _ hC.below
                    have hly := HLY.out _ hC.below
                    obtain ⟨⟨r1, f1, i1, b1, l1⟩, ⟨r2, f2, i2, b2, l2⟩, m12, m21⟩ := St.facts2 hC
                    clear hC
                    go_simp
                    have hC := hC'.out
                    (first
                       | with_reducible rfl
                       | (skip
                          (first
                             | (go_at_call 28; first | with_reducible refine (HMX.out _ hC.below).mono ?_ | with_reducible refine (HMY.out _ hC.below).mono ?_)
                             | (go_at_call 17; refine (HS.out _ hC.below).mono ?_))
                          rintro e w' ⟨rfl, hw⟩
                          exact ⟨rfl, St.call (by assumption) hw⟩)))
             try simp only [Act.put, List.setIfInBounds_toArray, List.set])
            (first
               | (apply qw_skip rfl)
               | (apply qw_step rfl
                  focus
                    intro w0 hC
                    (fail))
               | (apply qw_step rfl
                  focus
                    intro w0 hC
                    have hC' := Lib.hid hC
                    have hlx := HLX.out _ hC.below
                    have hly := HLY.out _ hC.below
                    obtain ⟨⟨r1, f1, i1, b1, l1⟩, ⟨r2, f2, i2, b2, l2⟩, m12, m21⟩ := St.facts2 hC
                    clear hC
                    go_simp
                    have hC := hC'.out
                    (first
                       | with_reducible rfl
                       | (skip
                          (first
                             | (go_at_call 28; first | with_reducible refine (HMX.out _ hC.below).mono ?_ | with_reducible refine (HMY.out _ hC.below).mono ?_)
                             | (go_at_call 17; refine (HS.out _ hC.below).mono ?_))
                          rintro e w' ⟨rfl, hw⟩
                          exact ⟨rfl, St.call (by assumption) hw⟩)))
             try simp only [Act.put, List.setIfInBounds_toArray, List.set])
            (first
               | (apply qw_skip rfl)
               | (apply qw_step rfl
                  focus
                    intro w0 hC
                    (fail))
               | (apply qw_step rfl
                  focus
                    intro w0 hC
                    have hC' := Lib.hid hC
                    have hlx := HLX.out _ hC.below
                    have hly := HLY.out _ hC.below
                    obtain ⟨⟨r1, f1, i1, b1, l1⟩, ⟨r2, f2, i2, b2, l2⟩, m12, m21⟩ := St.facts2 hC
                    clear hC
                    go_simp
                    have hC := hC'.out
                    (first
                       | with_reducible rfl
                       | (skip
                          (first
                             | (go_at_call 28; first | with_reducible refine (HMX.out _ hC.below).mono ?_ | with_reducible refine (HMY.out _ hC.below).mono ?_)
                             | (go_at_call 17; refine (HS.out _ hC.below).mono ?_))
                          rintro e w' ⟨rfl, hw⟩
                          exact ⟨rfl, St.call (by assumption) hw⟩)))
             try simp only [Act.put, List.setIfInBounds_toArray, List.set])
            (first
               | (apply qw_skip rfl)
               | (apply qw_step rfl
                  focus
                    intro w0 hC
                    (fail))
               | (apply qw_step rfl
                  focus
                    intro w0 hC
                    have hC' := Lib.hid hC
                    have hlx := HLX.out _ hC.below
                    have hly := HLY.out _ hC.below
                    obtain ⟨⟨r1, f1, i1, b1, l1⟩, ⟨r2, f2, i2, b2, l2⟩, m12, m21⟩ := St.facts2 hC
                    clear hC
                    go_simp
                    have hC := hC'.out
                    (first
                       | with_reducible rfl
                       | (skip
                          (first
                             | (go_at_call 28; first | with_reducible refine (HMX.out _ hC.below).mono ?_ | with_reducible refine (HMY.out _ hC.below).mono ?_)
                             | (go_at_call 17; refine (HS.out _ hC.below).mono ?_))
                          rintro e w' ⟨rfl, hw⟩
                          exact ⟨rfl, St.call (by assumption) hw⟩)))
             try simp only [Act.put, List.setIfInBounds_toArray, List.set])
            (first
               | (apply qw_skip rfl)
               | (apply qw_step rfl
                  focus
                    intro w0 hC
                    (fail))
               | (apply qw_step rfl
                  focus
                    intro w0 hC
                    have hC' := Lib.hid hC
                    have hlx := HLX.out _ hC.below
                    have hly := HLY.out _ hC.below
                    obtain ⟨⟨r1, f1, i1, b1, l1⟩, ⟨r2, f2, i2, b2, l2⟩, m12, m21⟩ := St.facts2 hC
                    clear hC
                    go_simp
                    have hC := hC'.out
                    (first
                       | with_reducible rfl
                       | (skip
                          (first
                             | (go_at_call 28; first | with_reducible refine (HMX.out _ hC.below).mono ?_ | with_reducible refine (HMY.out _ hC.below).mono ?_)
                             | (go_at_call 17; refine (HS.out _ hC.below).mono ?_))
                          rintro e w' ⟨rfl, hw⟩
                          exact ⟨rfl, St.call (by assumption) hw⟩)))
             try simp only [Act.put, List.setIfInBounds_toArray, List.set])
            (first
               | (apply qw_skip rfl)
               | (apply qw_step rfl
                  focus
                    intro w0 hC
                    (fail))
               | (apply qw_step rfl
                  focus
                    intro w0 hC
                    have hC' := Lib.hid hC
                    have hlx := HLX.out _ hC.below
                    have hly := HLY.out _ hC.below
                    obtain ⟨⟨r1, f1, i1, b1, l1⟩, ⟨r2, f2, i2, b2, l2⟩, m12, m21⟩ := St.facts2 hC
                    clear hC
                    go_simp
                    have hC := hC'.out
                    (first
                       | with_reducible rfl
                       | (skip
                          (first
                             | (go_at_call 28; first | with_reducible refine (HMX.out _ hC.below).mono ?_ | with_reducible refine (HMY.out _ hC.below).mono ?_)
                             | (go_at_call 17; refine (HS.out _ hC.below).mono ?_))
                          rintro e w' ⟨rfl, hw⟩
                          exact ⟨rfl, St.call (by assumption) hw⟩)))
             try simp only [Act.put, List.setIfInBounds_toArray, List.set])
            (first
               | (apply qw_skip rfl)
               | (apply qw_step rfl
                  focus
                    intro w0 hC
                    (fail))
               | (apply qw_step rfl
                  focus
                    intro w0 hC
                    have hC' := Lib.hid hC
                    have hlx := HLX.out _ hC.below
                    have hly := HLY.out _ hC.below
                    obtain ⟨⟨r1, f1, i1, b1, l1⟩, ⟨r2, f2, i2, b2, l2⟩, m12, m21⟩ := St.facts2 hC
                    clear hC
                    go_simp
                    have hC := hC'.out
                    (first
                       | with_reducible rfl
                       | (skip
                          (first
                             | (go_at_call 28; first | with_reducible refine (HMX.out _ hC.below).mono ?_ | with_reducible refine (HMY.out _ hC.below).mono ?_)
                             | (go_at_call 17; refine (HS.out _ hC.below).mono ?_))
                          rintro e w' ⟨rfl, hw⟩
                          exact ⟨rfl, St.call (by assumption) hw⟩)))
             try simp only [Act.put, List.setIfInBounds_toArray, List.set])
            (first
               | (apply qw_skip rfl)
               | (apply qw_step rfl
                  focus
                    intro w0 hC
                    (fail))
               | (apply qw_step rfl
                  focus
                    intro w0 hC
                    have hC' := Lib.hid hC
                    have hlx := HLX.out _ hC.below
                    have hly := HLY.out _ hC.below
                    obtain ⟨⟨r1, f1, i1, b1, l1⟩, ⟨r2, f2, i2, b2, l2⟩, m12, m21⟩ := St.facts2 hC
                    clear hC
                    go_simp
                    have hC := hC'.out
                    (first
                       | with_reducible rfl
                       | (skip
                          (first
                             | (go_at_call 28; first | with_reducible refine (HMX.out _ hC.below).mono ?_ | with_reducible refine (HMY.out _ hC.below).mono ?_)
                             | (go_at_call 17; refine (HS.out _ hC.below).mono ?_))
                          rintro e w' ⟨rfl, hw⟩
                          exact ⟨rfl, St.call (by assumption) hw⟩)))
             try simp only [Act.put, List.setIfInBounds_toArray, List.set])
            (first
               | (apply qw_skip rfl)
               | (apply qw_step rfl
                  focus
                    intro w0 hC
                    (fail))
               | (apply qw_step rfl
                  focus
                    intro w0 hC
                    have hC' := Lib.hid hC
                    have hlx := HLX.out _ hC.below
                    have hly := HLY.out _ hC.below
                    obtain ⟨⟨r1, f1, i1, b1, l1⟩, ⟨r2, f2, i2, b2, l2⟩, m12, m21⟩ := St.facts2 hC
                    clear hC
                    go_simp
                    have hC := hC'.out
                    (first
                       | with_reducible rfl
                       | (skip
                          (first
                             | (go_at_call 28; first | with_reducible refine (HMX.out _ hC.below).mono ?_ | with_reducible refine (HMY.out _ hC.below).mono ?_)
                             | (go_at_call 17; refine (HS.out _ hC.below).mono ?_))
                          rintro e w' ⟨rfl, hw⟩
                          exact ⟨rfl, St.call (by assumption) hw⟩)))
             try simp only [Act.put, List.setIfInBounds_toArray, List.set])
            (first
               | (apply qw_skip rfl)
               | (apply qw_step rfl
                  focus
                    intro w0 hC
                    (fail))
               | (apply qw_step rfl
                  focus
                    intro w0 hC
                    have hC' := Lib.hid hC
                    have hlx := HLX.out _ hC.below
                    have hly := HLY.out _ hC.below
                    obtain ⟨⟨r1, f1, i1, b1, l1⟩, ⟨r2, f2, i2, b2, l2⟩, m12, m21⟩ := St.facts2 hC
                    clear hC
                    go_simp
                    have hC := hC'.out
                    (first
                       | with_reducible rfl
                       | (skip
                          (first
                             | (go_at_call 28; first | with_reducible refine (HMX.out _ hC.below).mono ?_ | with_reducible refine (HMY.out _ hC.below).mono ?_)
                             | (go_at_call 17; refine (HS.out _ hC.below).mono ?_))
                          rintro e w' ⟨rfl, hw⟩
                          exact ⟨rfl, St.call (by assumption) hw⟩)))
             try simp only [Act.put, List.setIfInBounds_toArray, List.set])
            (first
               | (apply qw_skip rfl)
               | (apply qw_step rfl
                  focus
                    intro w0 hC
                    (fail))
               | (apply qw_step rfl
                  focus
                    intro w0 hC
                    have hC' := Lib.hid hC
                    have hlx := HLX.out _ hC.below
                    have hly := HLY.out _ hC.below
                    obtain ⟨⟨r1, f1, i1, b1, l1⟩, ⟨r2, f2, i2, b2, l2⟩, m12, m21⟩ := St.facts2 hC
                    clear hC
                    go_simp
                    have hC := hC'.out
                    (first
                       | with_reducible rfl
                       | (skip
                          (first
                             | (go_at_call 28; first | with_reducible refine (HMX.out _ hC.below).mono ?_ | with_reducible refine (HMY.out _ hC.below).mono ?_)
                             | (go_at_call 17; refine (HS.out _ hC.below).mono ?_))
                          rintro e w' ⟨rfl, hw⟩
                          exact ⟨rfl, St.call (by assumption) hw⟩)))
             try simp only [Act.put, List.setIfInBounds_toArray, List.set])
            (first
               | (apply qw_skip rfl)
               | (apply qw_step rfl
                  focus
                    intro w0 hC
                    (fail))
               | (apply qw_step rfl
                  focus
                    intro w0 hC
                    have hC' := Lib.hid hC
                    have hlx := HLX.out _ hC.below
                    have hly := HLY.out _ hC.below
                    obtain ⟨⟨r1, f1, i1, b1, l1⟩, ⟨r2, f2, i2, b2, l2⟩, m12, m21⟩ := St.facts2 hC
                    clear hC
                    go_simp
                    have hC := hC'.out
                    (first
                       | with_reducible rfl
                       | (skip
                          (first
                             | (go_at_call 28; first | with_reducible refine (HMX.out _ hC.below).mono ?_ | with_reducible refine (HMY.out _ hC.below).mono ?_)
                             | (go_at_call 17; refine (HS.out _ hC.below).mono ?_))
                          rintro e w' ⟨rfl, hw⟩
                          exact ⟨rfl, St.call (by assumption) hw⟩)))
             try simp only [Act.put, List.setIfInBounds_toArray, List.set])
            (first
               | (apply qw_skip rfl)
               | (apply qw_step rfl
                  focus
                    intro w0 hC
                    (fail))
               | (apply qw_step rfl
                  focus
                    intro w0 hC
                    have hC' := Lib.hid hC
                    have hlx := HLX.out _ hC.below
                    have hly := HLY.out _ hC.below
                    obtain ⟨⟨r1, f1, i1, b1, l1⟩, ⟨r2, f2, i2, b2, l2⟩, m12, m21⟩ := St.facts2 hC
                    clear hC
                    go_simp
                    have hC := hC'.out
                    (first
                       | with_reducible rfl
                       | (skip
                          (first
                             | (go_at_call 28; first | with_reducible refine (HMX.out _ hC.below).mono ?_ | with_reducible refine (HMY.out _ hC.below).mono ?_)
                             | (go_at_call 17; refine (HS.out _ hC.below).mono ?_))
                          rintro e w' ⟨rfl, hw⟩
                          exact ⟨rfl, St.call (by assumption) hw⟩)))
             try simp only [Act.put, List.setIfInBounds_toArray, List.set])
            (first
               | (apply qw_skip rfl)
               | (apply qw_step rfl
                  focus
                    intro w0 hC
                    (fail))
               | (apply qw_step rfl
                  focus
                    intro w0 hC
                    have hC' := Lib.hid hC
                    have hlx := HLX.out _ hC.below
                    have hly := HLY.out _ hC.below
                    obtain ⟨⟨r1, f1, i1, b1, l1⟩, ⟨r2, f2, i2, b2, l2⟩, m12, m21⟩ := St.facts2 hC
                    clear hC
                    go_simp
                    have hC := hC'.out
                    (first
                       | with_reducible rfl
                       | (skip
                          (first
                             | (go_at_call 28; first | with_reducible refine (HMX.out _ hC.below).mono ?_ | with_reducible refine (HMY.out _ hC.below).mono ?_)
                             | (go_at_call 17; refine (HS.out _ hC.below).mono ?_))
                          rintro e w' ⟨rfl, hw⟩
                          exact ⟨rfl, St.call (by assumption) hw⟩)))
             try simp only [Act.put, List.setIfInBounds_toArray, List.set])
            (first
               | (apply qw_skip rfl)
               | (apply qw_step rfl
                  focus
                    intro w0 hC
                    (fail))
               | (apply qw_step rfl
                  focus
                    intro w0 hC
                    have hC' := Lib.hid hC
                    have hlx := HLX.out _ hC.below
                    have hly := HLY.out _ hC.below
                    obtain ⟨⟨r1, f1, i1, b1, l1⟩, ⟨r2, f2, i2, b2, l2⟩, m12, m21⟩ := St.facts2 hC
                    clear hC
                    go_simp
                    have hC := hC'.out
                    (first
                       | with_reducible rfl
                       | (skip
                          (first
                             | (go_at_call 28; first | with_reducible refine (HMX.out _ hC.below).mono ?_ | with_reducible refine (HMY.out _ hC.below).mono ?_)
                             | (go_at_call 17; refine (HS.out _ hC.below).mono ?_))
                          rintro e w' ⟨rfl, hw⟩
                          exact ⟨rfl, St.call (by assumption) hw⟩)))
             try simp only [Act.put, List.setIfInBounds_toArray, List.set])
            (first
               | (apply qw_skip rfl)
               | (apply qw_step rfl
                  focus
                    intro w0 hC
                    (fail))
               | (apply qw_step rfl
                  focus
                    intro w0 hC
                    have hC' := Lib.hid hC
                    have hlx := HLX.out _ hC.below
                    have hly := HLY.out _ hC.below
                    obtain ⟨⟨r1, f1, i1, b1, l1⟩, ⟨r2, f2, i2, b2, l2⟩, m12, m21⟩ := St.facts2 hC
                    clear hC
                    go_simp
                    have hC := hC'.out
                    (first
                       | with_reducible rfl
                       | (skip
                          (first
                             | (go_at_call 28; first | with_reducible refine (HMX.out _ hC.below).mono ?_ | with_reducible refine (HMY.out _ hC.below).mono ?_)
                             | (go_at_call 17; refine (HS.out _ hC.below).mono ?_))
                          rintro e w' ⟨rfl, hw⟩
                          exact ⟨rfl, St.call (by assumption) hw⟩)))
             try simp only [Act.put, List.setIfInBounds_toArray, List.set])
            (first
               | (apply qw_skip rfl)
               | (apply qw_step rfl
                  focus
                    intro w0 hC
                    (fail))
               | (apply qw_step rfl
                  focus
                    intro w0 hC
                    have hC' := Lib.hid hC
                    have hlx := HLX.out _ hC.below
                    have hly := HLY.out _ hC.below
                    obtain ⟨⟨r1, f1, i1, b1, l1⟩, ⟨r2, f2, i2, b2, l2⟩, m12, m21⟩ := St.facts2 hC
                    clear hC
                    go_simp
                    have hC := hC'.out
                    (first
                       | with_reducible rfl
                       | (skip
                          (first
                             | (go_at_call 28; first | with_reducible refine (HMX.out _ hC.below).mono ?_ | with_reducible refine (HMY.out _ hC.below).mono ?_)
                             | (go_at_call 17; refine (HS.out _ hC.below).mono ?_))
                          rintro e w' ⟨rfl, hw⟩
                          exact ⟨rfl, St.call (by assumption) hw⟩)))
             try simp only [Act.put, List.setIfInBounds_toArray, List.set])
            (first
               | (apply qw_skip rfl)
               | (apply qw_step rfl
                  focus
                    intro w0 hC
                    (fail))
               | (apply qw_step rfl
                  focus
                    intro w0 hC
                    have hC' := Lib.hid hC
                    have hlx := HLX.out _ hC.below
                    have hly := HLY.out _ hC.below
                    obtain ⟨⟨r1, f1, i1, b1, l1⟩, ⟨r2, f2, i2, b2, l2⟩, m12, m21⟩ := St.facts2 hC
                    clear hC
                    go_simp
                    have hC := hC'.out
                    (first
                       | with_reducible rfl
                       | (skip
                          (first
                             | (go_at_call 28; first | with_reducible refine (HMX.out _ hC.below).mono ?_ | with_reducible refine (HMY.out _ hC.below).mono ?_)
                             | (go_at_call 17; refine (HS.out _ hC.below).mono ?_))
                          rintro e w' ⟨rfl, hw⟩
                          exact ⟨rfl, St.call (by assumption) hw⟩)))
             try simp only [Act.put, List.setIfInBounds_toArray, List.set])
            (first
               | (apply qw_skip rfl)
               | (apply qw_step rfl
                  focus
                    intro w0 hC
                    (fail))
               | (apply qw_step rfl
                  focus
                    intro w0 hC
                    have hC' := Lib.hid hC
                    have hlx := HLX.out _ hC.below
                    have hly := HLY.out _ hC.below
                    obtain ⟨⟨r1, f1, i1, b1, l1⟩, ⟨r2, f2, i2, b2, l2⟩, m12, m21⟩ := St.facts2 hC
                    clear hC
                    go_simp
                    have hC := hC'.out
                    (first
                       | with_reducible rfl
                       | (skip
                          (first
                             | (go_at_call 28; first | with_reducible refine (HMX.out _ hC.below).mono ?_ | with_reducible refine (HMY.out _ hC.below).mono ?_)
                             | (go_at_call 17; refine (HS.out _ hC.below).mono ?_))
                          rintro e w' ⟨rfl, hw⟩
                          exact ⟨rfl, St.call (by assumption) hw⟩)))
             try simp only [Act.put, List.setIfInBounds_toArray, List.set])
            refine qw_nil ?_
            intro w3 hC
            have HC := Lib.hid hC
            clear hC)
           go_wp2_with fail
           go_ret
           exact ⟨rfl, HC.out.below⟩)
        | true =>
          rw [if_neg (fun h => Bool.noConfusion h)] at hR
          have HR2 := Lib.hid hR
          clear hR
          (((obtain ⟨⟨r1, f1, i1, b1, l1⟩, ⟨r2, f2, i2, b2, l2⟩, m12, m21⟩ := St.facts2 (HC.out.pick [0, 1] (by decide) rfl))
            go_upto_region 16 with fail
            (clear r1 f1 i1 b1 l1 r2 f2 i2 b2 l2 m12 m21)
            refine St.qregion HC.out (by kernel_rfl) (by decide +kernel) ?_
            (first
               | (apply qw_skip rfl)
               | (apply qw_step rfl
                  focus
                    intro w0 hC
                    (fail))
               | (apply qw_step rfl
                  focus
                    intro w0 hC
                    have hC' := Lib.hid hC
                    have hlx := HLX.out _ hC.below
                    have hly := HLY.out _ hC.below
                    obtain ⟨⟨r1, f1, i1, b1, l1⟩, ⟨r2, f2, i2, b2, l2⟩, m12, m21⟩ := St.facts2 hC
                    clear hC
                    go_simp
                    have hC := hC'.out
                    (first
                       | with_reducible rfl
                       | (skip
                          (first
                             | (go_at_call 28; first | with_reducible refine (HMX.out _ hC.below).mono ?_ | with_reducible refine (HMY.out _ hC.below).mono ?_)
                             | (go_at_call 17; refine (HS.out _ hC.below).mono ?_))
                          rintro e w' ⟨rfl, hw⟩
                          exact ⟨rfl, St.call (by assumption) hw⟩)))
             try simp only [Act.put, List.setIfInBounds_toArray, List.set])
            (first
               | (apply qw_skip rfl)
               | (apply qw_step rfl
                  focus
                    intro w0 hC
                    (fail))
               | (apply qw_step rfl
                  focus
                    intro w0 hC
                    have hC' := Lib.hid hC
                    have hlx := HLX.out _ hC.below
                    have hly := HLY.out _ hC.below
                    obtain ⟨⟨r1, f1, i1, b1, l1⟩, ⟨r2, f2, i2, b2, l2⟩, m12, m21⟩ := St.facts2 hC
                    clear hC
                    go_simp
                    have hC := hC'.out
                    (first
                       | with_reducible rfl
                       | (skip
                          (first
                             | (go_at_call 28; first | with_reducible refine (HMX.out _ hC.below).mono ?_ | with_reducible refine (HMY.out _ hC.below).mono ?_)
                             | (go_at_call 17; refine (HS.out _ hC.below).mono ?_))
                          rintro e w' ⟨rfl, hw⟩
                          exact ⟨rfl, St.call (by assumption) hw⟩)))
             try simp only [Act.put, List.setIfInBounds_toArray, List.set])
            (first
               | (apply qw_skip rfl)
               | (apply qw_step rfl
                  focus
                    intro w0 hC
                    (fail))
               | (apply qw_step rfl
                  focus
                    intro w0 hC
                    have hC' := Lib.hid hC
                    have hlx := HLX.out _ hC.below
                    have hly := HLY.out _ hC.below
                    obtain ⟨⟨r1, f1, i1, b1, l1⟩, ⟨r2, f2, i2, b2, l2⟩, m12, m21⟩ := St.facts2 hC
                    clear hC
                    go_simp
                    have hC := hC'.out
                    (first
                       | with_reducible rfl
                       | (skip
                          (first
                             | (go_at_call 28; first | with_reducible refine (HMX.out _ hC.below).mono ?_ | with_reducible refine (HMY.out _ hC.below).mono ?_)
                             | (go_at_call 17; refine (HS.out _ hC.below).mono ?_))
                          rintro e w' ⟨rfl, hw⟩
                          exact ⟨rfl, St.call (by assumption) hw⟩)))
             try simp only [Act.put, List.setIfInBounds_toArray, List.set])
            (first
               | (apply qw_skip rfl)
               | (apply qw_step rfl
                  focus
                    intro w0 hC
                    (fail))
               | (apply qw_step rfl
                  focus
                    intro w0 hC
                    have hC' := Lib.hid hC
                    have hlx := HLX.out _ hC.below
                    have hly := HLY.out _ hC.below
                    obtain ⟨⟨r1, f1, i1, b1, l1⟩, ⟨r2, f2, i2, b2, l2⟩, m12, m21⟩ := St.facts2 hC
                    clear hC
                    go_simp
                    have hC := hC'.out
                    (first
                       | with_reducible rfl
                       | (skip
                          (first
                             | (go_at_call 28; first | with_reducible refine (HMX.out _ hC.below).mono ?_ | with_reducible refine (HMY.out _ hC.below).mono ?_)
                             | (go_at_call 17; refine (HS.out _ hC.below).mono ?_))
                          rintro e w' ⟨rfl, hw⟩
                          exact ⟨rfl, St.call (by assumption) hw⟩)))
             try simp only [Act.put, List.setIfInBounds_toArray, List.set])
            (first
               | (apply qw_skip rfl)
               | (apply qw_step rfl
                  focus
                    intro w0 hC
                    (fail))
               | (apply qw_step rfl
                  focus
                    intro w0 hC
                    have hC' := Lib.hid hC
                    have hlx := HLX.out _ hC.below
                    have hly := HLY.out _ hC.below
                    obtain ⟨⟨r1, f1, i1, b1, l1⟩, ⟨r2, f2, i2, b2, l2⟩, m12, m21⟩ := St.facts2 hC
                    clear hC
                    go_simp
                    have hC := hC'.out
                    (first
                       | with_reducible rfl
                       | (skip
                          (first
                             | (go_at_call 28; first | with_reducible refine (HMX.out _ hC.below).mono ?_ | with_reducible refine (HMY.out _ hC.below).mono ?_)
                             | (go_at_call 17; refine (HS.out _ hC.below).mono ?_))
                          rintro e w' ⟨rfl, hw⟩
                          exact ⟨rfl, St.call (by assumption) hw⟩)))
             try simp only [Act.put, List.setIfInBounds_toArray, List.set])
            (first
               | (apply qw_skip rfl)
               | (apply qw_step rfl
                  focus
                    intro w0 hC
                    (fail))
               | (apply qw_step rfl
                  focus
                    intro w0 hC
                    have hC' := Lib.hid hC
                    have hlx := HLX.out _ hC.below
                    have hly := HLY.out _ hC.below
                    obtain ⟨⟨r1, f1, i1, b1, l1⟩, ⟨r2, f2, i2, b2, l2⟩, m12, m21⟩ := St.facts2 hC
                    clear hC
                    go_simp
                    have hC := hC'.out
                    (first
                       | with_reducible rfl
                       | (skip
                          (first
                             | (go_at_call 28; first | with_reducible refine (HMX.out _ hC.below).mono ?_ | with_reducible refine (HMY.out _ hC.below).mono ?_)
                             | (go_at_call 17; refine (HS.out _ hC.below).mono ?_))
                          rintro e w' ⟨rfl, hw⟩
                          exact ⟨rfl, St.call (by assumption) hw⟩)))
             try simp only [Act.put, List.setIfInBounds_toArray, List.set])
            (first
               | (apply qw_skip rfl)
               | (apply qw_step rfl
                  focus
                    intro w0 hC
                    (fail))
               | (apply qw_step rfl
                  focus
                    intro w0 hC
                    have hC' := Lib.hid hC
                    have hlx := HLX.out _ hC.below
                    have hly := HLY.out _ hC.below
                    obtain ⟨⟨r1, f1, i1, b1, l1⟩, ⟨r2, f2, i2, b2, l2⟩, m12, m21⟩ := St.facts2 hC
                    clear hC
                    go_simp
                    have hC := hC'.out
                    (first
                       | with_reducible rfl
                       | (skip
                          (first
                             | (go_at_call 28; first | with_reducible refine (HMX.out _ hC.below).mono ?_ | with_reducible refine (HMY.out _ hC.below).mono ?_)
                             | (go_at_call 17; refine (HS.out _ hC.below).mono ?_))
                          rintro e w' ⟨rfl, hw⟩
                          exact ⟨rfl, St.call (by assumption) hw⟩)))
             try simp only [Act.put, List.setIfInBounds_toArray, List.set])
            (first
               | (apply qw_skip rfl)
               | (apply qw_step rfl
                  focus
                    intro w0 hC
                    (fail))
               | (apply qw_step rfl
                  focus
                    intro w0 hC
                    have hC' := Lib.hid hC
                    have hlx := HLX.out _ hC.below
                    have hly := HLY.out _ hC.below
                    obtain ⟨⟨r1, f1, i1, b1, l1⟩, ⟨r2, f2, i2, b2, l2⟩, m12, m21⟩ := St.facts2 hC
                    clear hC
                    go_simp
                    have hC := hC'.out
                    (first
                       | with_reducible rfl
                       | (skip
                          (first
                             | (go_at_call 28; first | with_reducible refine (HMX.out _ hC.below).mono ?_ | with_reducible refine (HMY.out _ hC.below).mono ?_)
                             | (go_at_call 17; refine (HS.out _ hC.below).mono ?_))
                          rintro e w' ⟨rfl, hw⟩
                          exact ⟨rfl, St.call (by assumption) hw⟩)))
             try simp only [Act.put, List.setIfInBounds_toArray, List.set])
            (first
               | (apply qw_skip rfl)
               | (apply qw_step rfl
                  focus
                    intro w0 hC
                    (fail))
               | (apply qw_step rfl
                  focus
                    intro w0 hC
                    have hC' := Lib.hid hC
                    have hlx := HLX.out _ hC.below
                    have hly := HLY.out _ hC.below
                    obtain ⟨⟨r1, f1, i1, b1, l1⟩, ⟨r2, f2, i2, b2, l2⟩, m12, m21⟩ := St.facts2 hC
                    clear hC
                    go_simp
                    have hC := hC'.out
                    (first
                       | with_reducible rfl
                       | (skip
                          (first
                             | (go_at_call 28; first | with_reducible refine (HMX.out _ hC.below).mono ?_ | with_reducible refine (HMY.out _ hC.below).mono ?_)
                             | (go_at_call 17; refine (HS.out _ hC.below).mono ?_))
                          rintro e w' ⟨rfl, hw⟩
                          exact ⟨rfl, St.call (by assumption) hw⟩)))
             try simp only [Act.put, List.setIfInBounds_toArray, List.set])
            (first
               | (apply qw_skip rfl)
               | (apply qw_step rfl
                  focus
                    intro w0 hC
                    (fail))
               | (apply qw_step rfl
                  focus
                    intro w0 hC
                    have hC' := Lib.hid hC
                    have hlx := HLX.out _ hC.below
                    have hly := HLY.out _ hC.below
                    obtain ⟨⟨r1, f1, i1, b1, l1⟩, ⟨r2, f2, i2, b2, l2⟩, m12, m21⟩ := St.facts2 hC
                    clear hC
                    go_simp
                    have hC := hC'.out
                    (first
                       | with_reducible rfl
                       | (skip
                          (first
                             | (go_at_call 28; first | with_reducible refine (HMX.out _ hC.below).mono ?_ | with_reducible refine (HMY.out _ hC.below).mono ?_)
                             | (go_at_call 17; refine (HS.out _ hC.below).mono ?_))
                          rintro e w' ⟨rfl, hw⟩
                          exact ⟨rfl, St.call (by assumption) hw⟩)))
             try simp only [Act.put, List.setIfInBounds_toArray, List.set])
            (first
               | (apply qw_skip rfl)
               | (apply qw_step rfl
                  focus
                    intro w0 hC
                    (fail))
               | (apply qw_step rfl
                  focus
                    intro w0 hC
                    have hC' := Lib.hid hC
                    have hlx := HLX.out _ hC.below
                    have hly := HLY.out _ hC.below
                    obtain ⟨⟨r1, f1, i1, b1, l1⟩, ⟨r2, f2, i2, b2, l2⟩, m12, m21⟩ := St.facts2 hC
                    clear hC
                    go_simp
                    have hC := hC'.out
                    (first
                       | with_reducible rfl
                       | (skip
                          (first
                             | (go_at_call 28; first | with_reducible refine (HMX.out _ hC.below).mono ?_ | with_reducible refine (HMY.out _ hC.below).mono ?_)
                             | (go_at_call 17; refine (HS.out _ hC.below).mono ?_))
                          rintro e w' ⟨rfl, hw⟩
                          exact ⟨rfl, St.call (by assumption) hw⟩)))
             try simp only [Act.put, List.setIfInBounds_toArray, List.set])
            (first
               | (apply qw_skip rfl)
               | (apply qw_step rfl
                  focus
                    intro w0 hC
                    (fail))
               | (apply qw_step rfl
                  focus
                    intro w0 hC
                    have hC' := Lib.hid hC
                    have hlx := HLX.out _ hC.below
                    have hly := HLY.out _ hC.below
                    obtain ⟨⟨r1, f1, i1, b1, l1⟩, ⟨r2, f2, i2, b2, l2⟩, m12, m21⟩ := St.facts2 hC
                    clear hC
                    go_simp
                    have hC := hC'.out
                    (first
                       | with_reducible rfl
                       | (skip
                          (first
                             | (go_at_call 28; first | with_reducible refine (HMX.out _ hC.below).mono ?_ | with_reducible refine (HMY.out _ hC.below).mono ?_)
                             | (go_at_call 17; refine (HS.out _ hC.below).mono ?_))
                          rintro e w' ⟨rfl, hw⟩
                          exact ⟨rfl, St.call (by assumption) hw⟩)))
             try simp only [Act.put, List.setIfInBounds_toArray, List.set])
            (first
               | (apply qw_skip rfl)
               | (apply qw_step rfl
                  focus
                    intro w0 hC
                    (fail))
               | (apply qw_step rfl
                  focus
                    intro w0 hC
                    have hC' := Lib.hid hC
                    have hlx := HLX.out _ hC.below
                    have hly := HLY.out _ hC.below
                    obtain ⟨⟨r1, f1, i1, b1, l1⟩, ⟨r2, f2, i2, b2, l2⟩, m12, m21⟩ := St.facts2 hC
                    clear hC
                    go_simp
                    have hC := hC'.out
                    (first
                       | with_reducible rfl
                       | (skip
                          (first
                             | (go_at_call 28; first | with_reducible refine (HMX.out _ hC.below).mono ?_ | with_reducible refine (HMY.out _ hC.below).mono ?_)
                             | (go_at_call 17; refine (HS.out _ hC.below).mono ?_))
                          rintro e w' ⟨rfl, hw⟩
                          exact ⟨rfl, St.call (by assumption) hw⟩)))
             try simp only [Act.put, List.setIfInBounds_toArray, List.set])
            (first
               | (apply qw_skip rfl)
               | (apply qw_step rfl
                  focus
                    intro w0 hC
                    (fail))
               | (apply qw_step rfl
                  focus
                    intro w0 hC
                    have hC' := Lib.hid hC
                    have hlx := HLX.out _ hC.below
                    have hly := HLY.out _ hC.below
                    obtain ⟨⟨r1, f1, i1, b1, l1⟩, ⟨r2, f2, i2, b2, l2⟩, m12, m21⟩ := St.facts2 hC
                    clear hC
                    go_simp
                    have hC := hC'.out
                    (first
                       | with_reducible rfl
                       | (skip
                          (first
                             | (go_at_call 28; first | with_reducible refine (HMX.out _ hC.below).mono ?_ | with_reducible refine (HMY.out _ hC.below).mono ?_)
                             | (go_at_call 17; refine (HS.out _ hC.below).mono ?_))
                          rintro e w' ⟨rfl, hw⟩
                          exact ⟨rfl, St.call (by assumption) hw⟩)))
             try simp only [Act.put, List.setIfInBounds_toArray, List.set])
            (first
               | (apply qw_skip rfl)
               | (apply qw_step rfl
                  focus
                    intro w0 hC
                    (fail))
               | (apply qw_step rfl
                  focus
                    intro w0 hC
                    have hC' := Lib.hid hC
                    have hlx := HLX.out _ hC.below
                    have hly := HLY.out _ hC.below
                    obtain ⟨⟨r1, f1, i1, b1, l1⟩, ⟨r2, f2, i2, b2, l2⟩, m12, m21⟩ := St.facts2 hC
                    clear hC
                    go_simp
                    have hC := hC'.out
                    (first
                       | with_reducible rfl
                       | (skip
                          (first
                             | (go_at_call 28; first | with_reducible refine (HMX.out _ hC.below).mono ?_ | with_reducible refine (HMY.out _ hC.below).mono ?_)
                             | (go_at_call 17; refine (HS.out _ hC.below).mono ?_))
                          rintro e w' ⟨rfl, hw⟩
                          exact ⟨rfl, St.call (by assumption) hw⟩)))
             try simp only [Act.put, List.setIfInBounds_toArray, List.set])
            (first
               | (apply qw_skip rfl)
               | (apply qw_step rfl
                  focus
                    intro w0 hC
                    (fail))
               | (apply qw_step rfl
                  focus
                    intro w0 hC
                    have hC' := Lib.hid hC
                    have hlx := HLX.out _ hC.below
                    have hly := HLY.out _ hC.below
                    obtain ⟨⟨r1, f1, i1, b1, l1⟩, ⟨r2, f2, i2, b2, l2⟩, m12, m21⟩ := St.facts2 hC
                    clear hC
                    go_simp
                    have hC := hC'.out
                    (first
                       | with_reducible rfl
                       | (skip
                          (first
                             | (go_at_call 28; first | with_reducible refine (HMX.out _ hC.below).mono ?_ | with_reducible refine (HMY.out _ hC.below).mono ?_)
                             | (go_at_call 17; refine (HS.out _ hC.below).mono ?_))
                          rintro e w' ⟨rfl, hw⟩
                          exact ⟨rfl, St.call (by assumption) hw⟩)))
             try simp only [Act.put, List.setIfInBounds_toArray, List.set])
            (first
               | (apply qw_skip rfl)
               | (apply qw_step rfl
                  focus
                    intro w0 hC
                    (fail))
               | (apply qw_step rfl
                  focus
                    intro w0 hC
                    have hC' := Lib.hid hC
                    have hlx := HLX.out _ hC.below
                    have hly := HLY.out _ hC.below
                    obtain ⟨⟨r1, f1, i1, b1, l1⟩, ⟨r2, f2, i2, b2, l2⟩, m12, m21⟩ := St.facts2 hC
                    clear hC
                    go_simp
                    have hC := hC'.out
                    (first
                       | with_reducible rfl
                       | (skip
                          (first
                             | (go_at_call 28; first | with_reducible refine (HMX.out _ hC.below).mono ?_ | with_reducible refine (HMY.out _ hC.below).mono ?_)
                             | (go_at_call 17; refine (HS.out _ hC.below).mono ?_))
                          rintro e w' ⟨rfl, hw⟩
                          exact ⟨rfl, St.call (by assumption) hw⟩)))
             try simp only [Act.put, List.setIfInBounds_toArray, List.set])
            (first
               | (apply qw_skip rfl)
               | (apply qw_step rfl
                  focus
                    intro w0 hC
                    (fail))
               | (apply qw_step rfl
                  focus
                    intro w0 hC
                    have hC' := Lib.hid hC
                    have hlx := HLX.out _ hC.below
                    have hly := HLY.out _ hC.below
                    obtain ⟨⟨r1, f1, i1, b1, l1⟩, ⟨r2, f2, i2, b2, l2⟩, m12, m21⟩ := St.facts2 hC
                    clear hC
                    go_simp
                    have hC := hC'.out
                    (first
                       | with_reducible rfl
                       | (skip
                          (first
                             | (go_at_call 28; first | with_reducible refine (HMX.out _ hC.below).mono ?_ | with_reducible refine (HMY.out _ hC.below).mono ?_)
                             | (go_at_call 17; refine (HS.out _ hC.below).mono ?_))
                          rintro e w' ⟨rfl, hw⟩
                          exact ⟨rfl, St.call (by assumption) hw⟩)))
             try simp only [Act.put, List.setIfInBounds_toArray, List.set])
            (first
               | (apply qw_skip rfl)
               | (apply qw_step rfl
                  focus
                    intro w0 hC
                    (fail))
               | (apply qw_step rfl
                  focus
                    intro w0 hC
                    have hC' := Lib.hid hC
                    have hlx := HLX.out _ hC.below
                    have hly := HLY.out _ hC.below
                    obtain ⟨⟨r1, f1, i1, b1, l1⟩, ⟨r2, f2, i2, b2, l2⟩, m12, m21⟩ := St.facts2 hC
                    clear hC
                    go_simp
                    have hC := hC'.out
                    (first
                       | with_reducible rfl
                       | (skip
                          (first
                             | (go_at_call 28; first | with_reducible refine (HMX.out _ hC.below).mono ?_ | with_reducible refine (HMY.out _ hC.below).mono ?_)
                             | (go_at_call 17; refine (HS.out _ hC.below).mono ?_))
                          rintro e w' ⟨rfl, hw⟩
                          exact ⟨rfl, St.call (by assumption) hw⟩)))
             try simp only [Act.put, List.setIfInBounds_toArray, List.set])
            (first
               | (apply qw_skip rfl)
               | (apply qw_step rfl
                  focus
                    intro w0 hC
                    (fail))
               | (apply qw_step rfl
                  focus
                    intro w0 hC
                    have hC' := Lib.hid hC
                    have hlx := HLX.out _ hC.below
                    have hly := HLY.out _ hC.below
                    obtain ⟨⟨r1, f1, i1, b1, l1⟩, ⟨r2, f2, i2, b2, l2⟩, m12, m21⟩ := St.facts2 hC
                    clear hC
                    go_simp
                    have hC := hC'.out
                    (first
                       | with_reducible rfl
                       | (skip
                          (first
                             | (go_at_call 28; first | with_reducible refine (HMX.out _ hC.below).mono ?_ | with_reducible refine (HMY.out _ hC.below).mono ?_)
                             | (go_at_call 17; refine (HS.out _ hC.below).mono ?_))
                          rintro e w' ⟨rfl, hw⟩
                          exact ⟨rfl, St.call (by assumption) hw⟩)))
             try simp only [Act.put, List.setIfInBounds_toArray, List.set])
            (first
               | (apply qw_skip rfl)
               | (apply qw_step rfl
                  focus
                    intro w0 hC
                    (fail))
               | (apply qw_step rfl
                  focus
                    intro w0 hC
                    have hC' := Lib.hid hC
                    have hlx := HLX.out _ hC.below
                    have hly := HLY.out _ hC.below
                    obtain ⟨⟨r1, f1, i1, b1, l1⟩, ⟨r2, f2, i2, b2, l2⟩, m12, m21⟩ := St.facts2 hC
                    clear hC
                    go_simp
                    have hC := hC'.out
                    (first
                       | with_reducible rfl
                       | (skip
                          (first
                             | (go_at_call 28; first | with_reducible refine (HMX.out _ hC.below).mono ?_ | with_reducible refine (HMY.out _ hC.below).mono ?_)
                             | (go_at_call 17; refine (HS.out _ hC.below).mono ?_))
                          rintro e w' ⟨rfl, hw⟩
                          exact ⟨rfl, St.call (by assumption) hw⟩)))
             try simp only [Act.put, List.setIfInBounds_toArray, List.set])
            (first
               | (apply qw_skip rfl)
               | (apply qw_step rfl
                  focus
                    intro w0 hC
                    (fail))
               | (apply qw_step rfl
                  focus
                    intro w0 hC
                    have hC' := Lib.hid hC
                    have hlx := HLX.out _ hC.below
                    have hly := HLY.out _ hC.below
                    obtain ⟨⟨r1, f1, i1, b1, l1⟩, ⟨r2, f2, i2, b2, l2⟩, m12, m21⟩ := St.facts2 hC
                    clear hC
                    go_simp
                    have hC := hC'.out
                    (first
                       | with_reducible rfl
                       | (skip
                          (first
                             | (go_at_call 28; first | with_reducible refine (HMX.out _ hC.below).mono ?_ | with_reducible refine (HMY.out _ hC.below).mono ?_)
                             | (go_at_call 17; refine (HS.out _ hC.below).mono ?_))
                          rintro e w' ⟨rfl, hw⟩
                          exact ⟨rfl, St.call (by assumption) hw⟩)))
             try simp only [Act.put, List.setIfInBounds_toArray, List.set])
            (first
               | (apply qw_skip rfl)
               | (apply qw_step rfl
                  focus
                    intro w0 hC
                    (fail))
               | (apply qw_step rfl
                  focus
                    intro w0 hC
                    have hC' := Lib.hid hC
                    have hlx := HLX.out _ hC.below
                    have hly := HLY.out _ hC.below
                    obtain ⟨⟨r1, f1, i1, b1, l1⟩, ⟨r2, f2, i2, b2, l2⟩, m12, m21⟩ := St.facts2 hC
                    clear hC
                    go_simp
                    have hC := hC'.out
                    (first
                       | with_reducible rfl
                       | (skip
                          (first
                             | (go_at_call 28; first | with_reducible refine (HMX.out _ hC.below).mono ?_ | with_reducible refine (HMY.out _ hC.below).mono ?_)
                             | (go_at_call 17; refine (HS.out _ hC.below).mono ?_))
                          rintro e w' ⟨rfl, hw⟩
                          exact ⟨rfl, St.call (by assumption) hw⟩)))
             try simp only [Act.put, List.setIfInBounds_toArray, List.set])
            (first
               | (apply qw_skip rfl)
               | (apply qw_step rfl
                  focus
                    intro w0 hC
                    (fail))
               | (apply qw_step rfl
                  focus
                    intro w0 hC
                    have hC' := Lib.hid hC
                    have hlx := HLX.out _ hC.below
                    have hly := HLY.out _ hC.below
                    obtain ⟨⟨r1, f1, i1, b1, l1⟩, ⟨r2, f2, i2, b2, l2⟩, m12, m21⟩ := St.facts2 hC
                    clear hC
                    go_simp
                    have hC := hC'.out
                    (first
                       | with_reducible rfl
                       | (skip
                          (first
                             | (go_at_call 28; first | with_reducible refine (HMX.out _ hC.below).mono ?_ | with_reducible refine (HMY.out _ hC.below).mono ?_)
                             | (go_at_call 17; refine (HS.out _ hC.below).mono ?_))
                          rintro e w' ⟨rfl, hw⟩
                          exact ⟨rfl, St.call (by assumption) hw⟩)))
             try simp only [Act.put, List.setIfInBounds_toArray, List.set])
            (first
               | (apply qw_skip rfl)
               | (apply qw_step rfl
                  focus
                    intro w0 hC
                    (fail))
               | (apply qw_step rfl
                  focus
                    intro w0 hC
                    have hC' := Lib.hid hC
                    have hlx := HLX.out _ hC.below
                    have hly := HLY.out _ hC.below
                    obtain ⟨⟨r1, f1, i1, b1, l1⟩, ⟨r2, f2, i2, b2, l2⟩, m12, m21⟩ := St.facts2 hC
                    clear hC
                    go_simp
                    have hC := hC'.out
                    (first
                       | with_reducible rfl
                       | (skip
                          (first
                             | (go_at_call 28; first | with_reducible refine (HMX.out _ hC.below).mono ?_ | with_reducible refine (HMY.out _ hC.below).mono ?_)
                             | (go_at_call 17; refine (HS.out _ hC.below).mono ?_))
                          rintro e w' ⟨rfl, hw⟩
                          exact ⟨rfl, St.call (by assumption) hw⟩)))
             try simp only [Act.put, List.setIfInBounds_toArray, List.set])
            (first
               | (apply qw_skip rfl)
               | (apply qw_step rfl
                  focus
                    intro w0 hC
                    (fail))
               | (apply qw_step rfl
                  focus
                    intro w0 hC
                    have hC' := Lib.hid hC
                    have hlx := HLX.out _ hC.below
                    have hly := HLY.out _ hC.below
                    obtain ⟨⟨r1, f1, i1, b1, l1⟩, ⟨r2, f2, i2, b2, l2⟩, m12, m21⟩ := St.facts2 hC
                    clear hC
                    go_simp
                    have hC := hC'.out
                    (first
                       | with_reducible rfl
                       | (skip
                          (first
                             | (go_at_call 28; first | with_reducible refine (HMX.out _ hC.below).mono ?_ | with_reducible refine (HMY.out _ hC.below).mono ?_)
                             | (go_at_call 17; refine (HS.out _ hC.below).mono ?_))
                          rintro e w' ⟨rfl, hw⟩
                          exact ⟨rfl, St.call (by assumption) hw⟩)))
             try simp only [Act.put, List.setIfInBounds_toArray, List.set])
            refine qw_nil ?_
            intro w3 hC
            have HC := Lib.hid hC
            clear hC)
           go_wp2_with fail
           go_roundw
           case rel => exact ⟨j + 1, by omega, by go_num, HR2, HC⟩
           case measure => simp [intOf]; omega)
      | true =>
        by_cases ht : tx = ty
        · subst ht
          rw [if_neg (fun h => h.2 rfl)] at hR
          have hnm : (tx.toList != tx.toList) = false := bne_self_eq_false _
          cases X with
          | false =>
            rw [if_pos rfl] at hR
            subst hR
            (((obtain ⟨⟨r1, f1, i1, b1, l1⟩, ⟨r2, f2, i2, b2, l2⟩, m12, m21⟩ := St.facts2 (HC.out.pick [0, 1] (by decide) rfl))
              go_upto_region 16 with fail
              (clear r1 f1 i1 b1 l1 r2 f2 i2 b2 l2 m12 m21)
              refine St.qregion HC.out (by kernel_rfl) (by decide +kernel) ?_
              (first
                 | (apply qw_skip rfl)
                 | (apply qw_step rfl
                    focus
                      intro w0 hC
                      (fail))
                 | (apply qw_step rfl
                    focus
                      intro w0 hC
                      have hC' := Lib.hid hC
                      have hlx := HLX.out _ hC.below
                      have hly := HLY.out _ hC.below
                      obtain ⟨⟨r1, f1, i1, b1, l1⟩, ⟨r2, f2, i2, b2, l2⟩, m12, m21⟩ := St.facts2 hC
                      clear hC
                      go_simp
                      have hC := hC'.out
                      (first
                         | with_reducible rfl
                         | (skip
                            (first
                               | (go_at_call 28; first | with_reducible refine (HMX.out _ hC.below).mono ?_ | with_reducible refine (HMY.out _ hC.below).mono ?_)
                               | (go_at_call 17; refine (HS.out _ hC.below).mono ?_))
                            rintro e w' ⟨rfl, hw⟩
                            exact ⟨rfl, St.call (by assumption) hw⟩)))
               try simp only [Act.put, List.setIfInBounds_toArray, List.set])
              (first
                 | (apply qw_skip rfl)
                 | (apply qw_step rfl
                    focus
                      intro w0 hC
                      (fail))
                 | (apply qw_step rfl
                    focus
                      intro w0 hC
                      have hC' := Lib.hid hC
                      have hlx := HLX.out _ hC.below
                      have hly := HLY.out _ hC.below
                      obtain ⟨⟨r1, f1, i1, b1, l1⟩, ⟨r2, f2, i2, b2, l2⟩, m12, m21⟩ := St.facts2 hC
                      clear hC
                      go_simp
                      have hC := hC'.out
                      (first
                         | with_reducible rfl
                         | (skip
                            (first
                               | (go_at_call 28; first | with_reducible refine (HMX.out _ hC.below).mono ?_ | with_reducible refine (HMY.out _ hC.below).mono ?_)
                               | (go_at_call 17; refine (HS.out _ hC.below).mono ?_))
                            rintro e w' ⟨rfl, hw⟩
                            exact ⟨rfl, St.call (by assumption) hw⟩)))
               try simp only [Act.put, List.setIfInBounds_toArray, List.set])
              (first
                 | (apply qw_skip rfl)
                 | (apply qw_step rfl
                    focus
                      intro w0 hC
                      (fail))
                 | (apply qw_step rfl
                    focus
                      intro w0 hC
                      have hC' := Lib.hid hC
                      have hlx := HLX.out _ hC.below
                      have hly := HLY.out _ hC.below
                      obtain ⟨⟨r1, f1, i1, b1, l1⟩, ⟨r2, f2, i2, b2, l2⟩, m12, m21⟩ := St.facts2 hC
                      clear hC
                      go_simp
                      have hC := hC'.out
                      (first
                         | with_reducible rfl
                         | (skip
                            (first
                               | (go_at_call 28; first | with_reducible refine (HMX.out _ hC.below).mono ?_ | with_reducible refine (HMY.out _ hC.below).mono ?_)
                               | (go_at_call 17; refine (HS.out _ hC.below).mono ?_))
                            rintro e w' ⟨rfl, hw⟩
                            exact ⟨rfl, St.call (by assumption) hw⟩)))
               try simp only [Act.put, List.setIfInBounds_toArray, List.set])
              (first
                 | (apply qw_skip rfl)
                 | (apply qw_step rfl
                    focus
                      intro w0 hC
                      (fail))
                 | (apply qw_step rfl
                    focus
                      intro w0 hC
                      have hC' := Lib.hid hC
                      have hlx := HLX.out _ hC.below
                      have hly := HLY.out _ hC.below
                      obtain ⟨⟨r1, f1, i1, b1, l1⟩, ⟨r2, f2, i2, b2, l2⟩, m12, m21⟩ := St.facts2 hC
                      clear hC
                      go_simp
                      have hC := hC'.out
                      (first
                         | with_reducible rfl
                         | (skip
                            (first
                               | (go_at_call 28; first | with_reducible refine (HMX.out _ hC.below).mono ?_ | with_reducible refine (HMY.out _ hC.below).mono ?_)
                               | (go_at_call 17; refine (HS.out _ hC.below).mono ?_))
                            rintro e w' ⟨rfl, hw⟩
                            exact ⟨rfl, St.call (by assumption) hw⟩)))
               try simp only [Act.put, List.setIfInBounds_toArray, List.set])
              (first
                 | (apply qw_skip rfl)
                 | (apply qw_step rfl
                    focus
                      intro w0 hC
                      (fail))
                 | (apply qw_step rfl
                    focus
                      intro w0 hC
                      have hC' := Lib.hid hC
                      have hlx := HLX.out _ hC.below
                      have hly := HLY.out _ hC.below
                      obtain ⟨⟨r1, f1, i1, b1, l1⟩, ⟨r2, f2, i2, b2, l2⟩, m12, m21⟩ := St.facts2 hC
                      clear hC
                      go_simp
                      have hC := hC'.out
                      (first
                         | with_reducible rfl
                         | (skip
                            (first
                               | (go_at_call 28; first | with_reducible refine (HMX.out _ hC.below).mono ?_ | with_reducible refine (HMY.out _ hC.below).mono ?_)
                               | (go_at_call 17; refine (HS.out _ hC.below).mono ?_))
                            rintro e w' ⟨rfl, hw⟩
                            exact ⟨rfl, St.call (by assumption) hw⟩)))
               try simp only [Act.put, List.setIfInBounds_toArray, List.set])
              (first
                 | (apply qw_skip rfl)
                 | (apply qw_step rfl
                    focus
                      intro w0 hC
                      (fail))
                 | (apply qw_step rfl
                    focus
                      intro w0 hC
                      have hC' := Lib.hid hC
                      have hlx := HLX.out _ hC.below
                      have hly := HLY.out _ hC.below
                      obtain ⟨⟨r1, f1, i1, b1, l1⟩, ⟨r2, f2, i2, b2, l2⟩, m12, m21⟩ := St.facts2 hC
                      clear hC
                      go_simp
                      have hC := hC'.out
                      (first
                         | with_reducible rfl
                         | (skip
                            (first
                               | (go_at_call 28; first | with_reducible refine (HMX.out _ hC.below).mono ?_ | with_reducible refine (HMY.out _ hC.below).mono ?_)
                               | (go_at_call 17; refine (HS.out _ hC.below).mono ?_))
                            rintro e w' ⟨rfl, hw⟩
                            exact ⟨rfl, St.call (by assumption) hw⟩)))
               try simp only [Act.put, List.setIfInBounds_toArray, List.set])
              (first
                 | (apply qw_skip rfl)
                 | (apply qw_step rfl
                    focus
                      intro w0 hC
                      (fail))
                 | (apply qw_step rfl
                    focus
                      intro w0 hC
                      have hC' := Lib.hid hC
                      have hlx := HLX.out _ hC.below
                      have hly := HLY.out _ hC.below
                      obtain ⟨⟨r1, f1, i1, b1, l1⟩, ⟨r2, f2, i2, b2, l2⟩, m12, m21⟩ := St.facts2 hC
                      clear hC
                      go_simp
                      have hC := hC'.out
                      (first
                         | with_reducible rfl
                         | (skip
                            (first
                               | (go_at_call 28; first | with_reducible refine (HMX.out _ hC.below).mono ?_ | with_reducible refine (HMY.out _ hC.below).mono ?_)
                               | (go_at_call 17; refine (HS.out _ hC.below).mono ?_))
                            rintro e w' ⟨rfl, hw⟩
                            exact ⟨rfl, St.call (by assumption) hw⟩)))
               try simp only [Act.put, List.setIfInBounds_toArray, List.set])
              (first
                 | (apply qw_skip rfl)
                 | (apply qw_step rfl
                    focus
                      intro w0 hC
                      (fail))
                 | (apply qw_step rfl
                    focus
                      intro w0 hC
                      have hC' := Lib.hid hC
                      have hlx := HLX.out _ hC.below
                      have hly := HLY.out _ hC.below
                      obtain ⟨⟨r1, f1, i1, b1, l1⟩, ⟨r2, f2, i2, b2, l2⟩, m12, m21⟩ := St.facts2 hC
                      clear hC
                      go_simp
                      have hC := hC'.out
                      (first
                         | with_reducible rfl
                         | (skip
                            (first
                               | (go_at_call 28; first | with_reducible refine (HMX.out _ hC.below).mono ?_ | with_reducible refine (HMY.out _ hC.below).mono ?_)
                               | (go_at_call 17; refine (HS.out _ hC.below).mono ?_))
                            rintro e w' ⟨rfl, hw⟩
                            exact ⟨rfl, St.call (by assumption) hw⟩)))
               try simp only [Act.put, List.setIfInBounds_toArray, List.set])
              (first
                 | (apply qw_skip rfl)
                 | (apply qw_step rfl
                    focus
                      intro w0 hC
                      (fail))
                 | (apply qw_step rfl
                    focus
                      intro w0 hC
                      have hC' := Lib.hid hC
                      have hlx := HLX.out _ hC.below
                      have hly := HLY.out _ hC.below
                      obtain ⟨⟨r1, f1, i1, b1, l1⟩, ⟨r2, f2, i2, b2, l2⟩, m12, m21⟩ := St.facts2 hC
                      clear hC
                      go_simp
                      have hC := hC'.out
                      (first
                         | with_reducible rfl
                         | (skip
                            (first
                               | (go_at_call 28; first | with_reducible refine (HMX.out _ hC.below).mono ?_ | with_reducible refine (HMY.out _ hC.below).mono ?_)
                               | (go_at_call 17; refine (HS.out _ hC.below).mono ?_))
                            rintro e w' ⟨rfl, hw⟩
                            exact ⟨rfl, St.call (by assumption) hw⟩)))
               try simp only [Act.put, List.setIfInBounds_toArray, List.set])
              (first
                 | (apply qw_skip rfl)
                 | (apply qw_step rfl
                    focus
                      intro w0 hC
                      (fail))
                 | (apply qw_step rfl
                    focus
                      intro w0 hC
                      have hC' := Lib.hid hC
                      have hlx := HLX.out _ hC.below
                      have hly := HLY.out _ hC.below
                      obtain ⟨⟨r1, f1, i1, b1, l1⟩, ⟨r2, f2, i2, b2, l2⟩, m12, m21⟩ := St.facts2 hC
                      clear hC
                      go_simp
                      have hC := hC'.out
                      (first
                         | with_reducible rfl
                         | (skip
                            (first
                               | (go_at_call 28; first | with_reducible refine (HMX.out _ hC.below).mono ?_ | with_reducible refine (HMY.out _ hC.below).mono ?_)
                               | (go_at_call 17; refine (HS.out _ hC.below).mono ?_))
                            rintro e w' ⟨rfl, hw⟩
                            exact ⟨rfl, St.call (by assumption) hw⟩)))
               try simp only [Act.put, List.setIfInBounds_toArray, List.set])
              (first
                 | (apply qw_skip rfl)
                 | (apply qw_step rfl
                    focus
                      intro w0 hC
                      (fail))
                 | (apply qw_step rfl
                    focus
                      intro w0 hC
                      have hC' := Lib.hid hC
                      have hlx := HLX.out _ hC.below
                      have hly := HLY.out _ hC.below
                      obtain ⟨⟨r1, f1, i1, b1, l1⟩, ⟨r2, f2, i2, b2, l2⟩, m12, m21⟩ := St.facts2 hC
                      clear hC
                      go_simp
                      have hC := hC'.out
                      (first
                         | with_reducible rfl
                         | (skip
                            (first
                               | (go_at_call 28; first | with_reducible refine (HMX.out _ hC.below).mono ?_ | with_reducible refine (HMY.out _ hC.below).mono ?_)
                               | (go_at_call 17; refine (HS.out _ hC.below).mono ?_))
                            rintro e w' ⟨rfl, hw⟩
                            exact ⟨rfl, St.call (by assumption) hw⟩)))
               try simp only [Act.put, List.setIfInBounds_toArray, List.set])
              (first
                 | (apply qw_skip rfl)
                 | (apply qw_step rfl
                    focus
                      intro w0 hC
                      (fail))
                 | (apply qw_step rfl
                    focus
                      intro w0 hC
                      have hC' := Lib.hid hC
                      have hlx := HLX.out _ hC.below
                      have hly := HLY.out _ hC.below
                      obtain ⟨⟨r1, f1, i1, b1, l1⟩, ⟨r2, f2, i2, b2, l2⟩, m12, m21⟩ := St.facts2 hC
                      clear hC
                      go_simp
                      have hC := hC'.out
                      (first
                         | with_reducible rfl
                         | (skip
                            (first
                               | (go_at_call 28; first | with_reducible refine (HMX.out _ hC.below).mono ?_ | with_reducible refine (HMY.out _ hC.below).mono ?_)
                               | (go_at_call 17; refine (HS.out _ hC.below).mono ?_))
                            rintro e w' ⟨rfl, hw⟩
                            exact ⟨rfl, St.call (by assumption) hw⟩)))
               try simp only [Act.put, List.setIfInBounds_toArray, List.set])
              (first
                 | (apply qw_skip rfl)
                 | (apply qw_step rfl
                    focus
                      intro w0 hC
                      (fail))
                 | (apply qw_step rfl
                    focus
                      intro w0 hC
                      have hC' := Lib.hid hC
                      have hlx := HLX.out _ hC.below
                      have hly := HLY.out _ hC.below
                      obtain ⟨⟨r1, f1, i1, b1, l1⟩, ⟨r2, f2, i2, b2, l2⟩, m12, m21⟩ := St.facts2 hC
                      clear hC
                      go_simp
                      have hC := hC'.out
                      (first
                         | with_reducible rfl
                         | (skip
                            (first
                               | (go_at_call 28; first | with_reducible refine (HMX.out _ hC.below).mono ?_ | with_reducible refine (HMY.out _ hC.below).mono ?_)
                               | (go_at_call 17; refine (HS.out _ hC.below).mono ?_))
                            rintro e w' ⟨rfl, hw⟩
                            exact ⟨rfl, St.call (by assumption) hw⟩)))
               try simp only [Act.put, List.setIfInBounds_toArray, List.set])
              (first
                 | (apply qw_skip rfl)
                 | (apply qw_step rfl
                    focus
                      intro w0 hC
                      (fail))
                 | (apply qw_step rfl
                    focus
                      intro w0 hC
                      have hC' := Lib.hid hC
                      have hlx := HLX.out _ hC.below
                      have hly := HLY.out _ hC.below
                      obtain ⟨⟨r1, f1, i1, b1, l1⟩, ⟨r2, f2, i2, b2, l2⟩, m12, m21⟩ := St.facts2 hC
                      clear hC
                      go_simp
                      have hC := hC'.out
                      (first
                         | with_reducible rfl
                         | (skip
                            (first
                               | (go_at_call 28; first | with_reducible refine (HMX.out _ hC.below).mono ?_ | with_reducible refine (HMY.out _ hC.below).mono ?_)
                               | (go_at_call 17; refine (HS.out _ hC.below).mono ?_))
                            rintro e w' ⟨rfl, hw⟩
                            exact ⟨rfl, St.call (by assumption) hw⟩)))
               try simp only [Act.put, List.setIfInBounds_toArray, List.set])
              (first
                 | (apply qw_skip rfl)
                 | (apply qw_step rfl
                    focus
                      intro w0 hC
                      (fail))
                 | (apply qw_step rfl
                    focus
                      intro w0 hC
                      have hC' := Lib.hid hC
                      have hlx := HLX.out _ hC.below
                      have hly := HLY.out _ hC.below
                      obtain ⟨⟨r1, f1, i1, b1, l1⟩, ⟨r2, f2, i2, b2, l2⟩, m12, m21⟩ := St.facts2 hC
                      clear hC
                      go_simp
                      have hC := hC'.out
                      (first
                         | with_reducible rfl
                         | (skip
                            (first
                               | (go_at_call 28; first | with_reducible refine (HMX.out _ hC.below).mono ?_ | with_reducible refine (HMY.out _ hC.below).mono ?_)
                               | (go_at_call 17; refine (HS.out _ hC.below).mono ?_))
                            rintro e w' ⟨rfl, hw⟩
                            exact ⟨rfl, St.call (by assumption) hw⟩)))
               try simp only [Act.put, List.setIfInBounds_toArray, List.set])
              (first
                 | (apply qw_skip rfl)
                 | (apply qw_step rfl
                    focus
                      intro w0 hC
                      (fail))
                 | (apply qw_step rfl
                    focus
                      intro w0 hC
                      have hC' := Lib.hid hC
                      have hlx := HLX.out _ hC.below
                      have hly := HLY.out _ hC.below
                      obtain ⟨⟨r1, f1, i1, b1, l1⟩, ⟨r2, f2, i2, b2, l2⟩, m12, m21⟩ := St.facts2 hC
                      clear hC
                      go_simp
                      have hC := hC'.out
                      (first
                         | with_reducible rfl
                         | (skip
                            (first
                               | (go_at_call 28; first | with_reducible refine (HMX.out _ hC.below).mono ?_ | with_reducible refine (HMY.out _ hC.below).mono ?_)
                               | (go_at_call 17; refine (HS.out _ hC.below).mono ?_))
                            rintro e w' ⟨rfl, hw⟩
                            exact ⟨rfl, St.call (by assumption) hw⟩)))
               try simp only [Act.put, List.setIfInBounds_toArray, List.set])
              (first
                 | (apply qw_skip rfl)
                 | (apply qw_step rfl
                    focus
                      intro w0 hC
                      (fail))
                 | (apply qw_step rfl
                    focus
                      intro w0 hC
                      have hC' := Lib.hid hC
                      have hlx := HLX.out _ hC.below
                      have hly := HLY.out _ hC.below
                      obtain ⟨⟨r1, f1, i1, b1, l1⟩, ⟨r2, f2, i2, b2, l2⟩, m12, m21⟩ := St.facts2 hC
                      clear hC
                      go_simp
                      have hC := hC'.out
                      (first
                         | with_reducible rfl
                         | (skip
                            (first
                               | (go_at_call 28; first | with_reducible refine (HMX.out _ hC.below).mono ?_ | with_reducible refine (HMY.out _ hC.below).mono ?_)
                               | (go_at_call 17; refine (HS.out _ hC.below).mono ?_))
                            rintro e w' ⟨rfl, hw⟩
                            exact ⟨rfl, St.call (by assumption) hw⟩)))
               try simp only [Act.put, List.setIfInBounds_toArray, List.set])
              (first
                 | (apply qw_skip rfl)
                 | (apply qw_step rfl
                    focus
                      intro w0 hC
                      (fail))
                 | (apply qw_step rfl
                    focus
                      intro w0 hC
                      have hC' := Lib.hid hC
                      have hlx := HLX.out _ hC.below
                      have hly := HLY.out _ hC.below
                      obtain ⟨⟨r1, f1, i1, b1, l1⟩, ⟨r2, f2, i2, b2, l2⟩, m12, m21⟩ := St.facts2 hC
                      clear hC
                      go_simp
                      have hC := hC'.out
                      (first
                         | with_reducible rfl
                         | (skip
                            (first
                               | (go_at_call 28; first | with_reducible refine (HMX.out _ hC.below).mono ?_ | with_reducible refine (HMY.out _ hC.below).mono ?_)
                               | (go_at_call 17; refine (HS.out _ hC.below).mono ?_))
                            rintro e w' ⟨rfl, hw⟩
                            exact ⟨rfl, St.call (by assumption) hw⟩)))
               try simp only [Act.put, List.setIfInBounds_toArray, List.set])
              (first
                 | (apply qw_skip rfl)
                 | (apply qw_step rfl
                    focus
                      intro w0 hC
                      (fail))
                 | (apply qw_step rfl
                    focus
                      intro w0 hC
                      have hC' := Lib.hid hC
                      have hlx := HLX.out _ hC.below
                      have hly := HLY.out _ hC.below
                      obtain ⟨⟨r1, f1, i1, b1, l1⟩, ⟨r2, f2, i2, b2, l2⟩, m12, m21⟩ := St.facts2 hC
                      clear hC
                      go_simp
                      have hC := hC'.out
                      (first
                         | with_reducible rfl
                         | (skip
                            (first
                               | (go_at_call 28; first | with_reducible refine (HMX.out _ hC.below).mono ?_ | with_reducible refine (HMY.out _ hC.below).mono ?_)
                               | (go_at_call 17; refine (HS.out _ hC.below).mono ?_))
                            rintro e w' ⟨rfl, hw⟩
                            exact ⟨rfl, St.call (by assumption) hw⟩)))
               try simp only [Act.put, List.setIfInBounds_toArray, List.set])
              (first
                 | (apply qw_skip rfl)
                 | (apply qw_step rfl
                    focus
                      intro w0 hC
                      (fail))
                 | (apply qw_step rfl
                    focus
                      intro w0 hC
                      have hC' := Lib.hid hC
                      have hlx := HLX.out _ hC.below
                      have hly := HLY.out _ hC.below
                      obtain ⟨⟨r1, f1, i1, b1, l1⟩, ⟨r2, f2, i2, b2, l2⟩, m12, m21⟩ := St.facts2 hC
                      clear hC
                      go_simp
                      have hC := hC'.out
                      (first
                         | with_reducible rfl
                         | (skip
                            (first
                               | (go_at_call 28; first | with_reducible refine (HMX.out _ hC.below).mono ?_ | with_reducible refine (HMY.out _ hC.below).mono ?_)
                               | (go_at_call 17; refine (HS.out _ hC.below).mono ?_))
                            rintro e w' ⟨rfl, hw⟩
                            exact ⟨rfl, St.call (by assumption) hw⟩)))
               try simp only [Act.put, List.setIfInBounds_toArray, List.set])
              (first
                 | (apply qw_skip rfl)
                 | (apply qw_step rfl
                    focus
                      intro w0 hC
                      (fail))
                 | (apply qw_step rfl
                    focus
                      intro w0 hC
                      have hC' := Lib.hid hC
                      have hlx := HLX.out _ hC.below
                      have hly := HLY.out _ hC.below
                      obtain ⟨⟨r1, f1, i1, b1, l1⟩, ⟨r2, f2, i2, b2, l2⟩, m12, m21⟩ := St.facts2 hC
                      clear hC
                      go_simp
                      have hC := hC'.out
                      (first
                         | with_reducible rfl
                         | (skip
                            (first
                               | (go_at_call 28; first | with_reducible refine (HMX.out _ hC.below).mono ?_ | with_reducible refine (HMY.out _ hC.below).mono ?_)
                               | (go_at_call 17; refine (HS.out _ hC.below).mono ?_))
                            rintro e w' ⟨rfl, hw⟩
                            exact ⟨rfl, St.call (by assumption) hw⟩)))
               try simp only [Act.put, List.setIfInBounds_toArray, List.set])
              (first
                 | (apply qw_skip rfl)
                 | (apply qw_step rfl
                    focus
                      intro w0 hC
                      (fail))
                 | (apply qw_step rfl
                    focus
                      intro w0 hC
                      have hC' := Lib.hid hC
                      have hlx := HLX.out _ hC.below
                      have hly := HLY.out _ hC.below
                      obtain ⟨⟨r1, f1, i1, b1, l1⟩, ⟨r2, f2, i2, b2, l2⟩, m12, m21⟩ := St.facts2 hC
                      clear hC
                      go_simp
                      have hC := hC'.out
                      (first
                         | with_reducible rfl
                         | (skip
                            (first
                               | (go_at_call 28; first | with_reducible refine (HMX.out _ hC.below).mono ?_ | with_reducible refine (HMY.out _ hC.below).mono ?_)
                               | (go_at_call 17; refine (HS.out _ hC.below).mono ?_))
                            rintro e w' ⟨rfl, hw⟩
                            exact ⟨rfl, St.call (by assumption) hw⟩)))
               try simp only [Act.put, List.setIfInBounds_toArray, List.set])
              (first
                 | (apply qw_skip rfl)
                 | (apply qw_step rfl
                    focus
                      intro w0 hC
                      (fail))
                 | (apply qw_step rfl
                    focus
                      intro w0 hC
                      have hC' := Lib.hid hC
                      have hlx := HLX.out _ hC.below
                      have hly := HLY.out _ hC.below
                      obtain ⟨⟨r1, f1, i1, b1, l1⟩, ⟨r2, f2, i2, b2, l2⟩, m12, m21⟩ := St.facts2 hC
                      clear hC
                      go_simp
                      have hC := hC'.out
                      (first
                         | with_reducible rfl
                         | (skip
                            (first
                               | (go_at_call 28; first | with_reducible refine (HMX.out _ hC.below).mono ?_ | with_reducible refine (HMY.out _ hC.below).mono ?_)
                               | (go_at_call 17; refine (HS.out _ hC.below).mono ?_))
                            rintro e w' ⟨rfl, hw⟩
                            exact ⟨rfl, St.call (by assumption) hw⟩)))
               try simp only [Act.put, List.setIfInBounds_toArray, List.set])
              (first
                 | (apply qw_skip rfl)
                 | (apply qw_step rfl
                    focus
                      intro w0 hC
                      (fail))
                 | (apply qw_step rfl
                    focus
                      intro w0 hC
                      have hC' := Lib.hid hC
                      have hlx := HLX.out _ hC.below
                      have hly := HLY.out _ hC.below
                      obtain ⟨⟨r1, f1, i1, b1, l1⟩, ⟨r2, f2, i2, b2, l2⟩, m12, m21⟩ := St.facts2 hC
                      clear hC
                      go_simp
                      have hC := hC'.out
                      (first
                         | with_reducible rfl
                         | (skip
                            (first
                               | (go_at_call 28; first | with_reducible refine (HMX.out _ hC.below).mono ?_ | with_reducible refine (HMY.out _ hC.below).mono ?_)
                               | (go_at_call 17; refine (HS.out _ hC.below).mono ?_))
                            rintro e w' ⟨rfl, hw⟩
                            exact ⟨rfl, St.call (by assumption) hw⟩)))
               try simp only [Act.put, List.setIfInBounds_toArray, List.set])
              (first
                 | (apply qw_skip rfl)
                 | (apply qw_step rfl
                    focus
                      intro w0 hC
                      (fail))
                 | (apply qw_step rfl
                    focus
                      intro w0 hC
                      have hC' := Lib.hid hC
                      have hlx := HLX.out _ hC.below
                      have hly := HLY.out _ hC.below
                      obtain ⟨⟨r1, f1, i1, b1, l1⟩, ⟨r2, f2, i2, b2, l2⟩, m12, m21⟩ := St.facts2 hC
                      clear hC
                      go_simp
                      have hC := hC'.out
                      (first
                         | with_reducible rfl
                         | (skip
                            (first
                               | (go_at_call 28; first | with_reducible refine (HMX.out _ hC.below).mono ?_ | with_reducible refine (HMY.out _ hC.below).mono ?_)
                               | (go_at_call 17; refine (HS.out _ hC.below).mono ?_))
                            rintro e w' ⟨rfl, hw⟩
                            exact ⟨rfl, St.call (by assumption) hw⟩)))
               try simp only [Act.put, List.setIfInBounds_toArray, List.set])
              (first
                 | (apply qw_skip rfl)
                 | (apply qw_step rfl
                    focus
                      intro w0 hC
                      (fail))
                 | (apply qw_step rfl
                    focus
                      intro w0 hC
                      have hC' := Lib.hid hC
                      have hlx := HLX.out _ hC.below
                      have hly := HLY.out _ hC.below
                      obtain ⟨⟨r1, f1, i1, b1, l1⟩, ⟨r2, f2, i2, b2, l2⟩, m12, m21⟩ := St.facts2 hC
                      clear hC
                      go_simp
                      have hC := hC'.out
                      (first
                         | with_reducible rfl
                         | (skip
                            (first
                               | (go_at_call 28; first | with_reducible refine (HMX.out _ hC.below).mono ?_ | with_reducible refine (HMY.out _ hC.below).mono ?_)
                               | (go_at_call 17; refine (HS.out _ hC.below).mono ?_))
                            rintro e w' ⟨rfl, hw⟩
                            exact ⟨rfl, St.call (by assumption) hw⟩)))
               try simp only [Act.put, List.setIfInBounds_toArray, List.set])
              refine qw_nil ?_
              intro w3 hC
              have HC := Lib.hid hC
              clear hC)
             go_wp2_with fail
             go_ret
             exact ⟨rfl, HC.out.below⟩)
          | true =>
            rw [if_neg (fun h => Bool.noConfusion h)] at hR
            have HR2 := Lib.hid hR
            clear hR
            (((obtain ⟨⟨r1, f1, i1, b1, l1⟩, ⟨r2, f2, i2, b2, l2⟩, m12, m21⟩ := St.facts2 (HC.out.pick [0, 1] (by decide) rfl))
              go_upto_region 16 with fail
              (clear r1 f1 i1 b1 l1 r2 f2 i2 b2 l2 m12 m21)
              refine St.qregion HC.out (by kernel_rfl) (by decide +kernel) ?_
              (first
                 | (apply qw_skip rfl)
                 | (apply qw_step rfl
                    focus
                      intro w0 hC
                      (fail))
                 | (apply qw_step rfl
                    focus
                      intro w0 hC
                      have hC' := Lib.hid hC
                      have hlx := HLX.out _ hC.below
                      have hly := HLY.out _ hC.below
                      obtain ⟨⟨r1, f1, i1, b1, l1⟩, ⟨r2, f2, i2, b2, l2⟩, m12, m21⟩ := St.facts2 hC
                      clear hC
                      go_simp
                      have hC := hC'.out
                      (first
                         | with_reducible rfl
                         | (skip
                            (first
                               | (go_at_call 28; first | with_reducible refine (HMX.out _ hC.below).mono ?_ | with_reducible refine (HMY.out _ hC.below).mono ?_)
                               | (go_at_call 17; refine (HS.out _ hC.below).mono ?_))
                            rintro e w' ⟨rfl, hw⟩
                            exact ⟨rfl, St.call (by assumption) hw⟩)))
               try simp only [Act.put, List.setIfInBounds_toArray, List.set])
              (first
                 | (apply qw_skip rfl)
                 | (apply qw_step rfl
                    focus
                      intro w0 hC
                      (fail))
                 | (apply qw_step rfl
                    focus
                      intro w0 hC
                      have hC' := Lib.hid hC
                      have hlx := HLX.out _ hC.below
                      have hly := HLY.out _ hC.below
                      obtain ⟨⟨r1, f1, i1, b1, l1⟩, ⟨r2, f2, i2, b2, l2⟩, m12, m21⟩ := St.facts2 hC
                      clear hC
                      go_simp
                      have hC := hC'.out
                      (first
                         | with_reducible rfl
                         | (skip
                            (first
                               | (go_at_call 28; first | with_reducible refine (HMX.out _ hC.below).mono ?_ | with_reducible refine (HMY.out _ hC.below).mono ?_)
                               | (go_at_call 17; refine (HS.out _ hC.below).mono ?_))
                            rintro e w' ⟨rfl, hw⟩
                            exact ⟨rfl, St.call (by assumption) hw⟩)))
               try simp only [Act.put, List.setIfInBounds_toArray, List.set])
              (first
                 | (apply qw_skip rfl)
                 | (apply qw_step rfl
                    focus
                      intro w0 hC
                      (fail))
                 | (apply qw_step rfl
                    focus
                      intro w0 hC
                      have hC' := Lib.hid hC
                      have hlx := HLX.out _ hC.below
                      have hly := HLY.out _ hC.below
                      obtain ⟨⟨r1, f1, i1, b1, l1⟩, ⟨r2, f2, i2, b2, l2⟩, m12, m21⟩ := St.facts2 hC
                      clear hC
                      go_simp
                      have hC := hC'.out
                      (first
                         | with_reducible rfl
                         | (skip
                            (first
                               | (go_at_call 28; first | with_reducible refine (HMX.out _ hC.below).mono ?_ | with_reducible refine (HMY.out _ hC.below).mono ?_)
                               | (go_at_call 17; refine (HS.out _ hC.below).mono ?_))
                            rintro e w' ⟨rfl, hw⟩
                            exact ⟨rfl, St.call (by assumption) hw⟩)))
               try simp only [Act.put, List.setIfInBounds_toArray, List.set])
              (first
                 | (apply qw_skip rfl)
                 | (apply qw_step rfl
                    focus
                      intro w0 hC
                      (fail))
                 | (apply qw_step rfl
                    focus
                      intro w0 hC
                      have hC' := Lib.hid hC
                      have hlx := HLX.out _ hC.below
                      have hly := HLY.out _ hC.below
                      obtain ⟨⟨r1, f1, i1, b1, l1⟩, ⟨r2, f2, i2, b2, l2⟩, m12, m21⟩ := St.facts2 hC
                      clear hC
                      go_simp
                      have hC := hC'.out
                      (first
                         | with_reducible rfl
                         | (skip
                            (first
                               | (go_at_call 28; first | with_reducible refine (HMX.out _ hC.below).mono ?_ | with_reducible refine (HMY.out _ hC.below).mono ?_)
                               | (go_at_call 17; refine (HS.out _ hC.below).mono ?_))
                            rintro e w' ⟨rfl, hw⟩
                            exact ⟨rfl, St.call (by assumption) hw⟩)))
               try simp only [Act.put, List.setIfInBounds_toArray, List.set])
              (first
                 | (apply qw_skip rfl)
                 | (apply qw_step rfl
                    focus
                      intro w0 hC
                      (fail))
                 | (apply qw_step rfl
                    focus
                      intro w0 hC
                      have hC' := Lib.hid hC
                      have hlx := HLX.out _ hC.below
                      have hly := HLY.out _ hC.below
                      obtain ⟨⟨r1, f1, i1, b1, l1⟩, ⟨r2, f2, i2, b2, l2⟩, m12, m21⟩ := St.facts2 hC
                      clear hC
                      go_simp
                      have hC := hC'.out
                      (first
                         | with_reducible rfl
                         | (skip
                            (first
                               | (go_at_call 28; first | with_reducible refine (HMX.out _ hC.below).mono ?_ | with_reducible refine (HMY.out _ hC.below).mono ?_)
                               | (go_at_call 17; refine (HS.out _ hC.below).mono ?_))
                            rintro e w' ⟨rfl, hw⟩
                            exact ⟨rfl, St.call (by assumption) hw⟩)))
               try simp only [Act.put, List.setIfInBounds_toArray, List.set])
              (first
                 | (apply qw_skip rfl)
                 | (apply qw_step rfl
                    focus
                      intro w0 hC
                      (fail))
                 | (apply qw_step rfl
                    focus
                      intro w0 hC
                      have hC' := Lib.hid hC
                      have hlx := HLX.out _ hC.below
                      have hly := HLY.out _ hC.below
                      obtain ⟨⟨r1, f1, i1, b1, l1⟩, ⟨r2, f2, i2, b2, l2⟩, m12, m21⟩ := St.facts2 hC
                      clear hC
                      go_simp
                      have hC := hC'.out
                      (first
                         | with_reducible rfl
                         | (skip
                            (first
                               | (go_at_call 28; first | with_reducible refine (HMX.out _ hC.below).mono ?_ | with_reducible refine (HMY.out _ hC.below).mono ?_)
                               | (go_at_call 17; refine (HS.out _ hC.below).mono ?_))
                            rintro e w' ⟨rfl, hw⟩
                            exact ⟨rfl, St.call (by assumption) hw⟩)))
               try simp only [Act.put, List.setIfInBounds_toArray, List.set])
              (first
                 | (apply qw_skip rfl)
                 | (apply qw_step rfl
                    focus
                      intro w0 hC
                      (fail))
                 | (apply qw_step rfl
                    focus
                      intro w0 hC
                      have hC' := Lib.hid hC
                      have hlx := HLX.out _ hC.below
                      have hly := HLY.out _ hC.below
                      obtain ⟨⟨r1, f1, i1, b1, l1⟩, ⟨r2, f2, i2, b2, l2⟩, m12, m21⟩ := St.facts2 hC
                      clear hC
                      go_simp
                      have hC := hC'.out
                      (first
                         | with_reducible rfl
                         | (skip
                            (first
                               | (go_at_call 28; first | with_reducible refine (HMX.out _ hC.below).mono ?_ | with_reducible refine (HMY.out _ hC.below).mono ?_)
                               | (go_at_call 17; refine (HS.out _ hC.below).mono ?_))
                            rintro e w' ⟨rfl, hw⟩
                            exact ⟨rfl, St.call (by assumption) hw⟩)))
               try simp only [Act.put, List.setIfInBounds_toArray, List.set])
              (first
                 | (apply qw_skip rfl)
                 | (apply qw_step rfl
                    focus
                      intro w0 hC
                      (fail))
                 | (apply qw_step rfl
                    focus
                      intro w0 hC
                      have hC' := Lib.hid hC
                      have hlx := HLX.out _ hC.below
                      have hly := HLY.out _ hC.below
                      obtain ⟨⟨r1, f1, i1, b1, l1⟩, ⟨r2, f2, i2, b2, l2⟩, m12, m21⟩ := St.facts2 hC
                      clear hC
                      go_simp
                      have hC := hC'.out
                      (first
                         | with_reducible rfl
                         | (skip
                            (first
                               | (go_at_call 28; first | with_reducible refine (HMX.out _ hC.below).mono ?_ | with_reducible refine (HMY.out _ hC.below).mono ?_)
                               | (go_at_call 17; refine (HS.out _ hC.below).mono ?_))
                            rintro e w' ⟨rfl, hw⟩
                            exact ⟨rfl, St.call (by assumption) hw⟩)))
               try simp only [Act.put, List.setIfInBounds_toArray, List.set])
              (first
                 | (apply qw_skip rfl)
                 | (apply qw_step rfl
                    focus
                      intro w0 hC
                      (fail))
                 | (apply qw_step rfl
                    focus
                      intro w0 hC
                      have hC' := Lib.hid hC
                      have hlx := HLX.out _ hC.below
                      have hly := HLY.out _ hC.below
                      obtain ⟨⟨r1, f1, i1, b1, l1⟩, ⟨r2, f2, i2, b2, l2⟩, m12, m21⟩ := St.facts2 hC
                      clear hC
                      go_simp
                      have hC := hC'.out
                      (first
                         | with_reducible rfl
                         | (skip
                            (first
                               | (go_at_call 28; first | with_reducible refine (HMX.out _ hC.below).mono ?_ | with_reducible refine (HMY.out _ hC.below).mono ?_)
                               | (go_at_call 17; refine (HS.out _ hC.below).mono ?_))
                            rintro e w' ⟨rfl, hw⟩
                            exact ⟨rfl, St.call (by assumption) hw⟩)))
               try simp only [Act.put, List.setIfInBounds_toArray, List.set])
              (first
                 | (apply qw_skip rfl)
                 | (apply qw_step rfl
                    focus
                      intro w0 hC
                      (fail))
                 | (apply qw_step rfl
                    focus
                      intro w0 hC
                      have hC' := Lib.hid hC
                      have hlx := HLX.out _ hC.below
                      have hly := HLY.out _ hC.below
                      obtain ⟨⟨r1, f1, i1, b1, l1⟩, ⟨r2, f2, i2, b2, l2⟩, m12, m21⟩ := St.facts2 hC
                      clear hC
                      go_simp
                      have hC := hC'.out
                      (first
                         | with_reducible rfl
                         | (skip
                            (first
                               | (go_at_call 28; first | with_reducible refine (HMX.out _ hC.below).mono ?_ | with_reducible refine (HMY.out _ hC.below).mono ?_)
                               | (go_at_call 17; refine (HS.out _ hC.below).mono ?_))
                            rintro e w' ⟨rfl, hw⟩
                            exact ⟨rfl, St.call (by assumption) hw⟩)))
               try simp only [Act.put, List.setIfInBounds_toArray, List.set])
              (first
                 | (apply qw_skip rfl)
                 | (apply qw_step rfl
                    focus
                      intro w0 hC
                      (fail))
                 | (apply qw_step rfl
                    focus
                      intro w0 hC
                      have hC' := Lib.hid hC
                      have hlx := HLX.out _ hC.below
                      have hly := HLY.out _ hC.below
                      obtain ⟨⟨r1, f1, i1, b1, l1⟩, ⟨r2, f2, i2, b2, l2⟩, m12, m21⟩ := St.facts2 hC
                      clear hC
                      go_simp
                      have hC := hC'.out
                      (first
                         | with_reducible rfl
                         | (skip
                            (first
                               | (go_at_call 28; first | with_reducible refine (HMX.out _ hC.below).mono ?_ | with_reducible refine (HMY.out _ hC.below).mono ?_)
                               | (go_at_call 17; refine (HS.out _ hC.below).mono ?_))
                            rintro e w' ⟨rfl, hw⟩
                            exact ⟨rfl, St.call (by assumption) hw⟩)))
               try simp only [Act.put, List.setIfInBounds_toArray, List.set])
              (first
                 | (apply qw_skip rfl)
                 | (apply qw_step rfl
                    focus
                      intro w0 hC
                      (fail))
                 | (apply qw_step rfl
                    focus
                      intro w0 hC
                      have hC' := Lib.hid hC
                      have hlx := HLX.out _ hC.below
                      have hly := HLY.out _ hC.below
                      obtain ⟨⟨r1, f1, i1, b1, l1⟩, ⟨r2, f2, i2, b2, l2⟩, m12, m21⟩ := St.facts2 hC
                      clear hC
                      go_simp
                      have hC := hC'.out
                      (first
                         | with_reducible rfl
                         | (skip
                            (first
                               | (go_at_call 28; first | with_reducible refine (HMX.out _ hC.below).mono ?_ | with_reducible refine (HMY.out _ hC.below).mono ?_)
                               | (go_at_call 17; refine (HS.out _ hC.below).mono ?_))
                            rintro e w' ⟨rfl, hw⟩
                            exact ⟨rfl, St.call (by assumption) hw⟩)))
               try simp only [Act.put, List.setIfInBounds_toArray, List.set])
              (first
                 | (apply qw_skip rfl)
                 | (apply qw_step rfl
                    focus
                      intro w0 hC
                      (fail))
                 | (apply qw_step rfl
                    focus
                      intro w0 hC
                      have hC' := Lib.hid hC
                      have hlx := HLX.out _ hC.below
                      have hly := HLY.out _ hC.below
                      obtain ⟨⟨r1, f1, i1, b1, l1⟩, ⟨r2, f2, i2, b2, l2⟩, m12, m21⟩ := St.facts2 hC
                      clear hC
                      go_simp
                      have hC := hC'.out
                      (first
                         | with_reducible rfl
                         | (skip
                            (first
                               | (go_at_call 28; first | with_reducible refine (HMX.out _ hC.below).mono ?_ | with_reducible refine (HMY.out _ hC.below).mono ?_)
                               | (go_at_call 17; refine (HS.out _ hC.below).mono ?_))
                            rintro e w' ⟨rfl, hw⟩
                            exact ⟨rfl, St.call (by assumption) hw⟩)))
               try simp only [Act.put, List.setIfInBounds_toArray, List.set])
              (first
                 | (apply qw_skip rfl)
                 | (apply qw_step rfl
                    focus
                      intro w0 hC
                      (fail))
                 | (apply qw_step rfl
                    focus
                      intro w0 hC
                      have hC' := Lib.hid hC
                      have hlx := HLX.out _ hC.below
                      have hly := HLY.out _ hC.below
                      obtain ⟨⟨r1, f1, i1, b1, l1⟩, ⟨r2, f2, i2, b2, l2⟩, m12, m21⟩ := St.facts2 hC
                      clear hC
                      go_simp
                      have hC := hC'.out
                      (first
                         | with_reducible rfl
                         | (skip
                            (first
                               | (go_at_call 28; first | with_reducible refine (HMX.out _ hC.below).mono ?_ | with_reducible refine (HMY.out _ hC.below).mono ?_)
                               | (go_at_call 17; refine (HS.out _ hC.below).mono ?_))
                            rintro e w' ⟨rfl, hw⟩
                            exact ⟨rfl, St.call (by assumption) hw⟩)))
               try simp only [Act.put, List.setIfInBounds_toArray, List.set])
              (first
                 | (apply qw_skip rfl)
                 | (apply qw_step rfl
                    focus
                      intro w0 hC
                      (fail))
                 | (apply qw_step rfl
                    focus
                      intro w0 hC
                      have hC' := Lib.hid hC
                      have hlx := HLX.out _ hC.below
                      have hly := HLY.out _ hC.below
                      obtain ⟨⟨r1, f1, i1, b1, l1⟩, ⟨r2, f2, i2, b2, l2⟩, m12, m21⟩ := St.facts2 hC
                      clear hC
                      go_simp
                      have hC := hC'.out
                      (first
                         | with_reducible rfl
                         | (skip
                            (first
                               | (go_at_call 28; first | with_reducible refine (HMX.out _ hC.below).mono ?_ | with_reducible refine (HMY.out _ hC.below).mono ?_)
                               | (go_at_call 17; refine (HS.out _ hC.below).mono ?_))
                            rintro e w' ⟨rfl, hw⟩
                            exact ⟨rfl, St.call (by assumption) hw⟩)))
               try simp only [Act.put, List.setIfInBounds_toArray, List.set])
              (first
                 | (apply qw_skip rfl)
                 | (apply qw_step rfl
                    focus
                      intro w0 hC
                      (fail))
                 | (apply qw_step rfl
                    focus
                      intro w0 hC
                      have hC' := Lib.hid hC
                      have hlx := HLX.out _ hC.below
                      have hly := HLY.out _ hC.below
                      obtain ⟨⟨r1, f1, i1, b1, l1⟩, ⟨r2, f2, i2, b2, l2⟩, m12, m21⟩ := St.facts2 hC
                      clear hC
                      go_simp
                      have hC := hC'.out
                      (first
                         | with_reducible rfl
                         | (skip
                            (first
                               | (go_at_call 28; first | with_reducible refine (HMX.out _ hC.below).mono ?_ | with_reducible refine (HMY.out _ hC.below).mono ?_)
                               | (go_at_call 17; refine (HS.out _ hC.below).mono ?_))
                            rintro e w' ⟨rfl, hw⟩
                            exact ⟨rfl, St.call (by assumption) hw⟩)))
               try simp only [Act.put, List.setIfInBounds_toArray, List.set])
              (first
                 | (apply qw_skip rfl)
                 | (apply qw_step rfl
                    focus
                      intro w0 hC
                      (fail))
                 | (apply qw_step rfl
                    focus
                      intro w0 hC
                      have hC' := Lib.hid hC
                      have hlx := HLX.out _ hC.below
                      have hly := HLY.out _ hC.below
                      obtain ⟨⟨r1, f1, i1, b1, l1⟩, ⟨r2, f2, i2, b2, l2⟩, m12, m21⟩ := St.facts2 hC
                      clear hC
                      go_simp
                      have hC := hC'.out
                      (first
                         | with_reducible rfl
                         | (skip
                            (first
                               | (go_at_call 28; first | with_reducible refine (HMX.out _ hC.below).mono ?_ | with_reducible refine (HMY.out _ hC.below).mono ?_)
                               | (go_at_call 17; refine (HS.out _ hC.below).mono ?_))
                            rintro e w' ⟨rfl, hw⟩
                            exact ⟨rfl, St.call (by assumption) hw⟩)))
               try simp only [Act.put, List.setIfInBounds_toArray, List.set])
              (first
                 | (apply qw_skip rfl)
                 | (apply qw_step rfl
                    focus
                      intro w0 hC
                      (fail))
                 | (apply qw_step rfl
                    focus
                      intro w0 hC
                      have hC' := Lib.hid hC
                      have hlx := HLX.out _ hC.below
                      have hly := HLY.out _ hC.below
                      obtain ⟨⟨r1, f1, i1, b1, l1⟩, ⟨r2, f2, i2, b2, l2⟩, m12, m21⟩ := St.facts2 hC
                      clear hC
                      go_simp
                      have hC := hC'.out
                      (first
                         | with_reducible rfl
                         | (skip
                            (first
                               | (go_at_call 28; first | with_reducible refine (HMX.out _ hC.below).mono ?_ | with_reducible refine (HMY.out _ hC.below).mono ?_)
                               | (go_at_call 17; refine (HS.out _ hC.below).mono ?_))
                            rintro e w' ⟨rfl, hw⟩
                            exact ⟨rfl, St.call (by assumption) hw⟩)))
               try simp only [Act.put, List.setIfInBounds_toArray, List.set])
              (first
                 | (apply qw_skip rfl)
                 | (apply qw_step rfl
                    focus
                      intro w0 hC
                      (fail))
                 | (apply qw_step rfl
                    focus
                      intro w0 hC
                      have hC' := Lib.hid hC
                      have hlx := HLX.out _ hC.below
                      have hly := HLY.out _ hC.below
                      obtain ⟨⟨r1, f1, i1, b1, l1⟩, ⟨r2, f2, i2, b2, l2⟩, m12, m21⟩ := St.facts2 hC
                      clear hC
                      go_simp
                      have hC := hC'.out
                      (first
                         | with_reducible rfl
                         | (skip
                            (first
                               | (go_at_call 28; first | with_reducible refine (HMX.out _ hC.below).mono ?_ | with_reducible refine (HMY.out _ hC.below).mono ?_)
                               | (go_at_call 17; refine (HS.out _ hC.below).mono ?_))
                            rintro e w' ⟨rfl, hw⟩
                            exact ⟨rfl, St.call (by assumption) hw⟩)))
               try simp only [Act.put, List.setIfInBounds_toArray, List.set])
              (first
                 | (apply qw_skip rfl)
                 | (apply qw_step rfl
                    focus
                      intro w0 hC
                      (fail))
                 | (apply qw_step rfl
                    focus
                      intro w0 hC
                      have hC' := Lib.hid hC
                      have hlx := HLX.out _ hC.below
                      have hly := HLY.out _ hC.below
                      obtain ⟨⟨r1, f1, i1, b1, l1⟩, ⟨r2, f2, i2, b2, l2⟩, m12, m21⟩ := St.facts2 hC
                      clear hC
                      go_simp
                      have hC := hC'.out
                      (first
                         | with_reducible rfl
                         | (skip
                            (first
                               | (go_at_call 28; first | with_reducible refine (HMX.out _ hC.below).mono ?_ | with_reducible refine (HMY.out _ hC.below).mono ?_)
                               | (go_at_call 17; refine (HS.out _ hC.below).mono ?_))
                            rintro e w' ⟨rfl, hw⟩
                            exact ⟨rfl, St.call (by assumption) hw⟩)))
               try simp only [Act.put, List.setIfInBounds_toArray, List.set])
              (first
                 | (apply qw_skip rfl)
                 | (apply qw_step rfl
                    focus
                      intro w0 hC
                      (fail))
                 | (apply qw_step rfl
                    focus
                      intro w0 hC
                      have hC' := Lib.hid hC
                      have hlx := HLX.out _ hC.below
                      have hly := HLY.out _ hC.below
                      obtain ⟨⟨r1, f1, i1, b1, l1⟩, ⟨r2, f2, i2, b2, l2⟩, m12, m21⟩ := St.facts2 hC
                      clear hC
                      go_simp
                      have hC := hC'.out
                      (first
                         | with_reducible rfl
                         | (skip
                            (first
                               | (go_at_call 28; first | with_reducible refine (HMX.out _ hC.below).mono ?_ | with_reducible refine (HMY.out _ hC.below).mono ?_)
                               | (go_at_call 17; refine (HS.out _ hC.below).mono ?_))
                            rintro e w' ⟨rfl, hw⟩
                            exact ⟨rfl, St.call (by assumption) hw⟩)))
               try simp only [Act.put, List.setIfInBounds_toArray, List.set])
              (first
                 | (apply qw_skip rfl)
                 | (apply qw_step rfl
                    focus
                      intro w0 hC
                      (fail))
                 | (apply qw_step rfl
                    focus
                      intro w0 hC
                      have hC' := Lib.hid hC
                      have hlx := HLX.out _ hC.below
                      have hly := HLY.out _ hC.below
                      obtain ⟨⟨r1, f1, i1, b1, l1⟩, ⟨r2, f2, i2, b2, l2⟩, m12, m21⟩ := St.facts2 hC
                      clear hC
                      go_simp
                      have hC := hC'.out
                      (first
                         | with_reducible rfl
                         | (skip
                            (first
                               | (go_at_call 28; first | with_reducible refine (HMX.out _ hC.below).mono ?_ | with_reducible refine (HMY.out _ hC.below).mono ?_)
                               | (go_at_call 17; refine (HS.out _ hC.below).mono ?_))
                            rintro e w' ⟨rfl, hw⟩
                            exact ⟨rfl, St.call (by assumption) hw⟩)))
               try simp only [Act.put, List.setIfInBounds_toArray, List.set])
              (first
                 | (apply qw_skip rfl)
                 | (apply qw_step rfl
                    focus
                      intro w0 hC
                      (fail))
                 | (apply qw_step rfl
                    focus
                      intro w0 hC
                      have hC' := Lib.hid hC
                      have hlx := HLX.out _ hC.below
                      have hly := HLY.out _ hC.below
                      obtain ⟨⟨r1, f1, i1, b1, l1⟩, ⟨r2, f2, i2, b2, l2⟩, m12, m21⟩ := St.facts2 hC
                      clear hC
                      go_simp
                      have hC := hC'.out
                      (first
                         | with_reducible rfl
                         | (skip
                            (first
                               | (go_at_call 28; first | with_reducible refine (HMX.out _ hC.below).mono ?_ | with_reducible refine (HMY.out _ hC.below).mono ?_)
                               | (go_at_call 17; refine (HS.out _ hC.below).mono ?_))
                            rintro e w' ⟨rfl, hw⟩
                            exact ⟨rfl, St.call (by assumption) hw⟩)))
               try simp only [Act.put, List.setIfInBounds_toArray, List.set])
              (first
                 | (apply qw_skip rfl)
                 | (apply qw_step rfl
                    focus
                      intro w0 hC
                      (fail))
                 | (apply qw_step rfl
                    focus
                      intro w0 hC
                      have hC' := Lib.hid hC
                      have hlx := HLX.out _ hC.below
                      have hly := HLY.out _ hC.below
                      obtain ⟨⟨r1, f1, i1, b1, l1⟩, ⟨r2, f2, i2, b2, l2⟩, m12, m21⟩ := St.facts2 hC
                      clear hC
                      go_simp
                      have hC := hC'.out
                      (first
                         | with_reducible rfl
                         | (skip
                            (first
                               | (go_at_call 28; first | with_reducible refine (HMX.out _ hC.below).mono ?_ | with_reducible refine (HMY.out _ hC.below).mono ?_)
                               | (go_at_call 17; refine (HS.out _ hC.below).mono ?_))
                            rintro e w' ⟨rfl, hw⟩
                            exact ⟨rfl, St.call (by assumption) hw⟩)))
               try simp only [Act.put, List.setIfInBounds_toArray, List.set])
              (first
                 | (apply qw_skip rfl)
                 | (apply qw_step rfl
                    focus
                      intro w0 hC
                      (fail))
                 | (apply qw_step rfl
                    focus
                      intro w0 hC
                      have hC' := Lib.hid hC
                      have hlx := HLX.out _ hC.below
                      have hly := HLY.out _ hC.below
                      obtain ⟨⟨r1, f1, i1, b1, l1⟩, ⟨r2, f2, i2, b2, l2⟩, m12, m21⟩ := St.facts2 hC
                      clear hC
                      go_simp
                      have hC := hC'.out
                      (first
                         | with_reducible rfl
                         | (skip
                            (first
                               | (go_at_call 28; first | with_reducible refine (HMX.out _ hC.below).mono ?_ | with_reducible refine (HMY.out _ hC.below).mono ?_)
                               | (go_at_call 17; refine (HS.out _ hC.below).mono ?_))
                            rintro e w' ⟨rfl, hw⟩
                            exact ⟨rfl, St.call (by assumption) hw⟩)))
               try simp only [Act.put, List.setIfInBounds_toArray, List.set])
              (first
                 | (apply qw_skip rfl)
                 | (apply qw_step rfl
                    focus
                      intro w0 hC
                      (fail))
                 | (apply qw_step rfl
                    focus
                      intro w0 hC
                      have hC' := Lib.hid hC
                      have hlx := HLX.out _ hC.below
                      have hly := HLY.out _ hC.below
                      obtain ⟨⟨r1, f1, i1, b1, l1⟩, ⟨r2, f2, i2, b2, l2⟩, m12, m21⟩ := St.facts2 hC
                      clear hC
                      go_simp
                      have hC := hC'.out
                      (first
                         | with_reducible rfl
                         | (skip
                            (first
                               | (go_at_call 28; first | with_reducible refine (HMX.out _ hC.below).mono ?_ | with_reducible refine (HMY.out _ hC.below).mono ?_)
                               | (go_at_call 17; refine (HS.out _ hC.below).mono ?_))
                            rintro e w' ⟨rfl, hw⟩
                            exact ⟨rfl, St.call (by assumption) hw⟩)))
               try simp only [Act.put, List.setIfInBounds_toArray, List.set])
              refine qw_nil ?_
              intro w3 hC
              have HC := Lib.hid hC
              clear hC)
             go_wp2_with fail
             go_roundw
             case rel => exact ⟨j + 1, by omega, by go_num, HR2, HC⟩
             case measure => simp [intOf]; omega)
        · rw [if_pos ⟨rfl, ht⟩] at hR
          subst hR
          have hnm : (tx.toList != ty.toList) = true := by
            show (!(tx.toList == ty.toList)) = true
            rw [text_ne ht]; rfl
          have hnm2 : (tx.toList == ty.toList) = false := text_ne ht
          have hnm3 : ¬ tx.toList = ty.toList := fun h => by rw [h] at hnm2; rw [beq_self_eq_true] at hnm2; cases hnm2
          (((obtain ⟨⟨r1, f1, i1, b1, l1⟩, ⟨r2, f2, i2, b2, l2⟩, m12, m21⟩ := St.facts2 (HC.out.pick [0, 1] (by decide) rfl))
            go_upto_region 16 with fail
            (clear r1 f1 i1 b1 l1 r2 f2 i2 b2 l2 m12 m21)
            refine St.qregion HC.out (by kernel_rfl) (by decide +kernel) ?_
            (first
               | (apply qw_skip rfl)
               | (apply qw_step rfl
                  focus
                    intro w0 hC
                    (fail))
               | (apply qw_step rfl
                  focus
                    intro w0 hC
                    have hC' := Lib.hid hC
                    have hlx := HLX.out _ hC.below
                    have hly := HLY.out _ hC.below
                    obtain ⟨⟨r1, f1, i1, b1, l1⟩, ⟨r2, f2, i2, b2, l2⟩, m12, m21⟩ := St.facts2 hC
                    clear hC
                    go_simp
                    have hC := hC'.out
                    (first
                       | with_reducible rfl
                       | (skip
                          (first
                             | (go_at_call 28; first | with_reducible refine (HMX.out _ hC.below).mono ?_ | with_reducible refine (HMY.out _ hC.below).mono ?_)
                             | (go_at_call 17; refine (HS.out _ hC.below).mono ?_))
                          rintro e w' ⟨rfl, hw⟩
                          exact ⟨rfl, St.call (by assumption) hw⟩)))
             try simp only [Act.put, List.setIfInBounds_toArray, List.set])
            (first
               | (apply qw_skip rfl)
               | (apply qw_step rfl
                  focus
                    intro w0 hC
                    (fail))
               | (apply qw_step rfl
                  focus
                    intro w0 hC
                    have hC' := Lib.hid hC
                    have hlx := HLX.out _ hC.below
                    have hly := HLY.out _ hC.below
                    obtain ⟨⟨r1, f1, i1, b1, l1⟩, ⟨r2, f2, i2, b2, l2⟩, m12, m21⟩ := St.facts2 hC
                    clear hC
                    go_simp
                    have hC := hC'.out
                    (first
                       | with_reducible rfl
                       | (skip
                          (first
                             | (go_at_call 28; first | with_reducible refine (HMX.out _ hC.below).mono ?_ | with_reducible refine (HMY.out _ hC.below).mono ?_)
                             | (go_at_call 17; refine (HS.out _ hC.below).mono ?_))
                          rintro e w' ⟨rfl, hw⟩
                          exact ⟨rfl, St.call (by assumption) hw⟩)))
             try simp only [Act.put, List.setIfInBounds_toArray, List.set])
            (first
               | (apply qw_skip rfl)
               | (apply qw_step rfl
                  focus
                    intro w0 hC
                    (fail))
               | (apply qw_step rfl
                  focus
                    intro w0 hC
                    have hC' := Lib.hid hC
                    have hlx := HLX.out _ hC.below
                    have hly := HLY.out _ hC.below
                    obtain ⟨⟨r1, f1, i1, b1, l1⟩, ⟨r2, f2, i2, b2, l2⟩, m12, m21⟩ := St.facts2 hC
                    clear hC
                    go_simp
                    have hC := hC'.out
                    (first
                       | with_reducible rfl
                       | (skip
                          (first
                             | (go_at_call 28; first | with_reducible refine (HMX.out _ hC.below).mono ?_ | with_reducible refine (HMY.out _ hC.below).mono ?_)
                             | (go_at_call 17; refine (HS.out _ hC.below).mono ?_))
                          rintro e w' ⟨rfl, hw⟩
                          exact ⟨rfl, St.call (by assumption) hw⟩)))
             try simp only [Act.put, List.setIfInBounds_toArray, List.set])
            (first
               | (apply qw_skip rfl)
               | (apply qw_step rfl
                  focus
                    intro w0 hC
                    (fail))
               | (apply qw_step rfl
                  focus
                    intro w0 hC
                    have hC' := Lib.hid hC
                    have hlx := HLX.out _ hC.below
                    have hly := HLY.out _ hC.below
                    obtain ⟨⟨r1, f1, i1, b1, l1⟩, ⟨r2, f2, i2, b2, l2⟩, m12, m21⟩ := St.facts2 hC
                    clear hC
                    go_simp
                    have hC := hC'.out
                    (first
                       | with_reducible rfl
                       | (skip
                          (first
                             | (go_at_call 28; first | with_reducible refine (HMX.out _ hC.below).mono ?_ | with_reducible refine (HMY.out _ hC.below).mono ?_)
                             | (go_at_call 17; refine (HS.out _ hC.below).mono ?_))
                          rintro e w' ⟨rfl, hw⟩
                          exact ⟨rfl, St.call (by assumption) hw⟩)))
             try simp only [Act.put, List.setIfInBounds_toArray, List.set])
            (first
               | (apply qw_skip rfl)
               | (apply qw_step rfl
                  focus
                    intro w0 hC
                    (fail))
               | (apply qw_step rfl
                  focus
                    intro w0 hC
                    have hC' := Lib.hid hC
                    have hlx := HLX.out _ hC.below
                    have hly := HLY.out _ hC.below
                    obtain ⟨⟨r1, f1, i1, b1, l1⟩, ⟨r2, f2, i2, b2, l2⟩, m12, m21⟩ := St.facts2 hC
                    clear hC
                    go_simp
                    have hC := hC'.out
                    (first
                       | with_reducible rfl
                       | (skip
                          (first
                             | (go_at_call 28; first | with_reducible refine (HMX.out _ hC.below).mono ?_ | with_reducible refine (HMY.out _ hC.below).mono ?_)
                             | (go_at_call 17; refine (HS.out _ hC.below).mono ?_))
                          rintro e w' ⟨rfl, hw⟩
                          exact ⟨rfl, St.call (by assumption) hw⟩)))
             try simp only [Act.put, List.setIfInBounds_toArray, List.set])
            (first
               | (apply qw_skip rfl)
               | (apply qw_step rfl
                  focus
                    intro w0 hC
                    (fail))
               | (apply qw_step rfl
                  focus
                    intro w0 hC
                    have hC' := Lib.hid hC
                    have hlx := HLX.out _ hC.below
                    have hly := HLY.out _ hC.below
                    obtain ⟨⟨r1, f1, i1, b1, l1⟩, ⟨r2, f2, i2, b2, l2⟩, m12, m21⟩ := St.facts2 hC
                    clear hC
                    go_simp
                    have hC := hC'.out
                    (first
                       | with_reducible rfl
                       | (skip
                          (first
                             | (go_at_call 28; first | with_reducible refine (HMX.out _ hC.below).mono ?_ | with_reducible refine (HMY.out _ hC.below).mono ?_)
                             | (go_at_call 17; refine (HS.out _ hC.below).mono ?_))
                          rintro e w' ⟨rfl, hw⟩
                          exact ⟨rfl, St.call (by assumption) hw⟩)))
             try simp only [Act.put, List.setIfInBounds_toArray, List.set])
            (first
               | (apply qw_skip rfl)
               | (apply qw_step rfl
                  focus
                    intro w0 hC
                    (fail))
               | (apply qw_step rfl
                  focus
                    intro w0 hC
                    have hC' := Lib.hid hC
                    have hlx := HLX.out _ hC.below
                    have hly := HLY.out _ hC.below
                    obtain ⟨⟨r1, f1, i1, b1, l1⟩, ⟨r2, f2, i2, b2, l2⟩, m12, m21⟩ := St.facts2 hC
                    clear hC
                    go_simp
                    have hC := hC'.out
                    (first
                       | with_reducible rfl
                       | (skip
                          (first
                             | (go_at_call 28; first | with_reducible refine (HMX.out _ hC.below).mono ?_ | with_reducible refine (HMY.out _ hC.below).mono ?_)
                             | (go_at_call 17; refine (HS.out _ hC.below).mono ?_))
                          rintro e w' ⟨rfl, hw⟩
                          exact ⟨rfl, St.call (by assumption) hw⟩)))
             try simp only [Act.put, List.setIfInBounds_toArray, List.set])
            (first
               | (apply qw_skip rfl)
               | (apply qw_step rfl
                  focus
                    intro w0 hC
                    (fail))
               | (apply qw_step rfl
                  focus
                    intro w0 hC
                    have hC' := Lib.hid hC
                    have hlx := HLX.out _ hC.below
                    have hly := HLY.out _ hC.below
                    obtain ⟨⟨r1, f1, i1, b1, l1⟩, ⟨r2, f2, i2, b2, l2⟩, m12, m21⟩ := St.facts2 hC
                    clear hC
                    go_simp
                    have hC := hC'.out
                    (first
                       | with_reducible rfl
                       | (skip
                          (first
                             | (go_at_call 28; first | with_reducible refine (HMX.out _ hC.below).mono ?_ | with_reducible refine (HMY.out _ hC.below).mono ?_)
                             | (go_at_call 17; refine (HS.out _ hC.below).mono ?_))
                          rintro e w' ⟨rfl, hw⟩
                          exact ⟨rfl, St.call (by assumption) hw⟩)))
             try simp only [Act.put, List.setIfInBounds_toArray, List.set])
            (first
               | (apply qw_skip rfl)
               | (apply qw_step rfl
                  focus
                    intro w0 hC
                    (fail))
               | (apply qw_step rfl
                  focus
                    intro w0 hC
                    have hC' := Lib.hid hC
                    have hlx := HLX.out _ hC.below
                    have hly := HLY.out _ hC.below
                    obtain ⟨⟨r1, f1, i1, b1, l1⟩, ⟨r2, f2, i2, b2, l2⟩, m12, m21⟩ := St.facts2 hC
                    clear hC
                    go_simp
                    have hC := hC'.out
                    (first
                       | with_reducible rfl
                       | (skip
                          (first
                             | (go_at_call 28; first | with_reducible refine (HMX.out _ hC.below).mono ?_ | with_reducible refine (HMY.out _ hC.below).mono ?_)
                             | (go_at_call 17; refine (HS.out _ hC.below).mono ?_))
                          rintro e w' ⟨rfl, hw⟩
                          exact ⟨rfl, St.call (by assumption) hw⟩)))
             try simp only [Act.put, List.setIfInBounds_toArray, List.set])
            (first
               | (apply qw_skip rfl)
               | (apply qw_step rfl
                  focus
                    intro w0 hC
                    (fail))
               | (apply qw_step rfl
                  focus
                    intro w0 hC
                    have hC' := Lib.hid hC
                    have hlx := HLX.out _ hC.below
                    have hly := HLY.out _ hC.below
                    obtain ⟨⟨r1, f1, i1, b1, l1⟩, ⟨r2, f2, i2, b2, l2⟩, m12, m21⟩ := St.facts2 hC
                    clear hC
                    go_simp
                    have hC := hC'.out
                    (first
                       | with_reducible rfl
                       | (skip
                          (first
                             | (go_at_call 28; first | with_reducible refine (HMX.out _ hC.below).mono ?_ | with_reducible refine (HMY.out _ hC.below).mono ?_)
                             | (go_at_call 17; refine (HS.out _ hC.below).mono ?_))
                          rintro e w' ⟨rfl, hw⟩
                          exact ⟨rfl, St.call (by assumption) hw⟩)))
             try simp only [Act.put, List.setIfInBounds_toArray, List.set])
            (first
               | (apply qw_skip rfl)
               | (apply qw_step rfl
                  focus
                    intro w0 hC
                    (fail))
               | (apply qw_step rfl
                  focus
                    intro w0 hC
                    have hC' := Lib.hid hC
                    have hlx := HLX.out _ hC.below
                    have hly := HLY.out _ hC.below
                    obtain ⟨⟨r1, f1, i1, b1, l1⟩, ⟨r2, f2, i2, b2, l2⟩, m12, m21⟩ := St.facts2 hC
                    clear hC
                    go_simp
                    have hC := hC'.out
                    (first
                       | with_reducible rfl
                       | (skip
                          (first
                             | (go_at_call 28; first | with_reducible refine (HMX.out _ hC.below).mono ?_ | with_reducible refine (HMY.out _ hC.below).mono ?_)
                             | (go_at_call 17; refine (HS.out _ hC.below).mono ?_))
                          rintro e w' ⟨rfl, hw⟩
                          exact ⟨rfl, St.call (by assumption) hw⟩)))
             try simp only [Act.put, List.setIfInBounds_toArray, List.set])
            (first
               | (apply qw_skip rfl)
               | (apply qw_step rfl
                  focus
                    intro w0 hC
                    (fail))
               | (apply qw_step rfl
                  focus
                    intro w0 hC
                    have hC' := Lib.hid hC
                    have hlx := HLX.out _ hC.below
                    have hly := HLY.out _ hC.below
                    obtain ⟨⟨r1, f1, i1, b1, l1⟩, ⟨r2, f2, i2, b2, l2⟩, m12, m21⟩ := St.facts2 hC
                    clear hC
                    go_simp
                    have hC := hC'.out
                    (first
                       | with_reducible rfl
                       | (skip
                          (first
                             | (go_at_call 28; first | with_reducible refine (HMX.out _ hC.below).mono ?_ | with_reducible refine (HMY.out _ hC.below).mono ?_)
                             | (go_at_call 17; refine (HS.out _ hC.below).mono ?_))
                          rintro e w' ⟨rfl, hw⟩
                          exact ⟨rfl, St.call (by assumption) hw⟩)))
             try simp only [Act.put, List.setIfInBounds_toArray, List.set])
            (first
               | (apply qw_skip rfl)
               | (apply qw_step rfl
                  focus
                    intro w0 hC
                    (fail))
               | (apply qw_step rfl
                  focus
                    intro w0 hC
                    have hC' := Lib.hid hC
                    have hlx := HLX.out _ hC.below
                    have hly := HLY.out _ hC.below
                    obtain ⟨⟨r1, f1, i1, b1, l1⟩, ⟨r2, f2, i2, b2, l2⟩, m12, m21⟩ := St.facts2 hC
                    clear hC
                    go_simp
                    have hC := hC'.out
                    (first
                       | with_reducible rfl
                       | (skip
                          (first
                             | (go_at_call 28; first | with_reducible refine (HMX.out _ hC.below).mono ?_ | with_reducible refine (HMY.out _ hC.below).mono ?_)
                             | (go_at_call 17; refine (HS.out _ hC.below).mono ?_))
                          rintro e w' ⟨rfl, hw⟩
                          exact ⟨rfl, St.call (by assumption) hw⟩)))
             try simp only [Act.put, List.setIfInBounds_toArray, List.set])
            (first
               | (apply qw_skip rfl)
               | (apply qw_step rfl
                  focus
                    intro w0 hC
                    (fail))
               | (apply qw_step rfl
                  focus
                    intro w0 hC
                    have hC' := Lib.hid hC
                    have hlx := HLX.out _ hC.below
                    have hly := HLY.out _ hC.below
                    obtain ⟨⟨r1, f1, i1, b1, l1⟩, ⟨r2, f2, i2, b2, l2⟩, m12, m21⟩ := St.facts2 hC
                    clear hC
                    go_simp
                    have hC := hC'.out
                    (first
                       | with_reducible rfl
                       | (skip
                          (first
                             | (go_at_call 28; first | with_reducible refine (HMX.out _ hC.below).mono ?_ | with_reducible refine (HMY.out _ hC.below).mono ?_)
                             | (go_at_call 17; refine (HS.out _ hC.below).mono ?_))
                          rintro e w' ⟨rfl, hw⟩
                          exact ⟨rfl, St.call (by assumption) hw⟩)))
             try simp only [Act.put, List.setIfInBounds_toArray, List.set])
            (first
               | (apply qw_skip rfl)
               | (apply qw_step rfl
                  focus
                    intro w0 hC
                    (fail))
               | (apply qw_step rfl
                  focus
                    intro w0 hC
                    have hC' := Lib.hid hC
                    have hlx := HLX.out _ hC.below
                    have hly := HLY.out _ hC.below
                    obtain ⟨⟨r1, f1, i1, b1, l1⟩, ⟨r2, f2, i2, b2, l2⟩, m12, m21⟩ := St.facts2 hC
                    clear hC
                    go_simp
                    have hC := hC'.out
                    (first
                       | with_reducible rfl
                       | (skip
                          (first
                             | (go_at_call 28; first | with_reducible refine (HMX.out _ hC.below).mono ?_ | with_reducible refine (HMY.out _ hC.below).mono ?_)
                             | (go_at_call 17; refine (HS.out _ hC.below).mono ?_))
                          rintro e w' ⟨rfl, hw⟩
                          exact ⟨rfl, St.call (by assumption) hw⟩)))
             try simp only [Act.put, List.setIfInBounds_toArray, List.set])
            (first
               | (apply qw_skip rfl)
               | (apply qw_step rfl
                  focus
                    intro w0 hC
                    (fail))
               | (apply qw_step rfl
                  focus
                    intro w0 hC
                    have hC' := Lib.hid hC
                    have hlx := HLX.out _ hC.below
                    have hly := HLY.out _ hC.below
                    obtain ⟨⟨r1, f1, i1, b1, l1⟩, ⟨r2, f2, i2, b2, l2⟩, m12, m21⟩ := St.facts2 hC
                    clear hC
                    go_simp
                    have hC := hC'.out
                    (first
                       | with_reducible rfl
                       | (skip
                          (first
                             | (go_at_call 28; first | with_reducible refine (HMX.out _ hC.below).mono ?_ | with_reducible refine (HMY.out _ hC.below).mono ?_)
                             | (go_at_call 17; refine (HS.out _ hC.below).mono ?_))
                          rintro e w' ⟨rfl, hw⟩
                          exact ⟨rfl, St.call (by assumption) hw⟩)))
             try simp only [Act.put, List.setIfInBounds_toArray, List.set])
            (first
               | (apply qw_skip rfl)
               | (apply qw_step rfl
                  focus
                    intro w0 hC
                    (fail))
               | (apply qw_step rfl
                  focus
                    intro w0 hC
                    have hC' := Lib.hid hC
                    have hlx := HLX.out _ hC.below
                    have hly := HLY.out _ hC.below
                    obtain ⟨⟨r1, f1, i1, b1, l1⟩, ⟨r2, f2, i2, b2, l2⟩, m12, m21⟩ := St.facts2 hC
                    clear hC
                    go_simp
                    have hC := hC'.out
                    (first
                       | with_reducible rfl
                       | (skip
                          (first
                             | (go_at_call 28; first | with_reducible refine (HMX.out _ hC.below).mono ?_ | with_reducible refine (HMY.out _ hC.below).mono ?_)
                             | (go_at_call 17; refine (HS.out _ hC.below).mono ?_))
                          rintro e w' ⟨rfl, hw⟩
                          exact ⟨rfl, St.call (by assumption) hw⟩)))
             try simp only [Act.put, List.setIfInBounds_toArray, List.set])
            (first
               | (apply qw_skip rfl)
               | (apply qw_step rfl
                  focus
                    intro w0 hC
                    (fail))
               | (apply qw_step rfl
                  focus
                    intro w0 hC
                    have hC' := Lib.hid hC
                    have hlx := HLX.out _ hC.below
                    have hly := HLY.out _ hC.below
                    obtain ⟨⟨r1, f1, i1, b1, l1⟩, ⟨r2, f2, i2, b2, l2⟩, m12, m21⟩ := St.facts2 hC
                    clear hC
                    go_simp
                    have hC := hC'.out
                    (first
                       | with_reducible rfl
                       | (skip
                          (first
                             | (go_at_call 28; first | with_reducible refine (HMX.out _ hC.below).mono ?_ | with_reducible refine (HMY.out _ hC.below).mono ?_)
                             | (go_at_call 17; refine (HS.out _ hC.below).mono ?_))
                          rintro e w' ⟨rfl, hw⟩
                          exact ⟨rfl, St.call (by assumption) hw⟩)))
             try simp only [Act.put, List.setIfInBounds_toArray, List.set])
            (first
               | (apply qw_skip rfl)
               | (apply qw_step rfl
                  focus
                    intro w0 hC
                    (fail))
               | (apply qw_step rfl
                  focus
                    intro w0 hC
                    have hC' := Lib.hid hC
                    have hlx := HLX.out _ hC.below
                    have hly := HLY.out _ hC.below
                    obtain ⟨⟨r1, f1, i1, b1, l1⟩, ⟨r2, f2, i2, b2, l2⟩, m12, m21⟩ := St.facts2 hC
                    clear hC
                    go_simp
                    have hC := hC'.out
                    (first
                       | with_reducible rfl
                       | (skip
                          (first
                             | (go_at_call 28; first | with_reducible refine (HMX.out _ hC.below).mono ?_ | with_reducible refine (HMY.out _ hC.below).mono ?_)
                             | (go_at_call 17; refine (HS.out _ hC.below).mono ?_))
                          rintro e w' ⟨rfl, hw⟩
                          exact ⟨rfl, St.call (by assumption) hw⟩)))
             try simp only [Act.put, List.setIfInBounds_toArray, List.set])
            (first
               | (apply qw_skip rfl)
               | (apply qw_step rfl
                  focus
                    intro w0 hC
                    (fail))
               | (apply qw_step rfl
                  focus
                    intro w0 hC
                    have hC' := Lib.hid hC
                    have hlx := HLX.out _ hC.below
                    have hly := HLY.out _ hC.below
                    obtain ⟨⟨r1, f1, i1, b1, l1⟩, ⟨r2, f2, i2, b2, l2⟩, m12, m21⟩ := St.facts2 hC
                    clear hC
                    go_simp
                    have hC := hC'.out
                    (first
                       | with_reducible rfl
                       | (skip
                          (first
                             | (go_at_call 28; first | with_reducible refine (HMX.out _ hC.below).mono ?_ | with_reducible refine (HMY.out _ hC.below).mono ?_)
                             | (go_at_call 17; refine (HS.out _ hC.below).mono ?_))
                          rintro e w' ⟨rfl, hw⟩
                          exact ⟨rfl, St.call (by assumption) hw⟩)))
             try simp only [Act.put, List.setIfInBounds_toArray, List.set])
            (first
               | (apply qw_skip rfl)
               | (apply qw_step rfl
                  focus
                    intro w0 hC
                    (fail))
               | (apply qw_step rfl
                  focus
                    intro w0 hC
                    have hC' := Lib.hid hC
                    have hlx := HLX.out _ hC.below
                    have hly := HLY.out _ hC.below
                    obtain ⟨⟨r1, f1, i1, b1, l1⟩, ⟨r2, f2, i2, b2, l2⟩, m12, m21⟩ := St.facts2 hC
                    clear hC
                    go_simp
                    have hC := hC'.out
                    (first
                       | with_reducible rfl
                       | (skip
                          (first
                             | (go_at_call 28; first | with_reducible refine (HMX.out _ hC.below).mono ?_ | with_reducible refine (HMY.out _ hC.below).mono ?_)
                             | (go_at_call 17; refine (HS.out _ hC.below).mono ?_))
                          rintro e w' ⟨rfl, hw⟩
                          exact ⟨rfl, St.call (by assumption) hw⟩)))
             try simp only [Act.put, List.setIfInBounds_toArray, List.set])
            (first
               | (apply qw_skip rfl)
               | (apply qw_step rfl
                  focus
                    intro w0 hC
                    (fail))
               | (apply qw_step rfl
                  focus
                    intro w0 hC
                    have hC' := Lib.hid hC
                    have hlx := HLX.out _ hC.below
                    have hly := HLY.out _ hC.below
                    obtain ⟨⟨r1, f1, i1, b1, l1⟩, ⟨r2, f2, i2, b2, l2⟩, m12, m21⟩ := St.facts2 hC
                    clear hC
                    go_simp
                    have hC := hC'.out
                    (first
                       | with_reducible rfl
                       | (skip
                          (first
                             | (go_at_call 28; first | with_reducible refine (HMX.out _ hC.below).mono ?_ | with_reducible refine (HMY.out _ hC.below).mono ?_)
                             | (go_at_call 17; refine (HS.out _ hC.below).mono ?_))
                          rintro e w' ⟨rfl, hw⟩
                          exact ⟨rfl, St.call (by assumption) hw⟩)))
             try simp only [Act.put, List.setIfInBounds_toArray, List.set])
            (first
               | (apply qw_skip rfl)
               | (apply qw_step rfl
                  focus
                    intro w0 hC
                    (fail))
               | (apply qw_step rfl
                  focus
                    intro w0 hC
                    have hC' := Lib.hid hC
                    have hlx := HLX.out _ hC.below
                    have hly := HLY.out _ hC.below
                    obtain ⟨⟨r1, f1, i1, b1, l1⟩, ⟨r2, f2, i2, b2, l2⟩, m12, m21⟩ := St.facts2 hC
                    clear hC
                    go_simp
                    have hC := hC'.out
                    (first
                       | with_reducible rfl
                       | (skip
                          (first
                             | (go_at_call 28; first | with_reducible refine (HMX.out _ hC.below).mono ?_ | with_reducible refine (HMY.out _ hC.below).mono ?_)
                             | (go_at_call 17; refine (HS.out _ hC.below).mono ?_))
                          rintro e w' ⟨rfl, hw⟩
                          exact ⟨rfl, St.call (by assumption) hw⟩)))
             try simp only [Act.put, List.setIfInBounds_toArray, List.set])
            (first
               | (apply qw_skip rfl)
               | (apply qw_step rfl
                  focus
                    intro w0 hC
                    (fail))
               | (apply qw_step rfl
                  focus
                    intro w0 hC
                    have hC' := Lib.hid hC
                    have hlx := HLX.out _ hC.below
                    have hly := HLY.out _ hC.below
                    obtain ⟨⟨r1, f1, i1, b1, l1⟩, ⟨r2, f2, i2, b2, l2⟩, m12, m21⟩ := St.facts2 hC
                    clear hC
                    go_simp
                    have hC := hC'.out
                    (first
                       | with_reducible rfl
                       | (skip
                          (first
                             | (go_at_call 28; first | with_reducible refine (HMX.out _ hC.below).mono ?_ | with_reducible refine (HMY.out _ hC.below).mono ?_)
                             | (go_at_call 17; refine (HS.out _ hC.below).mono ?_))
                          rintro e w' ⟨rfl, hw⟩
                          exact ⟨rfl, St.call (by assumption) hw⟩)))
             try simp only [Act.put, List.setIfInBounds_toArray, List.set])
            (first
               | (apply qw_skip rfl)
               | (apply qw_step rfl
                  focus
                    intro w0 hC
                    (fail))
               | (apply qw_step rfl
                  focus
                    intro w0 hC
                    have hC' := Lib.hid hC
                    have hlx := HLX.out _ hC.below
                    have hly := HLY.out _ hC.below
                    obtain ⟨⟨r1, f1, i1, b1, l1⟩, ⟨r2, f2, i2, b2, l2⟩, m12, m21⟩ := St.facts2 hC
                    clear hC
                    go_simp
                    have hC := hC'.out
                    (first
                       | with_reducible rfl
                       | (skip
                          (first
                             | (go_at_call 28; first | with_reducible refine (HMX.out _ hC.below).mono ?_ | with_reducible refine (HMY.out _ hC.below).mono ?_)
                             | (go_at_call 17; refine (HS.out _ hC.below).mono ?_))
                          rintro e w' ⟨rfl, hw⟩
                          exact ⟨rfl, St.call (by assumption) hw⟩)))
             try simp only [Act.put, List.setIfInBounds_toArray, List.set])
            (first
               | (apply qw_skip rfl)
               | (apply qw_step rfl
                  focus
                    intro w0 hC
                    (fail))
               | (apply qw_step rfl
                  focus
                    intro w0 hC
                    have hC' := Lib.hid hC
                    have hlx := HLX.out _ hC.below
                    have hly := HLY.out _ hC.below
                    obtain ⟨⟨r1, f1, i1, b1, l1⟩, ⟨r2, f2, i2, b2, l2⟩, m12, m21⟩ := St.facts2 hC
                    clear hC
                    go_simp
                    have hC := hC'.out
                    (first
                       | with_reducible rfl
                       | (skip
                          (first
                             | (go_at_call 28; first | with_reducible refine (HMX.out _ hC.below).mono ?_ | with_reducible refine (HMY.out _ hC.below).mono ?_)
                             | (go_at_call 17; refine (HS.out _ hC.below).mono ?_))
                          rintro e w' ⟨rfl, hw⟩
                          exact ⟨rfl, St.call (by assumption) hw⟩)))
             try simp only [Act.put, List.setIfInBounds_toArray, List.set])
            refine qw_nil ?_
            intro w3 hC
            have HC := Lib.hid hC
            clear hC)
           go_wp2_with fail
           go_ret
           exact ⟨rfl, HC.out.below⟩)
    · obtain rfl : j = kn := by omega
      have hR := HR.out
      rw [List.drop_of_length_le (by have := HK.out.1; omega), sameLs] at hR
      subst hR
      clear HR
      (obtain ⟨⟨r1, f1, i1, b1, l1⟩, ⟨r2, f2, i2, b2, l2⟩, m12, m21⟩ := St.facts2 (HC.out.pick [0, 1] (by decide) rfl))
      go_wp2_with fail
      go_ret
      exact ⟨rfl, HC.out.below⟩
end Go.Proofs.Ytinlcpenllfcpaa
