/- The reference's Check of any tree; the program's within, checkAny, checkPairs, check, Check. -/
import Derived.Test.YtinlcpenllfcpaaEnCheck
namespace Go.Proofs.Ytinlcpenllfcpaa
open Go.RowKit
attribute [local go_sem] B_xor B_or B_and
attribute [local go_sem] blk_set blk_size blk_get blk_getE upd_same oneCells_blk paste_blk cut_blk szOf
attribute [local go_sem high] paste_all cut_head
attribute [local go_sem] rowAt_alloc rowAt_drew rowAt_drewN isRow_alloc isRow_drew isRow_drewN freeRow_alloc freeRow_end freeRow_drew freeRow_drewN
attribute [local go_sem] setRow_alloc setRow_drew setRow_drewN setCell_drewN alloc_drewN rowAt_put isRow_setRow freeRow_put
attribute [local go_sem ↓] loadS_in storeS_in indexS_in copyS_in
attribute [local go_sem] loadS_row loadS_one storeS_row storeS_one indexS_blk copyS_rows run_equalIn_blk same_refl arrayAt_row
attribute [local go_sem] cell_row frozen_row st_setCell st_blk_ne stepAt stepUpon
attribute [local go_sem high] run_eql_blk run_neq_blk
attribute [local go_sem ↓] convBS_in
attribute [local go_sem] convBS_row convBS_nil allBytes_blk bytesOf_blk

theorem refCheck_any : ∀ (x : Nd) (c : NdC) (d : Nat), d ≤ 10 → ∀ w, NodeAt w c x → Calls Try.prog 12 #[.agg (ndC c), .int .i64 (d : Int)] w fun e w' => e = .returned (.int .i64 ((ndChk x d : Nat) : Int)) ∧ Below w.heap.size w w' := by
  refine Nd.ind fun k n s kids names ih => ?_
  intro c d hd w h
  have h0 := h
  cases h with
  | mk c kids names cs hk hn e1 e2 e3 e4 e5 =>
    obtain ⟨k, n, s, ka, kn, kc, na, nn, nc⟩ := c
    dsimp only at e1 e2 e3 e5
    subst e1 e2
    exact refCheckC k n s ka kc na nc kids names cs d hd hk w e3 (fun i w' hb => name_any _ _ i w' (h0.call hb (Nat.le_refl _)))
      (fun i hi w' hb hd' => ih kids[i] (List.getElem_mem hi) (cs i) (d + 1) hd' w' ((e4 i hi).call hb (Nat.le_refl _)))
def withinE (d n : Nat) : Nat := if 4 ≤ d then 24 else if 64 < n then 5 else 0
theorem within_any (d n : Nat) (w : World) : Calls Try.prog 57 #[.int .i64 (d : Int), .int .i64 (n : Int)] w fun e w' => e = .returned (.int .i64 ((withinE d n : Nat) : Int)) ∧ Below w.heap.size w w' := by
  unfold withinE
  by_cases h1 : 4 ≤ d
  · rw [if_pos h1]
    have d1 : decide (4 ≤ (d : Int)) = true := decide_eq_true (by omega)
    go_enter Try.func57, Try.ntmps57
    go_wp2_with fail
    go_ret
    exact ⟨rfl, Below.refl _ _⟩
  · rw [if_neg h1]
    have d1 : decide (4 ≤ (d : Int)) = false := decide_eq_false (by omega)
    by_cases h2 : 64 < n
    · rw [if_pos h2]
      have d2 : decide (64 < (n : Int)) = true := decide_eq_true (by omega)
      clear h1 h2
      go_enter Try.func57, Try.ntmps57
      go_wp2_with fail
      go_ret
      exact ⟨rfl, Below.refl _ _⟩
    · rw [if_neg h2]
      have d2 : decide (64 < (n : Int)) = false := decide_eq_false (by omega)
      clear h1 h2
      go_enter Try.func57, Try.ntmps57
      go_wp2_with fail
      go_ret
      exact ⟨rfl, Below.refl _ _⟩
set_option maxRecDepth 100000 in
set_option maxHeartbeats 2000000 in
theorem checkAny_any (kids : List Nd) (names : List ByteArray) (a : Option Addr) (c : Nat) (vs : Nat → Value) (d : Nat) (hd : d ≤ 10) (w : World) (h3 : ElemsAt w a kids.length 1 fun i => #[vs i])
    (IH : ∀ i (h : i < kids.length) w', Below w.heap.size w w' → d + 1 ≤ 10 → Calls Try.prog 29 #[vs i, .int .i64 ((d : Int) + 1)] w' fun e w'' => e = .returned (.int .i64 ((ndChk kids[i] (d + 1) : Nat) : Int)) ∧ Below w'.heap.size w' w'') :
    Calls Try.prog 41 #[.slice a kids.length c, .int .i64 (d : Int)] w fun e w' => e = .returned (.int .i64 (((if withinE d kids.length ≠ 0 then withinE d kids.length else chkL false names 0 kids (d + 1) : Nat) : Nat) : Int)) ∧ Below w.heap.size w w' := by
  have HC := Lib.hid (St.nil w)
  obtain ⟨kl, hkl⟩ : ∃ kl, kids.length = kl := ⟨_, rfl⟩
  have HW := Lib.hid (within_any d kids.length)
  rw [hkl] at h3 HW ⊢
  by_cases hE : withinE d kl = 0
  · have hd3 : d + 1 ≤ 10 := by unfold withinE at hE; split at hE <;> omega
    rw [hE] at HW
    rw [if_neg (fun h => h hE)]
    obtain ⟨R, hR⟩ : ∃ R, chkL false names 0 kids (d + 1) = R := ⟨_, rfl⟩
    rw [hR]
    have HR := Lib.hid hR
    have H3 := Lib.hid h3
    have HI := Lib.hid IH
    have HK := Lib.hid hkl
    have d10 : (d : Int) ≤ 10 := by omega
    have k64 : (kl : Int) ≤ 64 := by unfold withinE at hE; split at hE <;> (try split at hE) <;> omega
    clear hR h3 IH hkl hE
    go_enter Try.func41, Try.ntmps41
    go_wp2_with fail
    refine (HW.out _).mono ?_; rintro e w1 ⟨rfl, hw⟩
    have HC := Lib.hid (HC.out.call hw)
    clear hw
    go_wp2_with fail
    go_loopw [18] (fun i wr => ∃ j : Nat, j ≤ kl ∧ i = .int .i64 (j : Int) ∧ Hid (chkL false names j (kids.drop j) (d + 1) = R) ∧ Hid (St w [] wr)) (fun i _ => kl - (intOf i).toNat)
    case atStart => exact ⟨0, by omega, rfl, HR, HC⟩
    case round =>
      clear HC HR
      obtain ⟨j, hj, rfl, HR, HC⟩ := hrel
      by_cases hlt : j < kl
      · have d6 : (j : Int) < (kl : Int) := by omega
        have hjn : j < kids.length := by rw [HK.out]; exact hlt
        obtain ⟨ad, rfl⟩ := H3.out.some j hlt
        have hl := ((H3.out.call HC.out.below (Nat.le_refl _)).at j hlt)
        rw [Nat.mul_one] at hl
        have k1 := hl.2.1
        have k2 := hl.first (by omega)
        rw [show (#[vs j] : Array Value)[0]? = some (vs j) from rfl] at k2
        clear hl
        have hR := HR.out
        rw [List.drop_eq_getElem_cons hjn, chkL_plain] at hR
        have HX := Lib.hid (fun w' (hb : Below w.heap.size w w') => HI.out j hjn w' hb hd3)
        generalize ndChk kids[j] (d + 1) = X at hR HX
        generalize vs j = v at k2 HX
        by_cases hx0 : X = 0
        · rw [if_neg (fun h => h hx0)] at hR
          have HR2 := Lib.hid hR
          subst hx0
          clear HR hR
          go_wp2_with fail
          refine (HX.out _ HC.out.below).mono ?_; rintro e w4 ⟨rfl, hw⟩
          have HC := Lib.hid (HC.out.call hw)
          clear hw k1 k2
          go_wp2_with fail
          go_roundw
          case rel => exact ⟨j + 1, by omega, by go_num, HR2, HC⟩
          case measure => simp [intOf]; omega
        · rw [if_pos hx0] at hR
          have d8 : ((X : Int) != 0) = true := by rw [bne_iff_ne]; omega
          subst hR
          clear HR hx0
          go_wp2_with fail
          refine (HX.out _ HC.out.below).mono ?_; rintro e w4 ⟨rfl, hw⟩
          have HC := Lib.hid (HC.out.call hw)
          clear hw k1 k2
          go_wp2_with fail
          go_ret
          exact ⟨rfl, HC.out.below⟩
      · obtain rfl : j = kl := by omega
        have hR := HR.out
        rw [List.drop_of_length_le (by rw [HK.out]; exact Nat.le_refl _)] at hR
        unfold chkL at hR
        subst hR
        clear HR
        go_wp2_with fail
        go_ret
        exact ⟨rfl, HC.out.below⟩
  · rw [if_pos hE]
    have d8 : (((withinE d kl : Nat) : Int) != 0) = true := by rw [bne_iff_ne]; omega
    generalize withinE d kl = E at HW d8
    clear hE h3 IH hkl
    go_enter Try.func41, Try.ntmps41
    go_wp2_with fail
    refine (HW.out _).mono ?_; rintro e w1 ⟨rfl, hw⟩
    have HC := Lib.hid (HC.out.call hw)
    clear hw
    go_wp2_with fail
    go_ret
    exact ⟨rfl, HC.out.below⟩
theorem pairC_size (s : ByteArray) (v : Value) : (pairC s v).size = 2 := by simp [pairC]
theorem pairC_get0 (s : ByteArray) (v : Value) : (pairC s v)[0]? = some (.string s) := by simp [pairC]
theorem pairC_get1 (s : ByteArray) (v : Value) : (pairC s v)[1]? = some v := by simp [pairC]
theorem pairC_getE0 (s : ByteArray) (v : Value) (h : 0 < (pairC s v).size) : (pairC s v)[0]'h = .string s := by simp [pairC]
theorem pairC_getE1 (s : ByteArray) (v : Value) (h : 1 < (pairC s v).size) : (pairC s v)[1]'h = v := by simp [pairC]
theorem pairC_ne (s : ByteArray) (v : Value) : (pairC s v = #[]) = False := by simp [pairC]
theorem pairC_one (s : ByteArray) (v : Value) (h : v.oneCell' = true) : oneCells (pairC s v) = true := by
  simp only [oneCells, pairC, List.all_toArray, List.all_cons, List.all_nil, h, Bool.and_true]; rfl
theorem pairC_cut (s : ByteArray) (v : Value) : cut (pairC s v) 0 2 = pairC s v := by simp [cut, pairC]
theorem pairC_paste (s t : ByteArray) (v u : Value) : paste (pairC s v) 0 (pairC t u) = pairC t u := paste_whole _ _ (by rw [pairC_size, pairC_size])
theorem pairC_set0 (s t : ByteArray) (v : Value) : (pairC s v).setIfInBounds 0 (.string t) = pairC t v := by simp [pairC]
theorem pairC_set1 (s : ByteArray) (v u : Value) : (pairC s v).setIfInBounds 1 u = pairC s u := by simp [pairC]
theorem pairC_zero : #[Value.string ⟨#[]⟩, .nilIface] = pairC ⟨#[]⟩ .nilIface := rfl
theorem size_pair (w : World) : (sizeOf 60).run Try.prog w = .ok 2 w := by simp [go_sem]
theorem agg_pair (w : World) : (isAgg 60).run Try.prog w = .ok true w := by simp [go_sem]
theorem Lies.pair {w : World} {a : Addr} {s : ByteArray} {v : Value} (h : Lies w a 2 (pairC s v)) : (loadS 60 (.pointer (some a))).run Try.prog w = .ok (.agg (pairC s v)) w :=
  run_loadAt_of _ _ _ _ (agg_pair w) (size_pair w) (h.loads (pairC_size s v))
attribute [local go_sem] pairC_size pairC_get0 pairC_get1 pairC_getE0 pairC_getE1 pairC_ne pairC_one pairC_cut pairC_paste pairC_set0 pairC_set1 size_pair agg_pair
set_option maxRecDepth 100000 in
set_option maxHeartbeats 4000000 in
theorem checkPairs_any (kids : List Nd) (names : List ByteArray) (a : Option Addr) (c : Nat) (vs : Nat → Value) (d : Nat) (hd : d ≤ 10) (w : World) (h3 : ElemsAt w a kids.length 2 fun i => pairC (nameOf names i) (vs i)) (h1 : ∀ i, i < kids.length → (vs i).oneCell' = true)
    (IH : ∀ i (h : i < kids.length) w', Below w.heap.size w w' → d + 1 ≤ 10 → Calls Try.prog 29 #[vs i, .int .i64 ((d : Int) + 1)] w' fun e w'' => e = .returned (.int .i64 ((ndChk kids[i] (d + 1) : Nat) : Int)) ∧ Below w'.heap.size w' w'') :
    Calls Try.prog 42 #[.slice a kids.length c, .int .i64 (d : Int)] w fun e w' => e = .returned (.int .i64 (((if withinE d kids.length ≠ 0 then withinE d kids.length else chkL true names 0 kids (d + 1) : Nat) : Nat) : Int)) ∧ Below w.heap.size w w' := by
  have HC := Lib.hid (St.nil w)
  obtain ⟨kl, hkl⟩ : ∃ kl, kids.length = kl := ⟨_, rfl⟩
  have HW := Lib.hid (within_any d kids.length)
  rw [hkl] at h3 HW ⊢
  by_cases hE : withinE d kl = 0
  · have hd3 : d + 1 ≤ 10 := by unfold withinE at hE; split at hE <;> omega
    rw [hE] at HW
    rw [if_neg (fun h => h hE)]
    obtain ⟨R, hR⟩ : ∃ R, chkL true names 0 kids (d + 1) = R := ⟨_, rfl⟩
    rw [hR]
    have HR := Lib.hid hR
    have H3 := Lib.hid h3
    have H1 := Lib.hid h1
    have HI := Lib.hid IH
    have HK := Lib.hid hkl
    have d10 : (d : Int) ≤ 10 := by omega
    have k64 : (kl : Int) ≤ 64 := by unfold withinE at hE; split at hE <;> (try split at hE) <;> omega
    have hpz := pairC_zero
    clear hR h3 IH hkl hE h1
    go_enter Try.func42, Try.ntmps42
    go_wp2_with fail
    refine (HW.out _).mono ?_; rintro e w1 ⟨rfl, hw⟩
    have HC := Lib.hid (HC.out.call hw)
    clear hw
    go_wp2_with fail
    go_loopw [18] (fun i wr => ∃ j : Nat, j ≤ kl ∧ i = .int .i64 (j : Int) ∧ Hid (chkL true names j (kids.drop j) (d + 1) = R) ∧ Hid (St w [] wr)) (fun i _ => kl - (intOf i).toNat)
    case atStart => exact ⟨0, by omega, rfl, HR, HC⟩
    case round =>
      clear HC HR
      obtain ⟨j, hj, rfl, HR, HC⟩ := hrel
      by_cases hlt : j < kl
      · have d6 : (j : Int) < (kl : Int) := by omega
        have hjn : j < kids.length := by rw [HK.out]; exact hlt
        obtain ⟨ad, rfl⟩ := H3.out.some j hlt
        have hld := ((H3.out.call HC.out.below (Nat.le_refl _)).at j hlt).pair
        have hon := H1.out j hjn
        have hR := HR.out
        rw [List.drop_eq_getElem_cons hjn, chkL_named] at hR
        have HX := Lib.hid (fun w' (hb : Below w.heap.size w w') => HI.out j hjn w' hb hd3)
        generalize ndChk kids[j] (d + 1) = X at hR HX
        generalize hvj : vs j = v at hld HX hon
        obtain ⟨t, htj⟩ : ∃ t, nameOf names j = t := ⟨_, rfl⟩
        rw [htj] at hld hR
        clear hvj htj
        by_cases hj0 : j = 0
        · subst hj0
          rw [Nat.zero_mul, add_nought] at hld
          go_upto_region 7 with fail
          have HC := Lib.hid (HC.out.push (pairC t v) 60)
          generalize wr.alloc (Obj.cells (pairC t v) 60) = w2 at HC ⊢
          generalize wr.heap.size = gp at HC ⊢
          clear hld
          by_cases hs : 65535 < t.size
          · rw [if_pos hs] at hR
            have d7 : decide (65535 < (t.size : Int)) = true := decide_eq_true (by omega)
            subst hR
            clear HR hs
            (obtain ⟨r1, f1, i1, b1, l1⟩ := St.facts1 (HC.out.pick [0] (by decide) rfl))
            go_wp2_with fail
            go_ret
            exact ⟨rfl, HC.out.below⟩
          · rw [if_neg hs, if_neg (fun h => absurd h.1 (by omega))] at hR
            have d7 : decide (65535 < (t.size : Int)) = false := decide_eq_false (by omega)
            clear hs
            (obtain ⟨r1, f1, i1, b1, l1⟩ := St.facts1 (HC.out.pick [0] (by decide) rfl))
            go_upto_region 9 with fail
            (clear r1 f1 i1 b1 l1)
            refine St.qregion HC.out (by kernel_rfl) (by decide +kernel) ?_
            (first
               | (apply qw_skip rfl)
               | (apply qw_step rfl
                  focus
                    intro w0 hC
                    (fail))
               | (apply qw_step rfl
                  focus
                    intro w0 hC
                    have hC' := Lib.hid hC
                    obtain ⟨r1, f1, i1, b1, l1⟩ := St.facts1 hC
                    clear hC
                    go_simp
                    have hC := hC'.out
                    (first
                       | with_reducible rfl
                       | (skip
                          (fail)
                          rintro e w' ⟨rfl, hw⟩
                          exact ⟨rfl, St.call (by assumption) hw⟩)))
             try simp only [Act.put, List.setIfInBounds_toArray, List.set])
            (first
               | (apply qw_skip rfl)
               | (apply qw_step rfl
                  focus
                    intro w0 hC
                    (fail))
               | (apply qw_step rfl
                  focus
                    intro w0 hC
                    have hC' := Lib.hid hC
                    obtain ⟨r1, f1, i1, b1, l1⟩ := St.facts1 hC
                    clear hC
                    go_simp
                    have hC := hC'.out
                    (first
                       | with_reducible rfl
                       | (skip
                          (fail)
                          rintro e w' ⟨rfl, hw⟩
                          exact ⟨rfl, St.call (by assumption) hw⟩)))
             try simp only [Act.put, List.setIfInBounds_toArray, List.set])
            (first
               | (apply qw_skip rfl)
               | (apply qw_step rfl
                  focus
                    intro w0 hC
                    (fail))
               | (apply qw_step rfl
                  focus
                    intro w0 hC
                    have hC' := Lib.hid hC
                    obtain ⟨r1, f1, i1, b1, l1⟩ := St.facts1 hC
                    clear hC
                    go_simp
                    have hC := hC'.out
                    (first
                       | with_reducible rfl
                       | (skip
                          (fail)
                          rintro e w' ⟨rfl, hw⟩
                          exact ⟨rfl, St.call (by assumption) hw⟩)))
             try simp only [Act.put, List.setIfInBounds_toArray, List.set])
            (first
               | (apply qw_skip rfl)
               | (apply qw_step rfl
                  focus
                    intro w0 hC
                    (fail))
               | (apply qw_step rfl
                  focus
                    intro w0 hC
                    have hC' := Lib.hid hC
                    obtain ⟨r1, f1, i1, b1, l1⟩ := St.facts1 hC
                    clear hC
                    go_simp
                    have hC := hC'.out
                    (first
                       | with_reducible rfl
                       | (skip
                          (fail)
                          rintro e w' ⟨rfl, hw⟩
                          exact ⟨rfl, St.call (by assumption) hw⟩)))
             try simp only [Act.put, List.setIfInBounds_toArray, List.set])
            (first
               | (apply qw_skip rfl)
               | (apply qw_step rfl
                  focus
                    intro w0 hC
                    (fail))
               | (apply qw_step rfl
                  focus
                    intro w0 hC
                    have hC' := Lib.hid hC
                    obtain ⟨r1, f1, i1, b1, l1⟩ := St.facts1 hC
                    clear hC
                    go_simp
                    have hC := hC'.out
                    (first
                       | with_reducible rfl
                       | (skip
                          (fail)
                          rintro e w' ⟨rfl, hw⟩
                          exact ⟨rfl, St.call (by assumption) hw⟩)))
             try simp only [Act.put, List.setIfInBounds_toArray, List.set])
            (first
               | (apply qw_skip rfl)
               | (apply qw_step rfl
                  focus
                    intro w0 hC
                    (fail))
               | (apply qw_step rfl
                  focus
                    intro w0 hC
                    have hC' := Lib.hid hC
                    obtain ⟨r1, f1, i1, b1, l1⟩ := St.facts1 hC
                    clear hC
                    go_simp
                    have hC := hC'.out
                    (first
                       | with_reducible rfl
                       | (skip
                          (fail)
                          rintro e w' ⟨rfl, hw⟩
                          exact ⟨rfl, St.call (by assumption) hw⟩)))
             try simp only [Act.put, List.setIfInBounds_toArray, List.set])
            (first
               | (apply qw_skip rfl)
               | (apply qw_step rfl
                  focus
                    intro w0 hC
                    (fail))
               | (apply qw_step rfl
                  focus
                    intro w0 hC
                    have hC' := Lib.hid hC
                    obtain ⟨r1, f1, i1, b1, l1⟩ := St.facts1 hC
                    clear hC
                    go_simp
                    have hC := hC'.out
                    (first
                       | with_reducible rfl
                       | (skip
                          (fail)
                          rintro e w' ⟨rfl, hw⟩
                          exact ⟨rfl, St.call (by assumption) hw⟩)))
             try simp only [Act.put, List.setIfInBounds_toArray, List.set])
            (first
               | (apply qw_skip rfl)
               | (apply qw_step rfl
                  focus
                    intro w0 hC
                    (fail))
               | (apply qw_step rfl
                  focus
                    intro w0 hC
                    have hC' := Lib.hid hC
                    obtain ⟨r1, f1, i1, b1, l1⟩ := St.facts1 hC
                    clear hC
                    go_simp
                    have hC := hC'.out
                    (first
                       | with_reducible rfl
                       | (skip
                          (fail)
                          rintro e w' ⟨rfl, hw⟩
                          exact ⟨rfl, St.call (by assumption) hw⟩)))
             try simp only [Act.put, List.setIfInBounds_toArray, List.set])
            (first
               | (apply qw_skip rfl)
               | (apply qw_step rfl
                  focus
                    intro w0 hC
                    (fail))
               | (apply qw_step rfl
                  focus
                    intro w0 hC
                    have hC' := Lib.hid hC
                    obtain ⟨r1, f1, i1, b1, l1⟩ := St.facts1 hC
                    clear hC
                    go_simp
                    have hC := hC'.out
                    (first
                       | with_reducible rfl
                       | (skip
                          (fail)
                          rintro e w' ⟨rfl, hw⟩
                          exact ⟨rfl, St.call (by assumption) hw⟩)))
             try simp only [Act.put, List.setIfInBounds_toArray, List.set])
            (first
               | (apply qw_skip rfl)
               | (apply qw_step rfl
                  focus
                    intro w0 hC
                    (fail))
               | (apply qw_step rfl
                  focus
                    intro w0 hC
                    have hC' := Lib.hid hC
                    obtain ⟨r1, f1, i1, b1, l1⟩ := St.facts1 hC
                    clear hC
                    go_simp
                    have hC := hC'.out
                    (first
                       | with_reducible rfl
                       | (skip
                          (fail)
                          rintro e w' ⟨rfl, hw⟩
                          exact ⟨rfl, St.call (by assumption) hw⟩)))
             try simp only [Act.put, List.setIfInBounds_toArray, List.set])
            (first
               | (apply qw_skip rfl)
               | (apply qw_step rfl
                  focus
                    intro w0 hC
                    (fail))
               | (apply qw_step rfl
                  focus
                    intro w0 hC
                    have hC' := Lib.hid hC
                    obtain ⟨r1, f1, i1, b1, l1⟩ := St.facts1 hC
                    clear hC
                    go_simp
                    have hC := hC'.out
                    (first
                       | with_reducible rfl
                       | (skip
                          (fail)
                          rintro e w' ⟨rfl, hw⟩
                          exact ⟨rfl, St.call (by assumption) hw⟩)))
             try simp only [Act.put, List.setIfInBounds_toArray, List.set])
            (first
               | (apply qw_skip rfl)
               | (apply qw_step rfl
                  focus
                    intro w0 hC
                    (fail))
               | (apply qw_step rfl
                  focus
                    intro w0 hC
                    have hC' := Lib.hid hC
                    obtain ⟨r1, f1, i1, b1, l1⟩ := St.facts1 hC
                    clear hC
                    go_simp
                    have hC := hC'.out
                    (first
                       | with_reducible rfl
                       | (skip
                          (fail)
                          rintro e w' ⟨rfl, hw⟩
                          exact ⟨rfl, St.call (by assumption) hw⟩)))
             try simp only [Act.put, List.setIfInBounds_toArray, List.set])
            (first
               | (apply qw_skip rfl)
               | (apply qw_step rfl
                  focus
                    intro w0 hC
                    (fail))
               | (apply qw_step rfl
                  focus
                    intro w0 hC
                    have hC' := Lib.hid hC
                    obtain ⟨r1, f1, i1, b1, l1⟩ := St.facts1 hC
                    clear hC
                    go_simp
                    have hC := hC'.out
                    (first
                       | with_reducible rfl
                       | (skip
                          (fail)
                          rintro e w' ⟨rfl, hw⟩
                          exact ⟨rfl, St.call (by assumption) hw⟩)))
             try simp only [Act.put, List.setIfInBounds_toArray, List.set])
            refine qw_nil ?_
            intro w3 hC
            have HC := Lib.hid hC
            clear hC
            (by_cases hx0 : X = 0
             · rw [if_neg (fun h => h hx0)] at hR
               have HR2 := Lib.hid hR
               subst hx0
               clear HR hR
               (obtain ⟨r1, f1, i1, b1, l1⟩ := St.facts1 (HC.out.pick [0] (by decide) rfl))
               go_wp2_with fail
               (clear r1 f1 i1 b1 l1)
               refine (HX.out _ HC.out.below).mono ?_; rintro e w4 ⟨rfl, hw⟩
               have HC := Lib.hid (HC.out.call hw).tail
               clear hw
               go_wp2_with fail
               go_roundw
               case rel => exact ⟨0 + 1, by omega, by go_num, HR2, HC⟩
               case measure => simp [intOf]; omega
             · rw [if_pos hx0] at hR
               have d8 : ((X : Int) != 0) = true := by rw [bne_iff_ne]; omega
               subst hR
               clear HR hx0
               (obtain ⟨r1, f1, i1, b1, l1⟩ := St.facts1 (HC.out.pick [0] (by decide) rfl))
               go_wp2_with fail
               (clear r1 f1 i1 b1 l1)
               refine (HX.out _ HC.out.below).mono ?_; rintro e w4 ⟨rfl, hw⟩
               have HC := Lib.hid (HC.out.call hw)
               clear hw
               go_wp2_with fail
               go_ret
               exact ⟨rfl, HC.out.below⟩)
        · obtain ⟨u, hu⟩ : ∃ u, j - 1 = u := ⟨_, rfl⟩
          have p1 : (0 : Int) < (j : Int) := by omega
          have p2 : 0 < j := by omega
          have ukl : u < kl := by omega
          go_upto_region 7 with fail
          have HC := Lib.hid (HC.out.push (pairC t v) 60)
          generalize wr.alloc (Obj.cells (pairC t v) 60) = w2 at HC ⊢
          generalize wr.heap.size = gp at HC ⊢
          clear hld
          by_cases hs : 65535 < t.size
          · rw [if_pos hs] at hR
            have d7 : decide (65535 < (t.size : Int)) = true := decide_eq_true (by omega)
            subst hR
            clear HR hs hu
            (obtain ⟨r1, f1, i1, b1, l1⟩ := St.facts1 (HC.out.pick [0] (by decide) rfl))
            go_wp2_with fail
            go_ret
            exact ⟨rfl, HC.out.below⟩
          · rw [if_neg hs, hu] at hR
            have d7 : decide (65535 < (t.size : Int)) = false := decide_eq_false (by omega)
            have v1 : IntKind.i64.wrap ((j : Int) - 1) = (u : Int) := by rw [IntWalk.i64_in _ (by omega)]; omega
            have v2 : (j : Int) - 1 = (u : Int) := by omega
            have v3 : IntKind.i64.wrap (u : Int) = (u : Int) := IntWalk.i64_in _ (by omega)
            have HP := Lib.hid (fun w' (hb : Below w.heap.size w w') => (show (ad.add (u * 2)).spot = none ∧ w'.cell? (ad.add (u * 2)) = some (.string (nameOf names u)) from
              ⟨((H3.out.call hb (Nat.le_refl _)).at u ukl).2.1, (((H3.out.call hb (Nat.le_refl _)).at u ukl).first (by omega)).trans (pairC_get0 _ _)⟩))
            generalize nameOf names u = t' at HP hR
            have u1 : (u : Int) < (kl : Int) := by omega
            clear hs hu
            by_cases hle : lessT t' t = false
            · rw [if_pos ⟨p2, hle⟩] at hR
              subst hR
              clear HR
              unfold lessT at hle
              (obtain ⟨r1, f1, i1, b1, l1⟩ := St.facts1 (HC.out.pick [0] (by decide) rfl))
              go_upto_region 9 with fail
              (clear r1 f1 i1 b1 l1)
              refine St.qregion HC.out (by kernel_rfl) (by decide +kernel) ?_
              (first
                 | (apply qw_skip rfl)
                 | (apply qw_step rfl
                    focus
                      intro w0 hC
                      obtain ⟨r1, f1, i1, b1, l1⟩ := St.facts1 hC
                      obtain ⟨k1, k2⟩ := HP.out _ hC.below
                      clear hC
                      go_simp
                      with_reducible rfl)
               try simp only [Act.put, List.setIfInBounds_toArray, List.set])
              (first
                 | (apply qw_skip rfl)
                 | (apply qw_step rfl
                    focus
                      intro w0 hC
                      obtain ⟨r1, f1, i1, b1, l1⟩ := St.facts1 hC
                      obtain ⟨k1, k2⟩ := HP.out _ hC.below
                      clear hC
                      go_simp
                      with_reducible rfl)
               try simp only [Act.put, List.setIfInBounds_toArray, List.set])
              (first
                 | (apply qw_skip rfl)
                 | (apply qw_step rfl
                    focus
                      intro w0 hC
                      obtain ⟨r1, f1, i1, b1, l1⟩ := St.facts1 hC
                      obtain ⟨k1, k2⟩ := HP.out _ hC.below
                      clear hC
                      go_simp
                      with_reducible rfl)
               try simp only [Act.put, List.setIfInBounds_toArray, List.set])
              (first
                 | (apply qw_skip rfl)
                 | (apply qw_step rfl
                    focus
                      intro w0 hC
                      obtain ⟨r1, f1, i1, b1, l1⟩ := St.facts1 hC
                      obtain ⟨k1, k2⟩ := HP.out _ hC.below
                      clear hC
                      go_simp
                      with_reducible rfl)
               try simp only [Act.put, List.setIfInBounds_toArray, List.set])
              (first
                 | (apply qw_skip rfl)
                 | (apply qw_step rfl
                    focus
                      intro w0 hC
                      obtain ⟨r1, f1, i1, b1, l1⟩ := St.facts1 hC
                      obtain ⟨k1, k2⟩ := HP.out _ hC.below
                      clear hC
                      go_simp
                      with_reducible rfl)
               try simp only [Act.put, List.setIfInBounds_toArray, List.set])
              (first
                 | (apply qw_skip rfl)
                 | (apply qw_step rfl
                    focus
                      intro w0 hC
                      obtain ⟨r1, f1, i1, b1, l1⟩ := St.facts1 hC
                      obtain ⟨k1, k2⟩ := HP.out _ hC.below
                      clear hC
                      go_simp
                      with_reducible rfl)
               try simp only [Act.put, List.setIfInBounds_toArray, List.set])
              (first
                 | (apply qw_skip rfl)
                 | (apply qw_step rfl
                    focus
                      intro w0 hC
                      obtain ⟨r1, f1, i1, b1, l1⟩ := St.facts1 hC
                      obtain ⟨k1, k2⟩ := HP.out _ hC.below
                      clear hC
                      go_simp
                      with_reducible rfl)
               try simp only [Act.put, List.setIfInBounds_toArray, List.set])
              (first
                 | (apply qw_skip rfl)
                 | (apply qw_step rfl
                    focus
                      intro w0 hC
                      obtain ⟨r1, f1, i1, b1, l1⟩ := St.facts1 hC
                      obtain ⟨k1, k2⟩ := HP.out _ hC.below
                      clear hC
                      go_simp
                      with_reducible rfl)
               try simp only [Act.put, List.setIfInBounds_toArray, List.set])
              (first
                 | (apply qw_skip rfl)
                 | (apply qw_step rfl
                    focus
                      intro w0 hC
                      obtain ⟨r1, f1, i1, b1, l1⟩ := St.facts1 hC
                      obtain ⟨k1, k2⟩ := HP.out _ hC.below
                      clear hC
                      go_simp
                      with_reducible rfl)
               try simp only [Act.put, List.setIfInBounds_toArray, List.set])
              (first
                 | (apply qw_skip rfl)
                 | (apply qw_step rfl
                    focus
                      intro w0 hC
                      obtain ⟨r1, f1, i1, b1, l1⟩ := St.facts1 hC
                      obtain ⟨k1, k2⟩ := HP.out _ hC.below
                      clear hC
                      go_simp
                      with_reducible rfl)
               try simp only [Act.put, List.setIfInBounds_toArray, List.set])
              (first
                 | (apply qw_skip rfl)
                 | (apply qw_step rfl
                    focus
                      intro w0 hC
                      obtain ⟨r1, f1, i1, b1, l1⟩ := St.facts1 hC
                      obtain ⟨k1, k2⟩ := HP.out _ hC.below
                      clear hC
                      go_simp
                      with_reducible rfl)
               try simp only [Act.put, List.setIfInBounds_toArray, List.set])
              (first
                 | (apply qw_skip rfl)
                 | (apply qw_step rfl
                    focus
                      intro w0 hC
                      obtain ⟨r1, f1, i1, b1, l1⟩ := St.facts1 hC
                      obtain ⟨k1, k2⟩ := HP.out _ hC.below
                      clear hC
                      go_simp
                      with_reducible rfl)
               try simp only [Act.put, List.setIfInBounds_toArray, List.set])
              (first
                 | (apply qw_skip rfl)
                 | (apply qw_step rfl
                    focus
                      intro w0 hC
                      obtain ⟨r1, f1, i1, b1, l1⟩ := St.facts1 hC
                      obtain ⟨k1, k2⟩ := HP.out _ hC.below
                      clear hC
                      go_simp
                      with_reducible rfl)
               try simp only [Act.put, List.setIfInBounds_toArray, List.set])
              refine qw_nil ?_
              intro w3 hC
              have HC := Lib.hid hC
              clear hC
              go_wp2_with fail
              go_ret
              exact ⟨rfl, HC.out.below⟩
            · rw [if_neg (fun h => hle h.2)] at hR
              have hle : lessT t' t = true := by simpa using hle
              unfold lessT at hle
              (obtain ⟨r1, f1, i1, b1, l1⟩ := St.facts1 (HC.out.pick [0] (by decide) rfl))
              go_upto_region 9 with fail
              (clear r1 f1 i1 b1 l1)
              refine St.qregion HC.out (by kernel_rfl) (by decide +kernel) ?_
              (first
                 | (apply qw_skip rfl)
                 | (apply qw_step rfl
                    focus
                      intro w0 hC
                      obtain ⟨r1, f1, i1, b1, l1⟩ := St.facts1 hC
                      obtain ⟨k1, k2⟩ := HP.out _ hC.below
                      clear hC
                      go_simp
                      with_reducible rfl)
               try simp only [Act.put, List.setIfInBounds_toArray, List.set])
              (first
                 | (apply qw_skip rfl)
                 | (apply qw_step rfl
                    focus
                      intro w0 hC
                      obtain ⟨r1, f1, i1, b1, l1⟩ := St.facts1 hC
                      obtain ⟨k1, k2⟩ := HP.out _ hC.below
                      clear hC
                      go_simp
                      with_reducible rfl)
               try simp only [Act.put, List.setIfInBounds_toArray, List.set])
              (first
                 | (apply qw_skip rfl)
                 | (apply qw_step rfl
                    focus
                      intro w0 hC
                      obtain ⟨r1, f1, i1, b1, l1⟩ := St.facts1 hC
                      obtain ⟨k1, k2⟩ := HP.out _ hC.below
                      clear hC
                      go_simp
                      with_reducible rfl)
               try simp only [Act.put, List.setIfInBounds_toArray, List.set])
              (first
                 | (apply qw_skip rfl)
                 | (apply qw_step rfl
                    focus
                      intro w0 hC
                      obtain ⟨r1, f1, i1, b1, l1⟩ := St.facts1 hC
                      obtain ⟨k1, k2⟩ := HP.out _ hC.below
                      clear hC
                      go_simp
                      with_reducible rfl)
               try simp only [Act.put, List.setIfInBounds_toArray, List.set])
              (first
                 | (apply qw_skip rfl)
                 | (apply qw_step rfl
                    focus
                      intro w0 hC
                      obtain ⟨r1, f1, i1, b1, l1⟩ := St.facts1 hC
                      obtain ⟨k1, k2⟩ := HP.out _ hC.below
                      clear hC
                      go_simp
                      with_reducible rfl)
               try simp only [Act.put, List.setIfInBounds_toArray, List.set])
              (first
                 | (apply qw_skip rfl)
                 | (apply qw_step rfl
                    focus
                      intro w0 hC
                      obtain ⟨r1, f1, i1, b1, l1⟩ := St.facts1 hC
                      obtain ⟨k1, k2⟩ := HP.out _ hC.below
                      clear hC
                      go_simp
                      with_reducible rfl)
               try simp only [Act.put, List.setIfInBounds_toArray, List.set])
              (first
                 | (apply qw_skip rfl)
                 | (apply qw_step rfl
                    focus
                      intro w0 hC
                      obtain ⟨r1, f1, i1, b1, l1⟩ := St.facts1 hC
                      obtain ⟨k1, k2⟩ := HP.out _ hC.below
                      clear hC
                      go_simp
                      with_reducible rfl)
               try simp only [Act.put, List.setIfInBounds_toArray, List.set])
              (first
                 | (apply qw_skip rfl)
                 | (apply qw_step rfl
                    focus
                      intro w0 hC
                      obtain ⟨r1, f1, i1, b1, l1⟩ := St.facts1 hC
                      obtain ⟨k1, k2⟩ := HP.out _ hC.below
                      clear hC
                      go_simp
                      with_reducible rfl)
               try simp only [Act.put, List.setIfInBounds_toArray, List.set])
              (first
                 | (apply qw_skip rfl)
                 | (apply qw_step rfl
                    focus
                      intro w0 hC
                      obtain ⟨r1, f1, i1, b1, l1⟩ := St.facts1 hC
                      obtain ⟨k1, k2⟩ := HP.out _ hC.below
                      clear hC
                      go_simp
                      with_reducible rfl)
               try simp only [Act.put, List.setIfInBounds_toArray, List.set])
              (first
                 | (apply qw_skip rfl)
                 | (apply qw_step rfl
                    focus
                      intro w0 hC
                      obtain ⟨r1, f1, i1, b1, l1⟩ := St.facts1 hC
                      obtain ⟨k1, k2⟩ := HP.out _ hC.below
                      clear hC
                      go_simp
                      with_reducible rfl)
               try simp only [Act.put, List.setIfInBounds_toArray, List.set])
              (first
                 | (apply qw_skip rfl)
                 | (apply qw_step rfl
                    focus
                      intro w0 hC
                      obtain ⟨r1, f1, i1, b1, l1⟩ := St.facts1 hC
                      obtain ⟨k1, k2⟩ := HP.out _ hC.below
                      clear hC
                      go_simp
                      with_reducible rfl)
               try simp only [Act.put, List.setIfInBounds_toArray, List.set])
              (first
                 | (apply qw_skip rfl)
                 | (apply qw_step rfl
                    focus
                      intro w0 hC
                      obtain ⟨r1, f1, i1, b1, l1⟩ := St.facts1 hC
                      obtain ⟨k1, k2⟩ := HP.out _ hC.below
                      clear hC
                      go_simp
                      with_reducible rfl)
               try simp only [Act.put, List.setIfInBounds_toArray, List.set])
              (first
                 | (apply qw_skip rfl)
                 | (apply qw_step rfl
                    focus
                      intro w0 hC
                      obtain ⟨r1, f1, i1, b1, l1⟩ := St.facts1 hC
                      obtain ⟨k1, k2⟩ := HP.out _ hC.below
                      clear hC
                      go_simp
                      with_reducible rfl)
               try simp only [Act.put, List.setIfInBounds_toArray, List.set])
              refine qw_nil ?_
              intro w3 hC
              have HC := Lib.hid hC
              clear hC p1 p2 v1 v2 v3 hle
              (by_cases hx0 : X = 0
               · rw [if_neg (fun h => h hx0)] at hR
                 have HR2 := Lib.hid hR
                 subst hx0
                 clear HR hR
                 (obtain ⟨r1, f1, i1, b1, l1⟩ := St.facts1 (HC.out.pick [0] (by decide) rfl))
                 go_wp2_with fail
                 (clear r1 f1 i1 b1 l1)
                 refine (HX.out _ HC.out.below).mono ?_; rintro e w4 ⟨rfl, hw⟩
                 have HC := Lib.hid (HC.out.call hw).tail
                 clear hw
                 go_wp2_with fail
                 go_roundw
                 case rel => exact ⟨j + 1, by omega, by go_num, HR2, HC⟩
                 case measure => simp [intOf]; omega
               · rw [if_pos hx0] at hR
                 have d8 : ((X : Int) != 0) = true := by rw [bne_iff_ne]; omega
                 subst hR
                 clear HR hx0
                 (obtain ⟨r1, f1, i1, b1, l1⟩ := St.facts1 (HC.out.pick [0] (by decide) rfl))
                 go_wp2_with fail
                 (clear r1 f1 i1 b1 l1)
                 refine (HX.out _ HC.out.below).mono ?_; rintro e w4 ⟨rfl, hw⟩
                 have HC := Lib.hid (HC.out.call hw)
                 clear hw
                 go_wp2_with fail
                 go_ret
                 exact ⟨rfl, HC.out.below⟩)
      · obtain rfl : j = kl := by omega
        have hR := HR.out
        rw [List.drop_of_length_le (by rw [HK.out]; exact Nat.le_refl _)] at hR
        unfold chkL at hR
        subst hR
        clear HR
        go_wp2_with fail
        go_ret
        exact ⟨rfl, HC.out.below⟩
  · rw [if_pos hE]
    have d8 : (((withinE d kl : Nat) : Int) != 0) = true := by rw [bne_iff_ne]; omega
    generalize withinE d kl = E at HW d8
    clear hE h3 IH hkl h1
    go_enter Try.func42, Try.ntmps42
    go_wp2_with fail
    refine (HW.out _).mono ?_; rintro e w1 ⟨rfl, hw⟩
    have HC := Lib.hid (HC.out.call hw)
    clear hw
    go_wp2_with fail
    go_ret
    exact ⟨rfl, HC.out.below⟩
end Go.Proofs.Ytinlcpenllfcpaa
