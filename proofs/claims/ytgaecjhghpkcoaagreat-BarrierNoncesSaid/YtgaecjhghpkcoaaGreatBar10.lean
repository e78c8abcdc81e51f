/- The program's barrier: Turn, Lock. -/
import Derived.Test.YtgaecjhghpkcoaaGreatBar6
namespace Go.Proofs.YtgaecjhghpkcoaaGreat
open Go.RowKit
attribute [local go_sem] B_xor B_or B_and
attribute [local go_sem] blk_set blk_size blk_get blk_getE upd_same oneCells_blk paste_blk cut_blk szOf
attribute [local go_sem high] paste_all cut_head
attribute [local go_sem] rowAt_alloc rowAt_drew rowAt_drewN isRow_alloc isRow_drew isRow_drewN freeRow_alloc freeRow_end freeRow_drew freeRow_drewN
attribute [local go_sem] setRow_alloc setRow_drew setRow_drewN setCell_drewN alloc_drewN rowAt_put isRow_setRow freeRow_put
attribute [local go_sem ↓] loadS_in storeS_in indexS_in copyS_in
attribute [local go_sem] loadS_row loadS_one storeS_row storeS_one indexS_blk copyS_rows run_equalIn_blk same_refl arrayAt_row
attribute [local go_sem] cell_row frozen_row st_setCell st_blk_ne stepAt stepUpon
attribute [local go_sem high] run_eql_blk run_neq_blk
attribute [local go_sem ↓] convBS_in
attribute [local go_sem] convBS_row convBS_nil allBytes_blk bytesOf_blk
attribute [local go_sem] rg_size rg_get0 rg_getE0 rg_ne rg_set0 rg_one rg_cut rg_key rg_put rg_paste part_rg0 part_rg1
attribute [local go_sem] size_cn agg_cn cn_size cn_get0 cn_get1 cn_getE0 cn_getE1 cn_set0 cn_set1 cn_ne cn_one cn_cut cn_paste
attribute [local go_sem] br_size br_get0 br_get1 br_get2 br_getE0 br_getE1 br_getE2 br_ne br_ring br_count br_whole br_put_ring br_put_count br_paste br_one size_br agg_br

def turnE (b : Br) (n : Nat) : Nat := if b.n = 0 then 12 else if n = 0 then 2 else 0
def Br.turned (b : Br) (n : Nat) (f : Nat → UInt8) : Br := if turnE b n = 0 then { b with n := n, f := f } else b
set_option maxRecDepth 100000 in
set_option maxHeartbeats 2000000 in
theorem turn_st (b : Br) (hm : b.md = true) (n : Nat) (f : Nat → UInt8) (g : Nat) (w0 w : World) (L : List (Nat × Array Value)) (hC : St w0 ((g, br b) :: L) w) : Calls Tryz.prog 18 #[.pointer (some ⟨g, 0, none⟩), .agg (rg n f)] w fun r w' => r = .returned (.int .i64 ((turnE b n : Nat) : Int)) ∧ St w0 ((g, br (b.turned n f)) :: L) w' ∧ Mk w w' := by
  unfold Br.turned
  by_cases hn : b.n = 0
  · have hE : turnE b n = 12 := by unfold turnE; rw [if_pos hn]
    rw [hE]
    have HC := Lib.hid (hC.push (rg n f) 44)
    have HM := Lib.hid hm
    have HN := Lib.hid hn
    clear hC hm hn hE
    go_enter Tryz.func18, Tryz.ntmps18
    go_wp2_with fail
    refine (state_made b HM.out g w0 _ _ HC.out.tail 12 (.inl ⟨HN.out, rfl⟩)).mono ?_; rintro r w1 ⟨rfl, hw⟩
    have HC := Lib.hid (HC.out.call hw)
    have HW1 := Lib.hid hw
    clear hw
    go_wp2_with fail
    go_ret
    refine ⟨rfl, HC.out.tail, ?_⟩
    (repeat
       first
         | (with_reducible exact Mk.refl _)
         | (with_reducible refine Mk.setRow ?_ _ _)
         | (with_reducible refine Mk.alloc ?_ _)
         | (with_reducible refine Mk.drew ?_)
         | (with_reducible refine Mk.drewN ?_ _)
         | (with_reducible refine Mk.call HW1.out ?_)
         | (with_reducible refine Mk.call HW2.out ?_)
         | (with_reducible refine Mk.call HW3.out ?_)
         | (with_reducible refine Mk.call HW4.out ?_)
         | (with_reducible refine Mk.call HW5.out ?_)
         | (with_reducible refine Mk.call HW6.out ?_))
  · by_cases h0 : n = 0
    · have hE : turnE b n = 2 := by unfold turnE; rw [if_neg hn, if_pos h0]
      rw [hE]
      have d1 : ((n : Int) == 0) = true := by rw [beq_iff_eq]; omega
      have HC := Lib.hid (hC.push (rg n f) 44)
      have HM := Lib.hid hm
      have HN := Lib.hid hn
      clear hC hm hn hE h0
      go_enter Tryz.func18, Tryz.ntmps18
      go_wp2_with fail
      refine (state_made b HM.out g w0 _ _ HC.out.tail 0 (.inr ⟨HN.out, rfl⟩)).mono ?_; rintro r w1 ⟨rfl, hw⟩
      have HC := Lib.hid (HC.out.call hw)
      have HW1 := Lib.hid hw
      clear hw
      (obtain ⟨⟨r1, f1, i1, b1, l1⟩, ⟨r2, f2, i2, b2, l2⟩, m12, m21⟩ := St.facts2 (HC.out.pick [0, 1] (by decide) rfl))
      go_wp2_with fail
      (clear r1 f1 i1 b1 l1 r2 f2 i2 b2 l2 m12 m21)
      refine (term_any n f _).mono ?_; rintro e w2 ⟨rfl, hw⟩
      have HC := Lib.hid (HC.out.call hw)
      have HW2 := Lib.hid hw
      clear hw
      (obtain ⟨⟨r1, f1, i1, b1, l1⟩, ⟨r2, f2, i2, b2, l2⟩, m12, m21⟩ := St.facts2 (HC.out.pick [0, 1] (by decide) rfl))
      go_wp2_with fail
      go_ret
      refine ⟨rfl, HC.out.tail, ?_⟩
      (repeat
         first
           | (with_reducible exact Mk.refl _)
           | (with_reducible refine Mk.setRow ?_ _ _)
           | (with_reducible refine Mk.alloc ?_ _)
           | (with_reducible refine Mk.drew ?_)
           | (with_reducible refine Mk.drewN ?_ _)
           | (with_reducible refine Mk.call HW1.out ?_)
           | (with_reducible refine Mk.call HW2.out ?_)
           | (with_reducible refine Mk.call HW3.out ?_)
           | (with_reducible refine Mk.call HW4.out ?_)
           | (with_reducible refine Mk.call HW5.out ?_)
           | (with_reducible refine Mk.call HW6.out ?_))
    · have hE : turnE b n = 0 := by unfold turnE; rw [if_neg hn, if_neg h0]
      rw [hE]
      have d1 : ((n : Int) == 0) = false := by rw [beq_eq_false_iff_ne]; omega
      have HC := Lib.hid (hC.push (rg n f) 44)
      have HM := Lib.hid hm
      have HN := Lib.hid hn
      clear hC hm hn hE h0
      go_enter Tryz.func18, Tryz.ntmps18
      go_wp2_with fail
      refine (state_made b HM.out g w0 _ _ HC.out.tail 0 (.inr ⟨HN.out, rfl⟩)).mono ?_; rintro r w1 ⟨rfl, hw⟩
      have HC := Lib.hid (HC.out.call hw)
      have HW1 := Lib.hid hw
      clear hw
      (obtain ⟨⟨r1, f1, i1, b1, l1⟩, ⟨r2, f2, i2, b2, l2⟩, m12, m21⟩ := St.facts2 (HC.out.pick [0, 1] (by decide) rfl))
      go_wp2_with fail
      (clear r1 f1 i1 b1 l1 r2 f2 i2 b2 l2 m12 m21)
      refine (term_any n f _).mono ?_; rintro e w2 ⟨rfl, hw⟩
      have HC := Lib.hid (HC.out.call hw)
      have HW2 := Lib.hid hw
      clear hw
      (obtain ⟨⟨r1, f1, i1, b1, l1⟩, ⟨r2, f2, i2, b2, l2⟩, m12, m21⟩ := St.facts2 (HC.out.pick [0, 1] (by decide) rfl))
      go_wp2_with fail
      go_ret
      refine ⟨rfl, HC.out.tail.set_head (br { b with n := n, f := f }) (by rw [br_size, br_size]), ?_⟩
      (repeat
         first
           | (with_reducible exact Mk.refl _)
           | (with_reducible refine Mk.setRow ?_ _ _)
           | (with_reducible refine Mk.alloc ?_ _)
           | (with_reducible refine Mk.drew ?_)
           | (with_reducible refine Mk.drewN ?_ _)
           | (with_reducible refine Mk.call HW1.out ?_)
           | (with_reducible refine Mk.call HW2.out ?_)
           | (with_reducible refine Mk.call HW3.out ?_)
           | (with_reducible refine Mk.call HW4.out ?_)
           | (with_reducible refine Mk.call HW5.out ?_)
           | (with_reducible refine Mk.call HW6.out ?_))
theorem turn_sk (b : Br) (hm : b.md = true) (n : Nat) (f : Nat → UInt8) (g : Nat) (v w0 w : World) (L : List (Nat × Array Value)) (hC : Sk v w0 ((g, br b) :: L) w) : Calls Tryz.prog 18 #[.pointer (some ⟨g, 0, none⟩), .agg (rg n f)] w fun r w' => r = .returned (.int .i64 ((turnE b n : Nat) : Int)) ∧ Sk v w0 ((g, br (b.turned n f)) :: L) w' :=
  (turn_st b hm n f g w0 w L hC.toSt).mono fun _ _ ⟨h1, h2⟩ => ⟨h1, hC.next h2⟩
/-- a ring's text -/
def ringT (n : Nat) (f : Nat → UInt8) : ByteArray := strOf (1 + n * 16) (ringB n f)
theorem ringT_size (n : Nat) (f : Nat → UInt8) : (ringT n f).size = 1 + n * 16 := strOf_size _ _
theorem nonceS_size (e c : Nat) : (nonceS e c).size = 12 := strOf_size _ _
def sealedR (m : Nat → UInt8) (n : Nat) (f : Nat → UInt8) (e c : Nat) : ByteArray := sealS (Ci.rounds m) (ofText (nonceS e c)) ⟨#[114, 105, 110, 103]⟩ (ringT n f)
def lockS (b : Br) (m : Nat → UInt8) : ByteArray := if takeE b = 0 then headS 0 (nonceS b.e b.c) ++ sealedR m b.n b.f b.e b.c else ⟨#[]⟩
theorem sealRing_at (m : Nat → UInt8) (n : Nat) (f : Nat → UInt8) (e c : Nat) (h6 : n ≤ 6) (w : World) : Calls Tryz.prog 53 #[.agg (blk 16 m), .string (nonceS e c), .string ⟨#[114, 105, 110, 103]⟩, .string (ringT n f)] w fun e' w' => e' = .returned (.tuple #[.string (sealedR m n f e c), .int .i64 0]) ∧ Below w.heap.size w w' :=
  gcSeal_any m (nonceS e c) ⟨#[114, 105, 110, 103]⟩ (ringT n f) (by show 4 < 2 ^ 40; omega) (by rw [ringT_size]; omega) (nonceS_size _ _) w
set_option maxRecDepth 100000 in
set_option maxHeartbeats 2000000 in
theorem lock_sk (b : Br) (hm : b.md = true) (h6 : b.n ≤ 6) (m : Nat → UInt8) (g : Nat) (v w0 w : World) (L : List (Nat × Array Value)) (hC : Sk v w0 ((g, br b) :: L) w) : Calls Tryz.prog 20 #[.pointer (some ⟨g, 0, none⟩), .agg (blk 16 m)] w fun r w' => r = .returned (.tuple #[.string (lockS b m), .int .i64 ((takeE b : Nat) : Int)]) ∧ Sk v w0 ((g, br b.took) :: L) w' := by
  have HC := Lib.hid (hC.push (blk 16 m) 41)
  have HT := Lib.hid (fun w L hC => take_sk b hm g v w0 w L hC)
  clear hC
  by_cases hE : takeE b = 0
  · have e1 : takeS b = nonceS b.e b.c := by unfold takeS; rw [if_pos hE]
    have e2 : b.took = { b with c := b.c + 1 } := by unfold Br.took; rw [if_pos hE]
    have e3 : lockS b m = headS 0 (nonceS b.e b.c) ++ sealedR m b.n b.f b.e b.c := by unfold lockS; rw [if_pos hE]
    rw [e1, e2, hE] at HT
    rw [e2, e3, hE]
    clear e1 e2 e3 hE hm
    have T1 := Lib.hid (text_any b.n b.f h6)
    have T2 := Lib.hid (sealRing_at m b.n b.f b.e b.c h6)
    have T3 := Lib.hid (fun w => head_any 0 (by omega) (nonceS b.e b.c) (by rw [nonceS_size]; omega) w)
    obtain ⟨SR, hSR⟩ : ∃ SR, sealedR m b.n b.f b.e b.c = SR := ⟨_, rfl⟩
    have hsr : SR.size = 113 + b.n * 16 - 96 := by rw [← hSR]; unfold sealedR; rw [sealS_size, ringT_size]; omega
    obtain ⟨HS, hHS⟩ : ∃ HS, headS 0 (nonceS b.e b.c) = HS := ⟨_, rfl⟩
    have hhs : HS.size = 16 := by rw [← hHS]; unfold headS; rw [ByteArray.size_append, strOf_size, nonceS_size]
    have hsz : HS.size + SR.size ≤ 9223372036854775807 := by omega
    rw [hSR] at T2 ⊢
    rw [hHS] at T3 ⊢
    clear hSR hHS hsr hhs h6
    go_enter Tryz.func20, Tryz.ntmps20
    go_wp2_with fail
    refine (HT.out _ _ HC.out.swap).mono ?_; rintro r w1 ⟨rfl, hC⟩
    have HC := Lib.hid hC
    clear hC
    (obtain ⟨⟨r1, f1, i1, b1, l1⟩, ⟨r2, f2, i2, b2, l2⟩, m12, m21⟩ := St.facts2 (HC.out.pick [0, 1] (by decide) rfl))
    go_wp2_with fail
    (clear r1 f1 i1 b1 l1 r2 f2 i2 b2 l2 m12 m21)
    refine Sk.region HC.out (by kernel_rfl) (by decide +kernel) ?_
    (first
       | (apply head_skip rfl)
       | (apply head_step_g rfl
          focus
            intro w0 hC
            (fail))
       | (apply head_step_g rfl
          focus
            intro w0 hC
            have hC' := Lib.hid hC
            obtain ⟨⟨r1, f1, i1, b1, l1⟩, ⟨r2, f2, i2, b2, l2⟩, m12, m21⟩ := St.facts2 (hC.pick [0, 1] (by decide) rfl)
            clear hC
            go_simp
            have hC := hC'.out
            (first
               | with_reducible rfl
               | (skip
                  (first
                     | (go_at_call 54; refine (T1.out _).mono ?_)
                     | (go_at_call 53; refine (T2.out _).mono ?_))
                  rintro e w' ⟨rfl, hw⟩
                  exact ⟨rfl, Sk.call (by assumption) hw⟩)))
     try simp only [Act.put, List.setIfInBounds_toArray, List.set])
    (first
       | (apply head_skip rfl)
       | (apply head_step_g rfl
          focus
            intro w0 hC
            (fail))
       | (apply head_step_g rfl
          focus
            intro w0 hC
            have hC' := Lib.hid hC
            obtain ⟨⟨r1, f1, i1, b1, l1⟩, ⟨r2, f2, i2, b2, l2⟩, m12, m21⟩ := St.facts2 (hC.pick [0, 1] (by decide) rfl)
            clear hC
            go_simp
            have hC := hC'.out
            (first
               | with_reducible rfl
               | (skip
                  (first
                     | (go_at_call 54; refine (T1.out _).mono ?_)
                     | (go_at_call 53; refine (T2.out _).mono ?_))
                  rintro e w' ⟨rfl, hw⟩
                  exact ⟨rfl, Sk.call (by assumption) hw⟩)))
     try simp only [Act.put, List.setIfInBounds_toArray, List.set])
    (first
       | (apply head_skip rfl)
       | (apply head_step_g rfl
          focus
            intro w0 hC
            (fail))
       | (apply head_step_g rfl
          focus
            intro w0 hC
            have hC' := Lib.hid hC
            obtain ⟨⟨r1, f1, i1, b1, l1⟩, ⟨r2, f2, i2, b2, l2⟩, m12, m21⟩ := St.facts2 (hC.pick [0, 1] (by decide) rfl)
            clear hC
            go_simp
            have hC := hC'.out
            (first
               | with_reducible rfl
               | (skip
                  (first
                     | (go_at_call 54; refine (T1.out _).mono ?_)
                     | (go_at_call 53; refine (T2.out _).mono ?_))
                  rintro e w' ⟨rfl, hw⟩
                  exact ⟨rfl, Sk.call (by assumption) hw⟩)))
     try simp only [Act.put, List.setIfInBounds_toArray, List.set])
    (first
       | (apply head_skip rfl)
       | (apply head_step_g rfl
          focus
            intro w0 hC
            (fail))
       | (apply head_step_g rfl
          focus
            intro w0 hC
            have hC' := Lib.hid hC
            obtain ⟨⟨r1, f1, i1, b1, l1⟩, ⟨r2, f2, i2, b2, l2⟩, m12, m21⟩ := St.facts2 (hC.pick [0, 1] (by decide) rfl)
            clear hC
            go_simp
            have hC := hC'.out
            (first
               | with_reducible rfl
               | (skip
                  (first
                     | (go_at_call 54; refine (T1.out _).mono ?_)
                     | (go_at_call 53; refine (T2.out _).mono ?_))
                  rintro e w' ⟨rfl, hw⟩
                  exact ⟨rfl, Sk.call (by assumption) hw⟩)))
     try simp only [Act.put, List.setIfInBounds_toArray, List.set])
    (first
       | (apply head_skip rfl)
       | (apply head_step_g rfl
          focus
            intro w0 hC
            (fail))
       | (apply head_step_g rfl
          focus
            intro w0 hC
            have hC' := Lib.hid hC
            obtain ⟨⟨r1, f1, i1, b1, l1⟩, ⟨r2, f2, i2, b2, l2⟩, m12, m21⟩ := St.facts2 (hC.pick [0, 1] (by decide) rfl)
            clear hC
            go_simp
            have hC := hC'.out
            (first
               | with_reducible rfl
               | (skip
                  (first
                     | (go_at_call 54; refine (T1.out _).mono ?_)
                     | (go_at_call 53; refine (T2.out _).mono ?_))
                  rintro e w' ⟨rfl, hw⟩
                  exact ⟨rfl, Sk.call (by assumption) hw⟩)))
     try simp only [Act.put, List.setIfInBounds_toArray, List.set])
    (first
       | (apply head_skip rfl)
       | (apply head_step_g rfl
          focus
            intro w0 hC
            (fail))
       | (apply head_step_g rfl
          focus
            intro w0 hC
            have hC' := Lib.hid hC
            obtain ⟨⟨r1, f1, i1, b1, l1⟩, ⟨r2, f2, i2, b2, l2⟩, m12, m21⟩ := St.facts2 (hC.pick [0, 1] (by decide) rfl)
            clear hC
            go_simp
            have hC := hC'.out
            (first
               | with_reducible rfl
               | (skip
                  (first
                     | (go_at_call 54; refine (T1.out _).mono ?_)
                     | (go_at_call 53; refine (T2.out _).mono ?_))
                  rintro e w' ⟨rfl, hw⟩
                  exact ⟨rfl, Sk.call (by assumption) hw⟩)))
     try simp only [Act.put, List.setIfInBounds_toArray, List.set])
    (first
       | (apply head_skip rfl)
       | (apply head_step_g rfl
          focus
            intro w0 hC
            (fail))
       | (apply head_step_g rfl
          focus
            intro w0 hC
            have hC' := Lib.hid hC
            obtain ⟨⟨r1, f1, i1, b1, l1⟩, ⟨r2, f2, i2, b2, l2⟩, m12, m21⟩ := St.facts2 (hC.pick [0, 1] (by decide) rfl)
            clear hC
            go_simp
            have hC := hC'.out
            (first
               | with_reducible rfl
               | (skip
                  (first
                     | (go_at_call 54; refine (T1.out _).mono ?_)
                     | (go_at_call 53; refine (T2.out _).mono ?_))
                  rintro e w' ⟨rfl, hw⟩
                  exact ⟨rfl, Sk.call (by assumption) hw⟩)))
     try simp only [Act.put, List.setIfInBounds_toArray, List.set])
    (first
       | (apply head_skip rfl)
       | (apply head_step_g rfl
          focus
            intro w0 hC
            (fail))
       | (apply head_step_g rfl
          focus
            intro w0 hC
            have hC' := Lib.hid hC
            obtain ⟨⟨r1, f1, i1, b1, l1⟩, ⟨r2, f2, i2, b2, l2⟩, m12, m21⟩ := St.facts2 (hC.pick [0, 1] (by decide) rfl)
            clear hC
            go_simp
            have hC := hC'.out
            (first
               | with_reducible rfl
               | (skip
                  (first
                     | (go_at_call 54; refine (T1.out _).mono ?_)
                     | (go_at_call 53; refine (T2.out _).mono ?_))
                  rintro e w' ⟨rfl, hw⟩
                  exact ⟨rfl, Sk.call (by assumption) hw⟩)))
     try simp only [Act.put, List.setIfInBounds_toArray, List.set])
    (first
       | (apply head_skip rfl)
       | (apply head_step_g rfl
          focus
            intro w0 hC
            (fail))
       | (apply head_step_g rfl
          focus
            intro w0 hC
            have hC' := Lib.hid hC
            obtain ⟨⟨r1, f1, i1, b1, l1⟩, ⟨r2, f2, i2, b2, l2⟩, m12, m21⟩ := St.facts2 (hC.pick [0, 1] (by decide) rfl)
            clear hC
            go_simp
            have hC := hC'.out
            (first
               | with_reducible rfl
               | (skip
                  (first
                     | (go_at_call 54; refine (T1.out _).mono ?_)
                     | (go_at_call 53; refine (T2.out _).mono ?_))
                  rintro e w' ⟨rfl, hw⟩
                  exact ⟨rfl, Sk.call (by assumption) hw⟩)))
     try simp only [Act.put, List.setIfInBounds_toArray, List.set])
    (first
       | (apply head_skip rfl)
       | (apply head_step_g rfl
          focus
            intro w0 hC
            (fail))
       | (apply head_step_g rfl
          focus
            intro w0 hC
            have hC' := Lib.hid hC
            obtain ⟨⟨r1, f1, i1, b1, l1⟩, ⟨r2, f2, i2, b2, l2⟩, m12, m21⟩ := St.facts2 (hC.pick [0, 1] (by decide) rfl)
            clear hC
            go_simp
            have hC := hC'.out
            (first
               | with_reducible rfl
               | (skip
                  (first
                     | (go_at_call 54; refine (T1.out _).mono ?_)
                     | (go_at_call 53; refine (T2.out _).mono ?_))
                  rintro e w' ⟨rfl, hw⟩
                  exact ⟨rfl, Sk.call (by assumption) hw⟩)))
     try simp only [Act.put, List.setIfInBounds_toArray, List.set])
    (first
       | (apply head_skip rfl)
       | (apply head_step_g rfl
          focus
            intro w0 hC
            (fail))
       | (apply head_step_g rfl
          focus
            intro w0 hC
            have hC' := Lib.hid hC
            obtain ⟨⟨r1, f1, i1, b1, l1⟩, ⟨r2, f2, i2, b2, l2⟩, m12, m21⟩ := St.facts2 (hC.pick [0, 1] (by decide) rfl)
            clear hC
            go_simp
            have hC := hC'.out
            (first
               | with_reducible rfl
               | (skip
                  (first
                     | (go_at_call 54; refine (T1.out _).mono ?_)
                     | (go_at_call 53; refine (T2.out _).mono ?_))
                  rintro e w' ⟨rfl, hw⟩
                  exact ⟨rfl, Sk.call (by assumption) hw⟩)))
     try simp only [Act.put, List.setIfInBounds_toArray, List.set])
    (first
       | (apply head_skip rfl)
       | (apply head_step_g rfl
          focus
            intro w0 hC
            (fail))
       | (apply head_step_g rfl
          focus
            intro w0 hC
            have hC' := Lib.hid hC
            obtain ⟨⟨r1, f1, i1, b1, l1⟩, ⟨r2, f2, i2, b2, l2⟩, m12, m21⟩ := St.facts2 (hC.pick [0, 1] (by decide) rfl)
            clear hC
            go_simp
            have hC := hC'.out
            (first
               | with_reducible rfl
               | (skip
                  (first
                     | (go_at_call 54; refine (T1.out _).mono ?_)
                     | (go_at_call 53; refine (T2.out _).mono ?_))
                  rintro e w' ⟨rfl, hw⟩
                  exact ⟨rfl, Sk.call (by assumption) hw⟩)))
     try simp only [Act.put, List.setIfInBounds_toArray, List.set])
    (first
       | (apply head_skip rfl)
       | (apply head_step_g rfl
          focus
            intro w0 hC
            (fail))
       | (apply head_step_g rfl
          focus
            intro w0 hC
            have hC' := Lib.hid hC
            obtain ⟨⟨r1, f1, i1, b1, l1⟩, ⟨r2, f2, i2, b2, l2⟩, m12, m21⟩ := St.facts2 (hC.pick [0, 1] (by decide) rfl)
            clear hC
            go_simp
            have hC := hC'.out
            (first
               | with_reducible rfl
               | (skip
                  (first
                     | (go_at_call 54; refine (T1.out _).mono ?_)
                     | (go_at_call 53; refine (T2.out _).mono ?_))
                  rintro e w' ⟨rfl, hw⟩
                  exact ⟨rfl, Sk.call (by assumption) hw⟩)))
     try simp only [Act.put, List.setIfInBounds_toArray, List.set])
    refine wpQuiet_nil ?_
    intro w2 hC
    have HC := Lib.hid hC
    clear hC
    go_wp2_with fail
    refine (T3.out _).mono ?_; rintro e w3 ⟨rfl, hw⟩
    have HC := Lib.hid (HC.out.call hw)
    clear hw
    go_wp2_with fail
    go_ret2
    exact ⟨rfl, HC.out.swap.tail⟩
  · have e1 : takeS b = ⟨#[]⟩ := by unfold takeS; rw [if_neg hE]
    have e2 : b.took = b := by unfold Br.took; rw [if_neg hE]
    have e3 : lockS b m = ⟨#[]⟩ := by unfold lockS; rw [if_neg hE]
    rw [e1, e2] at HT
    rw [e2, e3]
    have d1 : (((takeE b : Nat) : Int) != 0) = true := by rw [bne_iff_ne]; omega
    obtain ⟨E, hEE⟩ : ∃ E, takeE b = E := ⟨_, rfl⟩
    rw [hEE] at d1 HT ⊢
    clear e1 e2 e3 hE hm hEE
    go_enter Tryz.func20, Tryz.ntmps20
    go_wp2_with fail
    refine (HT.out _ _ HC.out.swap).mono ?_; rintro r w1 ⟨rfl, hC⟩
    have HC := Lib.hid hC
    clear hC
    go_wp2_with fail
    go_ret2
    exact ⟨rfl, HC.out.swap.tail⟩
end Go.Proofs.YtgaecjhghpkcoaaGreat
