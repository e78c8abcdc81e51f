/- A barrier held against the reference's: like. -/
import Derived.Test.YtgaecjhghpkcoaaGreatRb9
import Derived.Test.YtgaecjhghpkcoaaGreatMRegion
import Derived.Test.YtgaecjhghpkcoaaGreatBaUnlocks
namespace Go.Proofs.YtgaecjhghpkcoaaGreat
open Go.RowKit
attribute [local go_sem] B_xor B_or B_and
attribute [local go_sem] blk_set blk_size blk_get blk_getE upd_same oneCells_blk paste_blk cut_blk szOf
attribute [local go_sem high] paste_all cut_head
attribute [local go_sem] rowAt_alloc rowAt_drew rowAt_drewN isRow_alloc isRow_drew isRow_drewN freeRow_alloc freeRow_end freeRow_drew freeRow_drewN
attribute [local go_sem] setRow_alloc setRow_drew setRow_drewN setCell_drewN alloc_drewN rowAt_put isRow_setRow freeRow_put
attribute [local go_sem ↓] loadS_in storeS_in indexS_in copyS_in
attribute [local go_sem] loadS_row loadS_one storeS_row storeS_one indexS_blk copyS_rows run_equalIn_blk same_refl arrayAt_row
attribute [local go_sem] cell_row frozen_row st_setCell st_blk_ne stepAt stepUpon
attribute [local go_sem high] run_eql_blk run_neq_blk
attribute [local go_sem ↓] convBS_in
attribute [local go_sem] convBS_row convBS_nil allBytes_blk bytesOf_blk
attribute [local go_sem] size_c19 agg_c19 cn_size cn_get0 cn_get1 cn_getE0 cn_getE1 cn_set0 cn_set1 cn_ne cn_one cn_cut cn_paste
attribute [local go_sem] rb_size rb_get0 rb_get1 rb_get2 rb_get3 rb_get4 rb_getE0 rb_getE1 rb_getE2 rb_getE3 rb_getE4 rb_ne rb_one rb_cut rb_count rb_paste rb_set0 rb_set1 rb_set3 rb_set4 rb_build size_rb agg_rb
attribute [local go_sem] run_eql_cn
set_option maxRecDepth 100000 in
set_option maxHeartbeats 2000000 in
theorem like_core (p : Value) (r : Rb) (f : Nat → UInt8) (h6 : r.kn ≤ 6) (w : World) (v : Bool) (hv : ((r.kn : Int) == 0) = v)
    (s1 : ∀ w', Below w.heap.size w w' → Calls Tryz.prog 36 #[p] w' fun e w'' => e = .returned (.bool v) ∧ Below w'.heap.size w' w'')
    (s2 : ∀ w', Below w.heap.size w w' → Calls Tryz.prog 37 #[p] w' fun e w'' => e = .returned (.agg (cn r.e r.c)) ∧ Below w'.heap.size w' w'')
    (s3 : ∀ w', Below w.heap.size w w' → Calls Tryz.prog 28 #[p] w' fun e w'' => e = .returned (.agg (rg r.kn f)) ∧ Below w'.heap.size w' w'')
    (hk : Keys16 w (.slice r.ka r.kn r.kc) r.kn f) : Calls Tryz.prog 25 #[p, .agg (rbC r)] w fun e w' => e = .returned (.bool true) ∧ Below w.heap.size w w' := by
  have S1 := Lib.hid s1
  have S2 := Lib.hid s2
  have S3 := Lib.hid s3
  have S4 := Lib.hid (fun w' (hb : Below w.heap.size w w') => like_any (.slice r.ka r.kn r.kc) r.kn f h6 w' (hk.call hb))
  have HC := Lib.hid ((St.nil w).pushA (rbC r) 38 rfl)
  clear s1 s2 s3 hk h6
  go_enter Tryz.func25, Tryz.ntmps25
  go_wp2_with fail
  refine St.qregion HC.out (by kernel_rfl) (by decide +kernel) ?_
  (first
     | (apply qw_skip rfl)
     | (apply qw_step rfl
        focus
          intro w0 hC
          have hC' := Lib.hid hC
          obtain ⟨r1, f1, i1, b1, l1⟩ := St.facts1 hC
          clear hC
          go_simp
          have hC := hC'.out
          first
            | with_reducible rfl
            | (skip
               (first
                  | (go_at_call 36; refine (S1.out _ hC.below).mono ?_)
                  | (go_at_call 37; refine (S2.out _ hC.below).mono ?_)
                  | (go_at_call 28; refine (S3.out _ hC.below).mono ?_)
                  | (go_at_call 34; refine (S4.out _ hC.below).mono ?_))
               rintro e w' ⟨rfl, hw⟩
               exact ⟨rfl, St.call hC hw⟩))
   try simp only [Act.put, List.setIfInBounds_toArray, List.set])
  (first
     | (apply qw_skip rfl)
     | (apply qw_step rfl
        focus
          intro w0 hC
          have hC' := Lib.hid hC
          obtain ⟨r1, f1, i1, b1, l1⟩ := St.facts1 hC
          clear hC
          go_simp
          have hC := hC'.out
          first
            | with_reducible rfl
            | (skip
               (first
                  | (go_at_call 36; refine (S1.out _ hC.below).mono ?_)
                  | (go_at_call 37; refine (S2.out _ hC.below).mono ?_)
                  | (go_at_call 28; refine (S3.out _ hC.below).mono ?_)
                  | (go_at_call 34; refine (S4.out _ hC.below).mono ?_))
               rintro e w' ⟨rfl, hw⟩
               exact ⟨rfl, St.call hC hw⟩))
   try simp only [Act.put, List.setIfInBounds_toArray, List.set])
  (first
     | (apply qw_skip rfl)
     | (apply qw_step rfl
        focus
          intro w0 hC
          have hC' := Lib.hid hC
          obtain ⟨r1, f1, i1, b1, l1⟩ := St.facts1 hC
          clear hC
          go_simp
          have hC := hC'.out
          first
            | with_reducible rfl
            | (skip
               (first
                  | (go_at_call 36; refine (S1.out _ hC.below).mono ?_)
                  | (go_at_call 37; refine (S2.out _ hC.below).mono ?_)
                  | (go_at_call 28; refine (S3.out _ hC.below).mono ?_)
                  | (go_at_call 34; refine (S4.out _ hC.below).mono ?_))
               rintro e w' ⟨rfl, hw⟩
               exact ⟨rfl, St.call hC hw⟩))
   try simp only [Act.put, List.setIfInBounds_toArray, List.set])
  (first
     | (apply qw_skip rfl)
     | (apply qw_step rfl
        focus
          intro w0 hC
          have hC' := Lib.hid hC
          obtain ⟨r1, f1, i1, b1, l1⟩ := St.facts1 hC
          clear hC
          go_simp
          have hC := hC'.out
          first
            | with_reducible rfl
            | (skip
               (first
                  | (go_at_call 36; refine (S1.out _ hC.below).mono ?_)
                  | (go_at_call 37; refine (S2.out _ hC.below).mono ?_)
                  | (go_at_call 28; refine (S3.out _ hC.below).mono ?_)
                  | (go_at_call 34; refine (S4.out _ hC.below).mono ?_))
               rintro e w' ⟨rfl, hw⟩
               exact ⟨rfl, St.call hC hw⟩))
   try simp only [Act.put, List.setIfInBounds_toArray, List.set])
  (first
     | (apply qw_skip rfl)
     | (apply qw_step rfl
        focus
          intro w0 hC
          have hC' := Lib.hid hC
          obtain ⟨r1, f1, i1, b1, l1⟩ := St.facts1 hC
          clear hC
          go_simp
          have hC := hC'.out
          first
            | with_reducible rfl
            | (skip
               (first
                  | (go_at_call 36; refine (S1.out _ hC.below).mono ?_)
                  | (go_at_call 37; refine (S2.out _ hC.below).mono ?_)
                  | (go_at_call 28; refine (S3.out _ hC.below).mono ?_)
                  | (go_at_call 34; refine (S4.out _ hC.below).mono ?_))
               rintro e w' ⟨rfl, hw⟩
               exact ⟨rfl, St.call hC hw⟩))
   try simp only [Act.put, List.setIfInBounds_toArray, List.set])
  (first
     | (apply qw_skip rfl)
     | (apply qw_step rfl
        focus
          intro w0 hC
          have hC' := Lib.hid hC
          obtain ⟨r1, f1, i1, b1, l1⟩ := St.facts1 hC
          clear hC
          go_simp
          have hC := hC'.out
          first
            | with_reducible rfl
            | (skip
               (first
                  | (go_at_call 36; refine (S1.out _ hC.below).mono ?_)
                  | (go_at_call 37; refine (S2.out _ hC.below).mono ?_)
                  | (go_at_call 28; refine (S3.out _ hC.below).mono ?_)
                  | (go_at_call 34; refine (S4.out _ hC.below).mono ?_))
               rintro e w' ⟨rfl, hw⟩
               exact ⟨rfl, St.call hC hw⟩))
   try simp only [Act.put, List.setIfInBounds_toArray, List.set])
  (first
     | (apply qw_skip rfl)
     | (apply qw_step rfl
        focus
          intro w0 hC
          have hC' := Lib.hid hC
          obtain ⟨r1, f1, i1, b1, l1⟩ := St.facts1 hC
          clear hC
          go_simp
          have hC := hC'.out
          first
            | with_reducible rfl
            | (skip
               (first
                  | (go_at_call 36; refine (S1.out _ hC.below).mono ?_)
                  | (go_at_call 37; refine (S2.out _ hC.below).mono ?_)
                  | (go_at_call 28; refine (S3.out _ hC.below).mono ?_)
                  | (go_at_call 34; refine (S4.out _ hC.below).mono ?_))
               rintro e w' ⟨rfl, hw⟩
               exact ⟨rfl, St.call hC hw⟩))
   try simp only [Act.put, List.setIfInBounds_toArray, List.set])
  (first
     | (apply qw_skip rfl)
     | (apply qw_step rfl
        focus
          intro w0 hC
          have hC' := Lib.hid hC
          obtain ⟨r1, f1, i1, b1, l1⟩ := St.facts1 hC
          clear hC
          go_simp
          have hC := hC'.out
          first
            | with_reducible rfl
            | (skip
               (first
                  | (go_at_call 36; refine (S1.out _ hC.below).mono ?_)
                  | (go_at_call 37; refine (S2.out _ hC.below).mono ?_)
                  | (go_at_call 28; refine (S3.out _ hC.below).mono ?_)
                  | (go_at_call 34; refine (S4.out _ hC.below).mono ?_))
               rintro e w' ⟨rfl, hw⟩
               exact ⟨rfl, St.call hC hw⟩))
   try simp only [Act.put, List.setIfInBounds_toArray, List.set])
  (first
     | (apply qw_skip rfl)
     | (apply qw_step rfl
        focus
          intro w0 hC
          have hC' := Lib.hid hC
          obtain ⟨r1, f1, i1, b1, l1⟩ := St.facts1 hC
          clear hC
          go_simp
          have hC := hC'.out
          first
            | with_reducible rfl
            | (skip
               (first
                  | (go_at_call 36; refine (S1.out _ hC.below).mono ?_)
                  | (go_at_call 37; refine (S2.out _ hC.below).mono ?_)
                  | (go_at_call 28; refine (S3.out _ hC.below).mono ?_)
                  | (go_at_call 34; refine (S4.out _ hC.below).mono ?_))
               rintro e w' ⟨rfl, hw⟩
               exact ⟨rfl, St.call hC hw⟩))
   try simp only [Act.put, List.setIfInBounds_toArray, List.set])
  (first
     | (apply qw_skip rfl)
     | (apply qw_step rfl
        focus
          intro w0 hC
          have hC' := Lib.hid hC
          obtain ⟨r1, f1, i1, b1, l1⟩ := St.facts1 hC
          clear hC
          go_simp
          have hC := hC'.out
          first
            | with_reducible rfl
            | (skip
               (first
                  | (go_at_call 36; refine (S1.out _ hC.below).mono ?_)
                  | (go_at_call 37; refine (S2.out _ hC.below).mono ?_)
                  | (go_at_call 28; refine (S3.out _ hC.below).mono ?_)
                  | (go_at_call 34; refine (S4.out _ hC.below).mono ?_))
               rintro e w' ⟨rfl, hw⟩
               exact ⟨rfl, St.call hC hw⟩))
   try simp only [Act.put, List.setIfInBounds_toArray, List.set])
  (first
     | (apply qw_skip rfl)
     | (apply qw_step rfl
        focus
          intro w0 hC
          have hC' := Lib.hid hC
          obtain ⟨r1, f1, i1, b1, l1⟩ := St.facts1 hC
          clear hC
          go_simp
          have hC := hC'.out
          first
            | with_reducible rfl
            | (skip
               (first
                  | (go_at_call 36; refine (S1.out _ hC.below).mono ?_)
                  | (go_at_call 37; refine (S2.out _ hC.below).mono ?_)
                  | (go_at_call 28; refine (S3.out _ hC.below).mono ?_)
                  | (go_at_call 34; refine (S4.out _ hC.below).mono ?_))
               rintro e w' ⟨rfl, hw⟩
               exact ⟨rfl, St.call hC hw⟩))
   try simp only [Act.put, List.setIfInBounds_toArray, List.set])
  (first
     | (apply qw_skip rfl)
     | (apply qw_step rfl
        focus
          intro w0 hC
          have hC' := Lib.hid hC
          obtain ⟨r1, f1, i1, b1, l1⟩ := St.facts1 hC
          clear hC
          go_simp
          have hC := hC'.out
          first
            | with_reducible rfl
            | (skip
               (first
                  | (go_at_call 36; refine (S1.out _ hC.below).mono ?_)
                  | (go_at_call 37; refine (S2.out _ hC.below).mono ?_)
                  | (go_at_call 28; refine (S3.out _ hC.below).mono ?_)
                  | (go_at_call 34; refine (S4.out _ hC.below).mono ?_))
               rintro e w' ⟨rfl, hw⟩
               exact ⟨rfl, St.call hC hw⟩))
   try simp only [Act.put, List.setIfInBounds_toArray, List.set])
  (first
     | (apply qw_skip rfl)
     | (apply qw_step rfl
        focus
          intro w0 hC
          have hC' := Lib.hid hC
          obtain ⟨r1, f1, i1, b1, l1⟩ := St.facts1 hC
          clear hC
          go_simp
          have hC := hC'.out
          first
            | with_reducible rfl
            | (skip
               (first
                  | (go_at_call 36; refine (S1.out _ hC.below).mono ?_)
                  | (go_at_call 37; refine (S2.out _ hC.below).mono ?_)
                  | (go_at_call 28; refine (S3.out _ hC.below).mono ?_)
                  | (go_at_call 34; refine (S4.out _ hC.below).mono ?_))
               rintro e w' ⟨rfl, hw⟩
               exact ⟨rfl, St.call hC hw⟩))
   try simp only [Act.put, List.setIfInBounds_toArray, List.set])
  (first
     | (apply qw_skip rfl)
     | (apply qw_step rfl
        focus
          intro w0 hC
          have hC' := Lib.hid hC
          obtain ⟨r1, f1, i1, b1, l1⟩ := St.facts1 hC
          clear hC
          go_simp
          have hC := hC'.out
          first
            | with_reducible rfl
            | (skip
               (first
                  | (go_at_call 36; refine (S1.out _ hC.below).mono ?_)
                  | (go_at_call 37; refine (S2.out _ hC.below).mono ?_)
                  | (go_at_call 28; refine (S3.out _ hC.below).mono ?_)
                  | (go_at_call 34; refine (S4.out _ hC.below).mono ?_))
               rintro e w' ⟨rfl, hw⟩
               exact ⟨rfl, St.call hC hw⟩))
   try simp only [Act.put, List.setIfInBounds_toArray, List.set])
  (first
     | (apply qw_skip rfl)
     | (apply qw_step rfl
        focus
          intro w0 hC
          have hC' := Lib.hid hC
          obtain ⟨r1, f1, i1, b1, l1⟩ := St.facts1 hC
          clear hC
          go_simp
          have hC := hC'.out
          first
            | with_reducible rfl
            | (skip
               (first
                  | (go_at_call 36; refine (S1.out _ hC.below).mono ?_)
                  | (go_at_call 37; refine (S2.out _ hC.below).mono ?_)
                  | (go_at_call 28; refine (S3.out _ hC.below).mono ?_)
                  | (go_at_call 34; refine (S4.out _ hC.below).mono ?_))
               rintro e w' ⟨rfl, hw⟩
               exact ⟨rfl, St.call hC hw⟩))
   try simp only [Act.put, List.setIfInBounds_toArray, List.set])
  (first
     | (apply qw_skip rfl)
     | (apply qw_step rfl
        focus
          intro w0 hC
          have hC' := Lib.hid hC
          obtain ⟨r1, f1, i1, b1, l1⟩ := St.facts1 hC
          clear hC
          go_simp
          have hC := hC'.out
          first
            | with_reducible rfl
            | (skip
               (first
                  | (go_at_call 36; refine (S1.out _ hC.below).mono ?_)
                  | (go_at_call 37; refine (S2.out _ hC.below).mono ?_)
                  | (go_at_call 28; refine (S3.out _ hC.below).mono ?_)
                  | (go_at_call 34; refine (S4.out _ hC.below).mono ?_))
               rintro e w' ⟨rfl, hw⟩
               exact ⟨rfl, St.call hC hw⟩))
   try simp only [Act.put, List.setIfInBounds_toArray, List.set])
  (first
     | (apply qw_skip rfl)
     | (apply qw_step rfl
        focus
          intro w0 hC
          have hC' := Lib.hid hC
          obtain ⟨r1, f1, i1, b1, l1⟩ := St.facts1 hC
          clear hC
          go_simp
          have hC := hC'.out
          first
            | with_reducible rfl
            | (skip
               (first
                  | (go_at_call 36; refine (S1.out _ hC.below).mono ?_)
                  | (go_at_call 37; refine (S2.out _ hC.below).mono ?_)
                  | (go_at_call 28; refine (S3.out _ hC.below).mono ?_)
                  | (go_at_call 34; refine (S4.out _ hC.below).mono ?_))
               rintro e w' ⟨rfl, hw⟩
               exact ⟨rfl, St.call hC hw⟩))
   try simp only [Act.put, List.setIfInBounds_toArray, List.set])
  (first
     | (apply qw_skip rfl)
     | (apply qw_step rfl
        focus
          intro w0 hC
          have hC' := Lib.hid hC
          obtain ⟨r1, f1, i1, b1, l1⟩ := St.facts1 hC
          clear hC
          go_simp
          have hC := hC'.out
          first
            | with_reducible rfl
            | (skip
               (first
                  | (go_at_call 36; refine (S1.out _ hC.below).mono ?_)
                  | (go_at_call 37; refine (S2.out _ hC.below).mono ?_)
                  | (go_at_call 28; refine (S3.out _ hC.below).mono ?_)
                  | (go_at_call 34; refine (S4.out _ hC.below).mono ?_))
               rintro e w' ⟨rfl, hw⟩
               exact ⟨rfl, St.call hC hw⟩))
   try simp only [Act.put, List.setIfInBounds_toArray, List.set])
  (first
     | (apply qw_skip rfl)
     | (apply qw_step rfl
        focus
          intro w0 hC
          have hC' := Lib.hid hC
          obtain ⟨r1, f1, i1, b1, l1⟩ := St.facts1 hC
          clear hC
          go_simp
          have hC := hC'.out
          first
            | with_reducible rfl
            | (skip
               (first
                  | (go_at_call 36; refine (S1.out _ hC.below).mono ?_)
                  | (go_at_call 37; refine (S2.out _ hC.below).mono ?_)
                  | (go_at_call 28; refine (S3.out _ hC.below).mono ?_)
                  | (go_at_call 34; refine (S4.out _ hC.below).mono ?_))
               rintro e w' ⟨rfl, hw⟩
               exact ⟨rfl, St.call hC hw⟩))
   try simp only [Act.put, List.setIfInBounds_toArray, List.set])
  (first
     | (apply qw_skip rfl)
     | (apply qw_step rfl
        focus
          intro w0 hC
          have hC' := Lib.hid hC
          obtain ⟨r1, f1, i1, b1, l1⟩ := St.facts1 hC
          clear hC
          go_simp
          have hC := hC'.out
          first
            | with_reducible rfl
            | (skip
               (first
                  | (go_at_call 36; refine (S1.out _ hC.below).mono ?_)
                  | (go_at_call 37; refine (S2.out _ hC.below).mono ?_)
                  | (go_at_call 28; refine (S3.out _ hC.below).mono ?_)
                  | (go_at_call 34; refine (S4.out _ hC.below).mono ?_))
               rintro e w' ⟨rfl, hw⟩
               exact ⟨rfl, St.call hC hw⟩))
   try simp only [Act.put, List.setIfInBounds_toArray, List.set])
  (first
     | (apply qw_skip rfl)
     | (apply qw_step rfl
        focus
          intro w0 hC
          have hC' := Lib.hid hC
          obtain ⟨r1, f1, i1, b1, l1⟩ := St.facts1 hC
          clear hC
          go_simp
          have hC := hC'.out
          first
            | with_reducible rfl
            | (skip
               (first
                  | (go_at_call 36; refine (S1.out _ hC.below).mono ?_)
                  | (go_at_call 37; refine (S2.out _ hC.below).mono ?_)
                  | (go_at_call 28; refine (S3.out _ hC.below).mono ?_)
                  | (go_at_call 34; refine (S4.out _ hC.below).mono ?_))
               rintro e w' ⟨rfl, hw⟩
               exact ⟨rfl, St.call hC hw⟩))
   try simp only [Act.put, List.setIfInBounds_toArray, List.set])
  (first
     | (apply qw_skip rfl)
     | (apply qw_step rfl
        focus
          intro w0 hC
          have hC' := Lib.hid hC
          obtain ⟨r1, f1, i1, b1, l1⟩ := St.facts1 hC
          clear hC
          go_simp
          have hC := hC'.out
          first
            | with_reducible rfl
            | (skip
               (first
                  | (go_at_call 36; refine (S1.out _ hC.below).mono ?_)
                  | (go_at_call 37; refine (S2.out _ hC.below).mono ?_)
                  | (go_at_call 28; refine (S3.out _ hC.below).mono ?_)
                  | (go_at_call 34; refine (S4.out _ hC.below).mono ?_))
               rintro e w' ⟨rfl, hw⟩
               exact ⟨rfl, St.call hC hw⟩))
   try simp only [Act.put, List.setIfInBounds_toArray, List.set])
  refine qw_nil ?_
  intro w1 hC
  have HC := Lib.hid hC
  clear hC
  go_wp2_with fail
  go_ret
  exact ⟨rfl, HC.out.below⟩
end Go.Proofs.YtgaecjhghpkcoaaGreat
