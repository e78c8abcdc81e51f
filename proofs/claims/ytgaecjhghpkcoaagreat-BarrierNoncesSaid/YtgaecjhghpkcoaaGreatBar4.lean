/- The program's barrier: parts, head. Texts no longer than 2 to 40. -/
import Derived.Test.YtgaecjhghpkcoaaGreatBar3
import Derived.Test.YtgaecjhghpkcoaaGreatParse
namespace Go.Proofs.YtgaecjhghpkcoaaGreat
open Go.RowKit
attribute [local go_sem] B_xor B_or B_and
attribute [local go_sem] blk_set blk_size blk_get blk_getE upd_same oneCells_blk paste_blk cut_blk szOf
attribute [local go_sem high] paste_all cut_head
attribute [local go_sem] rowAt_alloc rowAt_drew rowAt_drewN isRow_alloc isRow_drew isRow_drewN freeRow_alloc freeRow_end freeRow_drew freeRow_drewN
attribute [local go_sem] setRow_alloc setRow_drew setRow_drewN setCell_drewN alloc_drewN rowAt_put isRow_setRow freeRow_put
attribute [local go_sem ↓] loadS_in storeS_in indexS_in copyS_in
attribute [local go_sem] loadS_row loadS_one storeS_row storeS_one indexS_blk copyS_rows run_equalIn_blk same_refl arrayAt_row
attribute [local go_sem] cell_row frozen_row st_setCell st_blk_ne stepAt stepUpon
attribute [local go_sem high] run_eql_blk run_neq_blk
attribute [local go_sem ↓] convBS_in
attribute [local go_sem] convBS_row convBS_nil allBytes_blk bytesOf_blk
attribute [local go_sem] size_sc agg_sc sc_size sc_get0 sc_get1 sc_get2 sc_getE0 sc_getE1 sc_getE2 sc_set1 sc_set2 sc_ne sc_one sc_cut sc_paste sc_build sc_set0

/-- the results of a function: four slots -/
theorem results_q4 {P : Program} {w : World} {fn : Func} {p q r s : Tmp} (h : fn.results = #[.tmp p, .tmp q, .tmp r, .tmp s]) (tmps : Array Value) (a b c d : Value) (h1 : tmps.getD p undef = a) (h2 : tmps.getD q undef = b) (h3 : tmps.getD r undef = c) (h4 : tmps.getD s undef = d) :
    (results fn tmps).run P w = .ok (.tuple #[a, b, c, d]) w := by
  have h1' : tmps[p]?.getD undef = a := by simpa using h1
  have h2' : tmps[q]?.getD undef = b := by simpa using h2
  have h3' : tmps[r]?.getD undef = c := by simpa using h3
  have h4' : tmps[s]?.getD undef = d := by simpa using h4
  simp [results, h, h1', h2', h3', h4']
set_option maxRecDepth 100000 in
theorem extract_in (s : ByteArray) (a b c d : Nat) (h : a + d ≤ b) : (s.extract a b).extract c d = s.extract (a + c) (a + d) := by
  apply ByteArray.ext
  rw [ByteArray.data_extract, ByteArray.data_extract, ByteArray.data_extract]
  apply Array.ext_getElem?
  intro i
  simp only [Array.getElem?_extract, Array.size_extract]
  by_cases h1 : i < min d (min b s.data.size - a) - c
  · rw [if_pos h1, if_pos (by omega), if_pos (by omega)]
    congr 1; omega
  · rw [if_neg h1]
    split
    · exfalso; omega
    · rfl
theorem parts_short (s : ByteArray) (h : s.size < 32) (w : World) : Calls Tryz.prog 43 #[.string s] w fun e w' => e = .returned (.tuple #[.int .i64 0, .string ⟨#[]⟩, .string ⟨#[]⟩, .int .i64 3]) ∧ Below w.heap.size w w' := by
  have d1 : decide ((s.size : Int) < 32) = true := decide_eq_true (by omega)
  go_enter Tryz.func43, Tryz.ntmps43
  go_wp2_with fail
  refine bodyPost_ret (results_q4 rfl _ (.int .i64 0) (.string ⟨#[]⟩) (.string ⟨#[]⟩) (.int .i64 3) rfl rfl rfl rfl) rfl ⟨rfl, Below.refl _ _⟩
set_option maxRecDepth 100000 in
set_option maxHeartbeats 1000000 in
theorem parts_any (s : ByteArray) (h : 32 ≤ s.size) (hs : s.size < 2 ^ 40) (w : World) : Calls Tryz.prog 43 #[.string s] w fun e w' => e = .returned (.tuple #[.int .i64 ((numAt s 0 4 : Nat) : Int), .string (s.extract 4 16), .string (s.extract 16 s.size), .int .i64 0]) ∧ Below w.heap.size w w' := by
  have d1 : decide ((s.size : Int) < 32) = false := decide_eq_false (by omega)
  have hn : numAt s 0 4 < 2 ^ 32 := numTo_lt _ 4
  have hscan := Lib.hid (fun w => scanNum_ok s 0 4 (by omega) (by omega) (by omega) hs w)
  obtain ⟨N, hN⟩ : ∃ N, numAt s 0 4 = N := ⟨_, rfl⟩
  rw [hN] at hscan hn ⊢
  have n1 : (N : Int) < 4294967296 := by omega
  have n2 : IntKind.i64.wrap (N : Int) = (N : Int) := IntWalk.i64_in _ (by omega)
  have HC := Lib.hid (St.nil w)
  clear hN
  go_enter Tryz.func43, Tryz.ntmps43
  go_wp2_with fail
  refine (hscan.out _).mono ?_; rintro e w1 ⟨rfl, hw⟩
  have HC := Lib.hid (HC.out.call hw)
  clear hw
  go_wp2_with fail
  have HC := Lib.hid (HC.out.push (sc s (0 + 4) 0) 120)
  have h4 : 4 ≤ s.size := by omega
  refine (rest_any s 4 h4 _).mono ?_; rintro e w2 ⟨rfl, hw⟩
  have HC := Lib.hid (HC.out.call hw)
  clear hw
  go_wp2_with fail
  have HP := Lib.hid (extract_in s 4 s.size 0 12 (by omega))
  have HQ := Lib.hid (extract_in s 4 s.size 12 (s.size - 4) (by omega))
  obtain ⟨R, hR⟩ : ∃ R, s.extract 4 s.size = R := ⟨_, rfl⟩
  have hRs : R.size = s.size - 4 := by rw [← hR, ByteArray.size_extract]; omega
  have hq : 4 + R.size = s.size := by omega
  have Hq := Lib.hid hq
  have r1 : 12 ≤ R.size := by omega
  have r2 : (12 : Int) ≤ (R.size : Int) := by omega
  rw [hR] at HP HQ ⊢
  rw [← hRs, hq] at HQ
  clear hR hRs hq Hq
  refine St.region HC.out (by kernel_rfl) (by decide +kernel) ?_
  (first
     | (apply head_skip rfl)
     | (apply head_step_g rfl
        focus
          intro w0 hC
          (fail))
     | (apply head_step_g rfl
        focus
          intro w0 hC
          have hC' := Lib.hid hC
          obtain ⟨r1, f1, i1, b1, l1⟩ := St.facts1 hC
          clear hC
          go_simp
          have hC := hC'.out
          (first
             | with_reducible rfl
             | (skip
                (fail)
                rintro e w' ⟨rfl, hw⟩
                exact ⟨rfl, St.call (by assumption) hw⟩)))
   try simp only [Act.put, List.setIfInBounds_toArray, List.set])
  (first
     | (apply head_skip rfl)
     | (apply head_step_g rfl
        focus
          intro w0 hC
          (fail))
     | (apply head_step_g rfl
        focus
          intro w0 hC
          have hC' := Lib.hid hC
          obtain ⟨r1, f1, i1, b1, l1⟩ := St.facts1 hC
          clear hC
          go_simp
          have hC := hC'.out
          (first
             | with_reducible rfl
             | (skip
                (fail)
                rintro e w' ⟨rfl, hw⟩
                exact ⟨rfl, St.call (by assumption) hw⟩)))
   try simp only [Act.put, List.setIfInBounds_toArray, List.set])
  (first
     | (apply head_skip rfl)
     | (apply head_step_g rfl
        focus
          intro w0 hC
          (fail))
     | (apply head_step_g rfl
        focus
          intro w0 hC
          have hC' := Lib.hid hC
          obtain ⟨r1, f1, i1, b1, l1⟩ := St.facts1 hC
          clear hC
          go_simp
          have hC := hC'.out
          (first
             | with_reducible rfl
             | (skip
                (fail)
                rintro e w' ⟨rfl, hw⟩
                exact ⟨rfl, St.call (by assumption) hw⟩)))
   try simp only [Act.put, List.setIfInBounds_toArray, List.set])
  (first
     | (apply head_skip rfl)
     | (apply head_step_g rfl
        focus
          intro w0 hC
          (fail))
     | (apply head_step_g rfl
        focus
          intro w0 hC
          have hC' := Lib.hid hC
          obtain ⟨r1, f1, i1, b1, l1⟩ := St.facts1 hC
          clear hC
          go_simp
          have hC := hC'.out
          (first
             | with_reducible rfl
             | (skip
                (fail)
                rintro e w' ⟨rfl, hw⟩
                exact ⟨rfl, St.call (by assumption) hw⟩)))
   try simp only [Act.put, List.setIfInBounds_toArray, List.set])
  (first
     | (apply head_skip rfl)
     | (apply head_step_g rfl
        focus
          intro w0 hC
          (fail))
     | (apply head_step_g rfl
        focus
          intro w0 hC
          have hC' := Lib.hid hC
          obtain ⟨r1, f1, i1, b1, l1⟩ := St.facts1 hC
          clear hC
          go_simp
          have hC := hC'.out
          (first
             | with_reducible rfl
             | (skip
                (fail)
                rintro e w' ⟨rfl, hw⟩
                exact ⟨rfl, St.call (by assumption) hw⟩)))
   try simp only [Act.put, List.setIfInBounds_toArray, List.set])
  (first
     | (apply head_skip rfl)
     | (apply head_step_g rfl
        focus
          intro w0 hC
          (fail))
     | (apply head_step_g rfl
        focus
          intro w0 hC
          have hC' := Lib.hid hC
          obtain ⟨r1, f1, i1, b1, l1⟩ := St.facts1 hC
          clear hC
          go_simp
          have hC := hC'.out
          (first
             | with_reducible rfl
             | (skip
                (fail)
                rintro e w' ⟨rfl, hw⟩
                exact ⟨rfl, St.call (by assumption) hw⟩)))
   try simp only [Act.put, List.setIfInBounds_toArray, List.set])
  (first
     | (apply head_skip rfl)
     | (apply head_step_g rfl
        focus
          intro w0 hC
          (fail))
     | (apply head_step_g rfl
        focus
          intro w0 hC
          have hC' := Lib.hid hC
          obtain ⟨r1, f1, i1, b1, l1⟩ := St.facts1 hC
          clear hC
          go_simp
          have hC := hC'.out
          (first
             | with_reducible rfl
             | (skip
                (fail)
                rintro e w' ⟨rfl, hw⟩
                exact ⟨rfl, St.call (by assumption) hw⟩)))
   try simp only [Act.put, List.setIfInBounds_toArray, List.set])
  (first
     | (apply head_skip rfl)
     | (apply head_step_g rfl
        focus
          intro w0 hC
          (fail))
     | (apply head_step_g rfl
        focus
          intro w0 hC
          have hC' := Lib.hid hC
          obtain ⟨r1, f1, i1, b1, l1⟩ := St.facts1 hC
          clear hC
          go_simp
          have hC := hC'.out
          (first
             | with_reducible rfl
             | (skip
                (fail)
                rintro e w' ⟨rfl, hw⟩
                exact ⟨rfl, St.call (by assumption) hw⟩)))
   try simp only [Act.put, List.setIfInBounds_toArray, List.set])
  (first
     | (apply head_skip rfl)
     | (apply head_step_g rfl
        focus
          intro w0 hC
          (fail))
     | (apply head_step_g rfl
        focus
          intro w0 hC
          have hC' := Lib.hid hC
          obtain ⟨r1, f1, i1, b1, l1⟩ := St.facts1 hC
          clear hC
          go_simp
          have hC := hC'.out
          (first
             | with_reducible rfl
             | (skip
                (fail)
                rintro e w' ⟨rfl, hw⟩
                exact ⟨rfl, St.call (by assumption) hw⟩)))
   try simp only [Act.put, List.setIfInBounds_toArray, List.set])
  (first
     | (apply head_skip rfl)
     | (apply head_step_g rfl
        focus
          intro w0 hC
          (fail))
     | (apply head_step_g rfl
        focus
          intro w0 hC
          have hC' := Lib.hid hC
          obtain ⟨r1, f1, i1, b1, l1⟩ := St.facts1 hC
          clear hC
          go_simp
          have hC := hC'.out
          (first
             | with_reducible rfl
             | (skip
                (fail)
                rintro e w' ⟨rfl, hw⟩
                exact ⟨rfl, St.call (by assumption) hw⟩)))
   try simp only [Act.put, List.setIfInBounds_toArray, List.set])
  refine wpQuiet_nil ?_
  intro w3 hC
  go_wp2_with fail
  rw [HP.out, HQ.out]
  exact bodyPost_ret (results_q4 rfl _ (.int .i64 (N : Int)) (.string (s.extract 4 16)) (.string (s.extract 16 s.size)) (.int .i64 0) rfl rfl rfl rfl) rfl ⟨rfl, hC.below⟩
/-- the first bytes of an entry -/
def headS (t : Nat) (n : ByteArray) : ByteArray := strOf 4 (beB t 4) ++ n
set_option maxRecDepth 100000 in
theorem head_any (t : Nat) (ht : t ≤ 6) (n : ByteArray) (hn : n.size < 2 ^ 40) (w : World) : Calls Tryz.prog 55 #[.int .i64 (t : Int), .string n] w fun e w' => e = .returned (.string (headS t n)) ∧ Below w.heap.size w w' := by
  have n6 : (t : Int) ≤ 6 := by omega
  have HC := Lib.hid (St.nil w)
  go_enter Tryz.func55, Tryz.ntmps55
  go_wp2_with fail
  refine (num_nil 4 t (by omega) (by omega) w _ _ HC.out).mono ?_; rintro e w1 ⟨g, c, F, rfl, x1, x2, hw⟩
  have X2 := Lib.hid x2
  have HC := Lib.hid hw
  clear x2 hw
  have hC := HC.out
  (have HC := Lib.hid hC
   have sos := hC.below.os
   obtain ⟨r1, f1, i1, b1, l1⟩ := St.facts1 hC
   clear hC)
  have q1 : (strOf 4 F).size + n.size ≤ 9223372036854775807 := by rw [strOf_size]; omega
  go_wp2_with fail
  go_ret
  refine ⟨congrArg (fun x => Ending.returned (.string x)) ?_, HC.out.below⟩
  unfold headS
  rw [strOf_congr X2.out]
end Go.Proofs.YtgaecjhghpkcoaaGreat
