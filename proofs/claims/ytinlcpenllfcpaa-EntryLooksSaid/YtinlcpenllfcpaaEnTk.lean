/- The program's taker: num, row, fail, count. -/
import Derived.Test.YtinlcpenllfcpaaEnScan
namespace Go.Proofs.Ytinlcpenllfcpaa
open Go.RowKit
attribute [local go_sem] B_xor B_or B_and
attribute [local go_sem] blk_set blk_size blk_get blk_getE upd_same oneCells_blk paste_blk cut_blk szOf
attribute [local go_sem high] paste_all cut_head
attribute [local go_sem] rowAt_alloc rowAt_drew rowAt_drewN isRow_alloc isRow_drew isRow_drewN freeRow_alloc freeRow_end freeRow_drew freeRow_drewN
attribute [local go_sem] setRow_alloc setRow_drew setRow_drewN setCell_drewN alloc_drewN rowAt_put isRow_setRow freeRow_put
attribute [local go_sem ↓] loadS_in storeS_in indexS_in copyS_in
attribute [local go_sem] loadS_row loadS_one storeS_row storeS_one indexS_blk copyS_rows run_equalIn_blk same_refl arrayAt_row
attribute [local go_sem] cell_row frozen_row st_setCell st_blk_ne stepAt stepUpon
attribute [local go_sem high] run_eql_blk run_neq_blk
attribute [local go_sem ↓] convBS_in
attribute [local go_sem] convBS_row convBS_nil allBytes_blk bytesOf_blk
attribute [local go_sem] size_sc agg_sc sc_size sc_get0 sc_get1 sc_get2 sc_getE0 sc_getE1 sc_getE2 sc_set1 sc_set2 sc_ne sc_one sc_cut sc_paste

theorem size_tk (w : World) : (sizeOf 72).run Try.prog w = .ok 3 w := by simp [go_sem]
theorem agg_tk (w : World) : (isAgg 72).run Try.prog w = .ok true w := by simp [go_sem]
attribute [local go_sem] size_tk agg_tk
/-- a number off a text: what, and where it ends, with which error -/
def tk (s : ByteArray) (p e k : Nat) : Nat × Nat × Nat := if e ≠ 0 then (0, p, e) else if p + k ≤ s.size then (numAt s p k, p + k, 0) else (0, p, 3)
theorem scanNum_tk (s : ByteArray) (p e k : Nat) (h1 : 1 ≤ k) (h8 : k ≤ 8) (hp : p ≤ s.size) (hs : s.size < 2 ^ 40) (w : World) : Calls Try.prog 58 #[.agg (sc s p e), .int .i64 (k : Int)] w fun r w' => r = .returned (.tuple #[.int .u64 (((tk s p e k).1 : Nat) : Int), .agg (sc s (tk s p e k).2.1 (tk s p e k).2.2)]) ∧ Below w.heap.size w w' := by
  unfold tk
  by_cases he : e = 0
  · subst he
    rw [if_neg (fun h => h rfl)]
    by_cases h : p + k ≤ s.size
    · rw [if_pos h]; exact scanNum_ok s p k h1 h8 h hs w
    · rw [if_neg h]; exact scanNum_short s p k h1 h8 hp (by omega) hs w
  · rw [if_pos he]; exact scanNum_bad s p k e he w
set_option maxRecDepth 100000 in
set_option maxHeartbeats 1000000 in
theorem num_tk (gt : Nat) (s : ByteArray) (p e k : Nat) (h1 : 1 ≤ k) (h8 : k ≤ 8) (hp : p ≤ s.size) (hs : s.size < 2 ^ 40) (w0 w : World) (L : List (Nat × Array Value)) (hC : St w0 ((gt, sc s p e) :: L) w) : Calls Try.prog 43 #[.pointer (some ⟨gt, 0, none⟩), .int .i64 (k : Int)] w fun r w' => r = .returned (.int .u64 (((tk s p e k).1 : Nat) : Int)) ∧ St w0 ((gt, sc s (tk s p e k).2.1 (tk s p e k).2.2) :: L) w' := by
  have K := Lib.hid (fun w => scanNum_tk s p e k h1 h8 hp hs w)
  obtain ⟨⟨n, q, d⟩, hR⟩ : ∃ R, tk s p e k = R := ⟨_, rfl⟩
  rw [hR] at K ⊢
  have HC := Lib.hid hC
  clear hC hR hp hs
  dsimp only at K ⊢
  (obtain ⟨r1, f1, i1, b1, l1⟩ := St.facts1 (HC.out.pick [0] (by decide) rfl))
  go_enter Try.func43, Try.ntmps43
  go_wp2_with fail
  (clear r1 f1 i1 b1 l1)
  refine (K.out _).mono ?_; rintro r w1 ⟨rfl, hw⟩
  have HC := Lib.hid (HC.out.call hw)
  clear hw K
  (obtain ⟨r1, f1, i1, b1, l1⟩ := St.facts1 (HC.out.pick [0] (by decide) rfl))
  go_upto_region 3 with fail
  (clear r1 f1 i1 b1 l1)
  have HC := Lib.hid (HC.out.set_head (sc s q d) (by rw [sc_size, sc_size]))
  generalize w1.setRow gt (sc s q d) = w2 at HC ⊢
  go_wp2_with fail
  go_ret
  exact ⟨rfl, HC.out⟩
def tkRow (s : ByteArray) (p : Nat) : ByteArray × Nat × Nat := match takeR s p with
  | .error e => (⟨#[]⟩, p, e)
  | .ok (r, q) => (r, q, 0)
theorem scanRow_tk (s : ByteArray) (p : Nat) (hp : p ≤ s.size) (hs : s.size < 2 ^ 40) (w : World) : Calls Try.prog 59 #[.agg (sc s p 0)] w fun r w' => r = .returned (.tuple #[.string (tkRow s p).1, .agg (sc s (tkRow s p).2.1 (tkRow s p).2.2)]) ∧ Below w.heap.size w w' := by
  unfold tkRow takeR
  by_cases h1 : p + 2 ≤ s.size
  · rw [if_pos h1]
    by_cases h2 : p + 2 + numAt s p 2 ≤ s.size
    · rw [if_pos h2]; exact scanRow_ok s p h1 h2 hs w
    · rw [if_neg h2]; exact scanRow_short s p h1 (by omega) hs w
  · rw [if_neg h1]; exact scanRow_none s p hp (by omega) hs w
set_option maxRecDepth 100000 in
set_option maxHeartbeats 1000000 in
theorem row_tk (gt : Nat) (s : ByteArray) (p : Nat) (hp : p ≤ s.size) (hs : s.size < 2 ^ 40) (w0 w : World) (L : List (Nat × Array Value)) (hC : St w0 ((gt, sc s p 0) :: L) w) : Calls Try.prog 44 #[.pointer (some ⟨gt, 0, none⟩)] w fun r w' => r = .returned (.string (tkRow s p).1) ∧ St w0 ((gt, sc s (tkRow s p).2.1 (tkRow s p).2.2) :: L) w' := by
  have K := Lib.hid (fun w => scanRow_tk s p hp hs w)
  obtain ⟨⟨n, q, d⟩, hR⟩ : ∃ R, tkRow s p = R := ⟨_, rfl⟩
  rw [hR] at K ⊢
  have HC := Lib.hid hC
  clear hC hR hp hs
  dsimp only at K ⊢
  (obtain ⟨r1, f1, i1, b1, l1⟩ := St.facts1 (HC.out.pick [0] (by decide) rfl))
  go_enter Try.func44, Try.ntmps44
  go_wp2_with fail
  (clear r1 f1 i1 b1 l1)
  refine (K.out _).mono ?_; rintro r w1 ⟨rfl, hw⟩
  have HC := Lib.hid (HC.out.call hw)
  clear hw K
  (obtain ⟨r1, f1, i1, b1, l1⟩ := St.facts1 (HC.out.pick [0] (by decide) rfl))
  go_upto_region 3 with fail
  (clear r1 f1 i1 b1 l1)
  have HC := Lib.hid (HC.out.set_head (sc s q d) (by rw [sc_size, sc_size]))
  generalize w1.setRow gt (sc s q d) = w2 at HC ⊢
  go_wp2_with fail
  go_ret
  exact ⟨rfl, HC.out⟩
def failE (e d : Nat) : Nat := if e = 0 then d else e
set_option maxRecDepth 100000 in
set_option maxHeartbeats 1000000 in
theorem fail_tk (gt : Nat) (s : ByteArray) (p e d : Nat) (w0 w : World) (L : List (Nat × Array Value)) (hC : St w0 ((gt, sc s p e) :: L) w) : Calls Try.prog 47 #[.pointer (some ⟨gt, 0, none⟩), .int .i64 (d : Int)] w fun r w' => r = .returned (.tuple #[]) ∧ St w0 ((gt, sc s p (failE e d)) :: L) w' := by
  have HC := Lib.hid hC
  unfold failE
  clear hC
  by_cases he : e = 0
  · rw [if_pos he]
    subst he
    (obtain ⟨r1, f1, i1, b1, l1⟩ := St.facts1 (HC.out.pick [0] (by decide) rfl))
    go_enter Try.func47, Try.ntmps47
    go_wp2_with fail
    go_end0
    refine ⟨rfl, ?_⟩
    exact HC.out.set_head (sc s p d) (by rw [sc_size, sc_size])
  · rw [if_neg he]
    have d1 : ((e : Int) == 0) = false := by rw [beq_eq_false_iff_ne]; omega
    clear he
    (obtain ⟨r1, f1, i1, b1, l1⟩ := St.facts1 (HC.out.pick [0] (by decide) rfl))
    go_enter Try.func47, Try.ntmps47
    go_wp2_with fail
    go_end0
    exact ⟨rfl, HC.out⟩
def countR (s : ByteArray) (p d : Nat) : Nat × Nat × Nat := if 4 ≤ d then (0, p, 24) else if p + 1 ≤ s.size then (numAt s p 1, p + 1, if 64 < numAt s p 1 then 5 else 0) else (0, p, 3)
theorem numAt1_lt (s : ByteArray) (p : Nat) : numAt s p 1 < 256 := numTo_lt _ 1
set_option maxRecDepth 100000 in
set_option maxHeartbeats 2000000 in
theorem count_tk (gt : Nat) (s : ByteArray) (p d : Nat) (hd : d ≤ 10) (hp : p ≤ s.size) (hs : s.size < 2 ^ 40) (w0 w : World) (L : List (Nat × Array Value)) (hC : St w0 ((gt, sc s p 0) :: L) w) : Calls Try.prog 60 #[.pointer (some ⟨gt, 0, none⟩), .int .i64 (d : Int)] w fun r w' => r = .returned (.int .i64 (((countR s p d).1 : Nat) : Int)) ∧ St w0 ((gt, sc s (countR s p d).2.1 (countR s p d).2.2) :: L) w' := by
  have HC := Lib.hid hC
  have HN := Lib.hid (fun e (w : World) (h : St w0 ((gt, sc s p e) :: L) w) => num_tk gt s p e 1 (by omega) (by omega) hp hs w0 w L h)
  clear hC
  unfold countR
  by_cases h4 : 4 ≤ d
  · rw [if_pos h4]
    have d1 : decide (4 ≤ (d : Int)) = true := decide_eq_true (by omega)
    have e1 : tk s p 24 1 = (0, p, 24) := by unfold tk; rw [if_pos (by decide)]
    have HN := Lib.hid (fun w h => HN.out 24 w h)
    rw [e1] at HN
    have HW := Lib.hid (within_any d 0)
    rw [show withinE d 0 = 24 by unfold withinE; rw [if_pos h4]] at HW
    clear e1 h4 hp hs
    go_enter Try.func60, Try.ntmps60
    go_wp2_with fail
    refine (fail_tk gt s p 0 24 w0 _ L HC.out).mono ?_; rintro r w1 ⟨rfl, hw⟩
    have HC := Lib.hid (show St w0 ((gt, sc s p 24) :: L) w1 from hw)
    clear hw
    go_wp2_with fail
    refine (HN.out _ HC.out).mono ?_; rintro r w2 ⟨rfl, hw⟩
    have HC := Lib.hid hw
    clear hw HN
    go_wp2_with fail
    refine (HW.out _).mono ?_; rintro r w3 ⟨rfl, hw⟩
    have HC := Lib.hid (HC.out.call hw)
    clear hw HW
    (obtain ⟨r1, f1, i1, b1, l1⟩ := St.facts1 (HC.out.pick [0] (by decide) rfl))
    go_wp2_with fail
    go_ret
    exact ⟨rfl, HC.out⟩
  · rw [if_neg h4]
    have d1 : decide (4 ≤ (d : Int)) = false := decide_eq_false (by omega)
    have HN := Lib.hid (fun w h => HN.out 0 w h)
    by_cases hn : p + 1 ≤ s.size
    · rw [if_pos hn]
      have e1 : tk s p 0 1 = (numAt s p 1, p + 1, 0) := by unfold tk; rw [if_neg (fun h => h rfl), if_pos hn]
      have hN2 := numAt1_lt s p
      rw [e1] at HN
      clear e1
      have HWA := Lib.hid (within_any d (numAt s p 1))
      obtain ⟨N, hNe⟩ : ∃ N, numAt s p 1 = N := ⟨_, rfl⟩
      rw [hNe] at HN HWA hN2 ⊢
      have n255 : (N : Int) ≤ 255 := by omega
      by_cases h64 : 64 < N
      · rw [if_pos h64]
        rw [show withinE d N = 5 by unfold withinE; rw [if_neg h4, if_pos h64]] at HWA
        clear h4 hp hs hn hNe h64
        go_enter Try.func60, Try.ntmps60
        go_wp2_with fail
        refine (HN.out _ HC.out).mono ?_; rintro r w2 ⟨rfl, hw⟩
        have HC := Lib.hid hw
        clear hw HN
        go_wp2_with fail
        refine (HWA.out _).mono ?_; rintro r w3 ⟨rfl, hw⟩
        have HC := Lib.hid (HC.out.call hw)
        clear hw HWA
        (obtain ⟨r1, f1, i1, b1, l1⟩ := St.facts1 (HC.out.pick [0] (by decide) rfl))
        go_wp2_with fail
        (clear r1 f1 i1 b1 l1)
        refine (fail_tk gt s (p + 1) 0 5 w0 _ L HC.out).mono ?_; rintro r w4 ⟨rfl, hw⟩
        have HC := Lib.hid (show St w0 ((gt, sc s (p + 1) 5) :: L) w4 from hw)
        clear hw
        go_wp2_with fail
        go_ret
        exact ⟨rfl, HC.out⟩
      · rw [if_neg h64]
        rw [show withinE d N = 0 by unfold withinE; rw [if_neg h4, if_neg h64]] at HWA
        clear h4 hp hs hn hNe h64
        go_enter Try.func60, Try.ntmps60
        go_wp2_with fail
        refine (HN.out _ HC.out).mono ?_; rintro r w2 ⟨rfl, hw⟩
        have HC := Lib.hid hw
        clear hw HN
        go_wp2_with fail
        refine (HWA.out _).mono ?_; rintro r w3 ⟨rfl, hw⟩
        have HC := Lib.hid (HC.out.call hw)
        clear hw HWA
        (obtain ⟨r1, f1, i1, b1, l1⟩ := St.facts1 (HC.out.pick [0] (by decide) rfl))
        go_wp2_with fail
        go_ret
        exact ⟨rfl, HC.out⟩
    · rw [if_neg hn]
      have e1 : tk s p 0 1 = (0, p, 3) := by unfold tk; rw [if_neg (fun h => h rfl), if_neg hn]
      rw [e1] at HN
      have HW := Lib.hid (within_any d 0)
      rw [show withinE d 0 = 0 by unfold withinE; rw [if_neg h4, if_neg (by omega)]] at HW
      clear e1 h4 hp hs hn
      go_enter Try.func60, Try.ntmps60
      go_wp2_with fail
      refine (HN.out _ HC.out).mono ?_; rintro r w2 ⟨rfl, hw⟩
      have HC := Lib.hid hw
      clear hw HN
      go_wp2_with fail
      refine (HW.out _).mono ?_; rintro r w3 ⟨rfl, hw⟩
      have HC := Lib.hid (HC.out.call hw)
      clear hw HW
      (obtain ⟨r1, f1, i1, b1, l1⟩ := St.facts1 (HC.out.pick [0] (by decide) rfl))
      go_wp2_with fail
      go_ret
      exact ⟨rfl, HC.out⟩
end Go.Proofs.Ytinlcpenllfcpaa
