/- The reference's numbers, laid: padlockref01.Num. -/
import Derived.Test.YtgaecjhghpkcoaaGreatMBar
import Derived.Test.YtgaecjhghpkcoaaGreatMKeyRef
namespace Go.Proofs.YtgaecjhghpkcoaaGreat
open Go.RowKit
attribute [local go_sem] B_xor B_or B_and
attribute [local go_sem] blk_set blk_size blk_get blk_getE upd_same oneCells_blk paste_blk cut_blk szOf
attribute [local go_sem high] paste_all cut_head
attribute [local go_sem] rowAt_alloc rowAt_drew rowAt_drewN isRow_alloc isRow_drew isRow_drewN freeRow_alloc freeRow_end freeRow_drew freeRow_drewN
attribute [local go_sem] setRow_alloc setRow_drew setRow_drewN setCell_drewN alloc_drewN rowAt_put isRow_setRow freeRow_put
attribute [local go_sem ↓] loadS_in storeS_in indexS_in copyS_in
attribute [local go_sem] loadS_row loadS_one storeS_row storeS_one indexS_blk copyS_rows run_equalIn_blk same_refl arrayAt_row
attribute [local go_sem] cell_row frozen_row st_setCell st_blk_ne stepAt stepUpon
attribute [local go_sem high] run_eql_blk run_neq_blk
attribute [local go_sem ↓] convBS_in
attribute [local go_sem] convBS_row convBS_nil allBytes_blk bytesOf_blk

theorem run_append_nought (g n c : Nat) (hn : n ≤ c) (ty : TypeId) (w : World) : (Builtin.append_ #[134, 134] ty #[.slice (some ⟨g, 0, none⟩) n c, .slice none 0 0]).run Tryz.prog w = .ok (.slice (some ⟨g, 0, none⟩) n c) w := by
  simp [Builtin.append_, go_sem, hn]
theorem wpList_append_nought {ops : Array Oper} {rest : List Oper} {op : Oper} {a : Act} {Q : Exit → Act → World → Prop} {w : World} (hgd : op.guard = none) (s x : Operand) (ho : op.op = .call { callee := .builtin .append, args := #[s, x], argTypes := #[134, 134] })
    (g n c : Nat) (hs : a.eval s = .slice (some ⟨g, 0, none⟩) n c) (hn : n ≤ c) (hx : a.eval x = .slice none 0 0)
    (h : wpList Tryz.prog ops Q rest (a.put op.dst (.slice (some ⟨g, 0, none⟩) n c)) w) : wpList Tryz.prog ops Q (op :: rest) a w := by
  refine wpList_plain hgd fun K hK => ?_
  have hrun := run_append_nought g n c hn op.type w
  unfold Oper.wp
  simp [execOp, ho, resolve, invoke, builtin, hs, hx, hrun, Result.andThen]
  exact hK _ _ h
theorem row_of (U : Nat) : #[Value.int .u8 ((U : Int) % 256)] = blk 1 fun _ => UInt8.ofNat U := by
  rw [← blk_one]
  congr 2
theorem be_step {j : Nat} {F' F2 b : Nat → UInt8} (h : ∀ i, i < j → F' i = b i) (h2 : ∀ i, i < j + 1 → F2 i = glue j F' (fun _ => b j) i) : ∀ i, i < j + 1 → F2 i = b i := by
  intro i hi
  rw [h2 i hi]
  unfold glue
  split
  · exact h i (by omega)
  · rw [show i = j by omega]
theorem beB_pow (N k j : Nat) : beB N k j = UInt8.ofNat (N / 256 ^ (k - 1 - j)) := by
  unfold beB
  rw [Nat.pow_mul]
set_option maxRecDepth 100000 in
set_option maxHeartbeats 2000000 in
theorem refNum_nil (k N : Nat) (h1 : 1 ≤ k) (h8 : k ≤ 8) (hN : N < 18446744073709551616) (w0 w : World) (L : List (Nat × Array Value)) (hC : St w0 L w) : Calls Tryz.prog 82 #[.slice none 0 0, .int .i64 (k : Int), .int .u64 (N : Int)] w (Laid w0 L k (beB N k)) := by
  have HC := Lib.hid (hC.push (blk 0 fun _ => 0) 5)
  clear hC
  have HB := Lib.hid hN
  have HS := Lib.hid (show 0 + k ≤ 2 ^ 30 by omega)
  have HM := Lib.hid (Nat.le_refl 0)
  have HF := Lib.hid (show ∀ i, i < 0 → (fun _ => (0 : UInt8)) i = beB N k i from fun i hi => absurd hi (by omega))
  have k1 : 1 ≤ (k : Int) := by omega
  have k8 : (k : Int) ≤ 8 := by omega
  go_enter Tryz.func82, Tryz.ntmps82
  go_wp2_with (at_builtin; refine stop_list ?_)
  refine wpList_append_nought rfl (.tmp 11) (.tmp 12) rfl w.heap.size 0 0 rfl (Nat.le_refl _) rfl ?_
  go_wp2_with fail
  go_loopw [7, 8] (fun b i wr => ∃ j : Nat, j ≤ k ∧ i = .int .i64 ((k : Int) - 1 - (j : Int)) ∧ ∃ g' c' F', b = .slice (some ⟨g', 0, none⟩) j c' ∧ Hid (j ≤ c') ∧ Hid (∀ i, i < j → F' i = beB N k i) ∧ Hid (St w0 ((g', blk c' F') :: L) wr)) (fun _ i _ => (intOf i + 1).toNat)
  case atStart => exact ⟨0, by omega, by go_num, w.heap.size, 0, (fun _ => 0), by go_num, HM, HF, HC⟩
  case round =>
    clear HC HM HF
    obtain ⟨j, hj, rfl, g', c', F', rfl, HM, HF, HJ⟩ := hrel
    by_cases hlt : j < k
    · have d1 : 0 ≤ (k : Int) - 1 - (j : Int) := by omega
      go_wp2_with fail
      go_loopw [9, 10] (fun u i wx => ∃ t : Nat, t ≤ k - 1 - j ∧ i = .int .i64 (t : Int) ∧ ∃ U : Nat, u = .int .u64 (U : Int) ∧ Hid (U = N / 256 ^ t) ∧ wx = wr) (fun _ i _ => (k - 1 - j) - (intOf i).toNat)
      case atStart => exact ⟨0, by omega, rfl, N, rfl, Lib.hid (by simp), rfl⟩
      case round =>
        obtain ⟨t, ht, rfl, U, rfl, HU, rfl⟩ := hrel
        have nU : (U : Int) ≤ 18446744073709551615 := by
          have h1 : U ≤ N := by rw [HU.out]; exact Nat.div_le_self _ _
          have := HB.out
          omega
        by_cases hlk : t < k - 1 - j
        · have d2 : (t : Int) < (k : Int) - 1 - (j : Int) := by omega
          go_wp2_with fail
          go_roundw
          case rel => exact ⟨t + 1, by omega, by go_num, U / 256, by go_num, Lib.hid (by rw [HU.out, Nat.div_div_eq_div_mul, Nat.pow_succ]), trivial⟩
          case measure => simp [intOf]; omega
        · obtain rfl : t = k - 1 - j := by omega
          have d2 : ¬ ((k - 1 - j : Nat) : Int) < (k : Int) - 1 - (j : Int) := by omega
          have hbe : UInt8.ofNat U = beB N k j := by rw [beB_pow, HU.out]
          go_wp2_with (at_builtin; refine stop_list ?_)
          rw [row_of, hbe]
          have HC := Lib.hid (HJ.out.push (blk 1 fun _ => beB N k j) 5).swap
          refine wpList_append_bytes (w0 := w0) rfl (.tmp 35) (.tmp 39) rfl g' j c' F' rfl HC.out HM.out wr.heap.size 0 1 1 (fun _ => beB N k j) rfl (by simp [isRow_alloc]) (by simp [rowAt_alloc, blk_size]) (by simp [rowAt_alloc]; exact cut_head 1 _ 1 (Nat.le_refl _)) (by have := HS.out; omega) ?_
          clear HC
          intro g2 c2 F2 w2 hc2 hF2 hw2
          have HC := Lib.hid hw2.over
          have HF2 := Lib.hid hF2
          have HC2 := Lib.hid hc2
          clear hF2 hw2 hc2
          go_wp2_with fail
          go_roundw
          case rel => exact ⟨j + 1, by omega, by go_num, g2, c2, F2, by go_num, HC2, Lib.hid (be_step HF.out HF2.out), HC⟩
          case measure => simp [intOf]; omega
    · have d1 : ¬ 0 ≤ (k : Int) - 1 - (j : Int) := by omega
      obtain rfl : j = k := by omega
      go_wp2_with fail
      go_ret
      exact Laid.mk _ _ _ rfl HM.out HF.out HJ.out
set_option maxRecDepth 100000 in
set_option maxHeartbeats 2000000 in
theorem refNum_own (g m c k N : Nat) (F : Nat → UInt8) (h1 : 1 ≤ k) (h8 : k ≤ 8) (hN : N < 18446744073709551616) (hm : m ≤ c) (hb : m + k ≤ 2 ^ 30) (w0 w : World) (L : List (Nat × Array Value)) (hC : St w0 ((g, blk c F) :: L) w) : Calls Tryz.prog 82 #[.slice (some ⟨g, 0, none⟩) m c, .int .i64 (k : Int), .int .u64 (N : Int)] w (Laid w0 L (m + k) (glue m F (beB N k))) := by
  have HC := Lib.hid (hC.push (blk 0 fun _ => 0) 5)
  clear hC
  have HB := Lib.hid hN
  have HS := Lib.hid hb
  have HM0 := Lib.hid hm
  have k1 : 1 ≤ (k : Int) := by omega
  have k8 : (k : Int) ≤ 8 := by omega
  clear hm hb
  go_enter Tryz.func82, Tryz.ntmps82
  go_wp2_with (at_builtin; refine stop_list ?_)
  have hg := HC.out.at (.tail _ (.head _))
  refine wpList_append_bytes (w0 := w0) rfl (.tmp 11) (.tmp 12) rfl w.heap.size 0 0 (fun _ => 0) rfl HC.out (Nat.le_refl _) g 0 m c F rfl hg.2.2.1 (by have e := hg.1; have h0 := HM0.out; first | (rw [e, blk_size, Nat.zero_add]; exact h0) | (simp only [show (#[] : Array Value) = blk 0 (fun _ => 0) from rfl, e, blk_size, Nat.zero_add]; exact h0)) (by have e := hg.1; have h0 := HM0.out; first | (rw [e, Nat.zero_add]; exact cut_head _ _ _ h0) | (simp only [show (#[] : Array Value) = blk 0 (fun _ => 0) from rfl, e, Nat.zero_add]; exact cut_head _ _ _ h0)) (by have := HS.out; omega) ?_
  clear HC hg
  intro g0 c0 F0 w2 hc2 hF2 hw2
  have HC := Lib.hid hw2.over
  have HM := Lib.hid (show m + 0 ≤ c0 by omega)
  have HF := Lib.hid (show ∀ i, i < m + 0 → F0 i = glue m F (beB N k) i from fun i hi => by rw [hF2 i (by omega)]; unfold glue; rw [if_neg (by omega), if_pos (by omega)]; rfl)
  clear hF2 hw2 hc2
  go_wp2_with fail
  go_loopw [7, 8] (fun b i wr => ∃ j : Nat, j ≤ k ∧ i = .int .i64 ((k : Int) - 1 - (j : Int)) ∧ ∃ g' c' F', b = .slice (some ⟨g', 0, none⟩) (m + j) c' ∧ Hid (m + j ≤ c') ∧ Hid (∀ i, i < m + j → F' i = glue m F (beB N k) i) ∧ Hid (St w0 ((g', blk c' F') :: L) wr)) (fun _ i _ => (intOf i + 1).toNat)
  case atStart => exact ⟨0, by omega, by go_num, g0, c0, F0, by go_num, HM, HF, HC⟩
  case round =>
    clear HC HM HF
    obtain ⟨j, hj, rfl, g', c', F', rfl, HM, HF, HJ⟩ := hrel
    by_cases hlt : j < k
    · have d1 : 0 ≤ (k : Int) - 1 - (j : Int) := by omega
      go_wp2_with fail
      go_loopw [9, 10] (fun u i wx => ∃ t : Nat, t ≤ k - 1 - j ∧ i = .int .i64 (t : Int) ∧ ∃ U : Nat, u = .int .u64 (U : Int) ∧ Hid (U = N / 256 ^ t) ∧ wx = wr) (fun _ i _ => (k - 1 - j) - (intOf i).toNat)
      case atStart => exact ⟨0, by omega, rfl, N, rfl, Lib.hid (by simp), rfl⟩
      case round =>
        obtain ⟨t, ht, rfl, U, rfl, HU, rfl⟩ := hrel
        have nU : (U : Int) ≤ 18446744073709551615 := by
          have h1 : U ≤ N := by rw [HU.out]; exact Nat.div_le_self _ _
          have := HB.out
          omega
        by_cases hlk : t < k - 1 - j
        · have d2 : (t : Int) < (k : Int) - 1 - (j : Int) := by omega
          go_wp2_with fail
          go_roundw
          case rel => exact ⟨t + 1, by omega, by go_num, U / 256, by go_num, Lib.hid (by rw [HU.out, Nat.div_div_eq_div_mul, Nat.pow_succ]), trivial⟩
          case measure => simp [intOf]; omega
        · obtain rfl : t = k - 1 - j := by omega
          have d2 : ¬ ((k - 1 - j : Nat) : Int) < (k : Int) - 1 - (j : Int) := by omega
          have hbe : UInt8.ofNat U = beB N k j := by rw [beB_pow, HU.out]
          go_wp2_with (at_builtin; refine stop_list ?_)
          rw [row_of, hbe]
          have HC := Lib.hid (HJ.out.push (blk 1 fun _ => beB N k j) 5).swap
          refine wpList_append_bytes (w0 := w0) rfl (.tmp 35) (.tmp 39) rfl g' (m + j) c' F' rfl HC.out HM.out wr.heap.size 0 1 1 (fun _ => beB N k j) rfl (by simp [isRow_alloc]) (by simp [rowAt_alloc, blk_size]) (by simp [rowAt_alloc]; exact cut_head 1 _ 1 (Nat.le_refl _)) (by have := HS.out; omega) ?_
          clear HC
          intro g2 c2 F2 w2 hc2 hF2 hw2
          have HC := Lib.hid hw2.over
          have HF2 := Lib.hid hF2
          have HC2 := Lib.hid hc2
          clear hF2 hw2 hc2
          go_wp2_with fail
          go_roundw
          case rel => exact ⟨j + 1, by omega, by go_num, g2, c2, F2, by go_num, HC2, Lib.hid (glue_step HF.out HF2.out), HC⟩
          case measure => simp [intOf]; omega
    · have d1 : ¬ 0 ≤ (k : Int) - 1 - (j : Int) := by omega
      obtain rfl : j = k := by omega
      go_wp2_with fail
      go_ret
      exact Laid.mk _ _ _ rfl HM.out HF.out HJ.out
end Go.Proofs.YtgaecjhghpkcoaaGreat
