/- The program's grown, lay and Num (quill): a number laid behind bytes. -/
import Derived.Test.YtgaecjhghpkcoaaGreatScanNum
import Derived.Test.YtgaecjhghpkcoaaGreatAppend
import Derived.OwnWalk
namespace Go.Proofs.YtgaecjhghpkcoaaGreat
open Go.RowKit
attribute [local go_sem] B_xor B_or B_and
attribute [local go_sem] blk_set blk_size blk_get blk_getE upd_same oneCells_blk paste_blk cut_blk szOf
attribute [local go_sem high] paste_all cut_head
attribute [local go_sem] rowAt_alloc rowAt_drew rowAt_drewN isRow_alloc isRow_drew isRow_drewN freeRow_alloc freeRow_end freeRow_drew freeRow_drewN
attribute [local go_sem] setRow_alloc setRow_drew setRow_drewN setCell_drewN alloc_drewN rowAt_put isRow_setRow freeRow_put
attribute [local go_sem ↓] loadS_in storeS_in indexS_in copyS_in
attribute [local go_sem] loadS_row loadS_one storeS_row storeS_one indexS_blk copyS_rows run_equalIn_blk same_refl arrayAt_row
attribute [local go_sem] cell_row frozen_row st_setCell st_blk_ne stepAt stepUpon
attribute [local go_sem high] run_eql_blk run_neq_blk
attribute [local go_sem ↓] convBS_in
attribute [local go_sem] convBS_row convBS_nil allBytes_blk bytesOf_blk
attribute [local go_sem] U_xor U_or U_and U_and1 U_tail U_neg U_half U_shr U_shl8 U_shl63 U_of U_to pr_size pr_get0 pr_get1 pr_getE0 pr_getE1 pr_set0 pr_set1 pr_ne oneCells_pr paste_pr cut_pr
attribute [local go_sem] wide_size wide_get0 wide_get1 wide_getE0 wide_getE1 wide_ne oneCells_wide paste_wide cut_wide
theorem madeCells_blk (n : Nat) : madeCells #[.int .u8 0] n = blk n fun _ => 0 := by
  apply Array.ext_getElem?
  intro i
  by_cases h : i < n
  · simp [madeCells, blk, h, Nat.mod_one, B]
  · rw [Array.getElem?_eq_none (by rw [size_madeCells]; omega), Array.getElem?_eq_none (by rw [blk_size]; omega)]
theorem info_u8 : ∃ i, Tryz.prog.info? 5 = some i ∧ i.zero = some (.int .u8 0) ∧ i.size = 1 ∧ i.bytes = 1 := by
  have h : (Tryz.prog.info? 5).map (fun i => (i.zero, i.size, i.bytes)) = some (some (.int .u8 0), 1, 1) := by kernel_rfl
  obtain ⟨i, hi, hv⟩ := Option.map_eq_some_iff.1 h
  simp only [Prod.mk.injEq] at hv
  exact ⟨i, hi, hv.1, hv.2.1, hv.2.2⟩
theorem run_make_bytes (kl kc : IntKind) (n m : Nat) (h : n ≤ m) (hm : m ≤ 2 ^ 40) (w : World) :
    (Instr.makeSlice 134 (.int kl (n : Int)) (.int kc (m : Int))).run Tryz.prog w = .ok (.slice (some ⟨w.heap.size, 0, none⟩) n m) (w.alloc (.cells (blk m fun _ => 0) 5)) := by
  obtain ⟨i, hi, hz, hs, hb⟩ := info_u8
  have hr := run_make (P := Tryz.prog) w 134 5 i (.int .u8 0) (by kernel_rfl) hi hz kl kc n m (by omega) (by omega) (by rw [hb]; omega) (by omega)
  have hc : (Value.int .u8 0).cells = #[.int .u8 0] := rfl
  rw [Int.toNat_natCast, Int.toNat_natCast, hs, Nat.mul_one, hc, madeCells_blk] at hr
  exact hr
theorem run_make_bytes0 (kl kc : IntKind) (m : Nat) (hm : m ≤ 2 ^ 40) (w : World) :
    (Instr.makeSlice 134 (.int kl 0) (.int kc (m : Int))).run Tryz.prog w = .ok (.slice (some ⟨w.heap.size, 0, none⟩) 0 m) (w.alloc (.cells (blk m fun _ => 0) 5)) := by
  have h := run_make_bytes kl kc 0 m (Nat.zero_le _) hm w
  rw [Int.natCast_zero] at h
  exact h
theorem copyS_none (d s : Option Addr) (n c n' c' : Nat) (h : min n' n = 0) (w : World) : (copyS #[134, 134] 3 #[.slice d n c, .slice s n' c']).run Tryz.prog w = .ok (.int .i64 0) w := by
  exact run_copy_none w _ _ _ 5 d s n c n' c' (by kernel_rfl) (by kernel_rfl) h
attribute [local go_sem] run_make_bytes0 copyS_none
/-- bytes behind bytes of the call's own -/
theorem wpList_append_bytes {ops : Array Oper} {rest : List Oper} {op : Oper} {a : Act} {Q : Exit → Act → World → Prop} {w0 w : World} {L : List (Nat × Array Value)} (hgd : op.guard = none) (s x : Operand) (ho : op.op = .call { callee := .builtin .append, args := #[s, x], argTypes := #[134, 134] })
    (g n cap : Nat) (F : Nat → UInt8) (hs : a.eval s = .slice (some ⟨g, 0, none⟩) n cap) (hC : St w0 ((g, blk cap F) :: L) w) (hn : n ≤ cap)
    (h o m c : Nat) (G : Nat → UInt8) (hx : a.eval x = .slice (some ⟨h, o, none⟩) m c) (hr : isRow w h = true) (hro : o + m ≤ (rowAt w h).size) (hG : cut (rowAt w h) o (o + m) = blk m G) (hbig : n + m ≤ 2 ^ 40)
    (k : ∀ g' cap' F' w', n + m ≤ cap' → (∀ i, i < n + m → F' i = glue n F G i) → St w0 ((g', blk cap' F') :: L) w' → wpList Tryz.prog ops Q rest (a.put op.dst (.slice (some ⟨g', 0, none⟩) (n + m) cap')) w') : wpList Tryz.prog ops Q (op :: rest) a w := by
  obtain ⟨i, hi, hz, hsz, hb⟩ := info_u8
  refine wpList_append_row (L := L) (w0 := w0) hgd s x _ ho 5 i (.int .u8 0) 1 (by kernel_rfl) hi hz hsz hb rfl (by omega) g n cap F hs (by rw [Nat.mul_one]; exact hC) hn h o m c G hx hr (by omega) (by rw [Nat.mul_one]; exact hG) (by omega) ?_
  intro g' cap' F' w' h1 h2 h3
  rw [Nat.mul_one] at h2 h3
  rw [Nat.mul_one] at h2
  exact k g' cap' F' w' h1 h2 h3
/-- a slice of n bytes f, in a block of the call's own -/
def Laid (w0 : World) (L : List (Nat × Array Value)) (n : Nat) (f : Nat → UInt8) (e : Ending) (w : World) : Prop := ∃ g c F, e = .returned (.slice (some ⟨g, 0, none⟩) n c) ∧ n ≤ c ∧ (∀ i, i < n → F i = f i) ∧ St w0 ((g, blk c F) :: L) w
theorem Laid.mk {w0 w : World} {L : List (Nat × Array Value)} {n : Nat} {f : Nat → UInt8} {e : Ending} (g c : Nat) (F : Nat → UInt8) (he : e = .returned (.slice (some ⟨g, 0, none⟩) n c)) (hn : n ≤ c) (hF : ∀ i, i < n → F i = f i) (hC : St w0 ((g, blk c F) :: L) w) : Laid w0 L n f e w := ⟨g, c, F, he, hn, hF, hC⟩
set_option maxRecDepth 100000 in
theorem grown_nil (k : Nat) (h8 : k ≤ 8) (w0 w : World) (L : List (Nat × Array Value)) (hC : St w0 L w) : Calls Tryz.prog 108 #[.slice none 0 0, .int .i64 (k : Int)] w fun e w' => ∃ g, e = .returned (.slice (some ⟨g, 0, none⟩) 0 k) ∧ St w0 ((g, blk k fun _ => 0) :: L) w' := by
  have HC := Lib.hid hC
  have d1 : k ≤ 1099511627776 := by omega
  clear hC
  go_enter Tryz.func108, Tryz.ntmps108
  go_wp2_with fail
  go_ret
  exact ⟨_, rfl, HC.out.pushA _ _ rfl⟩
/-- byte j of a number that is laid in k bytes, the greatest first -/
def beB (N k j : Nat) : UInt8 := UInt8.ofNat (N / 2 ^ (8 * (k - 1 - j)))
theorem glue_step {m j : Nat} {F F' F2 b : Nat → UInt8} (h : ∀ i, i < m + j → F' i = glue m F b i) (h2 : ∀ i, i < m + j + 1 → F2 i = glue (m + j) F' (fun _ => b j) i) : ∀ i, i < m + (j + 1) → F2 i = glue m F b i := by
  intro i hi
  rw [h2 i (by omega)]
  by_cases h3 : i < m + j
  · rw [← h i h3]; unfold glue; rw [if_pos h3]
  · have e : i = m + j := by omega
    subst e
    unfold glue
    rw [if_neg (by omega), if_neg (by omega), Nat.add_sub_cancel_left]
theorem St.over {w0 a : World} {x y : Nat × Array Value} {L : List (Nat × Array Value)} (h : St w0 (x :: y :: L) a) : St w0 (x :: L) a := h.swap.tail
/-- a walk stops ahead of an append -/
def Stop (p : Prop) : Prop := p
theorem stop_list {P : Program} {ops : Array Oper} {l : List Oper} {Q : Exit → Act → World → Prop} {a : Act} {w : World} (h : Stop (wpList P ops Q l a w)) : wpList P ops Q l a w := h
theorem be_row (N k j : Nat) : #[Value.int .u8 ((N : Int) / 2 ^ (8 * (k - 1 - j)) % 256)] = blk 1 fun _ => beB N k j := by
  have h : blk 1 (fun _ => beB N k j) = #[.int .u8 (B (beB N k j))] := rfl
  rw [h]
  congr 2
set_option maxRecDepth 100000 in
set_option maxHeartbeats 2000000 in
theorem lay_any (g m c k N : Nat) (F : Nat → UInt8) (h1 : 1 ≤ k) (h8 : k ≤ 8) (hm : m ≤ c) (hbig : m + k ≤ 2 ^ 30) (w0 w : World) (L : List (Nat × Array Value)) (hC : St w0 ((g, blk c F) :: L) w) :
    Calls Tryz.prog 109 #[.slice (some ⟨g, 0, none⟩) m c, .int .i64 (k : Int), .int .u64 (N : Int)] w (Laid w0 L (m + k) (glue m F (beB N k))) := by
  have HC := Lib.hid hC
  clear hC
  have HM := Lib.hid hm
  have HB := Lib.hid hbig
  clear hm hbig
  have v1 : IntKind.i64.wrap ((k : Int) - 1) = (k : Int) - 1 := by rw [IntWalk.i64_in _ (by omega)]
  have v2 : IntKind.i64.wrap (8 * ((k : Int) - 1)) = 8 * ((k : Int) - 1) := by rw [IntWalk.i64_in _ (by omega)]
  go_enter Tryz.func109, Tryz.ntmps109
  go_wp2_with fail
  go_loopw [0, 7] (fun b i wr => ∃ j : Nat, j ≤ k ∧ i = .int .i64 (8 * ((k : Int) - 1 - (j : Int))) ∧ ∃ g' c' F', b = .slice (some ⟨g', 0, none⟩) (m + j) c' ∧ Hid (m + j ≤ c') ∧ Hid (∀ i, i < m + j → F' i = glue m F (beB N k) i) ∧ Hid (St w0 ((g', blk c' F') :: L) wr)) (fun _ i _ => (intOf i + 8).toNat)
  case atStart => exact ⟨0, by omega, by go_num, g, c, F, rfl, HM, Lib.hid fun i hi => by unfold glue; rw [if_pos (by omega)], HC⟩
  case round =>
    clear HC HM
    obtain ⟨j, hj, rfl, g', c', F', rfl, HM, HF, HJ⟩ := hrel
    by_cases hlt : j < k
    · have d1 : 0 ≤ 8 * ((k : Int) - 1 - (j : Int)) := by omega
      have hsh : (8 * ((k : Int) - 1 - (j : Int))).toNat = 8 * (k - 1 - j) := by omega
      go_wp2_with (at_builtin; refine stop_list ?_)
      rw [be_row]
      have HC := Lib.hid (HJ.out.push (blk 1 fun _ => beB N k j) 5).swap
      refine wpList_append_bytes (w0 := w0) rfl (.tmp 15) (.tmp 20) rfl g' (m + j) c' F' rfl HC.out HM.out wr.heap.size 0 1 1 (fun _ => beB N k j) rfl (by simp [isRow_alloc]) (by simp [rowAt_alloc, blk_size]) (by simp [rowAt_alloc]; exact cut_head 1 _ 1 (Nat.le_refl _)) (by have := HB.out; omega) ?_
      clear HC
      intro g2 c2 F2 w2 hc2 hF2 hw2
      have HC := Lib.hid hw2.over
      have HF2 := Lib.hid hF2
      have HC2 := Lib.hid hc2
      clear hF2 hw2 hc2
      go_wp2_with fail
      go_round
      case rel => exact ⟨j + 1, by omega, by go_num, g2, c2, F2, by go_num, HC2.out, Lib.hid (glue_step HF.out HF2.out), HC⟩
      case measure => simp [intOf]; omega
    · have d1 : ¬ 0 ≤ 8 * ((k : Int) - 1 - (j : Int)) := by omega
      obtain rfl : j = k := by omega
      go_wp2_with fail
      go_ret
      exact Laid.mk _ _ _ rfl HM.out HF.out HJ.out
theorem num_nil (k N : Nat) (h1 : 1 ≤ k) (h8 : k ≤ 8) (w0 w : World) (L : List (Nat × Array Value)) (hC : St w0 L w) :
    Calls Tryz.prog 80 #[.slice none 0 0, .int .i64 (k : Int), .int .u64 (N : Int)] w (Laid w0 L k (beB N k)) := by
  have HC := Lib.hid hC
  clear hC
  go_enter Tryz.func80, Tryz.ntmps80
  go_wp2_with fail
  refine (sized_any k h1 h8 _).mono ?_; rintro e w2 ⟨rfl, hw⟩
  have HC := Lib.hid (HC.out.call hw)
  clear hw
  go_wp2_with fail
  refine (grown_nil k h8 w0 _ L HC.out).mono ?_; rintro e w3 ⟨g, rfl, hw⟩
  have HC := Lib.hid hw
  clear hw
  go_wp2_with fail
  refine (lay_any g 0 k k N _ h1 h8 (by omega) (by omega) w0 _ L HC.out).mono ?_; rintro e w4 ⟨g2, c2, F2, rfl, h1, h2, hw⟩
  have H1 := Lib.hid h1
  have H2 := Lib.hid h2
  have HC := Lib.hid hw
  clear h1 h2 hw
  go_wp2_with fail
  go_ret
  refine Laid.mk g2 c2 F2 rfl (by have := H1.out; omega) (fun i hi => ?_) HC.out
  rw [H2.out i (by omega)]
  rfl
end Go.Proofs.YtgaecjhghpkcoaaGreat
