/- The reference's Parse of a ring's text. Texts no longer than 2 to 40. -/
import Derived.Test.YtgaecjhghpkcoaaGreatRefText
namespace Go.Proofs.YtgaecjhghpkcoaaGreat
open Go.RowKit
attribute [local go_sem] B_xor B_or B_and
attribute [local go_sem] blk_set blk_size blk_get blk_getE upd_same oneCells_blk paste_blk cut_blk szOf
attribute [local go_sem high] paste_all cut_head
attribute [local go_sem] rowAt_alloc rowAt_drew rowAt_drewN isRow_alloc isRow_drew isRow_drewN freeRow_alloc freeRow_end freeRow_drew freeRow_drewN
attribute [local go_sem] setRow_alloc setRow_drew setRow_drewN setCell_drewN alloc_drewN rowAt_put isRow_setRow freeRow_put
attribute [local go_sem ↓] loadS_in storeS_in indexS_in copyS_in
attribute [local go_sem] loadS_row loadS_one storeS_row storeS_one indexS_blk copyS_rows run_equalIn_blk same_refl arrayAt_row
attribute [local go_sem] cell_row frozen_row st_setCell st_blk_ne stepAt stepUpon
attribute [local go_sem high] run_eql_blk run_neq_blk
attribute [local go_sem ↓] convBS_in
attribute [local go_sem] convBS_row convBS_nil allBytes_blk bytesOf_blk
attribute [local go_sem] indexS_text indexS_text0 build_key

set_option maxRecDepth 100000 in
set_option maxHeartbeats 2000000 in
theorem refParse_empty (s : ByteArray) (h : s.size = 0) (w : World) : Calls Tryz.prog 63 #[.string s] w fun e w' => e = .returned (.tuple #[.slice none 0 0, .int .i64 3]) ∧ Below w.heap.size w w' := by
  have e : s = ByteArray.empty := by
    cases s with
    | mk d => have : d.size = 0 := h; simp at this; rw [this]; rfl
  subst e
  go_enter Tryz.func63, Tryz.ntmps63
  go_wp2_with fail
  go_ret2
  exact ⟨rfl, Below.refl _ _⟩
theorem text_full (s : ByteArray) (h : 0 < s.size) : s.toList.isEmpty = false := by
  cases hs : s.toList with
  | nil =>
    have e := (text_eq s ⟨#[]⟩).1 (by rw [hs]; simp [ByteArray.toList, ByteArray.toList.loop, ByteArray.size])
    subst e
    cases h
  | cons => rfl
set_option maxRecDepth 100000 in
set_option maxHeartbeats 2000000 in
theorem refParse_form (s : ByteArray) (N : Nat) (h : 0 < s.size) (hN : (ofText s 0).toNat = N) (h1 : N < 1 ∨ 6 < N) (w : World) : Calls Tryz.prog 63 #[.string s] w fun e w' => e = .returned (.tuple #[.slice none 0 0, .int .i64 4]) ∧ Below w.heap.size w w' := by
  have hl := text_full s h
  have hN8 : N < 256 := by have := (ofText s 0).toNat_lt; omega
  have n8 : (N : Int) < 256 := by omega
  have hB : B (ofText s 0) = (N : Int) := by unfold B; rw [hN]
  have HB := Lib.hid hB
  clear hN hB
  by_cases h2 : N < 1
  · have d1 : decide ((N : Int) < 1) = true := decide_eq_true (by omega)
    have d2 : (N : Int) < 1 := by omega
    have hB := HB.out
    clear h1
    go_enter Tryz.func63, Tryz.ntmps63
    go_wp2_with fail
    go_ret2
    exact ⟨rfl, Below.refl _ _⟩
  · have d1 : decide ((N : Int) < 1) = false := decide_eq_false (by omega)
    have d2 : ¬ (N : Int) < 1 := by omega
    have d3 : decide (6 < (N : Int)) = true := decide_eq_true (by omega)
    have hB := HB.out
    clear h1
    go_enter Tryz.func63, Tryz.ntmps63
    go_wp2_with fail
    go_ret2
    exact ⟨rfl, Below.refl _ _⟩
set_option maxRecDepth 100000 in
set_option maxHeartbeats 2000000 in
theorem refParse_size (s : ByteArray) (N d : Nat) (h : 0 < s.size) (hN : (ofText s 0).toNat = N) (h1 : 1 ≤ N) (h6 : N ≤ 6) (hd : (s.size < 1 + N * 16 ∧ d = 3) ∨ (1 + N * 16 < s.size ∧ d = 4)) (w : World) : Calls Tryz.prog 63 #[.string s] w fun e w' => e = .returned (.tuple #[.slice none 0 0, .int .i64 (d : Int)]) ∧ Below w.heap.size w w' := by
  have hl := text_full s h
  have n6 : (N : Int) ≤ 6 := by omega
  have hB : B (ofText s 0) = (N : Int) := by unfold B; rw [hN]
  have d1 : decide ((N : Int) < 1) = false := decide_eq_false (by omega)
  have d2 : decide (6 < (N : Int)) = false := decide_eq_false (by omega)
  clear hN
  rcases hd with ⟨hd, rfl⟩ | ⟨hd, rfl⟩
  · have d3 : decide ((s.size : Int) < 1 + 16 * (N : Int)) = true := decide_eq_true (by omega)
    go_enter Tryz.func63, Tryz.ntmps63
    go_wp2_with fail
    go_ret2
    exact ⟨rfl, Below.refl _ _⟩
  · have d3 : decide ((s.size : Int) < 1 + 16 * (N : Int)) = false := decide_eq_false (by omega)
    have d4 : decide (1 + 16 * (N : Int) < (s.size : Int)) = true := decide_eq_true (by omega)
    go_enter Tryz.func63, Tryz.ntmps63
    go_wp2_with fail
    go_ret2
    exact ⟨rfl, Below.refl _ _⟩
/-- a list of keys that is laid, nil at first -/
def Out16 (w0 : World) (L : List (Nat × Array Value)) (b : Value) (n : Nat) (f : Nat → UInt8) (w : World) : Prop := (b = .slice none 0 0 ∧ n = 0 ∧ St w0 L w) ∨ ∃ g c F, b = .slice (some ⟨g, 0, none⟩) n c ∧ n ≤ c ∧ (∀ i, i < n * 16 → F i = f i) ∧ St w0 ((g, blk (c * 16) F) :: L) w
section
variable {w0 w w' : World} {L : List (Nat × Array Value)} {b : Value} {n : Nat} {f : Nat → UInt8}
theorem Out16.inner (h : Out16 w0 L b n f w) : St w0 L w := by
  rcases h with ⟨_, _, h⟩ | ⟨_, _, _, _, _, _, h⟩
  · exact h
  · exact h.tail
theorem Out16.call (h : Out16 w0 L b n f w) (hb : Below w.heap.size w w') : Out16 w0 L b n f w' := by
  rcases h with ⟨h1, h2, h⟩ | ⟨g, c, F, h1, h2, h3, h⟩
  · exact .inl ⟨h1, h2, h.call hb⟩
  · exact .inr ⟨g, c, F, h1, h2, h3, h.call hb⟩
theorem Out16.push (h : Out16 w0 L b n f w) (cs : Array Value) (t : TypeId) : Out16 w0 ((w.heap.size, cs) :: L) b n f (w.alloc (.cells cs t)) := by
  rcases h with ⟨h1, h2, h⟩ | ⟨g, c, F, h1, h2, h3, h⟩
  · exact .inl ⟨h1, h2, h.push cs t⟩
  · exact .inr ⟨g, c, F, h1, h2, h3, (h.push cs t).swap⟩
theorem Out16.drop {x : Nat × Array Value} (h : Out16 w0 (x :: L) b n f w) : Out16 w0 L b n f w := by
  rcases h with ⟨h1, h2, h⟩ | ⟨g, c, F, h1, h2, h3, h⟩
  · exact .inl ⟨h1, h2, h.tail⟩
  · exact .inr ⟨g, c, F, h1, h2, h3, h.over⟩
theorem Out16.set {q : Nat} {cs : Array Value} (h : Out16 w0 ((q, cs) :: L) b n f w) (cs' : Array Value) (hs : cs'.size = cs.size) : Out16 w0 ((q, cs') :: L) b n f (w.setRow q cs') := by
  rcases h with ⟨h1, h2, h⟩ | ⟨g, c, F, h1, h2, h3, h⟩
  · exact .inl ⟨h1, h2, h.set_head cs' hs⟩
  · exact .inr ⟨g, c, F, h1, h2, h3, (h.swap.set_head cs' hs).swap⟩
theorem Out16.congr {g : Nat → UInt8} (h : Out16 w0 L b n f w) (hg : ∀ i, i < n * 16 → f i = g i) : Out16 w0 L b n g w := by
  rcases h with h | ⟨g', c, F, h1, h2, h3, h⟩
  · exact .inl h
  · exact .inr ⟨g', c, F, h1, h2, fun i hi => (h3 i hi).trans (hg i hi), h⟩
end
/-- a key behind keys -/
theorem wpList_append_out {ops : Array Oper} {rest : List Oper} {op : Oper} {a : Act} {Q : Exit → Act → World → Prop} {w0 w : World} {L : List (Nat × Array Value)} (hgd : op.guard = none) (s x : Operand) (ho : op.op = .call { callee := .builtin .append, args := #[s, x], argTypes := #[32, 32] })
    (b : Value) (n : Nat) (f : Nat → UInt8) (hs : a.eval s = b) (hO : Out16 w0 L b n f w) (v : Value) (G : Nat → UInt8) (hx : a.eval x = v) (hv : Keys16 w v 1 G) (hbig : n + 1 ≤ 2 ^ 20)
    (k : ∀ b' w', Out16 w0 L b' (n + 1) (glue (n * 16) f G) w' → wpList Tryz.prog ops Q rest (a.put op.dst b') w') : wpList Tryz.prog ops Q (op :: rest) a w := by
  rcases hO with ⟨rfl, rfl, hC⟩ | ⟨g, c, F, rfl, h2, h3, hC⟩
  · rcases hv with ⟨_, h⟩ | ⟨h2, c, F2, rfl, hc, hl, hr, hi, hF⟩
    · cases h
    · obtain ⟨i, hi1, hz, hsz, hb⟩ := info_key
      have hcc := Nat.mul_le_mul_right 16 hc
      refine wpList_append_none (L := L) (w0 := w0) hgd s x _ ho 22 i _ 16 (by kernel_rfl) hi1 hz hsz hb rfl (by omega) hs hC h2 0 1 c F2 (by omega) hx hi (by rw [hr, blk_size]; omega) (by rw [hr]; exact cut_blk0 _ _ _ hcc) (by omega) ?_
      intro g' cap' F' w' e1 e2 e3
      refine k _ _ (.inr ⟨g', cap', F', by rw [Nat.zero_add], by omega, fun i hi => ?_, e3⟩)
      rw [e2 i (by omega)]
      unfold glue
      rw [if_neg (by omega), Nat.zero_mul, Nat.sub_zero]
      exact hF _ (by omega)
  · refine wpList_plain hgd fun _ hK => ?_
    refine wp_append_keys s x ho g n c F hs hC h2 v 1 G hx hv (by omega) ?_
    intro g' cap' F' w' e1 e2 e3
    refine hK _ _ (k _ _ (.inr ⟨g', cap', F', rfl, e1, fun i hi => ?_, e3⟩))
    rw [e2 i hi]
    unfold glue
    split
    · exact h3 _ (by assumption)
    · rfl
theorem key_of_text (s R : ByteArray) (N j k : Nat) (hd : s.size = 1 + N * 16) (hR : s.extract 1 s.size = R) (hj : j < N) (hk : k < 16) : ofText s (1 + 16 * j + k) = ofText R (j * 16 + k) := by
  have hsz : s.data.size = s.size := rfl
  subst hR
  unfold ofText
  rw [ByteArray.data_extract, Array.getD_eq_getD_getElem?, Array.getD_eq_getD_getElem?, Array.getElem?_extract, if_pos (by omega)]
  congr 2; omega
set_option maxRecDepth 100000 in
set_option maxHeartbeats 2000000 in
theorem refParse_ok (s R : ByteArray) (N : Nat) (h : 0 < s.size) (hN : (ofText s 0).toNat = N) (h1 : 1 ≤ N) (h6 : N ≤ 6) (hd : s.size = 1 + N * 16) (hR : s.extract 1 s.size = R) (w0 w : World) (L : List (Nat × Array Value)) (hC : St w0 L w) :
    Calls Tryz.prog 63 #[.string s] w (Keyed w0 L N (parseB R (N * 16))) := by
  have hl := text_full s h
  have n6 : (N : Int) ≤ 6 := by omega
  have hz := zero16
  have hB : B (ofText s 0) = (N : Int) := by unfold B; rw [hN]
  have d1 : decide ((N : Int) < 1) = false := decide_eq_false (by omega)
  have d2 : decide (6 < (N : Int)) = false := decide_eq_false (by omega)
  have d3 : decide ((s.size : Int) < 1 + 16 * (N : Int)) = false := decide_eq_false (by omega)
  have d4 : decide (1 + 16 * (N : Int) < (s.size : Int)) = false := decide_eq_false (by omega)
  have HD := Lib.hid hd
  have HR := Lib.hid hR
  have HC := Lib.hid hC
  clear hN hd hR hC
  go_enter Tryz.func63, Tryz.ntmps63
  go_wp2_with fail
  go_loopw [5, 6, 7, 8] (fun b i _ _ wr => ∃ j : Nat, j ≤ N ∧ i = .int .i64 (j : Int) ∧ Hid (Out16 w0 L b j (ofText R) wr)) (fun _ i _ _ _ => N - (intOf i).toNat)
  case atStart => exact ⟨0, by omega, rfl, Lib.hid (.inl ⟨rfl, rfl, HC.out⟩)⟩
  case round =>
    clear HC
    rename_i bo
    obtain ⟨j, hj, rfl, HO⟩ := hrel
    by_cases hlt : j < N
    · have d5 : (j : Int) < (N : Int) := by omega
      go_wp2_with fail
      obtain ⟨X, hX⟩ : ∃ X : Nat → UInt8, X = fun k => ofText R (j * 16 + k) := ⟨_, rfl⟩
      have HX := Lib.hid hX
      clear hX
      have HO := Lib.hid (HO.out.push (blk 16 (upTo (fun _ => 0) X 0)) 22)
      rw [upTo_zero] at HO
      generalize wr.heap.size = q at HO ⊢
      generalize wr.alloc (Obj.cells (blk 16 fun _ => 0) 22) = wp at HO ⊢
      obtain ⟨wo, hwo⟩ : ∃ wo : World, wo = wp := ⟨_, rfl⟩
      clear hwo
      go_loopw [8] (fun i wr => ∃ k : Nat, k ≤ 16 ∧ i = .int .i64 (k : Int) ∧ Hid (Out16 w0 ((q, blk 16 (upTo (fun _ => 0) X k)) :: L) u5 j (ofText R) wr)) (fun i _ => 16 - (intOf i).toNat)
      case atStart => exact ⟨0, by omega, rfl, by rw [upTo_zero]; exact HO⟩
      case round =>
        clear HO
        obtain ⟨k, hk, rfl, HO⟩ := hrel
        by_cases hlk : k < 16
        · have d6 : (k : Int) < 16 := by omega
          have hidx : ∀ w : World, (indexS 9 (.string s) (.int .i64 (1 + 16 * (j : Int) + (k : Int)))).run Tryz.prog w = .ok (.int .u8 (B (X k))) w := fun w => by
            have h1 := indexS_text (P := Tryz.prog) (w := w) 9 s (1 + 16 * j + k) (by kernel_rfl) (by have := HD.out; omega)
            rw [key_of_text s R N j k HD.out HR.out hlt hlk] at h1
            push_cast at h1
            rw [h1, HX.out]
          have hup := upTo_next 16 (fun _ => 0) X k
          have hC := HO.out.inner.pick (L' := [(q, blk 16 (upTo (fun _ => 0) X k))]) [0] (by decide) rfl
          obtain ⟨r1, f1, i1, b1, l1⟩ := St.facts1 hC
          clear hC
          go_wp2_with fail
          have HO := Lib.hid (HO.out.set (blk 16 (upTo (fun _ => 0) X (k + 1))) (by rw [blk_size, blk_size]))
          go_roundw
          case rel => exact ⟨k + 1, by omega, by go_num, HO⟩
          case measure => simp [intOf]; omega
        · obtain rfl : k = 16 := by omega
          have hC := HO.out.inner.pick (L' := [(q, blk 16 (upTo (fun _ => 0) X 16))]) [0] (by decide) rfl
          obtain ⟨r1, f1, i1, b1, l1⟩ := St.facts1 hC
          have hup : blk 16 (upTo (fun _ => 0) X 16) = blk 16 X := blk_congr fun i hi => by unfold upTo; rw [if_pos hi]
          rw [hup] at HO r1
          clear hC hup
          go_wp2_with (at_builtin; refine stop_list ?_)
          have HP := Lib.hid (HO.out.drop.push (blk 16 X) 22)
          have hk := Keys16.of (f := X) (n := 1) (c := 1) (F := X) HP.out.inner (.head _) (Nat.le_refl _) (fun _ _ => rfl)
          refine wpList_append_out (w0 := w0) rfl (.tmp 50) (.tmp 52) rfl u5 j (ofText R) rfl HP.out _ X rfl hk (by omega) ?_
          clear hk HP r1 f1 i1
          intro b' w' hO'
          have HO := Lib.hid (hO'.drop.congr (g := ofText R) fun i hi => by
            unfold glue
            split
            · rfl
            · rw [HX.out]; simp only []; congr 1; omega)
          clear hO'
          go_wp2_with fail
          go_roundw
          case rel => exact ⟨j + 1, by omega, by go_num, HO⟩
          case measure => simp [intOf]; omega
    · obtain rfl : j = N := by omega
      go_wp2_with fail
      rcases HO.out with ⟨rfl, h0, _⟩ | ⟨g, c, F, rfl, h2, h3, h4⟩
      · omega
      · go_ret2
        exact Keyed.mk g c F rfl h2 (fun i hi => by rw [h3 i hi]; unfold parseB; rw [if_pos hi]) h4
end Go.Proofs.YtgaecjhghpkcoaaGreat
