/- Bytes behind bytes of the call's own: a text, a few bytes onto what may be nothing; room for more. -/
import Derived.Test.YtinlcpenllfcpaaEnOwn
import Derived.Test.YtinlcpenllfcpaaRefNum
namespace Go.Proofs.Ytinlcpenllfcpaa
open Go.RowKit
attribute [local go_sem] B_xor B_or B_and
attribute [local go_sem] blk_set blk_size blk_get blk_getE upd_same oneCells_blk paste_blk cut_blk szOf
attribute [local go_sem high] paste_all cut_head
attribute [local go_sem] rowAt_alloc rowAt_drew rowAt_drewN isRow_alloc isRow_drew isRow_drewN freeRow_alloc freeRow_end freeRow_drew freeRow_drewN
attribute [local go_sem] setRow_alloc setRow_drew setRow_drewN setCell_drewN alloc_drewN rowAt_put isRow_setRow freeRow_put
attribute [local go_sem ↓] loadS_in storeS_in indexS_in copyS_in
attribute [local go_sem] loadS_row loadS_one storeS_row storeS_one indexS_blk copyS_rows run_equalIn_blk same_refl arrayAt_row
attribute [local go_sem] cell_row frozen_row st_setCell st_blk_ne stepAt stepUpon
attribute [local go_sem high] run_eql_blk run_neq_blk
attribute [local go_sem ↓] convBS_in
attribute [local go_sem] convBS_row convBS_nil allBytes_blk bytesOf_blk

theorem run_first_text {P : Program} (w : World) (s : ByteArray) : (Builtin.firstCells 1 s.size (.string s)).run P w = .ok (blk s.size (ofText s)) w := by
  unfold Builtin.firstCells
  rw [Sem.run_pure, text_cells]
/-- a text behind bytes of the call's own -/
theorem run_append_text {w0 : World} {L : List (Nat × Array Value)} (w : World) (ty : TypeId) (g n cap : Nat) (F : Nat → UInt8) (hC : St w0 ((g, blk cap F) :: L) w) (hn : n ≤ cap) (s : ByteArray) (hbig : n + s.size ≤ 2 ^ 40) :
    ∃ g' cap' F' w', (Builtin.append_ #[30, 9] ty #[.slice (some ⟨g, 0, none⟩) n cap, .string s]).run Try.prog w = .ok (.slice (some ⟨g', 0, none⟩) (n + s.size) cap') w' ∧ n + s.size ≤ cap' ∧ (∀ i, i < n + s.size → F' i = glue n F (ofText s) i) ∧ St w0 ((g', blk cap' F') :: L) w' := by
  obtain ⟨i, hi, hz, hsz, hb⟩ := info_u8
  have ht : Try.prog.underlying 30 = some (.slice 5) := by kernel_rfl
  have hu : Try.prog.underlying 9 = some .string := by kernel_rfl
  obtain ⟨⟨b1, b2⟩, r1, f1, i1⟩ := hC.rows (g, blk cap F) (.head _)
  have hft := fun w => run_first_text (P := Try.prog) w s
  by_cases hfit : n + s.size ≤ cap
  · have hst := run_storeCells_row (P := Try.prog) (w := w) g n (blk s.size (ofText s)) f1 (by rw [r1, blk_size, blk_size]; exact hfit) (oneCells_blk _ _)
    rw [r1, paste_blk _ _ _ _ _ hfit] at hst
    refine ⟨g, cap, cpy F n (ofText s) 0 s.size, w.setRow g (blk cap (cpy F n (ofText s) 0 s.size)), ?_, hfit, fun j hj => ?_, hC.set_head _⟩
    · simp [Builtin.append_, run_underlying ht, run_underlying hu, sizeOf, typeInfo, hi, hsz, Builtin.lenOf, hfit, hft, hst, add_mid]
    · unfold cpy glue
      by_cases h1 : j < n
      · rw [if_neg (by omega), if_pos h1]
      · rw [if_pos (by omega), if_neg h1, Nat.zero_add]
  · have hfo : ∀ w1 : World, w1.heap = w.heap → (Builtin.firstCells 1 n (.slice (some ⟨g, 0, none⟩) n cap)).run Try.prog w1 = .ok (blk n F) w1 := fun w1 hw1 => by
      have e1 : rowAt w1 g = blk cap F := by unfold rowAt; rw [hw1]; exact r1
      have e2 : isRow w1 g = true := by unfold isRow; rw [hw1]; exact i1
      have hl := run_loadCells_row (P := Try.prog) (w := w1) g 0 n e2 (by rw [e1, blk_size]; omega)
      have hx : (rowAt w1 g).extract 0 (0 + n) = blk n F := by rw [e1]; exact cut_blk0 cap n F hn
      rw [hx] at hl
      unfold Builtin.firstCells
      rw [Nat.mul_one]
      exact hl
    have h63' : ¬ (9223372036854775807 < ((n : Int) + (s.size : Int))) := by omega
    have h48 := growslice_fits (need := n + s.size) (old := cap) (bytes := i.bytes) (by omega) (by rw [hb]; omega)
    have h48' : ¬ (281474976710656 < Builtin.nextslicecap (n + s.size) cap * i.bytes) := by omega
    have hge := grownCap_ge w (n + s.size) cap 5
    have hfo' := hfo w.drew rfl
    refine ⟨w.heap.size, grownCap w (n + s.size) cap 5, (fun i => if i < n + s.size then glue n F (ofText s) i else 0), w.drew.alloc (.cells (blk (grownCap w (n + s.size) cap 5) fun i => if i < n + s.size then glue n F (ofText s) i else 0) 5), ?_, hge, fun j hj => if_pos hj, hC.drew.tail.pushA _ _ rfl⟩
    have hrow := grown_row n s.size (grownCap w (n + s.size) cap 5 - (n + s.size)) F (ofText s) (grownCap w (n + s.size) cap 5) (by omega)
    have hzc := zeroCells_blk (.int .u8 0) 1 rfl (by omega) (grownCap w (n + s.size) cap 5 - (n + s.size))
    rw [Nat.mul_one] at hzc
    rw [← hrow, ← hzc]
    simp [Builtin.append_, run_underlying ht, run_underlying hu, sizeOf, typeInfo, zeroValue, hi, hz, hsz, Builtin.lenOf, hfit, h63', h48', Question.forced, hft, hfo', newRow, grownCap]
theorem wpList_append_text {ops : Array Oper} {rest : List Oper} {op : Oper} {a : Act} {Q : Exit → Act → World → Prop} {w0 w : World} {L : List (Nat × Array Value)} (hgd : op.guard = none) (s x : Operand) (ho : op.op = .call { callee := .builtin .append, args := #[s, x], argTypes := #[30, 9] })
    (g n cap : Nat) (F : Nat → UInt8) (hs : a.eval s = .slice (some ⟨g, 0, none⟩) n cap) (hC : St w0 ((g, blk cap F) :: L) w) (hn : n ≤ cap) (t : ByteArray) (hx : a.eval x = .string t) (hbig : n + t.size ≤ 2 ^ 40)
    (k : ∀ g' cap' F' w', n + t.size ≤ cap' → (∀ i, i < n + t.size → F' i = glue n F (ofText t) i) → St w0 ((g', blk cap' F') :: L) w' → wpList Try.prog ops Q rest (a.put op.dst (.slice (some ⟨g', 0, none⟩) (n + t.size) cap')) w') : wpList Try.prog ops Q (op :: rest) a w :=
  wpList_plain hgd fun _ hK => by
    obtain ⟨g', cap', F', w', hrun, h1, h2, h3⟩ := run_append_text w op.type g n cap F hC hn t hbig
    unfold Oper.wp execOp
    simp only [ho, resolve, invoke, builtin, Sem.run_bind, Sem.run_pure, Result.andThen_ok, List.map_toArray, List.map_cons, List.map_nil, hs, hx, hrun]
    exact hK _ _ (k g' cap' F' w' h1 h2 h3)
/-- the bytes of a list -/
def atL (l : List UInt8) : Nat → UInt8 := fun i => l.getD i 0
theorem glue_app (m : Nat) (F : Nat → UInt8) (a b : List UInt8) (i : Nat) : glue (m + a.length) (glue m F (atL a)) (atL b) i = glue m F (atL (a ++ b)) i := by
  unfold glue atL
  by_cases h1 : i < m
  · rw [if_pos (by omega), if_pos h1, if_pos h1]
  · rw [if_neg h1]
    by_cases h2 : i < m + a.length
    · rw [if_pos h2, if_neg h1, List.getD_eq_getElem?_getD, List.getD_eq_getElem?_getD, List.getElem?_append_left (by omega)]
    · rw [if_neg h2, if_neg h1, List.getD_eq_getElem?_getD, List.getD_eq_getElem?_getD, List.getElem?_append_right (by omega), show i - (m + a.length) = i - m - a.length by omega]
theorem beL_len (k N : Nat) : (beL k N).length = k := by simp [beL]
theorem beL_at (k N i : Nat) (h : i < k) : atL (beL k N) i = beB N k i := by
  unfold atL beL; simp [h]
theorem txL_len (s : ByteArray) : (txL s).length = s.size := rfl
theorem txL_at (s : ByteArray) (i : Nat) : atL (txL s) i = ofText s i := by
  unfold atL txL ofText
  rw [List.getD_eq_getElem?_getD, Array.getElem?_toList, Array.getD_eq_getD_getElem?]
theorem rowL_len (s : ByteArray) : (rowL s).length = 2 + s.size := by unfold rowL; rw [List.length_append, beL_len, txL_len]
/-- bytes that are nothing yet, or of the call's own -/
def Byt (w0 : World) (L : List (Nat × Array Value)) (v : Value) (m : Nat) (f : Nat → UInt8) (w : World) : Prop :=
  (v = .slice none 0 0 ∧ m = 0 ∧ St w0 L w) ∨ ∃ g c F, v = .slice (some ⟨g, 0, none⟩) m c ∧ m ≤ c ∧ (∀ i, i < m → F i = f i) ∧ St w0 ((g, blk c F) :: L) w
theorem Byt.form {w0 : World} {L : List (Nat × Array Value)} {v : Value} {m : Nat} {f : Nat → UInt8} {w : World} (h : Byt w0 L v m f w) : ∃ a c, v = .slice a m c := by
  rcases h with ⟨h, rfl, _⟩ | ⟨g, c, F, h, _⟩
  · exact ⟨_, _, h⟩
  · exact ⟨_, _, h⟩
theorem Byt.nil {w0 w : World} {L : List (Nat × Array Value)} (h : St w0 L w) (f : Nat → UInt8) : Byt w0 L (.slice none 0 0) 0 f w := .inl ⟨rfl, rfl, h⟩
theorem Byt.own {w0 w : World} {L : List (Nat × Array Value)} {g m c : Nat} {F f : Nat → UInt8} (h : St w0 ((g, blk c F) :: L) w) (hm : m ≤ c) (hF : ∀ i, i < m → F i = f i) : Byt w0 L (.slice (some ⟨g, 0, none⟩) m c) m f w := .inr ⟨g, c, F, rfl, hm, hF, h⟩
/-- a few bytes onto them -/
theorem wpList_append_few {ops : Array Oper} {rest : List Oper} {op : Oper} {a : Act} {Q : Exit → Act → World → Prop} {w0 w : World} {L : List (Nat × Array Value)} (hgd : op.guard = none) (s x : Operand) (ho : op.op = .call { callee := .builtin .append, args := #[s, x], argTypes := #[30, 30] })
    (v : Value) (m : Nat) (f : Nat → UInt8) (hs : a.eval s = v) (hB : Byt w0 L v m f w) (h c : Nat) (cs : Array Value) (l : List UInt8) (hcs : cs = blk l.length (atL l)) (hq : 0 < l.length) (hx : a.eval x = .slice (some ⟨h, 0, none⟩) l.length c) (wh : World) (t : TypeId) (hw : w.alloc (.cells cs t) = wh) (hh : w.heap.size = h) (hbig : m + l.length ≤ 2 ^ 30)
    (k : ∀ g' cap' F' w', m + l.length ≤ cap' → (∀ i, i < m + l.length → F' i = glue m f (atL l) i) → St w0 ((g', blk cap' F') :: L) w' → wpList Try.prog ops Q rest (a.put op.dst (.slice (some ⟨g', 0, none⟩) (m + l.length) cap')) w') : wpList Try.prog ops Q (op :: rest) a wh := by
  subst hw hh hcs
  have r1 : rowAt (w.alloc (.cells (blk l.length (atL l)) t)) w.heap.size = blk l.length (atL l) := by simp [rowAt_alloc]
  have i1 : isRow (w.alloc (.cells (blk l.length (atL l)) t)) w.heap.size = true := by simp [isRow_alloc]
  rcases hB with ⟨hv, rfl, hC⟩ | ⟨g, c', F, hv, h1, h2, hC⟩
  · obtain ⟨i, hi, hz, hsz, hb⟩ := info_u8
    refine wpList_append_none (w0 := w0) (L := L) hgd s x _ ho 5 i (.int .u8 0) 1 (by kernel_rfl) hi hz hsz hb rfl (by omega) (hs.trans hv) (hC.skip _) w.heap.size 0 l.length c (atL l) hq hx i1 (by rw [r1, blk_size]; omega) (by rw [r1, Nat.mul_one]; exact cut_blk0 _ _ _ (Nat.le_refl _)) (by omega) ?_
    intro g' cap' F' w' x1 x2 x3
    rw [Nat.mul_one] at x2 x3
    have e : 0 + l.length = l.length := Nat.zero_add _
    have k2 := k g' cap' F' w' (by omega) (fun i hi => by rw [x2 i (by omega)]; unfold glue; rw [if_neg (by omega)]; rfl) x3
    rw [e] at k2
    exact k2
  · refine wpList_append_bytes (w0 := w0) (L := L) hgd s x ho g m c' F (hs.trans hv) (hC.skip _) h1 w.heap.size 0 l.length c (atL l) hx i1 (by rw [r1, blk_size]; omega) (by rw [r1]; exact cut_blk0 _ _ _ (Nat.le_refl _)) (by omega) ?_
    intro g' cap' F' w' x1 x2 x3
    refine k g' cap' F' w' x1 (fun i hi => ?_) x3
    rw [x2 i hi]
    unfold glue
    split
    · exact h2 i (by assumption)
    · rfl
end Go.Proofs.Ytinlcpenllfcpaa
