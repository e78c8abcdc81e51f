/- Lists that begin as nothing and grow: of nodes, of texts. Functions that answer by two rows. -/
import Derived.Test.YtinlcpenllfcpaaEnOwn
namespace Go.Proofs.Ytinlcpenllfcpaa
open Go.RowKit
attribute [local go_sem] B_xor B_or B_and
attribute [local go_sem] blk_set blk_size blk_get blk_getE upd_same oneCells_blk paste_blk cut_blk szOf
attribute [local go_sem high] paste_all cut_head
attribute [local go_sem] rowAt_alloc rowAt_drew rowAt_drewN isRow_alloc isRow_drew isRow_drewN freeRow_alloc freeRow_end freeRow_drew freeRow_drewN
attribute [local go_sem] setRow_alloc setRow_drew setRow_drewN setCell_drewN alloc_drewN rowAt_put isRow_setRow freeRow_put
attribute [local go_sem ↓] loadS_in storeS_in indexS_in copyS_in
attribute [local go_sem] loadS_row loadS_one storeS_row storeS_one indexS_blk copyS_rows run_equalIn_blk same_refl arrayAt_row
attribute [local go_sem] cell_row frozen_row st_setCell st_blk_ne stepAt stepUpon
attribute [local go_sem high] run_eql_blk run_neq_blk
attribute [local go_sem ↓] convBS_in
attribute [local go_sem] convBS_row convBS_nil allBytes_blk bytesOf_blk

/-- a list of the call's own, or nothing yet: in which blocks it lies -/
inductive Hold (sz : Nat) : Option Addr → Nat → Nat → (Nat → Array Value) → List (Nat × Array Value) → Prop
  | nil (cells : Nat → Array Value) : Hold sz none 0 0 cells []
  | own (g n cap : Nat) (F : Nat → Value) (cells : Nat → Array Value) (hn : n ≤ cap) (hF : ElOk F sz n cells) : Hold sz (some ⟨g, 0, none⟩) n cap cells [(g, vlk (cap * sz) F)]
theorem Hold.in {sz n c : Nat} {a : Option Addr} {cells : Nat → Array Value} {B L : List (Nat × Array Value)} (h : Hold sz a n c cells B) (hm : ∀ x ∈ B, x ∈ L) : ElemsIn L a n c sz cells := by
  cases h with
  | nil => exact .inl ⟨rfl, rfl, rfl⟩
  | own g n cap F cells hn hF => exact .inr ⟨g, F, rfl, hn, hm _ (.head _), hF⟩
theorem Hold.congr {sz n c : Nat} {a : Option Addr} {cells cells' : Nat → Array Value} {B : List (Nat × Array Value)} (h : Hold sz a n c cells B) (he : ∀ i, i < n → cells' i = cells i) : Hold sz a n c cells' B := by
  cases h with
  | nil => exact .nil _
  | own g n cap F cells hn hF => exact .own _ _ _ _ _ hn fun i hi q hq => by rw [he i hi]; exact hF i hi q hq
section
variable {P : Program} {w0 : World} {L : List (Nat × Array Value)}
/-- one element onto nothing -/
theorem run_push_nil (w : World) (t ty e : TypeId) (sz : Nat) (hG : Grows P t e sz) (h m : Nat) (cs : Array Value) (hcs : cs.size = sz) (hC : St w0 ((h, cs) :: L) w) :
    ∃ g' cap' F' w', (Builtin.append_ #[t, t] ty #[.slice none 0 0, .slice (some ⟨h, 0, none⟩) 1 m]).run P w = .ok (.slice (some ⟨g', 0, none⟩) 1 cap') w' ∧ 1 ≤ cap' ∧ (∀ q, q < sz → some (F' q) = cs[q]?) ∧ St w0 ((g', vlk (cap' * sz) F') :: L) w' := by
  obtain ⟨hu, i, z, hi, hz, hzs, hsz, hb⟩ := hG
  obtain ⟨_, r1, f1, i1⟩ := hC.rows (h, cs) (.head _)
  have hl : cs.toList.length = 1 * i.size := by rw [hsz, Nat.one_mul, ← hcs]; simp
  have hrun := run_append_nil (P := P) w t ty e i z hu hi hz ⟨h, 0, none⟩ 1 m cs.toList hl (fun j v hv => by
    rw [add_mid, cell_row h _ i1, r1, Nat.zero_add]
    rw [Array.getElem?_toList] at hv
    exact hv) (by omega) (by omega) (by omega)
  have hge := grownCap_ge w 1 0 e
  rw [Array.toArray_toList] at hrun
  obtain ⟨X, hX⟩ : ∃ X, cs ++ Builtin.zeroCells z.cells (grownCap w 1 0 e - 1) = X := ⟨_, rfl⟩
  have hXs : X.size = grownCap w 1 0 e * sz := by
    rw [← hX]
    simp only [Array.size_append, Builtin.zeroCells, hzs, hcs]
    simp
    have : sz + (grownCap w 1 0 e - 1) * sz = (1 + (grownCap w 1 0 e - 1)) * sz := by rw [Nat.add_mul, Nat.one_mul]
    rw [this]; congr 1; omega
  rw [hX] at hrun
  have hXv := vlk_of X
  rw [hXs] at hXv
  refine ⟨_, _, fun i => X.getD i undef, _, hrun, hge, fun q hq => ?_, ?_⟩
  · show some (X.getD q undef) = _
    rw [← hX, Array.getD_eq_getD_getElem?, Array.getElem?_append_left (by omega), Array.getElem?_eq_getElem (by omega)]
    rfl
  · rw [← hXv]
    exact hC.drew.tail.pushA _ _ rfl
/-- one element more -/
theorem run_hold (w : World) (t ty e : TypeId) (sz : Nat) (hG : Grows P t e sz) (a : Option Addr) (n c : Nat) (cells : Nat → Array Value) (B : List (Nat × Array Value)) (hH : Hold sz a n c cells B) (h m : Nat) (cs : Array Value) (hcs : cs.size = sz) (h1c : oneCells cs = true) (hC : St w0 ((h, cs) :: (B ++ L)) w) (hbig : n + 1 ≤ 2 ^ 30)
    (cells' : Nat → Array Value) (h3 : ∀ i, i < n → cells' i = cells i) (h4 : cells' n = cs) :
    ∃ a' c' B' w', (Builtin.append_ #[t, t] ty #[.slice a n c, .slice (some ⟨h, 0, none⟩) 1 m]).run P w = .ok (.slice a' (n + 1) c') w' ∧ Hold sz a' (n + 1) c' cells' B' ∧ St w0 (B' ++ L) w' := by
  cases hH with
  | nil =>
    obtain ⟨g', cap', F', w', h1, h2, h5, h6⟩ := run_push_nil (P := P) w t ty e sz hG h m cs hcs hC
    refine ⟨_, _, _, w', h1, .own g' 1 cap' F' cells' h2 fun i hi q hq => ?_, h6⟩
    obtain rfl : i = 0 := by omega
    rw [Nat.zero_mul, Nat.zero_add, h4]
    exact h5 q hq
  | own g n cap F cells hn hF =>
    obtain ⟨g', cap', F', w', h1, h2, h5, h6, h7⟩ := run_push (P := P) w t ty e sz hG g n c F h m cs hcs h1c hC hn hbig
    exact ⟨_, _, _, w', h1, .own g' (n + 1) cap' F' cells' h2 (hF.push h5 h6 h3 h4), h7⟩
theorem wpList_hold {ops : Array Oper} {rest : List Oper} {op : Oper} {a : Act} {Q : Exit → Act → World → Prop} {w : World} (hgd : op.guard = none) (s x : Operand) (t e : TypeId) (ho : op.op = .call { callee := .builtin .append, args := #[s, x], argTypes := #[t, t] }) (sz : Nat) (hG : Grows P t e sz)
    (b : Option Addr) (n c : Nat) (cells : Nat → Array Value) (B : List (Nat × Array Value)) (hH : Hold sz b n c cells B) (hs : a.eval s = .slice b n c) (h m : Nat) (cs : Array Value) (hx : a.eval x = .slice (some ⟨h, 0, none⟩) 1 m) (hcs : cs.size = sz) (h1c : oneCells cs = true) (hC : St w0 ((h, cs) :: (B ++ L)) w) (hbig : n + 1 ≤ 2 ^ 30)
    (cells' : Nat → Array Value) (h3 : ∀ i, i < n → cells' i = cells i) (h4 : cells' n = cs)
    (k : ∀ b' c' B' w', Hold sz b' (n + 1) c' cells' B' → St w0 (B' ++ L) w' → wpList P ops Q rest (a.put op.dst (.slice b' (n + 1) c')) w') : wpList P ops Q (op :: rest) a w :=
  wpList_plain hgd fun _ hK => by
    obtain ⟨b', c', B', w', hrun, h1, h2⟩ := run_hold (P := P) w t op.type e sz hG b n c cells B hH h m cs hcs h1c hC hbig cells' h3 h4
    unfold Oper.wp execOp
    simp only [ho, resolve, invoke, builtin, Sem.run_bind, Sem.run_pure, Result.andThen_ok, List.map_toArray, List.map_cons, List.map_nil, hs, hx, hrun]
    exact hK _ _ (k b' c' B' w' h1 h2)
/-- both rows are written, in this order -/
theorem St.end2 {a b : Nat} {A B : Array Value} {w : World} (hC : St w0 ((a, A) :: (b, B) :: L) w) (X Y : Array Value) (hX : X.size = A.size) (hY : Y.size = B.size) : St w0 ((a, X) :: (b, Y) :: L) ((w.setRow a X).setRow b Y) :=
  ((hC.set_head X hX).swap.set_head Y hY).swap
theorem St.end2' {a b : Nat} {A B : Array Value} {w : World} (hC : St w0 ((a, A) :: (b, B) :: L) w) (X Y : Array Value) (hX : X.size = A.size) (hY : Y.size = B.size) : St w0 ((a, X) :: (b, Y) :: L) ((w.setRow b Y).setRow a X) :=
  (hC.swap.set_head Y hY).swap.set_head X hX
end
/-- the results of a function: two that lie in rows -/
theorem results_pp {P : Program} {w : World} {fn : Func} {p q : Tmp} {t1 t2 : TypeId} (h : fn.results = #[.cell p t1, .cell q t2]) (tmps : Array Value) (g1 g2 : Nat) (hp : tmps.getD p undef = .pointer (some ⟨g1, 0, none⟩)) (hq : tmps.getD q undef = .pointer (some ⟨g2, 0, none⟩)) (c1 c2 : Array Value) (hc1 : rowAt w g1 = c1) (hc2 : rowAt w g2 = c2)
    (ha1 : (isAgg t1).run P w = .ok true w) (hs1 : (sizeOf t1).run P w = .ok c1.size w) (hr1 : isRow w g1 = true) (ha2 : (isAgg t2).run P w = .ok true w) (hs2 : (sizeOf t2).run P w = .ok c2.size w) (hr2 : isRow w g2 = true) :
    (results fn tmps).run P w = .ok (.tuple #[.agg c1, .agg c2]) w := by
  have hp' : tmps[p]?.getD undef = .pointer (some ⟨g1, 0, none⟩) := by simpa using hp
  have hq' : tmps[q]?.getD undef = .pointer (some ⟨g2, 0, none⟩) := by simpa using hq
  have hl1 := run_loadCells_row (P := P) g1 0 c1.size hr1 (by rw [hc1]; omega)
  have hl2 := run_loadCells_row (P := P) g2 0 c2.size hr2 (by rw [hc2]; omega)
  rw [hc1] at hl1
  rw [hc2] at hl2
  simp only [Nat.zero_add, Array.extract_size] at hl1 hl2
  simp [results, h, hp', hq', asAddr, loadVar, Sem.run_bind, ha1, hs1, hl1, ha2, hs2, hl2]
theorem ndC_bool (m : Nat) : ((ndC ndZero).setIfInBounds 0 (.int .u8 1)).setIfInBounds 1 (.int .u64 (m : Int)) = ndC ⟨1, m, ⟨#[]⟩, none, 0, 0, none, 0, 0⟩ := by simp [ndC, ndZero]
theorem ndC_num (m : Nat) : ((ndC ndZero).setIfInBounds 0 (.int .u8 2)).setIfInBounds 1 (.int .u64 (m : Int)) = ndC ⟨2, m, ⟨#[]⟩, none, 0, 0, none, 0, 0⟩ := by simp [ndC, ndZero]
theorem ndC_text (t : ByteArray) : ((ndC ndZero).setIfInBounds 0 (.int .u8 3)).setIfInBounds 2 (.string t) = ndC ⟨3, 0, t, none, 0, 0, none, 0, 0⟩ := by simp [ndC, ndZero]
theorem St.forget {w0 w : World} {A B : List (Nat × Array Value)} (h : St w0 (A ++ B) w) : St w0 A w := h.sub (List.sublist_append_left A B)
/-- a block moved to the head: for lists that are told in part -/
theorem perm_front {α : Type} (A B C : List α) : (A ++ (B ++ C)).Perm (B ++ (A ++ C)) := List.perm_append_comm_assoc A B C
theorem perm_of {a b : List (Nat × Array Value)} (h : ∀ (cnt : List (Nat × Array Value) → Nat) (on : (Nat × Array Value) → Nat), (∀ x y, cnt (x ++ y) = cnt x + cnt y) → (∀ x l, cnt (x :: l) = on x + cnt l) → cnt [] = 0 → cnt a = cnt b) : a.Perm b := by
  classical
  exact List.perm_iff_count.2 fun z => h (fun l => List.count z l) (fun x => List.count z [x]) (fun _ _ => List.count_append) (fun x l => List.count_append (l₁ := [x])) List.count_nil
end Go.Proofs.Ytinlcpenllfcpaa
