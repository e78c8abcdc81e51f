/- One more behind a list of the call's own: lists of values, of pairs, of nodes, of texts. -/
import Derived.Test.YtinlcpenllfcpaaEnCheck3
namespace Go.Proofs.Ytinlcpenllfcpaa
open Go.RowKit
attribute [local go_sem] B_xor B_or B_and
attribute [local go_sem] blk_set blk_size blk_get blk_getE upd_same oneCells_blk paste_blk cut_blk szOf
attribute [local go_sem high] paste_all cut_head
attribute [local go_sem] rowAt_alloc rowAt_drew rowAt_drewN isRow_alloc isRow_drew isRow_drewN freeRow_alloc freeRow_end freeRow_drew freeRow_drewN
attribute [local go_sem] setRow_alloc setRow_drew setRow_drewN setCell_drewN alloc_drewN rowAt_put isRow_setRow freeRow_put
attribute [local go_sem ↓] loadS_in storeS_in indexS_in copyS_in
attribute [local go_sem] loadS_row loadS_one storeS_row storeS_one indexS_blk copyS_rows run_equalIn_blk same_refl arrayAt_row
attribute [local go_sem] cell_row frozen_row st_setCell st_blk_ne stepAt stepUpon
attribute [local go_sem high] run_eql_blk run_neq_blk
attribute [local go_sem ↓] convBS_in
attribute [local go_sem] convBS_row convBS_nil allBytes_blk bytesOf_blk

/-- the elements that a row of cells holds -/
def ElOk (F : Nat → Value) (sz n : Nat) (cells : Nat → Array Value) : Prop := ∀ i, i < n → ∀ q, q < sz → some (F (i * sz + q)) = (cells i)[q]?
theorem ElOk.push {F F' : Nat → Value} {sz n : Nat} {cells cells' : Nat → Array Value} {cs : Array Value} (h : ElOk F sz n cells) (h1 : ∀ i, i < n * sz → F' i = F i) (h2 : ∀ q, q < sz → some (F' (n * sz + q)) = cs[q]?) (h3 : ∀ i, i < n → cells' i = cells i) (h4 : cells' n = cs) : ElOk F' sz (n + 1) cells' := fun i hi q hq => by
  by_cases e : i = n
  · subst e; rw [h4]; exact h2 q hq
  · rw [h3 i (by omega), h1 _ (mul_lt_of (show i < n by omega) (Nat.le_refl _) hq)]; exact h i (by omega) q hq
theorem ElOk.zero (F : Nat → Value) (sz : Nat) (cells : Nat → Array Value) : ElOk F sz 0 cells := fun i hi => absurd hi (by omega)
theorem ElOk.in {F : Nat → Value} {sz n cap g : Nat} {cells : Nat → Array Value} {L : List (Nat × Array Value)} (h : ElOk F sz n cells) (hn : n ≤ cap) (hm : (g, vlk (cap * sz) F) ∈ L) : ElemsIn L (some ⟨g, 0, none⟩) n cap sz cells := .inr ⟨g, F, rfl, hn, hm, h⟩
/-- a list's type that may be added to -/
def Grows (P : Program) (t e : TypeId) (sz : Nat) : Prop := P.underlying t = some (.slice e) ∧ ∃ i z, P.info? e = some i ∧ i.zero = some z ∧ z.cells.size = sz ∧ i.size = sz ∧ i.bytes ≤ 128
theorem grows_of {P : Program} {t e : TypeId} {sz : Nat} (hu : P.underlying t = some (.slice e)) (h : ((P.info? e).bind fun i => i.zero.map fun z => (z.cells.size, i.size, decide (i.bytes ≤ 128))) = some (sz, sz, true)) : Grows P t e sz := by
  obtain ⟨i, hi, hv⟩ := Option.bind_eq_some_iff.1 h
  obtain ⟨z, hz, hv⟩ := Option.map_eq_some_iff.1 hv
  simp only [Prod.mk.injEq, decide_eq_true_eq] at hv
  exact ⟨hu, i, z, hi, hz, hv.1, hv.2.1, hv.2.2⟩
theorem grows_any : Grows Try.prog 57 20 1 := grows_of (by kernel_rfl) (by kernel_rfl)
theorem grows_pair : Grows Try.prog 61 60 2 := grows_of (by kernel_rfl) (by kernel_rfl)
theorem grows_node : Grows Try.prog 23 26 5 := grows_of (by kernel_rfl) (by kernel_rfl)
theorem grows_text : Grows Try.prog 24 9 1 := grows_of (by kernel_rfl) (by kernel_rfl)
theorem vlk_out (cs : Array Value) (n : Nat) (h : cs.size = n) : cs = vlk n fun i => cs.getD i undef := by subst h; exact vlk_of cs
section
variable {P : Program} {w0 : World} {L : List (Nat × Array Value)}
/-- one element behind a list of the call's own -/
theorem run_push (w : World) (t ty e : TypeId) (sz : Nat) (hG : Grows P t e sz) (g n cap : Nat) (F : Nat → Value) (h m : Nat) (cs : Array Value) (hcs : cs.size = sz) (h1c : oneCells cs = true) (hC : St w0 ((h, cs) :: (g, vlk (cap * sz) F) :: L) w) (hn : n ≤ cap) (hbig : n + 1 ≤ 2 ^ 30) :
    ∃ g' cap' F' w', (Builtin.append_ #[t, t] ty #[.slice (some ⟨g, 0, none⟩) n cap, .slice (some ⟨h, 0, none⟩) 1 m]).run P w = .ok (.slice (some ⟨g', 0, none⟩) (n + 1) cap') w' ∧ n + 1 ≤ cap' ∧ (∀ i, i < n * sz → F' i = F i) ∧ (∀ q, q < sz → some (F' (n * sz + q)) = cs[q]?) ∧ St w0 ((g', vlk (cap' * sz) F') :: L) w' := by
  obtain ⟨hu, i, z, hi, hz, hzs, hsz, hb⟩ := hG
  obtain ⟨_, r1, f1, i1⟩ := hC.rows (h, cs) (.head _)
  have ee : cs = vlk sz fun i => cs.getD i undef := vlk_out cs sz hcs
  have hcut : cut (rowAt w h) 0 (0 + 1 * sz) = vlk (1 * sz) fun i => cs.getD i undef := by
    rw [r1, Nat.one_mul, Nat.zero_add]
    unfold cut
    rw [← hcs, Array.extract_size, ← vlk_of cs]
  obtain ⟨g', cap', F', w', h1, h2, h3, h4⟩ := run_vappend (P := P) w t ty e i z sz hu hi hz hsz hb hzs g n cap F hC.tail hn h 0 1 m (fun i => cs.getD i undef) i1 (by rw [r1, hcs]; omega) hcut (by rw [Nat.one_mul, ← ee]; exact h1c) hbig
  refine ⟨g', cap', F', w', h1, h2, fun i hi => ?_, fun q hq => ?_, h4⟩
  · rw [h3 i (by rw [Nat.add_mul]; omega)]; unfold vglue; rw [if_pos hi]
  · rw [h3 _ (by rw [Nat.add_mul]; omega)]
    unfold vglue
    rw [if_neg (by omega), Nat.add_sub_cancel_left]
    show some (cs.getD q undef) = _
    rw [Array.getD_eq_getD_getElem?, Array.getElem?_eq_getElem (by omega)]
    rfl
theorem wpList_push {ops : Array Oper} {rest : List Oper} {op : Oper} {a : Act} {Q : Exit → Act → World → Prop} {w : World} (hgd : op.guard = none) (s x : Operand) (t e : TypeId) (ho : op.op = .call { callee := .builtin .append, args := #[s, x], argTypes := #[t, t] }) (sz : Nat) (hG : Grows P t e sz)
    (g n cap : Nat) (F : Nat → Value) (hs : a.eval s = .slice (some ⟨g, 0, none⟩) n cap) (h m : Nat) (cs : Array Value) (hx : a.eval x = .slice (some ⟨h, 0, none⟩) 1 m) (hcs : cs.size = sz) (h1c : oneCells cs = true) (hC : St w0 ((h, cs) :: (g, vlk (cap * sz) F) :: L) w) (hn : n ≤ cap) (hbig : n + 1 ≤ 2 ^ 30)
    (k : ∀ g' cap' F' w', n + 1 ≤ cap' → (∀ i, i < n * sz → F' i = F i) → (∀ q, q < sz → some (F' (n * sz + q)) = cs[q]?) → St w0 ((g', vlk (cap' * sz) F') :: L) w' → wpList P ops Q rest (a.put op.dst (.slice (some ⟨g', 0, none⟩) (n + 1) cap')) w') : wpList P ops Q (op :: rest) a w :=
  wpList_plain hgd fun _ hK => by
    obtain ⟨g', cap', F', w', hrun, h1, h2, h3, h4⟩ := run_push (P := P) w t op.type e sz hG g n cap F h m cs hcs h1c hC hn hbig
    unfold Oper.wp execOp
    simp only [ho, resolve, invoke, builtin, Sem.run_bind, Sem.run_pure, Result.andThen_ok, List.map_toArray, List.map_cons, List.map_nil, hs, hx, hrun]
    exact hK _ _ (k g' cap' F' w' h1 h2 h3 h4)
end
end Go.Proofs.Ytinlcpenllfcpaa
