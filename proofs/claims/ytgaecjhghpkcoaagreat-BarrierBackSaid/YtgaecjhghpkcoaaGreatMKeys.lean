/- append onto a row of the call's own, of bytes or of arrays of bytes: what the new slice reads as. Under the fact St; no more than 2 to 40 cells. * A ring of keys as a row of cells: how many there are, and six keys. What the machine's operations make of such rows. * The program's keys: may, Derive, Rotate, New, Term, Key, Same, Length. Rings of no more than six keys. * The program's keys: Rotate, New, Term, Key, Same, Length. Rings of no more than six keys. * The program's keys: New, Key, Same. Rings of no more than six keys. * The program's keys: Same. Rings of any number of keys. * The program's Scan (quill): stands, left, fails, sized, Num, Rest. Texts no longer than 2 to 40. * The program's Scan.Num: a number off a text, or why there is none. Texts no longer than 2 to 40. * The program's grown, lay and Num (quill): a number laid behind bytes. * The program's Ring.Text: a byte with how many keys there are, then the keys. Rings of no more than six keys. * The program's Parse of a ring: the ring, or why there is none. Texts no longer than 2 to 40. -/
import Derived.Test.YtgaecjhghpkcoaaGreatMGha
import Derived.Laws.Append
import Derived.Laws.AppendOwn
import Derived.Test.YtgaecjhghpkcoaaGreatMGcmRef
import Derived.Test.YtgaecjhghpkcoaaGreatMGround
import Derived.OwnWalk
section
namespace Go.Proofs.YtgaecjhghpkcoaaGreat
open Go.RowKit

/-- what stands ahead of place n, then what stands behind -/
def glue (n : Nat) (F G : Nat → UInt8) : Nat → UInt8 := fun i => if i < n then F i else G (i - n)
section
variable {P : Program} {w0 : World} {L : List (Nat × Array Value)}
theorem zeroCells_blk (z : Value) (sz : Nat) (hz : z.cells = blk sz fun _ => 0) (hs : 0 < sz) (k : Nat) : Builtin.zeroCells z.cells k = blk (k * sz) fun _ => 0 := by
  rw [hz]
  unfold Builtin.zeroCells
  apply Array.ext_getElem?
  intro i
  rw [blk_size]
  by_cases h : i < k * sz
  · rw [blk_get _ _ _ h]
    have h2 : i % sz < sz := Nat.mod_lt _ hs
    have h3 : (blk sz fun _ => 0)[i % sz]! = .int .u8 (B 0) := by
      rw [getElem!_pos _ _ (by rw [blk_size]; exact h2)]
      exact blk_getE _ _ _ _
    simp [h, h3]
  · simp [blk_size, Nat.le_of_not_lt h]
theorem grown_row (a b c : Nat) (F G : Nat → UInt8) (N : Nat) (h : a + b + c = N) : blk a F ++ blk b G ++ blk c (fun _ => 0) = blk N (fun i => if i < a + b then glue a F G i else 0) := by
  subst h
  apply Array.ext_getElem?
  intro i
  by_cases h1 : i < a
  · rw [Array.getElem?_append_left (by simp [blk_size]; omega), Array.getElem?_append_left (by rw [blk_size]; exact h1), blk_get _ _ _ h1, blk_get _ _ _ (by omega)]
    simp [glue, h1, show i < a + b by omega]
  · by_cases h2 : i < a + b
    · rw [Array.getElem?_append_left (by simp [blk_size]; omega), Array.getElem?_append_right (by rw [blk_size]; omega), blk_size, blk_get _ _ _ (by omega), blk_get _ _ _ (by omega)]
      simp [glue, h1, h2]
    · rw [Array.getElem?_append_right (by simp [blk_size]; omega)]
      simp only [Array.size_append, blk_size]
      by_cases h3 : i < a + b + c
      · rw [blk_get _ _ _ (by omega), blk_get _ _ _ h3, if_neg h2]
      · rw [Array.getElem?_eq_none (by rw [blk_size]; omega), Array.getElem?_eq_none (by rw [blk_size]; omega)]
theorem row_cells {w : World} {h o m : Nat} {G : Nat → UInt8} (hr : isRow w h = true) (_hsz : o + m ≤ (rowAt w h).size) (hG : cut (rowAt w h) o (o + m) = blk m G) : ∀ j v, (blk m G).toList[j]? = some v → w.cell? ((⟨h, o, none⟩ : Addr).add j) = some v := fun j v hv => by
  rw [add_mid, cell_row h _ hr]
  rw [← hG] at hv
  unfold cut at hv
  rw [Array.getElem?_toList, Array.getElem?_extract] at hv
  split at hv
  · exact hv
  · cases hv
theorem cut_blk0 (N n : Nat) (F : Nat → UInt8) (h : n ≤ N) : cut (blk N F) 0 (0 + n) = blk n F := by rw [Nat.zero_add]; exact cut_head N F n h

/-- onto a row -/
theorem run_append_row (w : World) (t ty e : TypeId) (i : TypeInfo) (z : Value) (sz : Nat) (ht : P.underlying t = some (.slice e)) (hi : P.info? e = some i) (hz : i.zero = some z) (hsize : i.size = sz) (hby : i.bytes = sz) (hzc : z.cells = blk sz fun _ => 0) (hsz : 0 < sz)
    (g n cap : Nat) (F : Nat → UInt8) (hC : St w0 ((g, blk (cap * sz) F) :: L) w) (hn : n ≤ cap)
    (h o m c : Nat) (G : Nat → UInt8) (hr : isRow w h = true) (hro : o + m * sz ≤ (rowAt w h).size) (hG : cut (rowAt w h) o (o + m * sz) = blk (m * sz) G) (hbig : (n + m) * sz ≤ 2 ^ 40) :
    ∃ g' cap' F' w', (Builtin.append_ #[t, t] ty #[.slice (some ⟨g, 0, none⟩) n cap, .slice (some ⟨h, o, none⟩) m c]).run P w = .ok (.slice (some ⟨g', 0, none⟩) (n + m) cap') w' ∧ n + m ≤ cap' ∧ (∀ i, i < (n + m) * sz → F' i = glue (n * sz) F G i) ∧ St w0 ((g', blk (cap' * sz) F') :: L) w' := by
  obtain ⟨⟨b1, b2⟩, r1, f1, i1⟩ := hC.rows (g, blk (cap * sz) F) (by simp)
  have hle : n + m ≤ (n + m) * sz := Nat.le_mul_of_pos_right _ hsz
  by_cases hfit : n + m ≤ cap
  · have hmul : (n + m) * sz ≤ cap * sz := Nat.mul_le_mul_right _ hfit
    rw [Nat.add_mul] at hmul
    have hl := run_loadCells_row (P := P) (w := w) h o (m * sz) hr hro
    have hG' : (rowAt w h).extract o (o + m * sz) = blk (m * sz) G := hG
    rw [hG'] at hl
    have hst := run_storeCells_row (P := P) (w := w) g (n * sz) (blk (m * sz) G) f1 (by rw [r1, blk_size, blk_size]; exact hmul) (oneCells_blk _ _)
    rw [r1, paste_blk _ _ _ _ _ hmul] at hst
    refine ⟨g, cap, cpy F (n * sz) G 0 (m * sz), w.setRow g (blk (cap * sz) (cpy F (n * sz) G 0 (m * sz))), ?_, hfit, fun j hj => ?_, hC.set_head _⟩
    · simp [Builtin.append_, run_underlying ht, sizeOf, typeInfo, hi, hsize, Builtin.lenOf, Builtin.firstCells, hfit, hl, hst, add_mid]
    · rw [Nat.add_mul] at hj
      unfold cpy glue
      by_cases h1 : j < n * sz
      · rw [if_neg (by omega), if_pos h1]
      · rw [if_pos (by omega), if_neg h1, Nat.zero_add]
  · have hol : (blk (n * sz) F).toList.length = n * i.size := by rw [hsize]; simp [blk_size]
    have hnl : (blk (m * sz) G).toList.length = m * i.size := by rw [hsize]; simp [blk_size]
    have hmul : n * sz ≤ cap * sz := Nat.mul_le_mul_right _ hn
    have holds := row_cells (w := w) (h := g) (o := 0) (m := n * sz) (G := F) i1 (by rw [r1, blk_size]; omega) (by rw [r1]; exact cut_blk0 _ _ _ hmul)
    have hrun := run_append_grow (P := P) w t ty e i z ht hi hz ⟨g, 0, none⟩ n cap (blk (n * sz) F).toList hol holds ⟨h, o, none⟩ m c (blk (m * sz) G).toList hnl (row_cells hr hro hG) (by omega) (by omega) (growslice_fits (by omega) (by rw [hby]; omega))
    have hge := grownCap_ge w (n + m) cap e
    have hcap : n * sz + m * sz + (grownCap w (n + m) cap e - (n + m)) * sz = grownCap w (n + m) cap e * sz := by
      rw [← Nat.add_mul, ← Nat.add_mul]; congr 1; omega
    rw [Array.toArray_toList, Array.toArray_toList, zeroCells_blk z sz hzc hsz, grown_row _ _ _ F G _ hcap] at hrun
    refine ⟨_, _, fun i => if i < n * sz + m * sz then glue (n * sz) F G i else 0, _, hrun, hge, fun j hj => ?_, ?_⟩
    · rw [Nat.add_mul] at hj
      exact if_pos hj
    · exact hC.drew.tail.pushA _ _ rfl
/-- onto nothing -/
theorem run_append_none (w : World) (t ty e : TypeId) (i : TypeInfo) (z : Value) (sz : Nat) (ht : P.underlying t = some (.slice e)) (hi : P.info? e = some i) (hz : i.zero = some z) (hsize : i.size = sz) (hby : i.bytes = sz) (hzc : z.cells = blk sz fun _ => 0) (hsz : 0 < sz)
    (hC : St w0 L w) (h o m c : Nat) (G : Nat → UInt8) (hm : 0 < m) (hr : isRow w h = true) (hro : o + m * sz ≤ (rowAt w h).size) (hG : cut (rowAt w h) o (o + m * sz) = blk (m * sz) G) (hbig : m * sz ≤ 2 ^ 40) :
    ∃ g' cap' F' w', (Builtin.append_ #[t, t] ty #[.slice none 0 0, .slice (some ⟨h, o, none⟩) m c]).run P w = .ok (.slice (some ⟨g', 0, none⟩) m cap') w' ∧ m ≤ cap' ∧ (∀ i, i < m * sz → F' i = G i) ∧ St w0 ((g', blk (cap' * sz) F') :: L) w' := by
  have hle : m ≤ m * sz := Nat.le_mul_of_pos_right _ hsz
  have hnl : (blk (m * sz) G).toList.length = m * i.size := by rw [hsize]; simp [blk_size]
  have hrun := run_append_nil (P := P) w t ty e i z ht hi hz ⟨h, o, none⟩ m c (blk (m * sz) G).toList hnl (row_cells hr hro hG) hm (by omega) (by rw [hby]; omega)
  have hge := grownCap_ge w m 0 e
  have hcap : 0 + m * sz + (grownCap w m 0 e - m) * sz = grownCap w m 0 e * sz := by
    rw [Nat.zero_add, ← Nat.add_mul]; congr 1; omega
  have h0 : blk (m * sz) G ++ blk ((grownCap w m 0 e - m) * sz) (fun _ => 0) = blk (grownCap w m 0 e * sz) (fun i => if i < 0 + m * sz then glue 0 (fun _ => 0) G i else 0) := by
    rw [← grown_row 0 _ _ (fun _ => 0) G _ hcap]
    have e0 : blk 0 (fun _ => 0) = #[] := rfl
    rw [e0, Array.empty_append]
  rw [Array.toArray_toList, zeroCells_blk z sz hzc hsz, h0] at hrun
  refine ⟨_, _, fun i => if i < 0 + m * sz then glue 0 (fun _ => 0) G i else 0, _, hrun, hge, fun j hj => ?_, hC.drew.pushA _ _ rfl⟩
  show (if j < 0 + m * sz then glue 0 (fun _ => 0) G j else 0) = G j
  rw [Nat.zero_add, if_pos hj]
  simp [glue]
/-! ### at the list of a region's operations -/
theorem wpList_append_row {ops : Array Oper} {rest : List Oper} {op : Oper} {a : Act} {Q : Exit → Act → World → Prop} {w : World} (hgd : op.guard = none) (s x : Operand) (t : TypeId) (ho : op.op = .call { callee := .builtin .append, args := #[s, x], argTypes := #[t, t] })
    (e : TypeId) (i : TypeInfo) (z : Value) (sz : Nat) (ht : P.underlying t = some (.slice e)) (hi : P.info? e = some i) (hz : i.zero = some z) (hsize : i.size = sz) (hby : i.bytes = sz) (hzc : z.cells = blk sz fun _ => 0) (hsz : 0 < sz)
    (g n cap : Nat) (F : Nat → UInt8) (hs : a.eval s = .slice (some ⟨g, 0, none⟩) n cap) (hC : St w0 ((g, blk (cap * sz) F) :: L) w) (hn : n ≤ cap)
    (h o m c : Nat) (G : Nat → UInt8) (hx : a.eval x = .slice (some ⟨h, o, none⟩) m c) (hr : isRow w h = true) (hro : o + m * sz ≤ (rowAt w h).size) (hG : cut (rowAt w h) o (o + m * sz) = blk (m * sz) G) (hbig : (n + m) * sz ≤ 2 ^ 40)
    (k : ∀ g' cap' F' w', n + m ≤ cap' → (∀ i, i < (n + m) * sz → F' i = glue (n * sz) F G i) → St w0 ((g', blk (cap' * sz) F') :: L) w' → wpList P ops Q rest (a.put op.dst (.slice (some ⟨g', 0, none⟩) (n + m) cap')) w') : wpList P ops Q (op :: rest) a w :=
  wpList_plain hgd fun _ hK => by
    obtain ⟨g', cap', F', w', hrun, h1, h2, h3⟩ := run_append_row (P := P) w t op.type e i z sz ht hi hz hsize hby hzc hsz g n cap F hC hn h o m c G hr hro hG hbig
    unfold Oper.wp execOp
    simp only [ho, resolve, invoke, builtin, Sem.run_bind, Sem.run_pure, Result.andThen_ok, List.map_toArray, List.map_cons, List.map_nil, hs, hx, hrun]
    exact hK _ _ (k g' cap' F' w' h1 h2 h3)
theorem wpList_append_none {ops : Array Oper} {rest : List Oper} {op : Oper} {a : Act} {Q : Exit → Act → World → Prop} {w : World} (hgd : op.guard = none) (s x : Operand) (t : TypeId) (ho : op.op = .call { callee := .builtin .append, args := #[s, x], argTypes := #[t, t] })
    (e : TypeId) (i : TypeInfo) (z : Value) (sz : Nat) (ht : P.underlying t = some (.slice e)) (hi : P.info? e = some i) (hz : i.zero = some z) (hsize : i.size = sz) (hby : i.bytes = sz) (hzc : z.cells = blk sz fun _ => 0) (hsz : 0 < sz)
    (hs : a.eval s = .slice none 0 0) (hC : St w0 L w) (h o m c : Nat) (G : Nat → UInt8) (hm : 0 < m) (hx : a.eval x = .slice (some ⟨h, o, none⟩) m c) (hr : isRow w h = true) (hro : o + m * sz ≤ (rowAt w h).size) (hG : cut (rowAt w h) o (o + m * sz) = blk (m * sz) G) (hbig : m * sz ≤ 2 ^ 40)
    (k : ∀ g' cap' F' w', m ≤ cap' → (∀ i, i < m * sz → F' i = G i) → St w0 ((g', blk (cap' * sz) F') :: L) w' → wpList P ops Q rest (a.put op.dst (.slice (some ⟨g', 0, none⟩) m cap')) w') : wpList P ops Q (op :: rest) a w :=
  wpList_plain hgd fun _ hK => by
    obtain ⟨g', cap', F', w', hrun, h1, h2, h3⟩ := run_append_none (P := P) w t op.type e i z sz ht hi hz hsize hby hzc hsz hC h o m c G hm hr hro hG hbig
    unfold Oper.wp execOp
    simp only [ho, resolve, invoke, builtin, Sem.run_bind, Sem.run_pure, Result.andThen_ok, List.map_toArray, List.map_cons, List.map_nil, hs, hx, hrun]
    exact hK _ _ (k g' cap' F' w' h1 h2 h3)
end
end Go.Proofs.YtgaecjhghpkcoaaGreat
end

section
namespace Go.Proofs.YtgaecjhghpkcoaaGreat
open Go.RowKit

/-- n keys, f their bytes -/
def rg (n : Nat) (f : Nat → UInt8) : Array Value := (Value.int .i64 (n : Int) :: (List.range 96).map fun i => Value.int .u8 (B (f i))).toArray
theorem rg_size (n : Nat) (f : Nat → UInt8) : (rg n f).size = 97 := by simp [rg]
theorem rg_get0 (n : Nat) (f : Nat → UInt8) : (rg n f)[0]? = some (.int .i64 (n : Int)) := by simp [rg]
theorem rg_getE0 (n : Nat) (f : Nat → UInt8) (h : 0 < (rg n f).size) : (rg n f)[0]'h = .int .i64 (n : Int) := by
  have := rg_get0 n f
  rw [Array.getElem?_eq_getElem h] at this
  exact Option.some.inj this
theorem rg_get (n : Nat) (f : Nat → UInt8) (i : Nat) : (rg n f)[1 + i]? = (blk 96 f)[i]? := by
  unfold rg blk
  rw [List.getElem?_toArray, List.getElem?_toArray, Nat.add_comm 1 i, List.getElem?_cons_succ]
theorem rg_ne (n : Nat) (f : Nat → UInt8) : (rg n f = #[]) = False := by
  simp only [eq_iff_iff, iff_false]
  intro h
  have := congrArg Array.size h
  rw [rg_size] at this; cases this
theorem rg_ext {n : Nat} {f : Nat → UInt8} {xs : Array Value} (h0 : xs.size = 97) (h1 : xs[0]? = some (.int .i64 (n : Int))) (h2 : ∀ i, i < 96 → xs[1 + i]? = some (.int .u8 (B (f i)))) : xs = rg n f := by
  apply Array.ext_getElem?
  intro i
  match i with
  | 0 => rw [h1, rg_get0]
  | i + 1 =>
    rw [Nat.add_comm i 1, rg_get]
    by_cases hi : i < 96
    · rw [h2 i hi, blk_get _ _ _ hi]
    · rw [Array.getElem?_eq_none (by omega), Array.getElem?_eq_none (by rw [blk_size]; omega)]
theorem rg_set0 (n m : Nat) (f : Nat → UInt8) : (rg n f).setIfInBounds 0 (.int .i64 (m : Int)) = rg m f := by
  refine rg_ext (by rw [Array.size_setIfInBounds, rg_size]) ?_ (fun i hi => ?_)
  · rw [Array.getElem?_setIfInBounds_self_of_lt (by rw [rg_size]; decide)]
  · rw [Array.getElem?_setIfInBounds_ne (by omega), rg_get, blk_get _ _ _ hi]
theorem rg_one (n : Nat) (f : Nat → UInt8) : oneCells (rg n f) = true := by
  simp [oneCells, rg, Value.oneCell']
theorem rg_cut (n : Nat) (f : Nat → UInt8) : cut (rg n f) 0 97 = rg n f := by
  unfold cut
  have := @Array.extract_size Value (rg n f)
  rwa [rg_size] at this
theorem rg_key (n : Nat) (f : Nat → UInt8) (o : Nat) (h : o + 16 ≤ 96) : cut (rg n f) (1 + o) (1 + o + 16) = blk 16 fun j => f (o + j) := by
  unfold cut
  apply Array.ext_getElem?
  intro j
  rw [Array.getElem?_extract, rg_size]
  by_cases hj : j < 16
  · rw [if_pos (by omega), Nat.add_assoc, rg_get, blk_get _ _ _ (by omega), blk_get _ _ _ hj]
  · rw [if_neg (by omega), Array.getElem?_eq_none (by rw [blk_size]; omega)]
theorem rg_put (n : Nat) (f x : Nat → UInt8) (o : Nat) (h : o + 16 ≤ 96) : paste (rg n f) (1 + o) (blk 16 x) = rg n (cpy f o x 0 16) := by
  refine rg_ext (by rw [paste_size _ _ _ (by rw [rg_size, blk_size]; omega), rg_size]) ?_ (fun i hi => ?_)
  · rw [paste_get _ _ _ (by rw [rg_size, blk_size]; omega), if_neg (by omega), rg_get0]
  · rw [paste_get _ _ _ (by rw [rg_size, blk_size]; omega), blk_size]
    unfold cpy
    by_cases h1 : o ≤ i ∧ i < o + 16
    · rw [if_pos (by omega), if_pos h1, blk_get _ _ _ (by omega), show 1 + i - (1 + o) = i - o by omega, Nat.zero_add]
    · rw [if_neg (by omega), if_neg h1, rg_get, blk_get _ _ _ hi]
theorem rg_paste (n m : Nat) (f g : Nat → UInt8) : paste (rg n f) 0 (rg m g) = rg m g := paste_whole _ _ (by rw [rg_size, rg_size])
theorem rg_congr {n : Nat} {f g : Nat → UInt8} (h : ∀ i, i < 96 → f i = g i) : rg n f = rg n g := by
  refine rg_ext (rg_size _ _) (rg_get0 _ _) (fun i hi => ?_)
  rw [rg_get, blk_get _ _ _ hi, h i hi]
section
variable {P : Program} {w : World}
theorem part_rg0 (t : TypeId) (n : Nat) (f : Nat → UInt8) (ha : (isAgg t).run P w = .ok false w) : (part t (rg n f) 0).run P w = .ok (.int .i64 (n : Int)) w := by
  simp [part, Sem.run_bind, ha, rg_get0]
theorem part_rg1 (t : TypeId) (n : Nat) (f : Nat → UInt8) (ha : (isAgg t).run P w = .ok true w) (hs : (sizeOf t).run P w = .ok 96 w) : (part t (rg n f) 1).run P w = .ok (.agg (blk 96 f)) w := by
  have hc : (rg n f).extract 1 (1 + 96) = blk 96 f := by
    apply Array.ext_getElem?
    intro j
    rw [Array.getElem?_extract, rg_size]
    by_cases hj : j < 96
    · rw [if_pos (by omega), rg_get]
    · rw [if_neg (by omega), Array.getElem?_eq_none (by rw [blk_size]; omega)]
  simp [part, Sem.run_bind, ha, hs, hc]
end
theorem zero97 : Tryz.zeroCells44 = rg 0 (fun _ => 0) := by kernel_rfl

/-! ### keys of a master -/
def deriveB (m : Nat → UInt8) (t : Nat) : Nat → UInt8 := Ci.sealB (Ci.rounds m) (upd (fun _ => 0) 15 (UInt8.ofNat t))
/-- a key more, at place n -/
def addB (f : Nat → UInt8) (n : Nat) (k : Nat → UInt8) : Nat → UInt8 := cpy f (n * 16) k 0 16
end Go.Proofs.YtgaecjhghpkcoaaGreat
end

section
namespace Go.Proofs.YtgaecjhghpkcoaaGreat
open Go.RowKit
attribute [local go_sem] B_xor B_or B_and
attribute [local go_sem] blk_set blk_size blk_get blk_getE upd_same oneCells_blk paste_blk cut_blk szOf
attribute [local go_sem high] paste_all cut_head
attribute [local go_sem] rowAt_alloc rowAt_drew rowAt_drewN isRow_alloc isRow_drew isRow_drewN freeRow_alloc freeRow_end freeRow_drew freeRow_drewN
attribute [local go_sem] setRow_alloc setRow_drew setRow_drewN setCell_drewN alloc_drewN rowAt_put isRow_setRow freeRow_put
attribute [local go_sem ↓] loadS_in storeS_in indexS_in copyS_in
attribute [local go_sem] loadS_row loadS_one storeS_row storeS_one indexS_blk copyS_rows run_equalIn_blk same_refl arrayAt_row
attribute [local go_sem] cell_row frozen_row st_setCell st_blk_ne stepAt stepUpon
attribute [local go_sem high] run_eql_blk run_neq_blk
attribute [local go_sem] rg_size rg_get0 rg_getE0 rg_ne rg_set0 rg_one rg_cut rg_key rg_put rg_paste part_rg0 part_rg1

theorem may_any (t : Int) (v : Bool) (h : decide (1 ≤ t ∧ t ≤ 6) = v) (w : World) : Calls Tryz.prog 70 #[.int .i64 t] w fun e w' => e = .returned (.bool v) ∧ Below w.heap.size w w' := by
  subst h
  by_cases h1 : 1 ≤ t
  · by_cases h2 : t ≤ 6
    · have e : decide (1 ≤ t ∧ t ≤ 6) = true := decide_eq_true ⟨h1, h2⟩
      rw [e]
      go_enter Tryz.func70, Tryz.ntmps70
      go_wp2_with fail
      go_ret
      exact ⟨rfl, Below.refl _ _⟩
    · have e : decide (1 ≤ t ∧ t ≤ 6) = false := decide_eq_false (fun h => h2 h.2)
      rw [e]
      have d : decide (t ≤ 6) = false := decide_eq_false h2
      go_enter Tryz.func70, Tryz.ntmps70
      go_wp2_with fail
      go_ret
      exact ⟨rfl, Below.refl _ _⟩
  · have e : decide (1 ≤ t ∧ t ≤ 6) = false := decide_eq_false (fun h => h1 h.1)
    rw [e]
    have d : decide (1 ≤ t) = false := decide_eq_false h1
    go_enter Tryz.func70, Tryz.ntmps70
    go_wp2_with fail
    go_ret
    exact ⟨rfl, Below.refl _ _⟩

set_option maxRecDepth 100000 in
set_option maxHeartbeats 1000000 in
theorem derive_yes (m : Nat → UInt8) (t : Nat) (h1 : 1 ≤ t) (h6 : t ≤ 6) (w : World) : Calls Tryz.prog 60 #[.agg (blk 16 m), .int .i64 (t : Int)] w fun e w' => e = .returned (.tuple #[.agg (blk 16 (deriveB m t)), .int .i64 0]) ∧ Below w.heap.size w w' := by
  have hz := zero16
  have hm : decide (1 ≤ (t : Int) ∧ (t : Int) ≤ 6) = true := decide_eq_true (by omega)
  have HM := Lib.hid hm
  have v1 := byte_of t
  have HC := Lib.hid (((St.nil w).pushA (blk 16 m) 41 rfl).pushA (blk 16 fun _ => 0) 41 (g := w.heap.size + 1) (by simp))
  clear hm
  go_enter Tryz.func60, Tryz.ntmps60
  go_wp2_with fail
  refine (may_any _ true HM.out _).mono ?_; rintro e w1 ⟨rfl, hw⟩
  have HC := Lib.hid (HC.out.call hw)
  clear hw
  have hC := HC.out
  (have HC := Lib.hid hC
   have sos := hC.below.os
   obtain ⟨⟨r1, f1, i1, b1, l1⟩, ⟨r2, f2, i2, b2, l2⟩, m12, m21⟩ := St.facts2 hC
   clear hC)
  go_wp2_with fail
  (clear r1 f1 i1 b1 l1 r2 f2 i2 b2 l2 m12 m21 sos)
  refine (expand_any _ _).mono ?_; rintro e w2 ⟨rfl, hw⟩
  have HC := Lib.hid (HC.out.call hw)
  clear hw
  have hC := HC.out
  (have HC := Lib.hid hC
   have sos := hC.below.os
   obtain ⟨⟨r1, f1, i1, b1, l1⟩, ⟨r2, f2, i2, b2, l2⟩, m12, m21⟩ := St.facts2 hC
   clear hC)
  go_wp2_with fail
  (clear r1 f1 i1 b1 l1 r2 f2 i2 b2 l2 m12 m21 sos)
  refine (seal_any _ _ _).mono ?_; rintro e w3 ⟨rfl, hw⟩
  have HC := Lib.hid (HC.out.call hw)
  clear hw
  have hC := HC.out
  (have HC := Lib.hid hC
   have sos := hC.below.os
   obtain ⟨⟨r1, f1, i1, b1, l1⟩, ⟨r2, f2, i2, b2, l2⟩, m12, m21⟩ := St.facts2 hC
   clear hC)
  go_wp2_with fail
  refine bodyPost_ret (results_pair rfl _ (w.heap.size + 1) rfl (blk 16 (deriveB m t)) ?_ ?_ ?_ ?_ (.int .i64 0) rfl) rfl ⟨rfl, ?_⟩
  · simp [go_sem, *]; rfl
  · simp [go_sem]
  · simp [go_sem]
  · simp [go_sem, *]
  · exact below_setRow' HC.out.below (by omega) _
theorem derive_no (m : Nat → UInt8) (t : Int) (h : t < 1 ∨ 6 < t) (w : World) : Calls Tryz.prog 60 #[.agg (blk 16 m), .int .i64 t] w fun e w' => e = .returned (.tuple #[.agg (blk 16 fun _ => 0), .int .i64 2]) ∧ Below w.heap.size w w' := by
  have hz := zero16
  have hm : decide (1 ≤ t ∧ t ≤ 6) = false := decide_eq_false (by omega)
  have HM := Lib.hid hm
  have HC := Lib.hid (((St.nil w).pushA (blk 16 m) 41 rfl).pushA (blk 16 fun _ => 0) 41 (g := w.heap.size + 1) (by simp))
  clear hm h
  go_enter Tryz.func60, Tryz.ntmps60
  go_wp2_with fail
  refine (may_any _ false HM.out _).mono ?_; rintro e w1 ⟨rfl, hw⟩
  have HC := Lib.hid (HC.out.call hw)
  clear hw
  have hC := HC.out
  (have HC := Lib.hid hC
   have sos := hC.below.os
   obtain ⟨⟨r1, f1, i1, b1, l1⟩, ⟨r2, f2, i2, b2, l2⟩, m12, m21⟩ := St.facts2 hC
   clear hC)
  go_wp2_with fail
  refine bodyPost_ret (results_pair rfl _ (w.heap.size + 1) rfl (blk 16 fun _ => 0) ?_ ?_ ?_ ?_ (.int .i64 2) rfl) rfl ⟨rfl, ?_⟩
  · simp [go_sem, *]
  · simp [go_sem]
  · simp [go_sem]
  · simp [go_sem, *]
  · exact below_setRow' HC.out.below (by omega) _
end Go.Proofs.YtgaecjhghpkcoaaGreat
end

section
namespace Go.Proofs.YtgaecjhghpkcoaaGreat
open Go.RowKit
attribute [local go_sem] B_xor B_or B_and
attribute [local go_sem] blk_set blk_size blk_get blk_getE upd_same oneCells_blk paste_blk cut_blk szOf
attribute [local go_sem high] paste_all cut_head
attribute [local go_sem] rowAt_alloc rowAt_drew rowAt_drewN isRow_alloc isRow_drew isRow_drewN freeRow_alloc freeRow_end freeRow_drew freeRow_drewN
attribute [local go_sem] setRow_alloc setRow_drew setRow_drewN setCell_drewN alloc_drewN rowAt_put isRow_setRow freeRow_put
attribute [local go_sem ↓] loadS_in storeS_in indexS_in copyS_in
attribute [local go_sem] loadS_row loadS_one storeS_row storeS_one indexS_blk copyS_rows run_equalIn_blk same_refl arrayAt_row
attribute [local go_sem] cell_row frozen_row st_setCell st_blk_ne stepAt stepUpon
attribute [local go_sem high] run_eql_blk run_neq_blk
attribute [local go_sem] rg_size rg_get0 rg_getE0 rg_ne rg_set0 rg_one rg_cut rg_key rg_put rg_paste part_rg0 part_rg1

theorem derive_next (m : Nat → UInt8) (n : Nat) (h : n ≤ 5) (w : World) : Calls Tryz.prog 60 #[.agg (blk 16 m), .int .i64 ((n : Int) + 1)] w fun e w' => e = .returned (.tuple #[.agg (blk 16 (deriveB m (n + 1))), .int .i64 0]) ∧ Below w.heap.size w w' := derive_yes m (n + 1) (by omega) (by omega) w
set_option maxRecDepth 100000 in
set_option maxHeartbeats 1000000 in
theorem rotate_yes (n : Nat) (f m : Nat → UInt8) (h : n ≤ 5) (w : World) : Calls Tryz.prog 29 #[.agg (rg n f), .agg (blk 16 m)] w fun e w' => e = .returned (.tuple #[.agg (rg (n + 1) (addB f n (deriveB m (n + 1)))), .int .i64 0]) ∧ Below w.heap.size w w' := by
  have hz := zero16
  have hz2 := zero97
  have n5 : (n : Int) ≤ 5 := by omega
  have n6 : (n : Int) < 6 := by omega
  have b1 : n * 16 + 16 ≤ 96 := by omega
  have b2 : 1 + n * 16 + 16 ≤ 97 := by omega
  have b3 : n * 16 ≤ 80 := by omega
  have b4 : 1 + n * 16 ≤ 81 := by omega
  have hset : ∀ F, (rg n F).setIfInBounds 0 (.int .i64 ((n : Int) + 1)) = rg (n + 1) F := fun F => rg_set0 n (n + 1) F
  have hadd : cpy f (n * 16) (deriveB m (n + 1)) 0 16 = addB f n (deriveB m (n + 1)) := rfl
  have HC := Lib.hid ((((St.nil w).pushA (rg n f) 44 rfl).pushA (blk 16 m) 41 (g := w.heap.size + 1) (by simp)).pushA (rg 0 fun _ => 0) 44 (g := w.heap.size + 1 + 1) (by simp))
  go_enter Tryz.func29, Tryz.ntmps29
  go_wp2_with fail
  refine (derive_next m n h _).mono ?_; rintro e w1 ⟨rfl, hw⟩
  have HC := Lib.hid (HC.out.call hw)
  clear hw
  have hC := HC.out
  (have HC := Lib.hid hC
   have sos := hC.below.os
   obtain ⟨⟨r1, f1, i1, b1, l1⟩, ⟨r2, f2, i2, b2, l2⟩, ⟨r3, f3, i3, b3, l3⟩, m12, m21, m13, m31, m23, m32⟩ := St.facts3 hC
   clear hC)
  go_wp2_with fail
  have ne1 : (w.heap.size + 1 + 1 = w1.heap.size) = False := by simp; omega
  refine bodyPost_ret (results_pair rfl _ (w.heap.size + 1 + 1) rfl (rg (n + 1) (addB f n (deriveB m (n + 1)))) ?_ ?_ ?_ ?_ (.int .i64 0) rfl) rfl ⟨rfl, ?_⟩
  · simp [go_sem, *]
  · simp [go_sem]
  · simp [go_sem]
  · simp [go_sem, *]
  · exact (below_setRow' (below_setRow' (below_setRow' HC.out.below (Nat.le_refl _) _) (Nat.le_refl _) _) (by omega) _).alloc (by have := HC.out.below.size; simpa using this) _
set_option maxRecDepth 100000 in
set_option maxHeartbeats 1000000 in
theorem rotate_no (f m : Nat → UInt8) (w : World) : Calls Tryz.prog 29 #[.agg (rg 6 f), .agg (blk 16 m)] w fun e w' => e = .returned (.tuple #[.agg (rg 6 f), .int .i64 19]) ∧ Below w.heap.size w w' := by
  have hz := zero16
  have hz2 := zero97
  have HC := Lib.hid ((((St.nil w).pushA (rg 6 f) 44 rfl).pushA (blk 16 m) 41 (g := w.heap.size + 1) (by simp)).pushA (rg 0 fun _ => 0) 44 (g := w.heap.size + 1 + 1) (by simp))
  go_enter Tryz.func29, Tryz.ntmps29
  go_wp2_with fail
  refine (derive_no m 7 (by omega) _).mono ?_; rintro e w1 ⟨rfl, hw⟩
  have HC := Lib.hid (HC.out.call hw)
  clear hw
  have hC := HC.out
  (have HC := Lib.hid hC
   have sos := hC.below.os
   obtain ⟨⟨r1, f1, i1, b1, l1⟩, ⟨r2, f2, i2, b2, l2⟩, ⟨r3, f3, i3, b3, l3⟩, m12, m21, m13, m31, m23, m32⟩ := St.facts3 hC
   clear hC)
  go_wp2_with fail
  have ne1 : (w.heap.size + 1 + 1 = w1.heap.size) = False := by simp; omega
  refine bodyPost_ret (results_pair rfl _ (w.heap.size + 1 + 1) rfl (rg 6 f) ?_ ?_ ?_ ?_ (.int .i64 19) rfl) rfl ⟨rfl, ?_⟩
  · simp [go_sem, *]
  · simp [go_sem]
  · simp [go_sem]
  · simp [go_sem, *]
  · exact (below_setRow' HC.out.below (by omega) _).alloc (by have := HC.out.below.size; simpa using this) _
theorem term_any (n : Nat) (f : Nat → UInt8) (w : World) : Calls Tryz.prog 31 #[.agg (rg n f)] w fun e w' => e = .returned (.int .i64 (n : Int)) ∧ Below w.heap.size w w' := by
  go_enter Tryz.func31, Tryz.ntmps31
  go_wp2_with fail
  go_ret
  exact ⟨rfl, (Below.refl _ _).alloc (Nat.le_refl _) _⟩
end Go.Proofs.YtgaecjhghpkcoaaGreat
end

section
namespace Go.Proofs.YtgaecjhghpkcoaaGreat
open Go.RowKit
attribute [local go_sem] B_xor B_or B_and
attribute [local go_sem] blk_set blk_size blk_get blk_getE upd_same oneCells_blk paste_blk cut_blk szOf
attribute [local go_sem high] paste_all cut_head
attribute [local go_sem] rowAt_alloc rowAt_drew rowAt_drewN isRow_alloc isRow_drew isRow_drewN freeRow_alloc freeRow_end freeRow_drew freeRow_drewN
attribute [local go_sem] setRow_alloc setRow_drew setRow_drewN setCell_drewN alloc_drewN rowAt_put isRow_setRow freeRow_put
attribute [local go_sem ↓] loadS_in storeS_in indexS_in copyS_in
attribute [local go_sem] loadS_row loadS_one storeS_row storeS_one indexS_blk copyS_rows run_equalIn_blk same_refl arrayAt_row
attribute [local go_sem] cell_row frozen_row st_setCell st_blk_ne stepAt stepUpon
attribute [local go_sem high] run_eql_blk run_neq_blk
attribute [local go_sem] rg_size rg_get0 rg_getE0 rg_ne rg_set0 rg_one rg_cut rg_key rg_put rg_paste part_rg0 part_rg1

def newB (m : Nat → UInt8) : Nat → UInt8 := addB (fun _ => 0) 0 (deriveB m 1)
/-- the key at place u -/
def keyB (f : Nat → UInt8) (u : Nat) : Nat → UInt8 := fun j => f (u * 16 + j)
theorem rotate_first (m : Nat → UInt8) (w : World) : Calls Tryz.prog 29 #[.agg (rg 0 fun _ => 0), .agg (blk 16 m)] w fun e w' => e = .returned (.tuple #[.agg (rg 1 (newB m)), .int .i64 0]) ∧ Below w.heap.size w w' := rotate_yes 0 (fun _ => 0) m (by omega) w
set_option maxRecDepth 100000 in
set_option maxHeartbeats 1000000 in
theorem new_any (m : Nat → UInt8) (w : World) : Calls Tryz.prog 35 #[.agg (blk 16 m)] w fun e w' => e = .returned (.agg (rg 1 (newB m))) ∧ Below w.heap.size w w' := by
  have hz := zero16
  have hz2 := zero97
  have HC := Lib.hid (((St.nil w).pushA (blk 16 m) 41 rfl).pushA (rg 0 fun _ => 0) 44 (g := w.heap.size + 1) (by simp))
  go_enter Tryz.func35, Tryz.ntmps35
  go_wp2_with fail
  refine (rotate_first m _).mono ?_; rintro e w1 ⟨rfl, hw⟩
  have HC := Lib.hid (HC.out.call hw)
  clear hw
  have hC := HC.out
  (have HC := Lib.hid hC
   have sos := hC.below.os
   obtain ⟨⟨r1, f1, i1, b1, l1⟩, ⟨r2, f2, i2, b2, l2⟩, m12, m21⟩ := St.facts2 hC
   clear hC)
  go_wp2_with fail
  have ne1 : (w.heap.size + 1 = w1.heap.size) = False := by simp; omega
  refine bodyPost_ret (results_row rfl _ (w.heap.size + 1) rfl (rg 1 (newB m)) ?_ ?_ ?_ ?_) rfl ⟨rfl, ?_⟩
  · simp [go_sem, *]
  · simp [go_sem]
  · simp [go_sem]
  · simp [go_sem, *]
  · exact (below_setRow' HC.out.below (by omega) _).alloc (by have := HC.out.below.size; simpa using this) _
set_option maxRecDepth 100000 in
set_option maxHeartbeats 1000000 in
theorem key_yes (n : Nat) (f : Nat → UInt8) (t u : Nat) (ht : t = u + 1) (hn : t ≤ n) (h6 : n ≤ 6) (w : World) : Calls Tryz.prog 44 #[.agg (rg n f), .int .i64 (t : Int)] w fun e w' => e = .returned (.tuple #[.agg (blk 16 (keyB f u)), .int .i64 0]) ∧ Below w.heap.size w w' := by
  have hz := zero16
  have HM := Lib.hid (show decide (1 ≤ (t : Int) ∧ (t : Int) ≤ 6) = true from decide_eq_true (by omega))
  have d1 : decide (n < t) = false := decide_eq_false (by omega)
  have v1 : (t : Int) - 1 = (u : Int) := by omega
  have v2 : IntKind.i64.wrap ((t : Int) - 1) = (u : Int) := by rw [IntWalk.i64_in _ (by omega)]; exact v1
  have v3 : (u : Int) < 6 := by omega
  have b1 : u * 16 + 16 ≤ 96 := by omega
  have b2 : 1 + u * 16 + 16 ≤ 97 := by omega
  have b3 : u * 16 ≤ 80 := by omega
  have b4 : 1 + u * 16 ≤ 81 := by omega
  have hk : (fun j => f (u * 16 + j)) = keyB f u := rfl
  have HC := Lib.hid (((St.nil w).pushA (rg n f) 44 rfl).pushA (blk 16 fun _ => 0) 41 (g := w.heap.size + 1) (by simp))
  clear ht
  go_enter Tryz.func44, Tryz.ntmps44
  go_wp2_with fail
  refine (may_any _ true HM.out _).mono ?_; rintro e w1 ⟨rfl, hw⟩
  have HC := Lib.hid (HC.out.call hw)
  clear hw
  have hC := HC.out
  (have HC := Lib.hid hC
   have sos := hC.below.os
   obtain ⟨⟨r1, f1, i1, b1, l1⟩, ⟨r2, f2, i2, b2, l2⟩, m12, m21⟩ := St.facts2 hC
   clear hC)
  go_wp2_with fail
  refine bodyPost_ret (results_pair rfl _ (w.heap.size + 1) rfl (blk 16 (keyB f u)) ?_ ?_ ?_ ?_ (.int .i64 0) rfl) rfl ⟨rfl, ?_⟩
  · simp [go_sem, *]
  · simp [go_sem]
  · simp [go_sem]
  · simp [go_sem, *]
  · exact below_setRow' HC.out.below (by omega) _
set_option maxRecDepth 100000 in
set_option maxHeartbeats 1000000 in
theorem key_no (n : Nat) (f : Nat → UInt8) (t : Int) (h : t < 1 ∨ 6 < t ∨ (n : Int) < t) (w : World) : Calls Tryz.prog 44 #[.agg (rg n f), .int .i64 t] w fun e w' => e = .returned (.tuple #[.agg (blk 16 fun _ => 0), .int .i64 6]) ∧ Below w.heap.size w w' := by
  have hz := zero16
  have HC := Lib.hid (((St.nil w).pushA (rg n f) 44 rfl).pushA (blk 16 fun _ => 0) 41 (g := w.heap.size + 1) (by simp))
  by_cases hm : 1 ≤ t ∧ t ≤ 6
  · have HM := Lib.hid (show decide (1 ≤ t ∧ t ≤ 6) = true from decide_eq_true hm)
    have d1 : decide ((n : Int) < t) = true := decide_eq_true (by omega)
    clear hm h
    go_enter Tryz.func44, Tryz.ntmps44
    go_wp2_with fail
    refine (may_any _ true HM.out _).mono ?_; rintro e w1 ⟨rfl, hw⟩
    have HC := Lib.hid (HC.out.call hw)
    clear hw
    have hC := HC.out
    (have HC := Lib.hid hC
     have sos := hC.below.os
     obtain ⟨⟨r1, f1, i1, b1, l1⟩, ⟨r2, f2, i2, b2, l2⟩, m12, m21⟩ := St.facts2 hC
     clear hC)
    go_wp2_with fail
    refine bodyPost_ret (results_pair rfl _ (w.heap.size + 1) rfl (blk 16 fun _ => 0) ?_ ?_ ?_ ?_ (.int .i64 6) rfl) rfl ⟨rfl, ?_⟩
    · simp [go_sem, *]
    · simp [go_sem]
    · simp [go_sem]
    · simp [go_sem, *]
    · exact below_setRow' HC.out.below (by omega) _
  · have HM := Lib.hid (show decide (1 ≤ t ∧ t ≤ 6) = false from decide_eq_false hm)
    clear hm h
    go_enter Tryz.func44, Tryz.ntmps44
    go_wp2_with fail
    refine (may_any _ false HM.out _).mono ?_; rintro e w1 ⟨rfl, hw⟩
    have HC := Lib.hid (HC.out.call hw)
    clear hw
    have hC := HC.out
    (have HC := Lib.hid hC
     have sos := hC.below.os
     obtain ⟨⟨r1, f1, i1, b1, l1⟩, ⟨r2, f2, i2, b2, l2⟩, m12, m21⟩ := St.facts2 hC
     clear hC)
    go_wp2_with fail
    refine bodyPost_ret (results_pair rfl _ (w.heap.size + 1) rfl (blk 16 fun _ => 0) ?_ ?_ ?_ ?_ (.int .i64 6) rfl) rfl ⟨rfl, ?_⟩
    · simp [go_sem, *]
    · simp [go_sem]
    · simp [go_sem]
    · simp [go_sem, *]
    · exact below_setRow' HC.out.below (by omega) _
end Go.Proofs.YtgaecjhghpkcoaaGreat
end

section
namespace Go.Proofs.YtgaecjhghpkcoaaGreat
open Go.RowKit
attribute [local go_sem] B_xor B_or B_and
attribute [local go_sem] blk_set blk_size blk_get blk_getE upd_same oneCells_blk paste_blk cut_blk szOf
attribute [local go_sem high] paste_all cut_head
attribute [local go_sem] rowAt_alloc rowAt_drew rowAt_drewN isRow_alloc isRow_drew isRow_drewN freeRow_alloc freeRow_end freeRow_drew freeRow_drewN
attribute [local go_sem] setRow_alloc setRow_drew setRow_drewN setCell_drewN alloc_drewN rowAt_put isRow_setRow freeRow_put
attribute [local go_sem ↓] loadS_in storeS_in indexS_in copyS_in
attribute [local go_sem] loadS_row loadS_one storeS_row storeS_one indexS_blk copyS_rows run_equalIn_blk same_refl arrayAt_row
attribute [local go_sem] cell_row frozen_row st_setCell st_blk_ne stepAt stepUpon
attribute [local go_sem high] run_eql_blk run_neq_blk
attribute [local go_sem] rg_size rg_get0 rg_getE0 rg_ne rg_set0 rg_one rg_cut rg_key rg_put rg_paste part_rg0 part_rg1

theorem eq96 {P : Program} {w : World} (d : Nat) (t : TypeId) (f g : Nat → UInt8) (hu : P.underlying t = some (.array 6 (P.elem t))) (hz : (sizeOf (P.elem t)).run P w = .ok 16 w) (hag : (isAgg (P.elem t)).run P w = .ok true w)
    (hu2 : P.underlying (P.elem t) = some (.array 16 (P.elem (P.elem t)))) (hz2 : (sizeOf (P.elem (P.elem t))).run P w = .ok 1 w) (ha : P.underlying (P.elem (P.elem t)) = some (.int .u8)) :
    (Op.equalIn (d + 3) t (.agg (blk 96 f)) (.agg (blk 96 g))).run P w = .ok (same 96 f g) w := run_equalIn_rows d t _ 6 16 f g hu hz hag hu2 rfl hz2 ha
theorem rg_extract (n : Nat) (f : Nat → UInt8) : (rg n f).extract 1 97 = blk 96 f := by
  apply Array.ext_getElem?
  intro j
  rw [Array.getElem?_extract, rg_size]
  by_cases hj : j < 96
  · rw [if_pos (by omega), rg_get]
  · rw [if_neg (by omega), Array.getElem?_eq_none (by rw [blk_size]; omega)]
attribute [local go_sem] eq96 rg_extract
end Go.Proofs.YtgaecjhghpkcoaaGreat
end

section
namespace Go.Proofs.YtgaecjhghpkcoaaGreat
open Go.RowKit
attribute [local go_sem] B_xor B_or B_and
attribute [local go_sem] blk_set blk_size blk_get blk_getE upd_same oneCells_blk paste_blk cut_blk szOf
attribute [local go_sem high] paste_all cut_head
attribute [local go_sem] rowAt_alloc rowAt_drew rowAt_drewN isRow_alloc isRow_drew isRow_drewN freeRow_alloc freeRow_end freeRow_drew freeRow_drewN
attribute [local go_sem] setRow_alloc setRow_drew setRow_drewN setCell_drewN alloc_drewN rowAt_put isRow_setRow freeRow_put
attribute [local go_sem ↓] loadS_in storeS_in indexS_in copyS_in
attribute [local go_sem] loadS_row loadS_one storeS_row storeS_one indexS_blk copyS_rows run_equalIn_blk same_refl arrayAt_row
attribute [local go_sem] cell_row frozen_row st_setCell st_blk_ne stepAt stepUpon
attribute [local go_sem high] run_eql_blk run_neq_blk
attribute [local go_sem ↓] convBS_in
attribute [local go_sem] convBS_row convBS_nil allBytes_blk bytesOf_blk
attribute [local go_sem ↓] convSB_in
attribute [local go_sem] convSB_row freeRow_endB

/-- where one is in a text -/
def sc (t : ByteArray) (p e : Nat) : Array Value := #[.string t, .int .i64 (p : Int), .int .i64 (e : Int)]
theorem sc_size (t : ByteArray) (p e : Nat) : (sc t p e).size = 3 := by simp [sc]
theorem sc_get0 (t : ByteArray) (p e : Nat) : (sc t p e)[0]? = some (.string t) := by simp [sc]
theorem sc_get1 (t : ByteArray) (p e : Nat) : (sc t p e)[1]? = some (.int .i64 (p : Int)) := by simp [sc]
theorem sc_get2 (t : ByteArray) (p e : Nat) : (sc t p e)[2]? = some (.int .i64 (e : Int)) := by simp [sc]
theorem sc_getE0 (t : ByteArray) (p e : Nat) (h : 0 < (sc t p e).size) : (sc t p e)[0]'h = .string t := by simp [sc]
theorem sc_getE1 (t : ByteArray) (p e : Nat) (h : 1 < (sc t p e).size) : (sc t p e)[1]'h = .int .i64 (p : Int) := by simp [sc]
theorem sc_getE2 (t : ByteArray) (p e : Nat) (h : 2 < (sc t p e).size) : (sc t p e)[2]'h = .int .i64 (e : Int) := by simp [sc]
theorem sc_set1 (t : ByteArray) (p q e : Nat) : (sc t p e).setIfInBounds 1 (.int .i64 (q : Int)) = sc t q e := by simp [sc]
theorem sc_set2 (t : ByteArray) (p e d : Nat) : (sc t p e).setIfInBounds 2 (.int .i64 (d : Int)) = sc t p d := by simp [sc]
theorem sc_ne (t : ByteArray) (p e : Nat) : (sc t p e = #[]) = False := by simp [sc]
theorem sc_one (t : ByteArray) (p e : Nat) : oneCells (sc t p e) = true := by simp [oneCells, sc, Value.oneCell']
theorem sc_cut (t : ByteArray) (p e : Nat) : cut (sc t p e) 0 3 = sc t p e := by simp [cut, sc]
theorem sc_paste (t u : ByteArray) (p e q d : Nat) : paste (sc t p e) 0 (sc u q d) = sc u q d := paste_whole _ _ (by rw [sc_size, sc_size])
theorem size_sc (w : World) : (sizeOf 120).run Tryz.prog w = .ok 3 w := by simp [go_sem]
theorem agg_sc (w : World) : (isAgg 120).run Tryz.prog w = .ok true w := by simp [go_sem]
attribute [local go_sem] size_sc agg_sc sc_size sc_get0 sc_get1 sc_get2 sc_getE0 sc_getE1 sc_getE2 sc_set1 sc_set2 sc_ne sc_one sc_cut sc_paste

theorem sized_any (k : Nat) (h1 : 1 ≤ k) (h8 : k ≤ 8) (w : World) : Calls Tryz.prog 87 #[.int .i64 (k : Int)] w fun e w' => e = .returned (.bool true) ∧ Below w.heap.size w w' := by
  have d1 : (1 : Int) ≤ (k : Int) := by omega
  have d2 : (k : Int) ≤ 8 := by omega
  go_enter Tryz.func87, Tryz.ntmps87
  go_wp2_with fail
  go_ret
  exact ⟨rfl, Below.refl _ _⟩
theorem stands_any (t : ByteArray) (p e : Nat) (h : p ≤ t.size) (w : World) : Calls Tryz.prog 86 #[.agg (sc t p e)] w fun e w' => e = .returned (.bool true) ∧ Below w.heap.size w w' := by
  have d1 : (0 : Int) ≤ (p : Int) := by omega
  go_enter Tryz.func86, Tryz.ntmps86
  go_wp2_with fail
  go_ret
  exact ⟨rfl, (Below.refl _ _).alloc (Nat.le_refl _) _⟩
theorem left_any (t : ByteArray) (p e l : Nat) (h : p + l = t.size) (hs : t.size < 2 ^ 40) (w : World) : Calls Tryz.prog 89 #[.agg (sc t p e)] w fun e w' => e = .returned (.int .i64 (l : Int)) ∧ Below w.heap.size w w' := by
  have v1 : (t.size : Int) - (p : Int) = (l : Int) := by omega
  have v2 : IntKind.i64.wrap ((t.size : Int) - (p : Int)) = (l : Int) := by rw [IntWalk.i64_in _ (by omega)]; exact v1
  clear h
  go_enter Tryz.func89, Tryz.ntmps89
  go_wp2_with fail
  go_ret
  exact ⟨rfl, (Below.refl _ _).alloc (Nat.le_refl _) _⟩
set_option maxRecDepth 100000 in
theorem fails_any (t : ByteArray) (p e d : Nat) (w : World) : Calls Tryz.prog 88 #[.agg (sc t p e), .int .i64 (d : Int)] w fun e w' => e = .returned (.agg (sc t p d)) ∧ Below w.heap.size w w' := by
  have hz : #[Value.string ⟨#[]⟩, .int .i64 0, .int .i64 0] = sc ⟨#[]⟩ 0 0 := rfl
  go_enter Tryz.func88, Tryz.ntmps88
  go_wp2_with fail
  refine bodyPost_ret (results_row rfl _ (w.heap.size + 1) rfl (sc t p d) ?_ ?_ ?_ ?_) rfl ⟨rfl, ((Below.refl _ _).alloc (Nat.le_refl _) _).alloc (by simp) _⟩
  · simp [go_sem]
  · simp [go_sem]
  · simp [go_sem]
  · simp [go_sem]
theorem rest_any (t : ByteArray) (p : Nat) (h : p ≤ t.size) (w : World) : Calls Tryz.prog 69 #[.agg (sc t p 0)] w fun e w' => e = .returned (.string (t.extract p t.size)) ∧ Below w.heap.size w w' := by
  have d1 : (p : Int) ≤ (t.size : Int) := by omega
  have HC := Lib.hid ((St.nil w).pushA (sc t p 0) 120 rfl)
  go_enter Tryz.func69, Tryz.ntmps69
  go_wp2_with fail
  refine (stands_any t p 0 h _).mono ?_; rintro e w1 ⟨rfl, hw⟩
  have HC := Lib.hid (HC.out.call hw)
  clear hw
  have hC := HC.out
  (have HC := Lib.hid hC
   have sos := hC.below.os
   obtain ⟨r1, f1, i1, b1, l1⟩ := St.facts1 hC
   clear hC)
  go_wp2_with fail
  go_ret
  exact ⟨rfl, HC.out.below⟩
end Go.Proofs.YtgaecjhghpkcoaaGreat
end

section
namespace Go.Proofs.YtgaecjhghpkcoaaGreat
open Go.RowKit
attribute [local go_sem] B_xor B_or B_and
attribute [local go_sem] blk_set blk_size blk_get blk_getE upd_same oneCells_blk paste_blk cut_blk szOf
attribute [local go_sem high] paste_all cut_head
attribute [local go_sem] rowAt_alloc rowAt_drew rowAt_drewN isRow_alloc isRow_drew isRow_drewN freeRow_alloc freeRow_end freeRow_drew freeRow_drewN
attribute [local go_sem] setRow_alloc setRow_drew setRow_drewN setCell_drewN alloc_drewN rowAt_put isRow_setRow freeRow_put
attribute [local go_sem ↓] loadS_in storeS_in indexS_in copyS_in
attribute [local go_sem] loadS_row loadS_one storeS_row storeS_one indexS_blk copyS_rows run_equalIn_blk same_refl arrayAt_row
attribute [local go_sem] cell_row frozen_row st_setCell st_blk_ne stepAt stepUpon
attribute [local go_sem high] run_eql_blk run_neq_blk
attribute [local go_sem ↓] convBS_in
attribute [local go_sem] convBS_row convBS_nil allBytes_blk bytesOf_blk
attribute [local go_sem ↓] convSB_in
attribute [local go_sem] convSB_row freeRow_endB
attribute [local go_sem] size_sc agg_sc sc_size sc_get0 sc_get1 sc_get2 sc_getE0 sc_getE1 sc_getE2 sc_set1 sc_set2 sc_ne sc_one sc_cut sc_paste

/-- the results of a function: a slot, and one that lies in a row -/
theorem results_qp {P : Program} {w : World} {fn : Func} {p q : Tmp} {ty : TypeId} (h : fn.results = #[.tmp q, .cell p ty]) (tmps : Array Value) (g : Nat) (hp : tmps.getD p undef = .pointer (some ⟨g, 0, none⟩)) (cs : Array Value) (hc : rowAt w g = cs)
    (ha : (isAgg ty).run P w = .ok true w) (hs : (sizeOf ty).run P w = .ok cs.size w) (hr : isRow w g = true) (v : Value) (hq : tmps.getD q undef = v) :
    (results fn tmps).run P w = .ok (.tuple #[v, .agg cs]) w := by
  have hp' : tmps[p]?.getD undef = .pointer (some ⟨g, 0, none⟩) := by simpa using hp
  have hq' : tmps[q]?.getD undef = v := by simpa using hq
  have hl := run_loadCells_row (P := P) g 0 cs.size hr (by rw [hc]; omega)
  rw [hc] at hl
  simp only [Nat.zero_add, Array.extract_size] at hl
  simp [results, h, hp', hq', asAddr, loadVar, Sem.run_bind, ha, hs, hl]
theorem scan_zero : #[Value.string ⟨#[]⟩, .int .i64 0, .int .i64 0] = sc ⟨#[]⟩ 0 0 := rfl
set_option maxRecDepth 100000 in
set_option maxHeartbeats 1000000 in
theorem scanNum_short (t : ByteArray) (p k : Nat) (h1 : 1 ≤ k) (h8 : k ≤ 8) (hp : p ≤ t.size) (hl : t.size < p + k) (hs : t.size < 2 ^ 40) (w : World) : Calls Tryz.prog 64 #[.agg (sc t p 0), .int .i64 (k : Int)] w fun e w' => e = .returned (.tuple #[.int .u64 0, .agg (sc t p 3)]) ∧ Below w.heap.size w w' := by
  have hz := scan_zero
  obtain ⟨l, hl2⟩ : ∃ l, p + l = t.size := ⟨t.size - p, by omega⟩
  have d1 : (l : Int) < (k : Int) := by omega
  have d2 : l < k := by omega
  have H2 := Lib.hid hl2
  clear hl2
  have HC := Lib.hid (((St.nil w).pushA (sc t p 0) 120 rfl).pushA (sc ⟨#[]⟩ 0 0) 120 (g := w.heap.size + 1) (by simp))
  go_enter Tryz.func64, Tryz.ntmps64
  go_wp2_with fail
  refine (stands_any t p 0 hp _).mono ?_; rintro e w1 ⟨rfl, hw⟩
  have HC := Lib.hid (HC.out.call hw)
  clear hw
  have hC := HC.out
  (have HC := Lib.hid hC
   have sos := hC.below.os
   obtain ⟨⟨r1, f1, i1, b1, l1⟩, ⟨r2, f2, i2, b2, l2⟩, m12, m21⟩ := St.facts2 hC
   clear hC)
  go_wp2_with fail
  (clear r1 f1 i1 b1 l1 r2 f2 i2 b2 l2 m12 m21 sos)
  refine (sized_any k h1 h8 _).mono ?_; rintro e w2 ⟨rfl, hw⟩
  have HC := Lib.hid (HC.out.call hw)
  clear hw
  have hC := HC.out
  (have HC := Lib.hid hC
   have sos := hC.below.os
   obtain ⟨⟨r1, f1, i1, b1, l1⟩, ⟨r2, f2, i2, b2, l2⟩, m12, m21⟩ := St.facts2 hC
   clear hC)
  go_wp2_with fail
  (clear r1 f1 i1 b1 l1 r2 f2 i2 b2 l2 m12 m21 sos)
  refine (left_any t p 0 l H2.out hs _).mono ?_; rintro e w3 ⟨rfl, hw⟩
  have HC := Lib.hid (HC.out.call hw)
  clear hw
  have hC := HC.out
  (have HC := Lib.hid hC
   have sos := hC.below.os
   obtain ⟨⟨r1, f1, i1, b1, l1⟩, ⟨r2, f2, i2, b2, l2⟩, m12, m21⟩ := St.facts2 hC
   clear hC)
  go_wp2_with fail
  (clear r1 f1 i1 b1 l1 r2 f2 i2 b2 l2 m12 m21 sos)
  refine (fails_any t p 0 3 _).mono ?_; rintro e w4 ⟨rfl, hw⟩
  have HC := Lib.hid (HC.out.call hw)
  clear hw
  have hC := HC.out
  (have HC := Lib.hid hC
   have sos := hC.below.os
   obtain ⟨⟨r1, f1, i1, b1, l1⟩, ⟨r2, f2, i2, b2, l2⟩, m12, m21⟩ := St.facts2 hC
   clear hC)
  go_wp2_with fail
  refine bodyPost_ret (results_qp rfl _ (w.heap.size + 1) rfl (sc t p 3) ?_ ?_ ?_ ?_ (.int .u64 0) rfl) rfl ⟨rfl, ?_⟩
  · simp [go_sem, *]
  · simp [go_sem]
  · simp [go_sem]
  · simp [go_sem, *]
  · exact below_setRow' HC.out.below (by omega) _
attribute [local go_sem] U_xor U_or U_and U_and1 U_tail U_neg U_half U_shr U_shl8 U_shl63 U_of U_to pr_size pr_get0 pr_get1 pr_getE0 pr_getE1 pr_set0 pr_set1 pr_ne oneCells_pr paste_pr cut_pr
attribute [local go_sem] wide_size wide_get0 wide_get1 wide_getE0 wide_getE1 wide_ne oneCells_wide paste_wide cut_wide
/-- the number of k bytes of a text, from place p on -/
def numAt (t : ByteArray) (p k : Nat) : Nat := numTo (fun i => ofText t (p + i)) k
theorem pack_extract (t : ByteArray) (p k : Nat) (h8 : k ≤ 8) (h : p + k ≤ t.size) : U (packU (ofText (t.extract p (p + k))) k) = ((numAt t p k : Nat) : Int) := by
  unfold U numAt
  rw [packU_nat _ k h8]
  have hsz : t.data.size = t.size := rfl
  have e : ∀ i, i < k → ofText (t.extract p (p + k)) i = ofText t (p + i) := fun i hi => by
    unfold ofText
    rw [ByteArray.data_extract, Array.getD_eq_getD_getElem?, Array.getD_eq_getD_getElem?, Array.getElem?_extract, if_pos (by omega)]
  rw [numTo_congr e]
set_option maxRecDepth 100000 in
set_option maxHeartbeats 2000000 in
theorem scanNum_ok (t : ByteArray) (p k : Nat) (h1 : 1 ≤ k) (h8 : k ≤ 8) (hl : p + k ≤ t.size) (hs : t.size < 2 ^ 40) (w : World) : Calls Tryz.prog 64 #[.agg (sc t p 0), .int .i64 (k : Int)] w fun e w' => e = .returned (.tuple #[.int .u64 ((numAt t p k : Nat) : Int), .agg (sc t (p + k) 0)]) ∧ Below w.heap.size w w' := by
  have hz := scan_zero
  have HN := Lib.hid (pack_extract t p k h8 hl)
  obtain ⟨l, hl2⟩ : ∃ l, p + l = t.size := ⟨t.size - p, by omega⟩
  obtain ⟨q, hq⟩ : ∃ q, p + k = q := ⟨_, rfl⟩
  obtain ⟨T, hT⟩ : ∃ T, t.extract p q = T := ⟨_, rfl⟩
  have hTs : T.size = k := by rw [← hT, ByteArray.size_extract]; omega
  rw [hq, hT] at HN
  rw [hq]
  have hpt : p ≤ t.size := by omega
  have d2 : decide (l < k) = false := decide_eq_false (by omega)
  have q1 : (p : Int) + (k : Int) = (q : Int) := by omega
  have q2 : IntKind.i64.wrap ((p : Int) + (k : Int)) = (q : Int) := by rw [IntWalk.i64_in _ (by omega)]; exact q1
  have q3 : (p : Int) ≤ (q : Int) := by omega
  have q4 : (q : Int) ≤ (t.size : Int) := by omega
  have q5 : p ≤ q := by omega
  have q6 : q ≤ t.size := by omega
  have k8 : (k : Int) ≤ 8 := by omega
  have H2 := Lib.hid hl2
  clear hl2 hq
  have HC := Lib.hid (((St.nil w).pushA (sc t p 0) 120 rfl).pushA (sc ⟨#[]⟩ 0 0) 120 (g := w.heap.size + 1) (by simp))
  go_enter Tryz.func64, Tryz.ntmps64
  go_wp2_with fail
  refine (stands_any t p 0 hpt _).mono ?_; rintro e w1 ⟨rfl, hw⟩
  have HC := Lib.hid (HC.out.call hw)
  clear hw
  have hC := HC.out
  (have HC := Lib.hid hC
   have sos := hC.below.os
   obtain ⟨⟨r1, f1, i1, b1, l1⟩, ⟨r2, f2, i2, b2, l2⟩, m12, m21⟩ := St.facts2 hC
   clear hC)
  go_wp2_with fail
  (clear r1 f1 i1 b1 l1 r2 f2 i2 b2 l2 m12 m21 sos)
  refine (sized_any k h1 h8 _).mono ?_; rintro e w2 ⟨rfl, hw⟩
  have HC := Lib.hid (HC.out.call hw)
  clear hw
  have hC := HC.out
  (have HC := Lib.hid hC
   have sos := hC.below.os
   obtain ⟨⟨r1, f1, i1, b1, l1⟩, ⟨r2, f2, i2, b2, l2⟩, m12, m21⟩ := St.facts2 hC
   clear hC)
  go_wp2_with fail
  (clear r1 f1 i1 b1 l1 r2 f2 i2 b2 l2 m12 m21 sos)
  refine (left_any t p 0 l H2.out hs _).mono ?_; rintro e w3 ⟨rfl, hw⟩
  have HC := Lib.hid (HC.out.call hw)
  clear hw
  have hC := HC.out
  have hcp := Lib.hid (capS_ge w3 k 5)
  (have HC := Lib.hid hC
   have sos := hC.below.os
   obtain ⟨⟨r1, f1, i1, b1, l1⟩, ⟨r2, f2, i2, b2, l2⟩, m12, m21⟩ := St.facts2 hC
   clear hC)
  go_wp2_with fail
  (clear r1 f1 i1 b1 l1 r2 f2 i2 b2 l2 m12 m21 sos)
  generalize capS w3 k 5 = cp at hcp ⊢
  have HC := Lib.hid (HC.out.pushM cp (ofText T) 5 (cp + 1)).drew
  generalize w3.heap.size = gt at HC ⊢
  go_loopw [6, 43] (fun n i wr => ∃ j : Nat, j ≤ k ∧ i = .int .i64 (j : Int) ∧ n = .int .u64 (U (packU (ofText T) j)) ∧ Hid (St w [(gt, blk cp (ofText T)), (w.heap.size + 1, sc ⟨#[]⟩ 0 0), (w.heap.size, sc t p 0)] wr)) (fun _ i _ => k - (intOf i).toNat)
  case atStart => exact ⟨0, by omega, rfl, rfl, HC⟩
  case round =>
    clear HC
    obtain ⟨j, hj, rfl, rfl, HJ⟩ := hrel
    have hc := hcp.out
    have hC := HJ.out
    by_cases hlt : j < k
    · have d1 : decide (j < k) = true := decide_eq_true hlt
      have d3 : j < cp := by omega
      have p1 : packU (ofText T) j <<< 8 ||| (ofText T j).toUInt64 = packU (ofText T) (j + 1) := rfl
      (have HC := Lib.hid hC
       have sos := hC.below.os
       obtain ⟨⟨r1, f1, i1, b1, l1⟩, ⟨r2, f2, i2, b2, l2⟩, ⟨r3, f3, i3, b3, l3⟩, m12, m21, m13, m31, m23, m32⟩ := St.facts3 hC
       clear hC)
      go_wp2_with fail
      exact ⟨⟨j + 1, by omega, by go_num, rfl, HJ⟩, by simp [intOf]; omega⟩
    · obtain rfl : j = k := by omega
      have d1 : decide (j < j) = false := by simp
      rw [HN.out]
      (have HC := Lib.hid hC
       have sos := hC.below.os
       obtain ⟨⟨r1, f1, i1, b1, l1⟩, ⟨r2, f2, i2, b2, l2⟩, ⟨r3, f3, i3, b3, l3⟩, m12, m21, m13, m31, m23, m32⟩ := St.facts3 hC
       clear hC)
      go_wp2_with fail
      have HC := Lib.hid ((HJ.out.pick (L' := [(w.heap.size, sc t p 0), (w.heap.size + 1, sc ⟨#[]⟩ 0 0)]) [2, 1] (by decide) rfl).set_head (sc t q 0) (by rw [sc_size, sc_size]))
      refine St.region_tail 3 HC.out (by kernel_rfl) (by decide +kernel) ?_
      (simp only [List.take, List.drop])
      (first
         | (apply head_skip rfl)
         | (apply head_step_g rfl
            focus
              intro w0 hC
              (fail))
         | (apply head_step_g rfl
            focus
              intro w0 hC
              have hC' := Lib.hid hC
              obtain ⟨⟨r1, f1, i1, b1, l1⟩, ⟨r2, f2, i2, b2, l2⟩, m12, m21⟩ := St.facts2 hC
              clear hC
              go_simp
              have hC := hC'.out
              (first
                 | with_reducible rfl
                 | (skip
                    (fail)
                    rintro e w' ⟨rfl, hw⟩
                    exact ⟨rfl, St.call (by assumption) hw⟩)))
       try simp only [Act.put, List.setIfInBounds_toArray, List.set])
      (first
         | (apply head_skip rfl)
         | (apply head_step_g rfl
            focus
              intro w0 hC
              (fail))
         | (apply head_step_g rfl
            focus
              intro w0 hC
              have hC' := Lib.hid hC
              obtain ⟨⟨r1, f1, i1, b1, l1⟩, ⟨r2, f2, i2, b2, l2⟩, m12, m21⟩ := St.facts2 hC
              clear hC
              go_simp
              have hC := hC'.out
              (first
                 | with_reducible rfl
                 | (skip
                    (fail)
                    rintro e w' ⟨rfl, hw⟩
                    exact ⟨rfl, St.call (by assumption) hw⟩)))
       try simp only [Act.put, List.setIfInBounds_toArray, List.set])
      (first
         | (apply head_skip rfl)
         | (apply head_step_g rfl
            focus
              intro w0 hC
              (fail))
         | (apply head_step_g rfl
            focus
              intro w0 hC
              have hC' := Lib.hid hC
              obtain ⟨⟨r1, f1, i1, b1, l1⟩, ⟨r2, f2, i2, b2, l2⟩, m12, m21⟩ := St.facts2 hC
              clear hC
              go_simp
              have hC := hC'.out
              (first
                 | with_reducible rfl
                 | (skip
                    (fail)
                    rintro e w' ⟨rfl, hw⟩
                    exact ⟨rfl, St.call (by assumption) hw⟩)))
       try simp only [Act.put, List.setIfInBounds_toArray, List.set])
      refine wpQuiet_nil ?_
      intro w5 hC
      have HC := Lib.hid hC
      (have HC := Lib.hid hC
       have sos := hC.below.os
       obtain ⟨⟨r1, f1, i1, b1, l1⟩, ⟨r2, f2, i2, b2, l2⟩, m12, m21⟩ := St.facts2 hC
       clear hC)
      go_wp2_with fail
      refine bodyPost_ret (results_qp rfl _ (w.heap.size + 1) rfl (sc t q 0) ?_ ?_ ?_ ?_ (.int .u64 ((numAt t p j : Nat) : Int)) rfl) rfl ⟨rfl, ?_⟩
      · simp [go_sem, *]
      · simp [go_sem]
      · simp [go_sem]
      · simp [go_sem, *]
      · exact below_setRow' HC.out.below (by omega) _
end Go.Proofs.YtgaecjhghpkcoaaGreat
end

section
namespace Go.Proofs.YtgaecjhghpkcoaaGreat
open Go.RowKit
attribute [local go_sem] B_xor B_or B_and
attribute [local go_sem] blk_set blk_size blk_get blk_getE upd_same oneCells_blk paste_blk cut_blk szOf
attribute [local go_sem high] paste_all cut_head
attribute [local go_sem] rowAt_alloc rowAt_drew rowAt_drewN isRow_alloc isRow_drew isRow_drewN freeRow_alloc freeRow_end freeRow_drew freeRow_drewN
attribute [local go_sem] setRow_alloc setRow_drew setRow_drewN setCell_drewN alloc_drewN rowAt_put isRow_setRow freeRow_put
attribute [local go_sem ↓] loadS_in storeS_in indexS_in copyS_in
attribute [local go_sem] loadS_row loadS_one storeS_row storeS_one indexS_blk copyS_rows run_equalIn_blk same_refl arrayAt_row
attribute [local go_sem] cell_row frozen_row st_setCell st_blk_ne stepAt stepUpon
attribute [local go_sem high] run_eql_blk run_neq_blk
attribute [local go_sem ↓] convBS_in
attribute [local go_sem] convBS_row convBS_nil allBytes_blk bytesOf_blk
attribute [local go_sem] U_xor U_or U_and U_and1 U_tail U_neg U_half U_shr U_shl8 U_shl63 U_of U_to pr_size pr_get0 pr_get1 pr_getE0 pr_getE1 pr_set0 pr_set1 pr_ne oneCells_pr paste_pr cut_pr
attribute [local go_sem] wide_size wide_get0 wide_get1 wide_getE0 wide_getE1 wide_ne oneCells_wide paste_wide cut_wide
theorem madeCells_blk (n : Nat) : madeCells #[.int .u8 0] n = blk n fun _ => 0 := by
  apply Array.ext_getElem?
  intro i
  by_cases h : i < n
  · simp [madeCells, blk, h, Nat.mod_one, B]
  · rw [Array.getElem?_eq_none (by rw [size_madeCells]; omega), Array.getElem?_eq_none (by rw [blk_size]; omega)]
theorem info_u8 : ∃ i, Tryz.prog.info? 5 = some i ∧ i.zero = some (.int .u8 0) ∧ i.size = 1 ∧ i.bytes = 1 := by
  have h : (Tryz.prog.info? 5).map (fun i => (i.zero, i.size, i.bytes)) = some (some (.int .u8 0), 1, 1) := by kernel_rfl
  obtain ⟨i, hi, hv⟩ := Option.map_eq_some_iff.1 h
  simp only [Prod.mk.injEq] at hv
  exact ⟨i, hi, hv.1, hv.2.1, hv.2.2⟩
theorem run_make_bytes (kl kc : IntKind) (n m : Nat) (h : n ≤ m) (hm : m ≤ 2 ^ 40) (w : World) :
    (Instr.makeSlice 134 (.int kl (n : Int)) (.int kc (m : Int))).run Tryz.prog w = .ok (.slice (some ⟨w.heap.size, 0, none⟩) n m) (w.alloc (.cells (blk m fun _ => 0) 5)) := by
  obtain ⟨i, hi, hz, hs, hb⟩ := info_u8
  have hr := run_make (P := Tryz.prog) w 134 5 i (.int .u8 0) (by kernel_rfl) hi hz kl kc n m (by omega) (by omega) (by rw [hb]; omega) (by omega)
  have hc : (Value.int .u8 0).cells = #[.int .u8 0] := rfl
  rw [Int.toNat_natCast, Int.toNat_natCast, hs, Nat.mul_one, hc, madeCells_blk] at hr
  exact hr
theorem run_make_bytes0 (kl kc : IntKind) (m : Nat) (hm : m ≤ 2 ^ 40) (w : World) :
    (Instr.makeSlice 134 (.int kl 0) (.int kc (m : Int))).run Tryz.prog w = .ok (.slice (some ⟨w.heap.size, 0, none⟩) 0 m) (w.alloc (.cells (blk m fun _ => 0) 5)) := by
  have h := run_make_bytes kl kc 0 m (Nat.zero_le _) hm w
  rw [Int.natCast_zero] at h
  exact h
theorem copyS_none (d s : Option Addr) (n c n' c' : Nat) (h : min n' n = 0) (w : World) : (copyS #[134, 134] 3 #[.slice d n c, .slice s n' c']).run Tryz.prog w = .ok (.int .i64 0) w := by
  exact run_copy_none w _ _ _ 5 d s n c n' c' (by kernel_rfl) (by kernel_rfl) h
attribute [local go_sem] run_make_bytes0 copyS_none
/-- bytes behind bytes of the call's own -/
theorem wpList_append_bytes {ops : Array Oper} {rest : List Oper} {op : Oper} {a : Act} {Q : Exit → Act → World → Prop} {w0 w : World} {L : List (Nat × Array Value)} (hgd : op.guard = none) (s x : Operand) (ho : op.op = .call { callee := .builtin .append, args := #[s, x], argTypes := #[134, 134] })
    (g n cap : Nat) (F : Nat → UInt8) (hs : a.eval s = .slice (some ⟨g, 0, none⟩) n cap) (hC : St w0 ((g, blk cap F) :: L) w) (hn : n ≤ cap)
    (h o m c : Nat) (G : Nat → UInt8) (hx : a.eval x = .slice (some ⟨h, o, none⟩) m c) (hr : isRow w h = true) (hro : o + m ≤ (rowAt w h).size) (hG : cut (rowAt w h) o (o + m) = blk m G) (hbig : n + m ≤ 2 ^ 40)
    (k : ∀ g' cap' F' w', n + m ≤ cap' → (∀ i, i < n + m → F' i = glue n F G i) → St w0 ((g', blk cap' F') :: L) w' → wpList Tryz.prog ops Q rest (a.put op.dst (.slice (some ⟨g', 0, none⟩) (n + m) cap')) w') : wpList Tryz.prog ops Q (op :: rest) a w := by
  obtain ⟨i, hi, hz, hsz, hb⟩ := info_u8
  refine wpList_append_row (L := L) (w0 := w0) hgd s x _ ho 5 i (.int .u8 0) 1 (by kernel_rfl) hi hz hsz hb rfl (by omega) g n cap F hs (by rw [Nat.mul_one]; exact hC) hn h o m c G hx hr (by omega) (by rw [Nat.mul_one]; exact hG) (by omega) ?_
  intro g' cap' F' w' h1 h2 h3
  rw [Nat.mul_one] at h2 h3
  rw [Nat.mul_one] at h2
  exact k g' cap' F' w' h1 h2 h3
/-- a slice of n bytes f, in a block of the call's own -/
def Laid (w0 : World) (L : List (Nat × Array Value)) (n : Nat) (f : Nat → UInt8) (e : Ending) (w : World) : Prop := ∃ g c F, e = .returned (.slice (some ⟨g, 0, none⟩) n c) ∧ n ≤ c ∧ (∀ i, i < n → F i = f i) ∧ St w0 ((g, blk c F) :: L) w
theorem Laid.mk {w0 w : World} {L : List (Nat × Array Value)} {n : Nat} {f : Nat → UInt8} {e : Ending} (g c : Nat) (F : Nat → UInt8) (he : e = .returned (.slice (some ⟨g, 0, none⟩) n c)) (hn : n ≤ c) (hF : ∀ i, i < n → F i = f i) (hC : St w0 ((g, blk c F) :: L) w) : Laid w0 L n f e w := ⟨g, c, F, he, hn, hF, hC⟩
set_option maxRecDepth 100000 in
theorem grown_nil (k : Nat) (h8 : k ≤ 8) (w0 w : World) (L : List (Nat × Array Value)) (hC : St w0 L w) : Calls Tryz.prog 108 #[.slice none 0 0, .int .i64 (k : Int)] w fun e w' => ∃ g, e = .returned (.slice (some ⟨g, 0, none⟩) 0 k) ∧ St w0 ((g, blk k fun _ => 0) :: L) w' := by
  have HC := Lib.hid hC
  have d1 : k ≤ 1099511627776 := by omega
  clear hC
  go_enter Tryz.func108, Tryz.ntmps108
  go_wp2_with fail
  go_ret
  exact ⟨_, rfl, HC.out.pushA _ _ rfl⟩
/-- byte j of a number that is laid in k bytes, the greatest first -/
def beB (N k j : Nat) : UInt8 := UInt8.ofNat (N / 2 ^ (8 * (k - 1 - j)))
theorem glue_step {m j : Nat} {F F' F2 b : Nat → UInt8} (h : ∀ i, i < m + j → F' i = glue m F b i) (h2 : ∀ i, i < m + j + 1 → F2 i = glue (m + j) F' (fun _ => b j) i) : ∀ i, i < m + (j + 1) → F2 i = glue m F b i := by
  intro i hi
  rw [h2 i (by omega)]
  by_cases h3 : i < m + j
  · rw [← h i h3]; unfold glue; rw [if_pos h3]
  · have e : i = m + j := by omega
    subst e
    unfold glue
    rw [if_neg (by omega), if_neg (by omega), Nat.add_sub_cancel_left]
theorem St.over {w0 a : World} {x y : Nat × Array Value} {L : List (Nat × Array Value)} (h : St w0 (x :: y :: L) a) : St w0 (x :: L) a := h.swap.tail
/-- a walk stops ahead of an append -/
def Stop (p : Prop) : Prop := p
theorem stop_list {P : Program} {ops : Array Oper} {l : List Oper} {Q : Exit → Act → World → Prop} {a : Act} {w : World} (h : Stop (wpList P ops Q l a w)) : wpList P ops Q l a w := h
theorem be_row (N k j : Nat) : #[Value.int .u8 ((N : Int) / 2 ^ (8 * (k - 1 - j)) % 256)] = blk 1 fun _ => beB N k j := by
  have h : blk 1 (fun _ => beB N k j) = #[.int .u8 (B (beB N k j))] := rfl
  rw [h]
  congr 2
set_option maxRecDepth 100000 in
set_option maxHeartbeats 2000000 in
theorem lay_any (g m c k N : Nat) (F : Nat → UInt8) (h1 : 1 ≤ k) (h8 : k ≤ 8) (hm : m ≤ c) (hbig : m + k ≤ 2 ^ 30) (w0 w : World) (L : List (Nat × Array Value)) (hC : St w0 ((g, blk c F) :: L) w) :
    Calls Tryz.prog 109 #[.slice (some ⟨g, 0, none⟩) m c, .int .i64 (k : Int), .int .u64 (N : Int)] w (Laid w0 L (m + k) (glue m F (beB N k))) := by
  have HC := Lib.hid hC
  clear hC
  have HM := Lib.hid hm
  have HB := Lib.hid hbig
  clear hm hbig
  have v1 : IntKind.i64.wrap ((k : Int) - 1) = (k : Int) - 1 := by rw [IntWalk.i64_in _ (by omega)]
  have v2 : IntKind.i64.wrap (8 * ((k : Int) - 1)) = 8 * ((k : Int) - 1) := by rw [IntWalk.i64_in _ (by omega)]
  go_enter Tryz.func109, Tryz.ntmps109
  go_wp2_with fail
  go_loopw [0, 7] (fun b i wr => ∃ j : Nat, j ≤ k ∧ i = .int .i64 (8 * ((k : Int) - 1 - (j : Int))) ∧ ∃ g' c' F', b = .slice (some ⟨g', 0, none⟩) (m + j) c' ∧ Hid (m + j ≤ c') ∧ Hid (∀ i, i < m + j → F' i = glue m F (beB N k) i) ∧ Hid (St w0 ((g', blk c' F') :: L) wr)) (fun _ i _ => (intOf i + 8).toNat)
  case atStart => exact ⟨0, by omega, by go_num, g, c, F, rfl, HM, Lib.hid fun i hi => by unfold glue; rw [if_pos (by omega)], HC⟩
  case round =>
    clear HC HM
    obtain ⟨j, hj, rfl, g', c', F', rfl, HM, HF, HJ⟩ := hrel
    by_cases hlt : j < k
    · have d1 : 0 ≤ 8 * ((k : Int) - 1 - (j : Int)) := by omega
      have hsh : (8 * ((k : Int) - 1 - (j : Int))).toNat = 8 * (k - 1 - j) := by omega
      go_wp2_with (at_builtin; refine stop_list ?_)
      rw [be_row]
      have HC := Lib.hid (HJ.out.push (blk 1 fun _ => beB N k j) 5).swap
      refine wpList_append_bytes (w0 := w0) rfl (.tmp 15) (.tmp 20) rfl g' (m + j) c' F' rfl HC.out HM.out wr.heap.size 0 1 1 (fun _ => beB N k j) rfl (by simp [isRow_alloc]) (by simp [rowAt_alloc, blk_size]) (by simp [rowAt_alloc]; exact cut_head 1 _ 1 (Nat.le_refl _)) (by have := HB.out; omega) ?_
      clear HC
      intro g2 c2 F2 w2 hc2 hF2 hw2
      have HC := Lib.hid hw2.over
      have HF2 := Lib.hid hF2
      have HC2 := Lib.hid hc2
      clear hF2 hw2 hc2
      go_wp2_with fail
      go_round
      case rel => exact ⟨j + 1, by omega, by go_num, g2, c2, F2, by go_num, HC2.out, Lib.hid (glue_step HF.out HF2.out), HC⟩
      case measure => simp [intOf]; omega
    · have d1 : ¬ 0 ≤ 8 * ((k : Int) - 1 - (j : Int)) := by omega
      obtain rfl : j = k := by omega
      go_wp2_with fail
      go_ret
      exact Laid.mk _ _ _ rfl HM.out HF.out HJ.out
theorem num_nil (k N : Nat) (h1 : 1 ≤ k) (h8 : k ≤ 8) (w0 w : World) (L : List (Nat × Array Value)) (hC : St w0 L w) :
    Calls Tryz.prog 80 #[.slice none 0 0, .int .i64 (k : Int), .int .u64 (N : Int)] w (Laid w0 L k (beB N k)) := by
  have HC := Lib.hid hC
  clear hC
  go_enter Tryz.func80, Tryz.ntmps80
  go_wp2_with fail
  refine (sized_any k h1 h8 _).mono ?_; rintro e w2 ⟨rfl, hw⟩
  have HC := Lib.hid (HC.out.call hw)
  clear hw
  go_wp2_with fail
  refine (grown_nil k h8 w0 _ L HC.out).mono ?_; rintro e w3 ⟨g, rfl, hw⟩
  have HC := Lib.hid hw
  clear hw
  go_wp2_with fail
  refine (lay_any g 0 k k N _ h1 h8 (by omega) (by omega) w0 _ L HC.out).mono ?_; rintro e w4 ⟨g2, c2, F2, rfl, h1, h2, hw⟩
  have H1 := Lib.hid h1
  have H2 := Lib.hid h2
  have HC := Lib.hid hw
  clear h1 h2 hw
  go_wp2_with fail
  go_ret
  refine Laid.mk g2 c2 F2 rfl (by have := H1.out; omega) (fun i hi => ?_) HC.out
  rw [H2.out i (by omega)]
  rfl
end Go.Proofs.YtgaecjhghpkcoaaGreat
end

section
namespace Go.Proofs.YtgaecjhghpkcoaaGreat
open Go.RowKit
attribute [local go_sem] B_xor B_or B_and
attribute [local go_sem] blk_set blk_size blk_get blk_getE upd_same oneCells_blk paste_blk cut_blk szOf
attribute [local go_sem high] paste_all cut_head
attribute [local go_sem] rowAt_alloc rowAt_drew rowAt_drewN isRow_alloc isRow_drew isRow_drewN freeRow_alloc freeRow_end freeRow_drew freeRow_drewN
attribute [local go_sem] setRow_alloc setRow_drew setRow_drewN setCell_drewN alloc_drewN rowAt_put isRow_setRow freeRow_put
attribute [local go_sem ↓] loadS_in storeS_in indexS_in copyS_in
attribute [local go_sem] loadS_row loadS_one storeS_row storeS_one indexS_blk copyS_rows run_equalIn_blk same_refl arrayAt_row
attribute [local go_sem] cell_row frozen_row st_setCell st_blk_ne stepAt stepUpon
attribute [local go_sem high] run_eql_blk run_neq_blk
attribute [local go_sem ↓] convBS_in
attribute [local go_sem] convBS_row convBS_nil allBytes_blk bytesOf_blk
attribute [local go_sem] rg_size rg_get0 rg_getE0 rg_ne rg_set0 rg_one rg_cut rg_key rg_put rg_paste part_rg0 part_rg1

/-- the bytes of a ring's text -/
def ringB (n : Nat) (f : Nat → UInt8) : Nat → UInt8 := glue 1 (fun _ => UInt8.ofNat n) f
theorem ringB_step {m : Nat} {f F F2 G : Nat → UInt8} {n : Nat} (h : ∀ i, i < 1 + m → F i = ringB n f i) (h2 : ∀ i, i < 1 + m + 16 → F2 i = glue (1 + m) F G i) (hG : ∀ j, j < 16 → G j = f (m + j)) : ∀ i, i < 1 + m + 16 → F2 i = ringB n f i := by
  intro i hi
  rw [h2 i hi]
  unfold glue
  split
  · rename_i h3; exact h i h3
  · rename_i h3
    rw [hG _ (by omega)]
    unfold ringB glue
    rw [if_neg (by omega)]
    congr 1; omega
theorem ringB_zero (n : Nat) (f : Nat → UInt8) (i : Nat) (h : i < 1) : beB n 1 i = ringB n f i := by
  obtain rfl : i = 0 := by omega
  simp [beB, ringB, glue]
set_option maxRecDepth 100000 in
set_option maxHeartbeats 2000000 in
theorem text_any (n : Nat) (f : Nat → UInt8) (h : n ≤ 6) (w : World) : Calls Tryz.prog 54 #[.agg (rg n f)] w fun e w' => e = .returned (.string (strOf (1 + n * 16) (ringB n f))) ∧ Below w.heap.size w w' := by
  have n6 : (n : Int) ≤ 6 := by omega
  have hz := zero16
  have HC := Lib.hid ((St.nil w).pushA (rg n f) 44 rfl)
  go_enter Tryz.func54, Tryz.ntmps54
  go_wp2_with fail
  refine (num_nil 1 n (by omega) (by omega) w _ _ HC.out).mono ?_; rintro e w1 ⟨g, c, F, rfl, h1, h2, hw⟩
  have H1 := Lib.hid h1
  have H2 := Lib.hid h2
  have HC := Lib.hid hw
  clear h1 h2 hw
  have hC := HC.out
  (have HC := Lib.hid hC
   have sos := hC.below.os
   obtain ⟨⟨r1, f1, i1, b1, l1⟩, ⟨r2, f2, i2, b2, l2⟩, m12, m21⟩ := St.facts2 hC
   clear hC)
  go_wp2_with fail
  (clear r1 f1 i1 b1 l1 r2 f2 i2 b2 l2 m12 m21 sos)
  go_loopw [3, 15] (fun b i wr => ∃ j : Nat, j ≤ n ∧ i = .int .i64 (j : Int) ∧ ∃ g' c' F', b = .slice (some ⟨g', 0, none⟩) (1 + j * 16) c' ∧ Hid (1 + j * 16 ≤ c') ∧ Hid (∀ i, i < 1 + j * 16 → F' i = ringB n f i) ∧ Hid (St w [(g', blk c' F'), (w.heap.size, rg n f)] wr)) (fun _ i _ => n - (intOf i).toNat)
  case atStart => exact ⟨0, by omega, rfl, g, c, F, rfl, H1, Lib.hid (fun i hi => by rw [H2.out i (by omega)]; exact ringB_zero n f i (by omega)), HC⟩
  case round =>
    clear HC H1 H2
    obtain ⟨j, hj, rfl, g', c', F', rfl, HM, HF, HJ⟩ := hrel
    have hC := HJ.out
    by_cases hlt : j < n
    · have d1 : (j : Int) < (n : Int) := by omega
      have b1 : j * 16 + 16 ≤ 96 := by omega
      have b2 : 1 + j * 16 + 16 ≤ 97 := by omega
      (have HC := Lib.hid hC
       have sos := hC.below.os
       obtain ⟨⟨r1, f1, i1, b1, l1⟩, ⟨r2, f2, i2, b2, l2⟩, m12, m21⟩ := St.facts2 hC
       clear hC)
      go_wp2_with (at_builtin; refine stop_list ?_)
      (clear r1 f1 i1 b1 l1 r2 f2 i2 b2 l2 m12 m21 sos)
      have HC := Lib.hid (HJ.out.push (blk 16 fun u => f (j * 16 + u)) 41).swap
      refine wpList_append_bytes (w0 := w) rfl (.tmp 19) (.tmp 20) rfl g' (1 + j * 16) c' F' rfl HC.out HM.out wr.heap.size 0 16 16 (fun u => f (j * 16 + u)) rfl (by simp [isRow_alloc]) (by simp [rowAt_alloc, blk_size]) (by simp [rowAt_alloc]; exact cut_head 16 _ 16 (Nat.le_refl _)) (by omega) ?_
      clear HC
      intro g2 c2 F2 w2 hc2 hF2 hw2
      have HC := Lib.hid hw2.over
      have HF2 := Lib.hid (ringB_step HF.out hF2 (fun _ _ => rfl))
      have HC2 := Lib.hid hc2
      clear hF2 hw2 hc2
      go_wp2_with fail
      go_roundw
      case rel => exact ⟨j + 1, by omega, by go_num, g2, c2, F2, by go_num, Lib.hid (by have := HC2.out; omega), Lib.hid (fun i hi => HF2.out i (by omega)), HC⟩
      case measure => simp [intOf]; omega
    · obtain rfl : j = n := by omega
      have hcs := HM.out
      (have HC := Lib.hid hC
       have sos := hC.below.os
       obtain ⟨⟨r1, f1, i1, b1, l1⟩, ⟨r2, f2, i2, b2, l2⟩, m12, m21⟩ := St.facts2 hC
       clear hC)
      go_wp2_with fail
      go_ret
      exact ⟨congrArg (fun x => Ending.returned (.string x)) (strOf_congr HF.out), HC.out.below⟩
end Go.Proofs.YtgaecjhghpkcoaaGreat
end

section
namespace Go.Proofs.YtgaecjhghpkcoaaGreat
open Go.RowKit
attribute [local go_sem] B_xor B_or B_and
attribute [local go_sem] blk_set blk_size blk_get blk_getE upd_same oneCells_blk paste_blk cut_blk szOf
attribute [local go_sem high] paste_all cut_head
attribute [local go_sem] rowAt_alloc rowAt_drew rowAt_drewN isRow_alloc isRow_drew isRow_drewN freeRow_alloc freeRow_end freeRow_drew freeRow_drewN
attribute [local go_sem] setRow_alloc setRow_drew setRow_drewN setCell_drewN alloc_drewN rowAt_put isRow_setRow freeRow_put
attribute [local go_sem ↓] loadS_in storeS_in indexS_in copyS_in
attribute [local go_sem] loadS_row loadS_one storeS_row storeS_one indexS_blk copyS_rows run_equalIn_blk same_refl arrayAt_row
attribute [local go_sem] cell_row frozen_row st_setCell st_blk_ne stepAt stepUpon
attribute [local go_sem high] run_eql_blk run_neq_blk
attribute [local go_sem ↓] convBS_in
attribute [local go_sem] convBS_row convBS_nil allBytes_blk bytesOf_blk
attribute [local go_sem] rg_size rg_get0 rg_getE0 rg_ne rg_set0 rg_one rg_cut rg_key rg_put rg_paste part_rg0 part_rg1
attribute [local go_sem] size_sc agg_sc sc_size sc_get0 sc_get1 sc_get2 sc_getE0 sc_getE1 sc_getE2 sc_set1 sc_set2 sc_ne sc_one sc_cut sc_paste

theorem copyS_long {P : Program} {w : World} (dT sT ty : TypeId) (g o n dCap : Nat) (s : ByteArray) (hmn : n ≤ s.size) (hu : P.underlying dT = some (.slice (P.elem dT))) (hs : (sizeOf (P.elem dT)).run P w = .ok 1 w)
    (hr : freeRow w g = true) (hg : o + n ≤ (rowAt w g).size) :
    (copyS #[dT, sT] ty #[.slice (some ⟨g, o, none⟩) n dCap, .string s]).run P w = .ok (goInt (n : Int)) (w.setRow g (paste (rowAt w g) o (blk n (ofText s)))) := by
  have hst := run_storeCells_row (P := P) g o (blk n (ofText s)) hr (by rw [blk_size]; omega) (oneCells_blk _ _)
  have hc : ((s.extract 0 n).data.map fun b => Value.int .u8 (b.toNat : Int)) = blk n (ofText s) := by
    apply Array.ext
    · rw [blk_size]; simp; omega
    · intro i h1 h2
      have hi : i < n := by rw [blk_size] at h2; exact h2
      have hd : i < s.data.size := by have : s.data.size = s.size := rfl; omega
      have hb := blk_getE n (ofText s) i h2
      rw [hb]
      simp [ofText, B, Array.getElem?_eq_getElem hd]
  have hmm : Nat.min s.size n = n := Nat.min_eq_right hmn
  simp only [copyS, Builtin.copy_, List.getElem?_toArray, List.getElem?_cons_zero, List.getElem?_cons_succ, Sem.run_bind, run_underlying hu, Result.andThen_ok, Builtin.lenOf, Sem.run_pure, hs, Builtin.firstCells, hmm, hc, hst]
/-- the keys that have been taken off a text, k bytes -/
def parseB (R : ByteArray) (k : Nat) : Nat → UInt8 := fun x => if x < k then ofText R x else 0
theorem parseB_step (R : ByteArray) (i : Nat) (h : i * 16 + 16 ≤ R.size) : cpy (parseB R (i * 16)) (i * 16) (ofText (R.extract (i * 16) R.size)) 0 16 = parseB R ((i + 1) * 16) := by
  have hsz : R.data.size = R.size := rfl
  funext x
  unfold cpy parseB
  by_cases h1 : x < i * 16
  · rw [if_neg (by omega), if_pos h1, if_pos (by omega)]
  · by_cases h2 : x < i * 16 + 16
    · rw [if_pos (by omega), if_pos (by omega), Nat.zero_add]
      unfold ofText
      rw [ByteArray.data_extract, Array.getD_eq_getD_getElem?, Array.getD_eq_getD_getElem?, Array.getElem?_extract, if_pos (by omega)]
      congr 2; omega
    · rw [if_neg (by omega), if_neg h1, if_neg (by omega)]
theorem numAt_byte (s : ByteArray) (p : Nat) : numAt s p 1 = (ofText s p).toNat := by
  simp [numAt, numTo]
theorem scan_first (s : ByteArray) (N : Nat) (h : 0 < s.size) (hN : (ofText s 0).toNat = N) (hs : s.size < 2 ^ 40) (w : World) : Calls Tryz.prog 64 #[.agg (sc s 0 0), .int .i64 1] w fun e w' => e = .returned (.tuple #[.int .u64 (N : Int), .agg (sc s 1 0)]) ∧ Below w.heap.size w w' := by
  have := scanNum_ok s 0 1 (by omega) (by omega) (by omega) hs w
  rw [numAt_byte, hN, Nat.zero_add] at this
  exact this
theorem scan_none (s : ByteArray) (h : s.size = 0) (w : World) : Calls Tryz.prog 64 #[.agg (sc s 0 0), .int .i64 1] w fun e w' => e = .returned (.tuple #[.int .u64 0, .agg (sc s 0 3)]) ∧ Below w.heap.size w w' := scanNum_short s 0 1 (by omega) (by omega) (by omega) (by omega) (by omega) w
theorem sc_build (s : ByteArray) : #[Value.string s, .int .i64 0, .int .i64 0] = sc s 0 0 := rfl
theorem sc_set0 (t u : ByteArray) (p e : Nat) : (sc t p e).setIfInBounds 0 (.string u) = sc u p e := by simp [sc]
attribute [local go_sem] sc_build sc_set0 copyS_long
set_option maxRecDepth 100000 in
set_option maxHeartbeats 2000000 in
theorem parse_empty (s : ByteArray) (h : s.size = 0) (w : World) : Calls Tryz.prog 61 #[.string s] w fun e w' => e = .returned (.tuple #[.agg (rg 0 fun _ => 0), .int .i64 3]) ∧ Below w.heap.size w w' := by
  have hz2 := zero97
  have HS := Lib.hid h
  clear h
  have HC := Lib.hid ((St.nil w).pushA (rg 0 fun _ => 0) 44 rfl)
  go_enter Tryz.func61, Tryz.ntmps61
  go_wp2_with fail
  refine (scan_none s HS.out _).mono ?_; rintro e w1 ⟨rfl, hw⟩
  have HC := Lib.hid (HC.out.call hw)
  clear hw
  have hC := HC.out
  (have HC := Lib.hid hC
   have sos := hC.below.os
   obtain ⟨r1, f1, i1, b1, l1⟩ := St.facts1 hC
   clear hC)
  go_wp2_with fail
  (clear r1 f1 i1 b1 l1 sos)
  have HC := Lib.hid (HC.out.push (sc s 0 3) 120)
  generalize w1.alloc (Obj.cells (sc s 0 3) 120) = w2 at HC ⊢
  have hC := HC.out
  (have HC := Lib.hid hC
   have sos := hC.below.os
   obtain ⟨⟨r1, f1, i1, b1, l1⟩, ⟨r2, f2, i2, b2, l2⟩, m12, m21⟩ := St.facts2 hC
   clear hC)
  go_region
  all_goals
    go_wp2_with fail
    refine bodyPost_ret (results_pair rfl _ w.heap.size rfl (rg 0 fun _ => 0) ?_ ?_ ?_ ?_ (.int .i64 3) rfl) rfl ⟨rfl, ?_⟩
    · simp [go_sem, *]
    · simp [go_sem]
    · simp [go_sem]
    · simp [go_sem, *]
    · exact (below_setRow' HC.out.below (by omega) _).drew
/-- the ways that lead to no ring behind a first byte -/
def ParseNo (N L : Nat) (d : Nat) : Prop := ((N < 1 ∨ 6 < N) ∧ d = 4) ∨ ((1 ≤ N ∧ N ≤ 6) ∧ L < N * 16 ∧ d = 3) ∨ ((1 ≤ N ∧ N ≤ 6) ∧ N * 16 < L ∧ d = 4)
set_option maxRecDepth 100000 in
set_option maxHeartbeats 2000000 in
theorem parse_form (s : ByteArray) (N : Nat) (h : 0 < s.size) (hN : (ofText s 0).toNat = N) (hs : s.size < 2 ^ 40) (h1 : N < 1 ∨ 6 < N) (w : World) : Calls Tryz.prog 61 #[.string s] w fun e w' => e = .returned (.tuple #[.agg (rg 0 fun _ => 0), .int .i64 4]) ∧ Below w.heap.size w w' := by
  have hz2 := zero97
  have hN8 : N < 256 := by have := (ofText s 0).toNat_lt; omega
  have n8 : (N : Int) < 256 := by omega
  have HN := Lib.hid hN
  have HM := Lib.hid (show decide (1 ≤ (N : Int) ∧ (N : Int) ≤ 6) = false from decide_eq_false (by omega))
  clear hN h1
  have HC := Lib.hid ((St.nil w).pushA (rg 0 fun _ => 0) 44 rfl)
  go_enter Tryz.func61, Tryz.ntmps61
  go_wp2_with fail
  refine (scan_first s N h HN.out hs _).mono ?_; rintro e w1 ⟨rfl, hw⟩
  have HC := Lib.hid (HC.out.call hw)
  clear hw
  have hC := HC.out
  (have HC := Lib.hid hC
   have sos := hC.below.os
   obtain ⟨r1, f1, i1, b1, l1⟩ := St.facts1 hC
   clear hC)
  go_wp2_with fail
  (clear r1 f1 i1 b1 l1 sos)
  have HC := Lib.hid (HC.out.push (sc s 1 0) 120)
  refine (may_any _ false HM.out _).mono ?_; rintro e w2 ⟨rfl, hw⟩
  have HC := Lib.hid (HC.out.call hw)
  clear hw
  have hC := HC.out
  (have HC := Lib.hid hC
   have sos := hC.below.os
   obtain ⟨⟨r1, f1, i1, b1, l1⟩, ⟨r2, f2, i2, b2, l2⟩, m12, m21⟩ := St.facts2 hC
   clear hC)
  go_wp2_with fail
  refine bodyPost_ret (results_pair rfl _ w.heap.size rfl (rg 0 fun _ => 0) ?_ ?_ ?_ ?_ (.int .i64 4) rfl) rfl ⟨rfl, ?_⟩
  · simp [go_sem, *]
  · simp [go_sem]
  · simp [go_sem]
  · simp [go_sem, *]
  · exact below_setRow' HC.out.below (by omega) _
set_option maxRecDepth 100000 in
set_option maxHeartbeats 2000000 in
theorem parse_size (s : ByteArray) (N d : Nat) (h : 0 < s.size) (hN : (ofText s 0).toNat = N) (hs : s.size < 2 ^ 40) (h1 : 1 ≤ N) (h6 : N ≤ 6) (hd : (s.size < 1 + N * 16 ∧ d = 3) ∨ (1 + N * 16 < s.size ∧ d = 4)) (w : World) : Calls Tryz.prog 61 #[.string s] w fun e w' => e = .returned (.tuple #[.agg (rg 0 fun _ => 0), .int .i64 (d : Int)]) ∧ Below w.heap.size w w' := by
  have hz2 := zero97
  have n6 : (N : Int) ≤ 6 := by omega
  have HN := Lib.hid hN
  have HM := Lib.hid (show decide (1 ≤ (N : Int) ∧ (N : Int) ≤ 6) = true from decide_eq_true (by omega))
  clear hN
  obtain ⟨R, hR⟩ : ∃ R, s.extract 1 s.size = R := ⟨_, rfl⟩
  have hRs : R.size + 1 = s.size := by rw [← hR, ByteArray.size_extract]; omega
  have HR := Lib.hid hR
  have HRs := Lib.hid hRs
  clear hR
  have HC := Lib.hid ((St.nil w).pushA (rg 0 fun _ => 0) 44 rfl)
  rcases hd with ⟨hd, rfl⟩ | ⟨hd, rfl⟩
  · have d1 : decide ((R.size : Int) < (N : Int) * 16) = true := decide_eq_true (by omega)
    clear hRs hd
    go_enter Tryz.func61, Tryz.ntmps61
    go_wp2_with fail
    refine (scan_first s N h HN.out hs _).mono ?_; rintro e w1 ⟨rfl, hw⟩
    have HC := Lib.hid (HC.out.call hw)
    clear hw
    have hC := HC.out
    (have HC := Lib.hid hC
     have sos := hC.below.os
     obtain ⟨r1, f1, i1, b1, l1⟩ := St.facts1 hC
     clear hC)
    go_wp2_with fail
    (clear r1 f1 i1 b1 l1 sos)
    have HC := Lib.hid (HC.out.push (sc s 1 0) 120)
    refine (may_any _ true HM.out _).mono ?_; rintro e w2 ⟨rfl, hw⟩
    have HC := Lib.hid (HC.out.call hw)
    clear hw
    have hC := HC.out
    (have HC := Lib.hid hC
     have sos := hC.below.os
     obtain ⟨⟨r1, f1, i1, b1, l1⟩, ⟨r2, f2, i2, b2, l2⟩, m12, m21⟩ := St.facts2 hC
     clear hC)
    go_wp2_with fail
    (clear r1 f1 i1 b1 l1 r2 f2 i2 b2 l2 m12 m21 sos)
    refine (rest_any s 1 h _).mono ?_; rintro e w3 ⟨rfl, hw⟩
    rw [HR.out]
    have HC := Lib.hid (HC.out.call hw)
    clear hw
    have hC := HC.out
    (have HC := Lib.hid hC
     have sos := hC.below.os
     obtain ⟨⟨r1, f1, i1, b1, l1⟩, ⟨r2, f2, i2, b2, l2⟩, m12, m21⟩ := St.facts2 hC
     clear hC)
    go_wp2_with fail
    refine bodyPost_ret (results_pair rfl _ w.heap.size rfl (rg 0 fun _ => 0) ?_ ?_ ?_ ?_ (.int .i64 3) rfl) rfl ⟨rfl, ?_⟩
    · simp [go_sem, *]
    · simp [go_sem]
    · simp [go_sem]
    · simp [go_sem, *]
    · exact below_setRow' HC.out.below (by omega) _
  · have d1 : decide ((R.size : Int) < (N : Int) * 16) = false := decide_eq_false (by omega)
    have d2 : decide ((N : Int) * 16 < (R.size : Int)) = true := decide_eq_true (by omega)
    clear hRs hd
    go_enter Tryz.func61, Tryz.ntmps61
    go_wp2_with fail
    refine (scan_first s N h HN.out hs _).mono ?_; rintro e w1 ⟨rfl, hw⟩
    have HC := Lib.hid (HC.out.call hw)
    clear hw
    have hC := HC.out
    (have HC := Lib.hid hC
     have sos := hC.below.os
     obtain ⟨r1, f1, i1, b1, l1⟩ := St.facts1 hC
     clear hC)
    go_wp2_with fail
    (clear r1 f1 i1 b1 l1 sos)
    have HC := Lib.hid (HC.out.push (sc s 1 0) 120)
    refine (may_any _ true HM.out _).mono ?_; rintro e w2 ⟨rfl, hw⟩
    have HC := Lib.hid (HC.out.call hw)
    clear hw
    have hC := HC.out
    (have HC := Lib.hid hC
     have sos := hC.below.os
     obtain ⟨⟨r1, f1, i1, b1, l1⟩, ⟨r2, f2, i2, b2, l2⟩, m12, m21⟩ := St.facts2 hC
     clear hC)
    go_wp2_with fail
    (clear r1 f1 i1 b1 l1 r2 f2 i2 b2 l2 m12 m21 sos)
    refine (rest_any s 1 h _).mono ?_; rintro e w3 ⟨rfl, hw⟩
    rw [HR.out]
    have HC := Lib.hid (HC.out.call hw)
    clear hw
    have hC := HC.out
    (have HC := Lib.hid hC
     have sos := hC.below.os
     obtain ⟨⟨r1, f1, i1, b1, l1⟩, ⟨r2, f2, i2, b2, l2⟩, m12, m21⟩ := St.facts2 hC
     clear hC)
    go_wp2_with fail
    refine bodyPost_ret (results_pair rfl _ w.heap.size rfl (rg 0 fun _ => 0) ?_ ?_ ?_ ?_ (.int .i64 4) rfl) rfl ⟨rfl, ?_⟩
    · simp [go_sem, *]
    · simp [go_sem]
    · simp [go_sem]
    · simp [go_sem, *]
    · exact below_setRow' HC.out.below (by omega) _
set_option maxRecDepth 100000 in
set_option maxHeartbeats 2000000 in
theorem parse_ok (s R : ByteArray) (N : Nat) (h : 0 < s.size) (hN : (ofText s 0).toNat = N) (h1 : 1 ≤ N) (h6 : N ≤ 6) (hd : s.size = 1 + N * 16) (hR : s.extract 1 s.size = R) (w : World) : Calls Tryz.prog 61 #[.string s] w fun e w' => e = .returned (.tuple #[.agg (rg N (parseB R (N * 16))), .int .i64 0]) ∧ Below w.heap.size w w' := by
  have hz2 := zero97
  have hs : s.size < 2 ^ 40 := by omega
  have n6 : (N : Int) ≤ 6 := by omega
  have HN := Lib.hid hN
  have HM := Lib.hid (show decide (1 ≤ (N : Int) ∧ (N : Int) ≤ 6) = true from decide_eq_true (by omega))
  have hRs : R.size = N * 16 := by rw [← hR, ByteArray.size_extract]; omega
  have HR := Lib.hid hR
  have HRs := Lib.hid hRs
  have d1 : decide ((R.size : Int) < (N : Int) * 16) = false := decide_eq_false (by omega)
  have d2 : decide ((N : Int) * 16 < (R.size : Int)) = false := decide_eq_false (by omega)
  clear hR hN hd hRs
  have HC := Lib.hid ((St.nil w).pushA (rg 0 fun _ => 0) 44 rfl)
  go_enter Tryz.func61, Tryz.ntmps61
  go_wp2_with fail
  refine (scan_first s N h HN.out hs _).mono ?_; rintro e w1 ⟨rfl, hw⟩
  have HC := Lib.hid (HC.out.call hw)
  clear hw
  have hC := HC.out
  (have HC := Lib.hid hC
   have sos := hC.below.os
   obtain ⟨r1, f1, i1, b1, l1⟩ := St.facts1 hC
   clear hC)
  go_wp2_with fail
  (clear r1 f1 i1 b1 l1 sos)
  have HC := Lib.hid (HC.out.push (sc s 1 0) 120)
  refine (may_any _ true HM.out _).mono ?_; rintro e w2 ⟨rfl, hw⟩
  have HC := Lib.hid (HC.out.call hw)
  clear hw
  have hC := HC.out
  (have HC := Lib.hid hC
   have sos := hC.below.os
   obtain ⟨⟨r1, f1, i1, b1, l1⟩, ⟨r2, f2, i2, b2, l2⟩, m12, m21⟩ := St.facts2 hC
   clear hC)
  go_wp2_with fail
  (clear r1 f1 i1 b1 l1 r2 f2 i2 b2 l2 m12 m21 sos)
  refine (rest_any s 1 h _).mono ?_; rintro e w3 ⟨rfl, hw⟩
  rw [HR.out]
  have HC := Lib.hid (HC.out.call hw)
  clear hw
  have hC := HC.out
  (have HC := Lib.hid hC
   have sos := hC.below.os
   obtain ⟨⟨r1, f1, i1, b1, l1⟩, ⟨r2, f2, i2, b2, l2⟩, m12, m21⟩ := St.facts2 hC
   clear hC)
  go_wp2_with fail
  (clear r1 f1 i1 b1 l1 r2 f2 i2 b2 l2 m12 m21 sos)
  have HC := Lib.hid ((HC.out.push (rg N fun _ => 0) 44).pick (L' := [(w3.heap.size, rg N fun _ => 0), (w.heap.size, rg 0 fun _ => 0)]) [0, 2] (by decide) rfl)
  generalize w3.heap.size = q at HC ⊢
  go_loopw [49] (fun i wr => ∃ j : Nat, j ≤ N ∧ i = .int .i64 (j : Int) ∧ Hid (St w [(q, rg N (parseB R (j * 16))), (w.heap.size, rg 0 fun _ => 0)] wr)) (fun i _ => N - (intOf i).toNat)
  case atStart => exact ⟨0, by omega, rfl, HC⟩
  case round =>
    clear HC
    obtain ⟨j, hj, rfl, HJ⟩ := hrel
    have hC := HJ.out
    by_cases hlt : j < N
    · have d3 : (j : Int) < (N : Int) := by omega
      have hRs := HRs.out
      have b1 : j * 16 + 16 ≤ 96 := by omega
      have b2 : 1 + j * 16 + 16 ≤ 97 := by omega
      have b3 : (j : Int) * 16 ≤ (R.size : Int) := by omega
      have v1 : IntKind.i64.wrap ((j : Int) * 16) = (j : Int) * 16 := by rw [IntWalk.i64_in _ (by omega)]
      have x1 : 16 ≤ R.size - j * 16 := by omega
      have x4 : 16 ≤ (R.extract (j * 16) R.size).size := by rw [ByteArray.size_extract]; omega
      have HX := Lib.hid (parseB_step R j (by omega))
      have x2 : (j : Int) < 6 := by omega
      have x3 : (0 : Int) ≤ (j : Int) * 16 := by omega
      clear hRs
      (have HC := Lib.hid hC
       have sos := hC.below.os
       obtain ⟨⟨r1, f1, i1, b1, l1⟩, ⟨r2, f2, i2, b2, l2⟩, m12, m21⟩ := St.facts2 hC
       clear hC)
      go_wp2_with fail
      (clear r1 f1 i1 b1 l1 r2 f2 i2 b2 l2 m12 m21 sos)
      refine St.region_tail 8 HC.out (by kernel_rfl) (by decide +kernel) ?_
      (simp only [List.take, List.drop])
      (first
         | (apply head_skip rfl)
         | (apply head_step_g rfl
            focus
              intro w0 hC
              (fail))
         | (apply head_step_g rfl
            focus
              intro w0 hC
              have hC' := Lib.hid hC
              obtain ⟨⟨r1, f1, i1, b1, l1⟩, ⟨r2, f2, i2, b2, l2⟩, m12, m21⟩ := St.facts2 hC
              clear hC
              go_simp
              have hC := hC'.out
              (first
                 | with_reducible rfl
                 | (skip
                    (fail)
                    rintro e w' ⟨rfl, hw⟩
                    exact ⟨rfl, St.call (by assumption) hw⟩)))
       try simp only [Act.put, List.setIfInBounds_toArray, List.set])
      (first
         | (apply head_skip rfl)
         | (apply head_step_g rfl
            focus
              intro w0 hC
              (fail))
         | (apply head_step_g rfl
            focus
              intro w0 hC
              have hC' := Lib.hid hC
              obtain ⟨⟨r1, f1, i1, b1, l1⟩, ⟨r2, f2, i2, b2, l2⟩, m12, m21⟩ := St.facts2 hC
              clear hC
              go_simp
              have hC := hC'.out
              (first
                 | with_reducible rfl
                 | (skip
                    (fail)
                    rintro e w' ⟨rfl, hw⟩
                    exact ⟨rfl, St.call (by assumption) hw⟩)))
       try simp only [Act.put, List.setIfInBounds_toArray, List.set])
      (first
         | (apply head_skip rfl)
         | (apply head_step_g rfl
            focus
              intro w0 hC
              (fail))
         | (apply head_step_g rfl
            focus
              intro w0 hC
              have hC' := Lib.hid hC
              obtain ⟨⟨r1, f1, i1, b1, l1⟩, ⟨r2, f2, i2, b2, l2⟩, m12, m21⟩ := St.facts2 hC
              clear hC
              go_simp
              have hC := hC'.out
              (first
                 | with_reducible rfl
                 | (skip
                    (fail)
                    rintro e w' ⟨rfl, hw⟩
                    exact ⟨rfl, St.call (by assumption) hw⟩)))
       try simp only [Act.put, List.setIfInBounds_toArray, List.set])
      (first
         | (apply head_skip rfl)
         | (apply head_step_g rfl
            focus
              intro w0 hC
              (fail))
         | (apply head_step_g rfl
            focus
              intro w0 hC
              have hC' := Lib.hid hC
              obtain ⟨⟨r1, f1, i1, b1, l1⟩, ⟨r2, f2, i2, b2, l2⟩, m12, m21⟩ := St.facts2 hC
              clear hC
              go_simp
              have hC := hC'.out
              (first
                 | with_reducible rfl
                 | (skip
                    (fail)
                    rintro e w' ⟨rfl, hw⟩
                    exact ⟨rfl, St.call (by assumption) hw⟩)))
       try simp only [Act.put, List.setIfInBounds_toArray, List.set])
      (first
         | (apply head_skip rfl)
         | (apply head_step_g rfl
            focus
              intro w0 hC
              (fail))
         | (apply head_step_g rfl
            focus
              intro w0 hC
              have hC' := Lib.hid hC
              obtain ⟨⟨r1, f1, i1, b1, l1⟩, ⟨r2, f2, i2, b2, l2⟩, m12, m21⟩ := St.facts2 hC
              clear hC
              go_simp
              have hC := hC'.out
              (first
                 | with_reducible rfl
                 | (skip
                    (fail)
                    rintro e w' ⟨rfl, hw⟩
                    exact ⟨rfl, St.call (by assumption) hw⟩)))
       try simp only [Act.put, List.setIfInBounds_toArray, List.set])
      (first
         | (apply head_skip rfl)
         | (apply head_step_g rfl
            focus
              intro w0 hC
              (fail))
         | (apply head_step_g rfl
            focus
              intro w0 hC
              have hC' := Lib.hid hC
              obtain ⟨⟨r1, f1, i1, b1, l1⟩, ⟨r2, f2, i2, b2, l2⟩, m12, m21⟩ := St.facts2 hC
              clear hC
              go_simp
              have hC := hC'.out
              (first
                 | with_reducible rfl
                 | (skip
                    (fail)
                    rintro e w' ⟨rfl, hw⟩
                    exact ⟨rfl, St.call (by assumption) hw⟩)))
       try simp only [Act.put, List.setIfInBounds_toArray, List.set])
      (first
         | (apply head_skip rfl)
         | (apply head_step_g rfl
            focus
              intro w0 hC
              (fail))
         | (apply head_step_g rfl
            focus
              intro w0 hC
              have hC' := Lib.hid hC
              obtain ⟨⟨r1, f1, i1, b1, l1⟩, ⟨r2, f2, i2, b2, l2⟩, m12, m21⟩ := St.facts2 hC
              clear hC
              go_simp
              have hC := hC'.out
              (first
                 | with_reducible rfl
                 | (skip
                    (fail)
                    rintro e w' ⟨rfl, hw⟩
                    exact ⟨rfl, St.call (by assumption) hw⟩)))
       try simp only [Act.put, List.setIfInBounds_toArray, List.set])
      (first
         | (apply head_skip rfl)
         | (apply head_step_g rfl
            focus
              intro w0 hC
              (fail))
         | (apply head_step_g rfl
            focus
              intro w0 hC
              have hC' := Lib.hid hC
              obtain ⟨⟨r1, f1, i1, b1, l1⟩, ⟨r2, f2, i2, b2, l2⟩, m12, m21⟩ := St.facts2 hC
              clear hC
              go_simp
              have hC := hC'.out
              (first
                 | with_reducible rfl
                 | (skip
                    (fail)
                    rintro e w' ⟨rfl, hw⟩
                    exact ⟨rfl, St.call (by assumption) hw⟩)))
       try simp only [Act.put, List.setIfInBounds_toArray, List.set])
      refine wpQuiet_nil ?_
      intro w5 hC
      (have HC := Lib.hid hC
       have sos := hC.below.os
       obtain ⟨⟨r1, f1, i1, b1, l1⟩, ⟨r2, f2, i2, b2, l2⟩, m12, m21⟩ := St.facts2 hC
       clear hC)
      have hcp := copyS_long (P := Tryz.prog) (w := w5) 134 9 3 q (1 + j * 16) 16 16 (R.extract (j * 16) R.size) x4 (by simp [go_sem]) (by simp [go_sem]) f1 (by rw [r1, rg_size]; omega)
      rw [r1, rg_put N _ _ _ (by omega), HX.out] at hcp
      go_wp2_with fail
      (clear r1 f1 i1 b1 l1 r2 f2 i2 b2 l2 m12 m21 sos)
      have HC := Lib.hid (HC.out.set_head (rg N (parseB R ((j + 1) * 16))) (by rw [rg_size, rg_size]))
      rw [hcp]
      clear hcp
      go_wp2_with fail
      go_roundw
      case rel => exact ⟨j + 1, by omega, by go_num, HC⟩
      case measure => simp [intOf]; omega
    · obtain rfl : j = N := by omega
      (have HC := Lib.hid hC
       have sos := hC.below.os
       obtain ⟨⟨r1, f1, i1, b1, l1⟩, ⟨r2, f2, i2, b2, l2⟩, m12, m21⟩ := St.facts2 hC
       clear hC)
      go_wp2_with fail
      refine bodyPost_ret (results_pair rfl _ w.heap.size rfl (rg j (parseB R (j * 16))) ?_ ?_ ?_ ?_ (.int .i64 0) rfl) rfl ⟨rfl, ?_⟩
      · simp [go_sem, *]
      · simp [go_sem]
      · simp [go_sem]
      · simp [go_sem, *]
      · exact below_setRow' HC.out.below (by omega) _
end Go.Proofs.YtgaecjhghpkcoaaGreat
end
