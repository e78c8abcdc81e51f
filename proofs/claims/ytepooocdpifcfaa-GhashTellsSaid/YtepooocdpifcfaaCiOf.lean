/- A text as a block, as the program tells it. No condition on bytes. -/
import Derived.Test.YtepooocdpifcfaaCiOpen
namespace Go.Proofs.Ytepooocdpifcfaa
open Go.RowKit
attribute [local go_sem] B_xor B_or B_and
attribute [local go_sem] blk_set blk_size blk_get blk_getE upd_same oneCells_blk paste_blk cut_blk szOf
attribute [local go_sem high] paste_all cut_head
attribute [local go_sem] rowAt_alloc rowAt_drew rowAt_drewN isRow_alloc isRow_drew isRow_drewN freeRow_alloc freeRow_end freeRow_drew freeRow_drewN
attribute [local go_sem] setRow_alloc setRow_drew setRow_drewN setCell_drewN alloc_drewN rowAt_put isRow_setRow freeRow_put
attribute [local go_sem ↓] loadS_in storeS_in indexS_in copyS_in
attribute [local go_sem] loadS_row loadS_one storeS_row storeS_one indexS_blk copyS_rows run_equalIn_blk same_refl arrayAt_row
section
variable {P : Program} {w : World}
/-- the results of a function: one that lies in a row, and a slot -/
theorem results_pair {fn : Func} {p q : Tmp} {ty : TypeId} (h : fn.results = #[.cell p ty, .tmp q]) (tmps : Array Value) (g : Nat) (hp : tmps.getD p undef = .pointer (some ⟨g, 0, none⟩)) (cs : Array Value) (hc : rowAt w g = cs)
    (ha : (isAgg ty).run P w = .ok true w) (hs : (sizeOf ty).run P w = .ok cs.size w) (hr : isRow w g = true) (v : Value) (hq : tmps.getD q undef = v) :
    (results fn tmps).run P w = .ok (.tuple #[.agg cs, v]) w := by
  have hp' : tmps[p]?.getD undef = .pointer (some ⟨g, 0, none⟩) := by simpa using hp
  have hq' : tmps[q]?.getD undef = v := by simpa using hq
  have hl := run_loadCells_row (P := P) g 0 cs.size hr (by rw [hc]; omega)
  rw [hc] at hl
  simp only [Nat.zero_add, Array.extract_size] at hl
  simp [results, h, hp', hq', asAddr, loadVar, Sem.run_bind, ha, hs, hl]
end

set_option maxRecDepth 100000 in
set_option maxHeartbeats 1000000 in
theorem of_short (s : ByteArray) (h : s.size ≠ 16) (w : World) : Calls Try.prog 33 #[.string s] w fun e w' => e = .returned (.tuple #[.agg (blk 16 fun _ => 0), .int .i64 2]) ∧ Below w.heap.size w w' := by
  have hz := zero16
  have ht : (((s.size : Int)) != 16) = true := by simp; omega
  go_enter Try.func33, Try.ntmps33
  go_wp2_with fail
  refine bodyPost_ret (results_pair rfl _ w.heap.size rfl (blk 16 fun _ => 0) (by simp [go_sem]) (by simp [go_sem]) (by simp [go_sem]) (by simp [go_sem]) (.int .i64 2) rfl) rfl ⟨rfl, ?_⟩
  exact ((Below.refl _ _).alloc (Nat.le_refl _) _).alloc (by simp) _

/-- a text as a row -/
def ofText (s : ByteArray) : Nat → UInt8 := fun i => s.data.getD i 0
theorem text_cells (s : ByteArray) : ((s.extract 0 s.size).data.map fun b => Value.int .u8 (b.toNat : Int)) = blk s.size (ofText s) := by
  have he : s.extract 0 s.size = s := by simp
  rw [he]
  apply Array.ext
  · rw [blk_size]; simp
  · intro i h1 h2
    have hi : i < s.data.size := by simpa using h1
    have hb : (blk s.size (ofText s))[i]? = some (.int .u8 (B (ofText s i))) := blk_get _ _ _ hi
    rw [Array.getElem?_eq_getElem h2] at hb
    rw [Option.some.inj hb]
    simp [ofText, B, Array.getElem?_eq_getElem hi]
theorem copyS_text {P : Program} {w : World} (dT sT ty : TypeId) (g dCap n : Nat) (s : ByteArray) (hn : s.size = n) (hu : P.underlying dT = some (.slice (P.elem dT))) (hs : (sizeOf (P.elem dT)).run P w = .ok 1 w)
    (hr : freeRow w g = true) (hg : n ≤ (rowAt w g).size) :
    (copyS #[dT, sT] ty #[.slice (some ⟨g, 0, none⟩) n dCap, .string s]).run P w = .ok (goInt (n : Int)) (w.setRow g (paste (rowAt w g) 0 (blk n (ofText s)))) := by
  subst hn
  have hst := run_storeCells_row (P := P) g 0 (blk s.size (ofText s)) hr (by rw [blk_size]; omega) (oneCells_blk _ _)
  have hc := text_cells s
  have hm : Nat.min s.size s.size = s.size := Nat.min_self _
  simp only [copyS, Builtin.copy_, List.getElem?_toArray, List.getElem?_cons_zero, List.getElem?_cons_succ, Sem.run_bind, run_underlying hu, Result.andThen_ok, Builtin.lenOf, Sem.run_pure, hs, Builtin.firstCells, hm, hc, hst]

set_option maxRecDepth 100000 in
set_option maxHeartbeats 1000000 in
theorem of_any (s : ByteArray) (h : s.size = 16) (w : World) : Calls Try.prog 33 #[.string s] w fun e w' => e = .returned (.tuple #[.agg (blk 16 (ofText s)), .int .i64 0]) ∧ Below w.heap.size w w' := by
  have hz := zero16
  have ht : (((s.size : Int)) != 16) = false := by simp; omega
  have hcp := fun (P : Program) (w : World) (dT sT ty : TypeId) (g : Nat) => copyS_text (P := P) (w := w) dT sT ty g 16 16 s h
  go_enter Try.func33, Try.ntmps33
  go_wp2_with fail
  refine bodyPost_ret (results_pair rfl _ w.heap.size rfl (blk 16 (ofText s)) (by simp [go_sem]) (by simp [go_sem]) (by simp [go_sem]) (by simp [go_sem]) (.int .i64 0) rfl) rfl ⟨rfl, ?_⟩
  exact ((Below.refl _ _).alloc (Nat.le_refl _) _).alloc (by simp) _
end Go.Proofs.Ytepooocdpifcfaa
