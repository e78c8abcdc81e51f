/- Maps from texts: what one holds, as a list; a look-up, a store, in the model's own operations. No condition. -/
import Derived.Test.YtgaecjhghpkcoaaGreatMGround
import Derived.MapKept
namespace Go.Proofs.YtgaecjhghpkcoaaGreat
open Go.RowKit

def entOf (e : MapEntry) : Value × Value := (e.key, e.val)
section
variable {α : Type} (enc : α → Value)
/-- block m is a map that holds these -/
def Mp (w : World) (m : Nat) (N : List (ByteArray × α)) : Prop := ∃ es clock, w.heap[m]? = some (.map es clock) ∧ es.toList.map entOf = N.map fun x => (.string x.1, enc x.2)
/-- what is held by a key -/
def findN (k : ByteArray) : List (ByteArray × α) → Option α
  | [] => none
  | (k', v) :: l => if k' = k then some v else findN k l
/-- a key gets a value -/
def putN (k : ByteArray) (v : α) : List (ByteArray × α) → List (ByteArray × α)
  | [] => [(k, v)]
  | (k', v') :: l => if k' = k then (k', v) :: l else (k', v') :: putN k v l
theorem find_put (k j : ByteArray) (v : α) : ∀ l, findN j (putN k v l) = if j = k then some v else findN j l
  | [] => by
    simp only [putN, findN, eq_comm]
  | (k', v') :: l => by
    unfold putN
    by_cases h : k' = k
    · subst h
      rw [if_pos rfl]
      by_cases h2 : k' = j
      · subst h2; simp [findN]
      · simp [findN, h2, Ne.symm h2]
    · rw [if_neg h]
      by_cases h2 : k' = j
      · subst h2; simp [findN, h]
      · simp only [findN, if_neg h2, find_put k j v l]
/-- all but one block of those that were there are as they were -/
structure But (m : Nat) (w w' : World) : Prop where
  os : w'.os = w.os
  tape : w'.tape = w.tape
  output : w'.output = w.output
  size : w'.heap.size = w.heap.size
  block : ∀ k, k ≠ m → w'.heap[k]? = w.heap[k]?
theorem But.below {m : Nat} {w w' : World} (h : But m w w') {B : Nat} {a : World} (hb : Below B a w) (hm : B ≤ m) : Below B a w' :=
  ⟨h.os.trans hb.os, h.tape.trans hb.tape, h.output.trans hb.output, by rw [h.size]; exact hb.size, fun k hk => (h.block k (by omega)).trans (hb.block k hk)⟩
theorem Mp.lt {w : World} {m : Nat} {N : List (ByteArray × α)} (h : Mp enc w m N) : m < w.heap.size := by
  obtain ⟨es, c, h1, _⟩ := h
  exact (Array.getElem?_eq_some_iff.1 h1).1
theorem Mp.row {w : World} {m : Nat} {N : List (ByteArray × α)} (h : Mp enc w m N) : isRow w m = false := by
  obtain ⟨es, c, h1, _⟩ := h
  simp [isRow, h1]
theorem Mp.call {w w' : World} {m : Nat} {N : List (ByteArray × α)} (h : Mp enc w m N) (hb : Below w.heap.size w w') : Mp enc w' m N := by
  have hlt := h.lt
  obtain ⟨es, c, h1, h2⟩ := h
  exact ⟨es, c, (hb.block m hlt).trans h1, h2⟩
theorem Mp.but {w w' : World} {m q : Nat} {N : List (ByteArray × α)} (h : Mp enc w m N) (hb : But q w w') (hm : m ≠ q) : Mp enc w' m N := by
  obtain ⟨es, c, h1, h2⟩ := h
  exact ⟨es, c, (hb.block m hm).trans h1, h2⟩
/-- all maps are as they were -/
def Mk (w w' : World) : Prop := ∀ (m : Nat) (es : Array MapEntry) (c : Nat), w.heap[m]? = some (Obj.map es c) → w'.heap[m]? = some (Obj.map es c)
theorem Mk.refl (w : World) : Mk w w := fun _ _ _ h => h
theorem Mk.trans {a b c : World} (h : Mk a b) (k : Mk b c) : Mk a c := fun m es q hm => k m es q (h m es q hm)
theorem Mk.call {a b c : World} (hb : Below b.heap.size b c) (h : Mk a b) : Mk a c := fun m es q hm => by
  have h1 := h m es q hm
  exact (hb.block m (Array.getElem?_eq_some_iff.1 h1).1).trans h1
theorem Mk.alloc {a b : World} (h : Mk a b) (o : Obj) : Mk a (b.alloc o) := fun m es q hm => by
  have h1 := h m es q hm
  exact (Below.heap_alloc b o m (Array.getElem?_eq_some_iff.1 h1).1).trans h1
theorem Mk.drew {a b : World} (h : Mk a b) : Mk a b.drew := fun m es q hm => h m es q hm
theorem Mk.drewN {a b : World} (h : Mk a b) (n : Nat) : Mk a (b.drewN n) := fun m es q hm => h m es q hm
theorem Mk.setRow {a b : World} (h : Mk a b) (g : Nat) (cs : Array Value) : Mk a (b.setRow g cs) := fun m es q hm => by
  have h1 := h m es q hm
  show (b.heap.modify g _)[m]? = _
  rw [Array.getElem?_modify, h1]
  split <;> rfl
theorem Mp.mk {w w' : World} {m : Nat} {N : List (ByteArray × α)} (h : Mp enc w m N) (hb : Mk w w') : Mp enc w' m N := by
  obtain ⟨es, c, h1, h2⟩ := h
  exact ⟨es, c, hb m es c h1, h2⟩
theorem St.but {w0 w w' : World} {L : List (Nat × Array Value)} {m : Nat} (h : St w0 L w) (hb : But m w w') (hm : w0.heap.size ≤ m) (hr : isRow w m = false) : St w0 L w' := by
  refine ⟨hb.below h.below hm, h.ne, fun x hx => ?_⟩
  obtain ⟨⟨h1, h2⟩, h3, h4, h5⟩ := h.rows x hx
  have hne : x.1 ≠ m := fun e => by rw [e, hr] at h5; cases h5
  have hk := hb.block x.1 hne
  refine ⟨⟨h1, by rw [hb.size]; exact h2⟩, ?_, ?_, ?_⟩
  · unfold rowAt at h3 ⊢; rw [hk]; exact h3
  · unfold freeRow at h4 ⊢; rw [hk]; exact h4
  · unfold isRow at h5 ⊢; rw [hk]; exact h5

variable {P : Program}
theorem findNow_text (k : ByteArray) : ∀ (es : List MapEntry) (N : List (ByteArray × α)) (i : Nat), es.map entOf = N.map (fun x => (.string x.1, enc x.2)) →
    (Instr.findNow .string (.string k) es i = some none ∧ findN k N = none ∧ ∀ v, (es.map entOf) ++ [(.string k, enc v)] = (putN k v N).map fun x => (.string x.1, enc x.2)) ∨
    ∃ (j : Nat) (e : MapEntry) (v : α), Instr.findNow .string (.string k) es i = some (some (i + j, enc v)) ∧ findN k N = some v ∧ es[j]? = some e ∧ e.key = .string k ∧ ∀ v' e', e'.key = e.key → e'.val = enc v' → (es.set j e').map entOf = (putN k v' N).map fun x => (.string x.1, enc x.2)
  | [], [], i, _ => .inl ⟨rfl, rfl, fun v => rfl⟩
  | [], _ :: _, _, h => by simp at h
  | _ :: _, [], _, h => by simp at h
  | e :: es, (k', v') :: N, i, h => by
    simp only [List.map_cons, List.cons.injEq] at h
    obtain ⟨h1, h2⟩ := h
    have hk : e.key = .string k' := congrArg Prod.fst h1
    have hv : e.val = enc v' := congrArg Prod.snd h1
    by_cases hkk : k' = k
    · subst hkk
      refine .inr ⟨0, e, v', ?_, by simp [findN], rfl, hk, fun v'' e' g1 g2 => ?_⟩
      · have hb : (k' == k') = true := (MapKept.bytes_beq k' k').2 rfl
        simp [Instr.findNow, Instr.sameNow, hk, hv, hb]
      · simp [putN, entOf, g1, hk, g2, h2]
    · have hne : (k == k') = false := by
        cases hb : k == k'
        · rfl
        · exact (hkk ((MapKept.bytes_beq k k').1 hb).symm).elim
      have hs : Instr.findNow .string (.string k) (e :: es) i = Instr.findNow .string (.string k) es (i + 1) := by
        simp [Instr.findNow, Instr.sameNow, hk, hne]
      rcases findNow_text k es N (i + 1) h2 with ⟨a1, a2, a3⟩ | ⟨j, e0, v0, a1, a2, a3, a4, a5⟩
      · refine .inl ⟨by rw [hs, a1], by simp [findN, hkk, a2], fun v => ?_⟩
        simp only [List.map_cons, List.cons_append, putN, if_neg hkk, List.cons.injEq]
        exact ⟨h1, a3 v⟩
      · refine .inr ⟨j + 1, e0, v0, by rw [hs, a1]; congr 3; omega, by simp [findN, hkk, a2], by simpa using a3, a4, fun v'' e' g1 g2 => ?_⟩
        simp only [List.set_cons_succ, List.map_cons, putN, if_neg hkk, List.cons.injEq]
        exact ⟨h1, a5 v'' e' g1 g2⟩
theorem run_lookup_text (t kt et : TypeId) (ht : P.underlying t = some (.map kt et)) (hk : P.underlying kt = some .string) (z : Value) {w : World} (hz : (zeroValue et).run P w = .ok z w) {m : Nat} {N : List (ByteArray × α)} (hM : Mp enc w m N) (k : ByteArray) :
    (Instr.lookup t (.map (some m)) (.string k) true).run P w = .ok (.tuple #[((findN k N).map enc).getD z, .bool (findN k N).isSome]) w := by
  obtain ⟨es, c, h1, h2⟩ := hM
  have hc : ∀ e, (Instr.checkKey e 10000 kt (.string k)).run P w = .ok () w := fun e => MapKept.run_checkKey (k := .string k) hk (by simp [MapKept.IsKey]) e 9999
  rcases findNow_text enc k es.toList N 0 h2 with ⟨a1, a2, _⟩ | ⟨j, e0, v0, a1, a2, _⟩
  · simp [Instr.lookup, run_underlying ht, MapKept.run_getObj_map h1, hc, MapKept.run_findKey hk a1, hz, Result.andThen, a2]
  · simp [Instr.lookup, run_underlying ht, MapKept.run_getObj_map h1, hc, MapKept.run_findKey hk a1, Result.andThen, a2]
theorem run_update_text (t kt et : TypeId) (ht : P.underlying t = some (.map kt et)) (hk : P.underlying kt = some .string) {w : World} {m : Nat} {N : List (ByteArray × α)} (hM : Mp enc w m N) (k : ByteArray) (v : α) :
    ∃ w', (Instr.mapUpdate t (.map (some m)) (.string k) (enc v)).run P w = .ok () w' ∧ But m w w' ∧ Mp enc w' m (putN k v N) := by
  obtain ⟨es, c, h1, h2⟩ := hM
  have hlt := (Array.getElem?_eq_some_iff.1 h1).1
  have hc : ∀ e, (Instr.checkKey e 10000 kt (.string k)).run P w = .ok () w := fun e => MapKept.run_checkKey (k := .string k) hk (by simp [MapKept.IsKey]) e 9999
  have hB : ∀ o : Obj, But m w { w with heap := w.heap.setIfInBounds m o } := fun o => ⟨rfl, rfl, rfl, by simp, fun i hi => by
    show (w.heap.setIfInBounds m o)[i]? = _
    rw [Array.getElem?_setIfInBounds, if_neg (Ne.symm hi)]⟩
  have hO : ∀ o : Obj, ({ w with heap := w.heap.setIfInBounds m o } : World).heap[m]? = some o := fun o => by
    show (w.heap.setIfInBounds m o)[m]? = _
    rw [Array.getElem?_setIfInBounds, if_pos rfl, if_pos hlt]
  rcases findNow_text enc k es.toList N 0 h2 with ⟨a1, a2, a3⟩ | ⟨j, e0, v0, a1, a2, a3, a4, a5⟩
  · refine ⟨_, by simp [Instr.mapUpdate, run_underlying ht, MapKept.run_getObj_map h1, hc, MapKept.run_findKey hk a1, MapKept.run_setObj_map _ h1, Result.andThen]; rfl, hB _, _, _, hO _, ?_⟩
    rw [Array.toList_push, List.map_append, ← a3 v]
    rfl
  · have hj : es[j]? = some e0 := by simpa using a3
    rw [Nat.zero_add] at a1
    have hst : (Instr.keyThatStays e0.key (.string k)).run P w = .ok (.string k) w := by rw [a4]; exact MapKept.run_keyThatStays (d := .string) trivial
    refine ⟨_, by simp [Instr.mapUpdate, run_underlying ht, MapKept.run_getObj_map h1, hc, MapKept.run_findKey hk a1, hj, hst, MapKept.run_setObj_map _ h1, Result.andThen]; rfl, hB _, _, _, hO _, ?_⟩
    rw [Array.toList_modify, ← a5 v { e0 with key := .string k, val := enc v } a4.symm rfl]
    congr 1
    apply List.ext_getElem?
    intro i
    rw [List.getElem?_modify, List.getElem?_set]
    by_cases hi : j = i
    · subst hi
      have hjl := (List.getElem?_eq_some_iff.1 a3).1
      rw [if_pos rfl, if_pos hjl, a3]
      simp
    · simp [hi]
end
/-- the blocks of a call's own, as one fact; and all maps of v are as they were -/
structure Sk (v w0 : World) (L : List (Nat × Array Value)) (w : World) : Prop extends St w0 L w where
  kept : Mk v w
section
variable {v w0 a b : World} {L : List (Nat × Array Value)}
theorem St.sk (h : St w0 L a) : Sk a w0 L a := ⟨h, Mk.refl _⟩
theorem Sk.base (h : Sk v w0 L a) : Sk a w0 L a := ⟨h.toSt, Mk.refl _⟩
theorem Sk.nil (w : World) : Sk w w [] w := ⟨St.nil w, Mk.refl _⟩
theorem Sk.call (h : Sk v w0 L a) (hb : Below a.heap.size a b) : Sk v w0 L b := ⟨h.toSt.call hb, Mk.call hb h.kept⟩
theorem Sk.drew (h : Sk v w0 L a) : Sk v w0 L a.drew := ⟨h.toSt.drew, h.kept.drew⟩
theorem Sk.drewN (h : Sk v w0 L a) (n : Nat) : Sk v w0 L (a.drewN n) := ⟨h.toSt.drewN n, h.kept.drewN n⟩
theorem Sk.skip (h : Sk v w0 L a) (o : Obj) : Sk v w0 L (a.alloc o) := ⟨h.toSt.skip o, h.kept.alloc o⟩
theorem Sk.push (h : Sk v w0 L a) (cs : Array Value) (t : TypeId) : Sk v w0 ((a.heap.size, cs) :: L) (a.alloc (.cells cs t)) := ⟨h.toSt.push cs t, h.kept.alloc _⟩
theorem Sk.pushA (h : Sk v w0 L a) (cs : Array Value) (t : TypeId) {g : Nat} (hg : a.heap.size = g) : Sk v w0 ((g, cs) :: L) (a.alloc (.cells cs t)) := ⟨h.toSt.pushA cs t hg, h.kept.alloc _⟩
theorem Sk.tail {x : Nat × Array Value} (h : Sk v w0 (x :: L) a) : Sk v w0 L a := ⟨h.toSt.tail, h.kept⟩
theorem Sk.swap {x y : Nat × Array Value} (h : Sk v w0 (x :: y :: L) a) : Sk v w0 (y :: x :: L) a := ⟨h.toSt.swap, h.kept⟩
theorem Sk.set_head {g : Nat} {c : Array Value} (h : Sk v w0 ((g, c) :: L) a) (cs : Array Value) (hs : cs.size = c.size := by first | (simp only [blk_size]; done) | (simp [go_sem]; done) | rfl) : Sk v w0 ((g, cs) :: L) (a.setRow g cs) := ⟨h.toSt.set_head cs hs, h.kept.setRow g cs⟩
theorem Sk.order {L' : List (Nat × Array Value)} (h : Sk v w0 L a) (is : List Nat) (hn : is.Nodup) (hL : is.filterMap (fun i => L[i]?) = L') : Sk v w0 L' a := ⟨h.toSt.pick is hn hL, h.kept⟩
theorem Sk.next {L' : List (Nat × Array Value)} (h : Sk v w0 L a) (hc : St w0 L' b ∧ Mk a b) : Sk v w0 L' b := ⟨hc.1, h.kept.trans hc.2⟩
variable {P : Program} {id : Nat} {Q : Exit → Act → World → Prop} {t : Act} {l : List Oper}
theorem Sk.region (h : Sk v w0 L a) (hm : P.follows .mixedOrders = true) (hB : Region.lexB .any l.toArray = true)
    (k : wpQuiet P l.toArray (Sk v w0 L) (fun a' => ∀ w', Sk v w0 L w' → Q .normal a' w') l t) : (Code.region id l.toArray true).wp P Q t a := wp_region_quiet hm hB h.drew (by simpa using k)
end
end Go.Proofs.YtgaecjhghpkcoaaGreat
