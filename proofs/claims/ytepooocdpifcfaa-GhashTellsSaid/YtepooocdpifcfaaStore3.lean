/- Three new variables in one statement. -/
import Derived.Test.YtepooocdpifcfaaStores
namespace Go.Proofs.Ytepooocdpifcfaa
open Go Go.RowKit
section
variable {P : Program} {w0 : World} {L : List (Nat × Array Value)}
/-- three of them -/
theorem St.region_store3 (n : Nat) (d1 d2 d3 s1 s2 s3 : Tmp) (Z1 Z2 Z3 F1 F2 F3 : Array Value) (V1 V2 V3 : Value) (t1 t2 t3 : TypeId) {id : Nat} {Q : Exit → Act → World → Prop} {a : Act} {w : World} {l : List Oper} (h0 : St w0 L w) (hm : P.follows .mixedOrders = true) (hB : storesB l n [d1, d2, d3] [s1, s2, s3] = true) (o1 o2 o3 o4 o5 o6 : Oper) (e1 : l[n]? = some o1) (e2 : l[n + 1]? = some o2) (e3 : l[n + 2]? = some o3) (e4 : l[n + 3]? = some o4) (e5 : l[n + 4]? = some o5) (e6 : l[n + 5]? = some o6)
    (h1 : ∀ (w : World) (a : Act), (execOp a.eval o1).run P w = .ok (.value (ptrTo w.heap.size)) (w.alloc (.cells Z1 t1))) (h2 : ∀ (w : World) (a : Act), (execOp a.eval o2).run P w = .ok (.value (ptrTo w.heap.size)) (w.alloc (.cells Z2 t2))) (h3 : ∀ (w : World) (a : Act), (execOp a.eval o3).run P w = .ok (.value (ptrTo w.heap.size)) (w.alloc (.cells Z3 t3)))
    (h4 : ∀ (w : World) (a : Act) (g : Nat), a.eval (.tmp d1) = ptrTo g → a.eval (.tmp s1) = V1 → rowAt w g = Z1 → freeRow w g = true → isRow w g = true → (execOp a.eval o4).run P w = .ok .skip (w.setRow g F1))
    (h5 : ∀ (w : World) (a : Act) (g : Nat), a.eval (.tmp d2) = ptrTo g → a.eval (.tmp s2) = V2 → rowAt w g = Z2 → freeRow w g = true → isRow w g = true → (execOp a.eval o5).run P w = .ok .skip (w.setRow g F2))
    (h6 : ∀ (w : World) (a : Act) (g : Nat), a.eval (.tmp d3) = ptrTo g → a.eval (.tmp s3) = V3 → rowAt w g = Z3 → freeRow w g = true → isRow w g = true → (execOp a.eval o6).run P w = .ok .skip (w.setRow g F3))
    (hin : d1 < a.tmps.size ∧ d2 < a.tmps.size ∧ d3 < a.tmps.size)
    (h : walkB P (St w0 L) (fun a' => (a'.eval (.tmp s1) = V1 ∧ a'.eval (.tmp s2) = V2 ∧ a'.eval (.tmp s3) = V3) ∧ ∀ w' g1 g2 g3, St w0 ((g3, F3) :: (g2, F2) :: (g1, F1) :: L) w' → Q .normal (((a'.put (some d1) (ptrTo g1)).put (some d2) (ptrTo g2)).put (some d3) (ptrTo g3)) w') (l.take n) a) (hsz : F1.size = Z1.size ∧ F2.size = Z2.size ∧ F3.size = Z3.size := by first | (simp only [blk_size, and_self]; done) | (simp [go_sem]; done) | exact ⟨rfl, rfl, rfl⟩) : (Code.region id l.toArray true).wp P Q a w := by
  refine St.region_stores (w0 := w0) (L := L) n [d1, d2, d3] [s1, s2, s3] (fun j => if j = 0 then Z1 else if j = 1 then Z2 else Z3) (fun j => if j = 0 then F1 else if j = 1 then F2 else F3) (fun j => if j = 0 then V1 else if j = 1 then V2 else V3) (fun j => if j = 0 then t1 else if j = 1 then t2 else t3) h0 hm hB ?_ ?_ ?_ (by simpa using hin) (walkB_mono (fun a' hq => ⟨?_, fun w' gs hw => ?_⟩) _ _ h)
  · intro j o hj ho w a
    match j, hj with
    | 0, _ => rw [Nat.add_zero, e1] at ho; cases ho; exact h1 w a
    | 1, _ => rw [e2] at ho; cases ho; exact h2 w a
    | 2, _ => rw [e3] at ho; cases ho; exact h3 w a
  · intro j hj
    match j, hj with
    | 0, _ => exact hsz.1
    | 1, _ => exact hsz.2.1
    | 2, _ => exact hsz.2.2
  · intro j o d s hj ho hd hs w a g
    match j, hj with
    | 0, _ => rw [show n + [d1, d2, d3].length + 0 = n + 3 from rfl, e4] at ho; cases ho; cases hd; cases hs; exact h4 w a g
    | 1, _ => rw [show n + [d1, d2, d3].length + 1 = n + 4 from rfl, e5] at ho; cases ho; cases hd; cases hs; exact h5 w a g
    | 2, _ => rw [show n + [d1, d2, d3].length + 2 = n + 5 from rfl, e6] at ho; cases ho; cases hd; cases hs; exact h6 w a g
  · intro j s hj hs
    match j, hj with
    | 0, _ => cases hs; exact hq.1.1
    | 1, _ => cases hs; exact hq.1.2.1
    | 2, _ => cases hs; exact hq.1.2.2
  · exact hq.2 w' (gs 0) (gs 1) (gs 2) (by simpa [entF] using hw)
end
end Go.Proofs.Ytepooocdpifcfaa
