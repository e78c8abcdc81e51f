/- A quiet walk through a region, behind a name that nothing lays open: so a row of operations that are skipped costs no more than each of them. No condition. -/
import Derived.Test.YtgaecjhghpkcoaaGreatMGround
section
namespace Go.Proofs.YtgaecjhghpkcoaaGreat
open Go.RowKit

structure Qw (P : Program) (ops : Array Oper) (C : World → Prop) (Q : Act → Prop) (l : List Oper) (a : Act) : Prop where
  out : wpQuiet P ops C Q l a
section
variable {P : Program} {ops : Array Oper} {C : World → Prop} {Q : Act → Prop}
theorem qw_skip {o : Oper} {rest : List Oper} {a : Act} (hg : Region.wanted o (yielded ops a.tmps) = false) (hn : Qw P ops C Q rest (a.put o.dst undef)) : Qw P ops C Q (o :: rest) a := ⟨head_skip hg hn.out⟩
theorem qw_step {o : Oper} {rest : List Oper} {a : Act} {v : Value} (hg : Region.wanted o (yielded ops a.tmps) = true) (h : ∀ w, C w → o.quietAt P a C w v) (hn : Qw P ops C Q rest (a.put o.dst v)) : Qw P ops C Q (o :: rest) a := ⟨head_step_g hg h hn.out⟩
theorem qw_nil {a : Act} (h : Q a) : Qw P ops C Q [] a := ⟨wpQuiet_nil h⟩
variable {w0 a : World} {L : List (Nat × Array Value)} {id : Nat} {Q : Exit → Act → World → Prop} {t : Act} {l : List Oper}
theorem St.qregion (h : St w0 L a) (hm : P.follows .mixedOrders = true) (hB : Region.lexB .any l.toArray = true)
    (k : Qw P l.toArray (St w0 L) (fun a' => ∀ w', St w0 L w' → Q .normal a' w') l t) : (Code.region id l.toArray true).wp P Q t a := St.region h hm hB k.out
theorem St.qregion_tail (n : Nat) (h : St w0 L a) (hm : P.follows .mixedOrders = true) (hB : tailB l n = true)
    (k : Qw P (l.take n).toArray (St w0 L) (fun a' => ∀ w', St w0 L w' → wpList P l.toArray Q (l.drop n) a' w') (l.take n) t) : (Code.region id l.toArray true).wp P Q t a := St.region_tail n h hm hB k.out
end
end Go.Proofs.YtgaecjhghpkcoaaGreat
end
