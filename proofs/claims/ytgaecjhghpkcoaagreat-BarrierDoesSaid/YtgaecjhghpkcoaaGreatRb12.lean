/- What is done with a barrier and with the document's, each in one word: Open, Turn, Lock, Fork. -/
import Derived.Test.YtgaecjhghpkcoaaGreatRb11
namespace Go.Proofs.YtgaecjhghpkcoaaGreat
open Go.RowKit

theorem opened_same (b : Br) (n : Nat) (f : Nat → UInt8) (e c : Nat) (h6 : n ≤ 6) (hb : b.n ≤ 6) : (b.opened n f e c).md = b.md ∧ (b.opened n f e c).kd = b.kd ∧ (b.opened n f e c).nt = b.nt ∧ (b.opened n f e c).n ≤ 6 := by
  unfold Br.opened; split
  · exact ⟨rfl, rfl, rfl, h6⟩
  · exact ⟨rfl, rfl, rfl, hb⟩
theorem turned_same (b : Br) (n : Nat) (f : Nat → UInt8) (h6 : n ≤ 6) (hb : b.n ≤ 6) : (b.turned n f).md = b.md ∧ (b.turned n f).kd = b.kd ∧ (b.turned n f).nt = b.nt ∧ (b.turned n f).n ≤ 6 := by
  unfold Br.turned; split
  · exact ⟨rfl, rfl, rfl, h6⟩
  · exact ⟨rfl, rfl, rfl, hb⟩
section
variable {id : Bool} {w0 w : World} {g : Nat} {b : Br} {q m : Nat} {N : Notes} {L : List (Nat × Array Value)}
variable (h : BarAt id w0 g b q m N L w)
include h
theorem open_bar (n : Nat) (f : Nat → UInt8) (e c : Nat) (h6 : n ≤ 6) : Calls Tryz.prog 14 #[.pointer (some ⟨g, 0, none⟩), .agg (rg n f), .agg (cn e c)] w fun r w' => r = .returned (.int .i64 ((openE b n e c : Nat) : Int)) ∧ BarAt id w0 g (b.opened n f e c) q m N L w' := by
  obtain ⟨a1, a2, a3, a4⟩ := opened_same b n f e c h6 h.n6
  exact (open_sk b h.md n f e c g w w0 w _ h.st.sk).mono fun _ _ ⟨a, k⟩ => ⟨a, h.next k a1 a2 a3 a4⟩
theorem turn_bar (n : Nat) (f : Nat → UInt8) (h6 : n ≤ 6) : Calls Tryz.prog 18 #[.pointer (some ⟨g, 0, none⟩), .agg (rg n f)] w fun r w' => r = .returned (.int .i64 ((turnE b n : Nat) : Int)) ∧ BarAt id w0 g (b.turned n f) q m N L w' := by
  obtain ⟨a1, a2, a3, a4⟩ := turned_same b n f h6 h.n6
  exact (turn_sk b h.md n f g w w0 w _ h.st.sk).mono fun _ _ ⟨a, k⟩ => ⟨a, h.next k a1 a2 a3 a4⟩
theorem lock_bar (mk : Nat → UInt8) : Calls Tryz.prog 20 #[.pointer (some ⟨g, 0, none⟩), .agg (blk 16 mk)] w fun r w' => r = .returned (.tuple #[.string (lockS b mk), .int .i64 ((takeE b : Nat) : Int)]) ∧ BarAt id w0 g b.took q m N L w' := by
  obtain ⟨a1, a2, a3, a4, _⟩ := took_same b
  exact (lock_sk b h.md h.n6 mk g w w0 w _ h.st.sk).mono fun _ _ ⟨a, k⟩ => ⟨a, h.next k a1 a2 a3 (by rw [a4]; exact h.n6)⟩
theorem fork_bar : Calls Tryz.prog 22 #[.pointer (some ⟨g, 0, none⟩)] w fun r w' => ∃ g', r = .returned (.pointer (some ⟨g', 0, none⟩)) ∧ BarAt id w0 g' b q m N ((g, br b) :: L) w' := by
  have hn : b.nt.oneCell' = true := by rw [h.nt]; unfold ntOf; split <;> rfl
  refine (fork_any b h.md hn g w w0 w _ h.st.sk).mono ?_
  rintro r w' ⟨g', rfl, k⟩
  exact ⟨g', rfl, ⟨k.toSt.perm ((List.Perm.swap _ _ _).cons _), h.mp.mk _ k.kept, h.md, h.kd, h.nt, h.n6, h.m0, h.sz⟩⟩
end
section
variable {id : Bool} {w0 w : World} {b : Br} {N : Notes} {r : Rb} {nl : List (ByteArray × ByteArray × ByteArray)} {L : List (Nat × Array Value)}
theorem twin_open (h : Twin id b N r nl L) (a : Option Addr) (n k e c : Nat) (w : World) : Calls Tryz.prog 15 #[.agg (rbC r), .slice a n k, .agg (cn e c)] w fun x w' => x = .returned (.tuple #[.agg (rbC (r.opened a n k e c)), .int .i64 ((openE b n e c : Nat) : Int)]) ∧ Below w.heap.size w w' := by
  have k := refOpen21 r a n k e c (by rw [h.kn]; have := h.n6; omega) w
  rw [h.openE] at k
  exact k
theorem twin_turn (h : Twin id b N r nl L) (a : Option Addr) (n k : Nat) (w : World) : Calls Tryz.prog 19 #[.agg (rbC r), .slice a n k] w fun x w' => x = .returned (.tuple #[.agg (rbC (r.turned a n k)), .int .i64 ((turnE b n : Nat) : Int)]) ∧ Below w.heap.size w w' := by
  have k := refTurn21 r a n k w
  rw [h.turnE] at k
  exact k
end
end Go.Proofs.YtgaecjhghpkcoaaGreat
