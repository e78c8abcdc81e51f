/- What else is done with a barrier and its notes, each where it goes well. -/
import Derived.Test.YtgaecjhghpkcoaaGreatBaPlain
import Derived.Test.YtgaecjhghpkcoaaGreatBaFork
namespace Go.Proofs.YtgaecjhghpkcoaaGreat
open Go.RowKit

section
variable {id : Bool} {w0 w w' : World} {g : Nat} {b : Br} {q m : Nat} {N : Notes} {L L' : List (Nat × Array Value)}
theorem BarAt.pick (h : BarAt id w0 g b q m N L w) (is : List Nat) (hn : is.Nodup) (hL : is.filterMap (fun i => ((g, br b) :: (q, #[.map (some m)]) :: L)[i]?) = L') : St w0 L' w := h.st.pick is hn hL
theorem BarAt.join (h : BarAt id w0 g b q m N L w) (k : St w L' w') : BarAt id w0 g b q m N (L' ++ L) w' :=
  h.to ((h.st.join k).perm (List.perm_append_comm_assoc [_, _] L' L)) (Mk.call k.below (Mk.refl _)) rfl rfl rfl h.n6
theorem BarAt.sub (h : BarAt id w0 g b q m N L w) (hs : L'.Sublist L) : BarAt id w0 g b q m N L' w :=
  h.to (h.st.weaken (List.Nodup.sublist (((hs.cons_cons _).cons_cons _).map _) h.st.ne) fun _ hx => ((hs.cons_cons _).cons_cons _).subset hx) (Mk.refl _) rfl rfl rfl h.n6
variable (h : BarAt id w0 g b q m N L w)
include h
theorem put_yes (p t : ByteArray) (hp : p.size < 2 ^ 38) (ht : t.size < 2 ^ 38) (hE : takeE b = 0) : Calls Tryz.prog 23 #[.pointer (some ⟨g, 0, none⟩), .string p, .string t] w fun r w' => r = .returned (.tuple #[.string (putS id b p t), .int .i64 0]) ∧ BarAt id w0 g { b with c := b.c + 1 } q m (putM id b p t N) L w' ∧ Mo m w w' := by
  have k := put_bar id w0 w g b q m N L p t hp ht h
  have e1 : b.took = { b with c := b.c + 1 } := by unfold Br.took; rw [if_pos hE]
  rw [hE, e1] at k
  exact k
theorem ring_yes (hn : b.n ≠ 0) : Calls Tryz.prog 28 #[.pointer (some ⟨g, 0, none⟩)] w fun r w' => r = .returned (.agg (rg b.n b.f)) ∧ Below w.heap.size w w' := ring_open b h.md hn g w0 w _ h.st
theorem count_yes (hn : b.n ≠ 0) : Calls Tryz.prog 37 #[.pointer (some ⟨g, 0, none⟩)] w fun r w' => r = .returned (.agg (cn b.e b.c)) ∧ Below w.heap.size w w' := count_open b h.md hn g w0 w _ h.st
theorem turn_yes (n : Nat) (f : Nat → UInt8) (hn : b.n ≠ 0) (h0 : n ≠ 0) (h6 : n ≤ 6) : Calls Tryz.prog 18 #[.pointer (some ⟨g, 0, none⟩), .agg (rg n f)] w fun r w' => r = .returned (.int .i64 0) ∧ BarAt id w0 g { b with n := n, f := f } q m N L w' := by
  have hE : turnE b n = 0 := by unfold turnE; rw [if_neg hn, if_neg h0]
  have e1 : b.turned n f = { b with n := n, f := f } := by unfold Br.turned; rw [if_pos hE]
  have k := turn_sk b h.md n f g w w0 w _ h.st.sk
  rw [hE, e1] at k
  exact k.mono fun _ _ ⟨a, c⟩ => ⟨a, h.next c rfl rfl rfl h6⟩
theorem lock_yes (mk : Nat → UInt8) (hE : takeE b = 0) : Calls Tryz.prog 20 #[.pointer (some ⟨g, 0, none⟩), .agg (blk 16 mk)] w fun r w' => r = .returned (.tuple #[.string (headS 0 (nonceS b.e b.c) ++ sealedR mk b.n b.f b.e b.c), .int .i64 0]) ∧ BarAt id w0 g { b with c := b.c + 1 } q m N L w' := by
  have e1 : lockS b mk = headS 0 (nonceS b.e b.c) ++ sealedR mk b.n b.f b.e b.c := by unfold lockS; rw [if_pos hE]
  have e2 : b.took = { b with c := b.c + 1 } := by unfold Br.took; rw [if_pos hE]
  have k := lock_sk b h.md h.n6 mk g w w0 w _ h.st.sk
  rw [e1, e2, hE] at k
  exact k.mono fun _ _ ⟨a, c⟩ => ⟨a, h.next c rfl rfl rfl h.n6⟩
theorem seal_yes : Calls Tryz.prog 16 #[.pointer (some ⟨g, 0, none⟩)] w fun r w' => r = .returned (.tuple #[]) ∧ BarAt id w0 g b.shut q m N L w' :=
  (seal_sk b g w w0 w _ h.st.sk).mono fun _ _ ⟨a, c⟩ => ⟨a, h.next c rfl rfl rfl (Nat.zero_le _)⟩
theorem open_good (n : Nat) (f : Nat → UInt8) (e c : Nat) (hn : b.n = 0) (h0 : n ≠ 0) (h6 : n ≤ 6) (hk : mayC e c) : Calls Tryz.prog 14 #[.pointer (some ⟨g, 0, none⟩), .agg (rg n f), .agg (cn e c)] w fun r w' => r = .returned (.int .i64 0) ∧ BarAt id w0 g { b with n := n, f := f, e := e, c := c } q m N L w' := by
  have hE : openE b n e c = 0 := by unfold openE; rw [if_neg (fun k => k hn), if_neg (fun k => k.elim h0 fun k => k hk)]
  have e1 : b.opened n f e c = { b with n := n, f := f, e := e, c := c } := by unfold Br.opened; rw [if_pos hE]
  have k := open_sk b h.md n f e c g w w0 w _ h.st.sk
  rw [hE, e1] at k
  exact k.mono fun _ _ ⟨a, c⟩ => ⟨a, h.next c rfl rfl rfl h6⟩
omit h
theorem new_bar (id : Bool) (p : Value) (w0 w : World) (q m : Nat) (N : Notes) (L : List (Nat × Array Value)) (hp : id = true → p = .pointer (some ⟨q, 0, none⟩)) (hC : St w0 ((q, #[.map (some m)]) :: L) w) (hM : Mp encN w m N) (h0 : w0.heap.size ≤ m) (hsz : ∀ k x, findN k N = some x → x.2.size < 2 ^ 38) :
    Calls Tryz.prog 9 #[.int .u8 ((kdOf id : Nat) : Int), p] w fun r w' => ∃ g, r = .returned (.tuple #[.pointer (some ⟨g, 0, none⟩), .int .i64 0]) ∧ BarAt id w0 g (Br.fresh (kdOf id) (ntOf id q)) q m N L w' := by
  have hN : BarMakes (kdOf id) p (ntOf id q) w w0 ((q, #[.map (some m)]) :: L) := by
    cases id
    · exact barMakes_real p w w0 _
    · rw [hp rfl]; exact barMakes_ideal q m w w0 _ (.head _)
  refine (hN w [] hC.sk).mono ?_
  rintro r w' ⟨g, rfl, hs⟩
  exact ⟨g, rfl, ⟨hs.toSt, hM.mk _ hs.kept, rfl, rfl, rfl, Nat.zero_le _, h0, hsz⟩⟩
end
theorem takeE_yes (b : Br) (hn : b.n ≠ 0) (hk : mayC b.e b.c) (hc : b.c ≠ 281474976710656) : takeE b = 0 := by
  unfold takeE; rw [if_neg hn, if_neg (fun k => k hk), if_neg hc]
end Go.Proofs.YtgaecjhghpkcoaaGreat
