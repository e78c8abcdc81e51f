/- The statement on BarrierTells: whatever it is given, it returns true, and what it was given reads as it read before. No condition. -/
import Derived.Test.YtgaecjhghpkcoaaBaTells
import Derived.Test.YtgaecjhghpkcoaaOpOpen
import Derived.Test.YtgaecjhghpkcoaaLaw
namespace Go.Proofs.Ytgaecjhghpkcoaa
open Go.ChangeShapes Go.WideShapes Go.ChangeAt Go.RowKit

theorem barrierTells_own : ownKnob Try.prog.godebug = none := by kernel_rfl

set_option maxRecDepth 100000 in
theorem barrierTells_lifted (os : Os) (started : os.Started) (H : Type) (enc : TypeId × Value → H) :
    ReturnsInHanded {} Try.checked os 6 .any (Rows.barrierTellsSpec.pre6 enc Try.prog Try.f6 Rows.barrierTellsRow.domain false) (Rows.barrierTellsSpec.post enc Try.prog Try.f6 false true false false) := by
  refine returnsInHanded_of_change (C := Try.checked) barrierTells_own started (by kernel_rfl) Try.func6
    (ChangeSpec.witness6 (enc := enc) (C := Try.checked) false ⟨#[], #[.agg (opC ⟨0, ⟨#[]⟩, ⟨#[]⟩, 0, 0, 0⟩), .agg (blk 16 fun _ => 0), .agg (blk 2 fun _ => 0)], []⟩ 8 (by kernel_rfl) (by kernel_rfl) (by kernel_rfl) (by kernel_rfl)) ?_
  intro W base args ds gs before hval0 hW _ _
  have hval : ∀ (j : Nat) t v, Try.f6.params[j]? = some t → args[j]? = some v → Value.okWide Try.prog W .any base t v := hval0
  have hW' := hW
  obtain ⟨p, q, hA0, hV, rfl, _, _⟩ := hW
  have hA : DataW.TrodAll enc Try.prog W 0 (fun _ => true) true Try.f6.params.toList args.toList ds p := hA0
  rw [Try.params6] at hA hval
  obtain ⟨v0, vs0, d0, ds0, p0, q0, hargs, rfl, rfl, h0, r0⟩ := trodAll_cons hA
  obtain ⟨v1, vs1, d1, ds1, p1, q1, rfl, rfl, rfl, h1, r1⟩ := trodAll_cons r0
  obtain ⟨v2, vs2, d2, ds2, p2, q2, rfl, rfl, rfl, h2, r2⟩ := trodAll_cons r1
  obtain ⟨rfl, rfl, rfl⟩ := trodAll_nil r2
  obtain rfl : args = #[v0, v1, v2] := by cases args; simp_all
  obtain ⟨rfl, rfl⟩ := trodVars_none hV
  obtain ⟨x0, rfl, _, _⟩ := open_op (hval 0 55 v0 rfl rfl) h0
  obtain ⟨x1, rfl⟩ := open_blk (m := 16) Try.underlying22 (by kernel_rfl) (fun _ _ _ h => bytes_array Try.underlying22 (by kernel_rfl) (fun _ _ _ h => bytes_one Try.underlying5 h) h) (hval 1 22 v1 rfl rfl) h1
  obtain ⟨x2, rfl⟩ := open_blk (m := 2) Try.underlying56 (by kernel_rfl) (fun _ _ _ h => bytes_array Try.underlying56 (by kernel_rfl) (fun _ _ _ h => bytes_one Try.underlying5 h) h) (hval 2 56 v2 rfl rfl) h2
  refine (barrierTells_walk x0 x1 x2 W).mono fun e W' ⟨he, hg⟩ => ?_
  subst he
  exact ⟨_, rfl, law_post (tb := 4) (by kernel_rfl) (by decide +kernel) rfl hW' rfl hg rfl Try.underlying4⟩

theorem barrierTells_proved : Rows.BarrierTellsSaid :=
  OpenClaim.holds_of_wide 6 Try.f6 rfl rfl rfl rfl rfl rfl rfl ⟨rfl, rfl, rfl, rfl, rfl⟩ rfl rfl rfl rfl rfl (by kernel_rfl) Try.func6 (by kernel_rfl)
    (of_decide_eq_true (by kernel_rfl)) (by unfold Func.isWrapper; first | (rw [if_pos (by decide +kernel)]; kernel_rfl) | (rw [if_neg (by decide +kernel)]; exact ⟨rfl, rfl⟩))
    (fun os started H enc _ => barrierTells_lifted os started H enc)
#print axioms barrierTells_proved
end Go.Proofs.Ytgaecjhghpkcoaa
