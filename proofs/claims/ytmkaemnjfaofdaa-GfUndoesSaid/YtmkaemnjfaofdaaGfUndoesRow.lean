/- The statement on GfUndoes: whatever it is given, it returns true, and what it was given reads as it read before. No condition. -/
import Derived.Test.YtmkaemnjfaofdaaGfUndoes
import Derived.Test.YtmkaemnjfaofdaaLaw
namespace Go.Proofs.Ytmkaemnjfaofdaa
open Go.ChangeShapes Go.WideShapes Go.ChangeAt Go.RowKit

theorem gfUndoes_own : ownKnob Try.prog.godebug = none := by kernel_rfl

set_option maxRecDepth 100000 in
theorem gfUndoes_lifted (os : Os) (started : os.Started) (H : Type) (enc : TypeId × Value → H) :
    ReturnsInHanded {} Try.checked os 7 .any (Rows.gfUndoesSpec.pre6 enc Try.prog Try.f7 Rows.gfUndoesRow.domain false) (Rows.gfUndoesSpec.post enc Try.prog Try.f7 false true false false) := by
  refine returnsInHanded_of_change (C := Try.checked) gfUndoes_own started (by kernel_rfl) Try.func7
    (ChangeSpec.witness6 (enc := enc) (C := Try.checked) false ⟨#[], #[.agg (blk 2 fun _ => 0), .agg (blk 8 fun _ => 0)], []⟩ 8 (by kernel_rfl) (by kernel_rfl) (by kernel_rfl) (by kernel_rfl)) ?_
  intro W base args ds gs before hval0 hW _ _
  have hval : ∀ (j : Nat) t v, Try.f7.params[j]? = some t → args[j]? = some v → Value.okWide Try.prog W .any base t v := hval0
  have hW' := hW
  obtain ⟨p, q, hA0, hV, rfl, _, _⟩ := hW
  have hA : DataW.TrodAll enc Try.prog W 0 (fun _ => true) true Try.f7.params.toList args.toList ds p := hA0
  rw [Try.params7] at hA hval
  obtain ⟨v0, vs0, d0, ds0, p0, q0, hargs, rfl, rfl, h0, r0⟩ := trodAll_cons hA
  obtain ⟨v1, vs1, d1, ds1, p1, q1, rfl, rfl, rfl, h1, r1⟩ := trodAll_cons r0
  obtain ⟨rfl, rfl, rfl⟩ := trodAll_nil r1
  obtain rfl : args = #[v0, v1] := by cases args; simp_all
  obtain ⟨rfl, rfl⟩ := trodVars_none hV
  obtain ⟨x0, rfl⟩ := open_blk (m := 2) Try.underlying35 (by kernel_rfl) (fun _ _ _ h => bytes_array Try.underlying35 (by kernel_rfl) (fun _ _ _ h => bytes_one Try.underlying5 h) h) (hval 0 35 v0 rfl rfl) h0
  obtain ⟨x1, rfl⟩ := open_blk (m := 8) Try.underlying36 (by kernel_rfl) (fun _ _ _ h => bytes_array Try.underlying36 (by kernel_rfl) (fun _ _ _ h => bytes_array Try.underlying29 (by kernel_rfl) (fun _ _ _ h => bytes_one Try.underlying5 h) h) h) (hval 1 36 v1 rfl rfl) h1
  refine (gfUndoes_walk x0 x1 W).mono fun e W' ⟨he, hg⟩ => ?_
  subst he
  exact ⟨_, rfl, law_post (tb := 4) (by kernel_rfl) (by decide +kernel) rfl hW' rfl hg rfl Try.underlying4⟩

theorem gfUndoes_proved : Rows.GfUndoesSaid :=
  OpenClaim.holds_of_wide 7 Try.f7 rfl rfl rfl rfl rfl rfl rfl ⟨rfl, rfl, rfl, rfl, rfl⟩ rfl rfl rfl rfl rfl (by kernel_rfl) Try.func7 (by kernel_rfl)
    (of_decide_eq_true (by kernel_rfl)) (by unfold Func.isWrapper; first | (rw [if_pos (by decide +kernel)]; kernel_rfl) | (rw [if_neg (by decide +kernel)]; exact ⟨rfl, rfl⟩))
    (fun os started H enc _ => gfUndoes_lifted os started H enc)
#print axioms gfUndoes_proved
end Go.Proofs.Ytmkaemnjfaofdaa
