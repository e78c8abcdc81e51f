/- The statement on GhashTells: whatever it is given, it returns true, and what it was given reads as it read before. No condition. -/
import Derived.Test.YtepooocdpifcfaaGhTells
import Derived.Test.YtepooocdpifcfaaLaw
namespace Go.Proofs.Ytepooocdpifcfaa
open Go.ChangeShapes Go.WideShapes Go.ChangeAt Go.RowKit

theorem ghashTells_own : ownKnob Try.prog.godebug = none := by kernel_rfl

set_option maxRecDepth 100000 in
theorem ghashTells_lifted (os : Os) (started : os.Started) (H : Type) (enc : TypeId × Value → H) :
    ReturnsInHanded {} Try.checked os 4 .any (Rows.ghashTellsSpec.pre6 enc Try.prog Try.f4 Rows.ghashTellsRow.domain false) (Rows.ghashTellsSpec.post enc Try.prog Try.f4 false true false false) := by
  refine returnsInHanded_of_change (C := Try.checked) ghashTells_own started (by kernel_rfl) Try.func4
    (ChangeSpec.witness6 (enc := enc) (C := Try.checked) false ⟨#[], #[.agg (blk 16 fun _ => 0), .agg #[.string ByteArray.empty, .string ByteArray.empty], .agg (blk 2 fun _ => 0)], []⟩ 8 (by kernel_rfl) (by kernel_rfl) (by kernel_rfl) (by kernel_rfl)) ?_
  intro W base args ds gs before hval0 hW _ _
  have hval : ∀ (j : Nat) t v, Try.f4.params[j]? = some t → args[j]? = some v → Value.okWide Try.prog W .any base t v := hval0
  have hW' := hW
  obtain ⟨p, q, hA0, hV, rfl, _, _⟩ := hW
  have hA : DataW.TrodAll enc Try.prog W 0 (fun _ => true) true Try.f4.params.toList args.toList ds p := hA0
  rw [Try.params4] at hA hval
  obtain ⟨v0, vs0, d0, ds0, p0, q0, hargs, rfl, rfl, h0, r0⟩ := trodAll_cons hA
  obtain ⟨v1, vs1, d1, ds1, p1, q1, rfl, rfl, rfl, h1, r1⟩ := trodAll_cons r0
  obtain ⟨v2, vs2, d2, ds2, p2, q2, rfl, rfl, rfl, h2, r2⟩ := trodAll_cons r1
  obtain ⟨rfl, rfl, rfl⟩ := trodAll_nil r2
  obtain rfl : args = #[v0, v1, v2] := by cases args; simp_all
  obtain ⟨rfl, rfl⟩ := trodVars_none hV
  obtain ⟨x0, rfl⟩ := open_blk (m := 16) Try.underlying22 (by kernel_rfl) (fun _ _ _ h => bytes_array Try.underlying22 (by kernel_rfl) (fun _ _ _ h => bytes_one Try.underlying5 h) h) (hval 0 22 v0 rfl rfl) h0
  obtain ⟨y1, z1, rfl⟩ := open_texts2 Try.underlying30 (by kernel_rfl) Try.underlying9 (by kernel_rfl) (hval 1 30 v1 rfl rfl) h1
  obtain ⟨x2, rfl⟩ := open_blk (m := 2) Try.underlying31 (by kernel_rfl) (fun _ _ _ h => bytes_array Try.underlying31 (by kernel_rfl) (fun _ _ _ h => bytes_one Try.underlying5 h) h) (hval 2 31 v2 rfl rfl) h2
  refine (ghashTells_walk x0 (y1, z1) x2 W).mono fun e W' ⟨he, hg⟩ => ?_
  subst he
  exact ⟨_, rfl, law_post (tb := 4) (by kernel_rfl) (by decide +kernel) rfl hW' rfl hg rfl Try.underlying4⟩

theorem ghashTells_proved : Rows.GhashTellsSaid :=
  OpenClaim.holds_of_wide 4 Try.f4 rfl rfl rfl rfl rfl rfl rfl ⟨rfl, rfl, rfl, rfl, rfl⟩ rfl rfl rfl rfl rfl (by kernel_rfl) Try.func4 (by kernel_rfl)
    (of_decide_eq_true (by kernel_rfl)) (by unfold Func.isWrapper; first | (rw [if_pos (by decide +kernel)]; kernel_rfl) | (rw [if_neg (by decide +kernel)]; exact ⟨rfl, rfl⟩))
    (fun os started H enc _ => ghashTells_lifted os started H enc)
#print axioms ghashTells_proved
end Go.Proofs.Ytepooocdpifcfaa
