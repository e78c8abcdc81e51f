/- The statement on GcmTells: whatever it is given, it returns true, and what it was given reads as it read before. No condition. -/
import Derived.Test.YtklcgacbmphjcaaGcTells
import Derived.Test.YtklcgacbmphjcaaGcTx
import Derived.Test.YtklcgacbmphjcaaMGround
namespace Go.Proofs.Ytklcgacbmphjcaa
open Go.ChangeShapes Go.WideShapes Go.ChangeAt Go.RowKit

theorem gcmTells_own : ownKnob Try.prog.godebug = none := by kernel_rfl

set_option maxRecDepth 100000 in
theorem gcmTells_lifted (os : Os) (started : os.Started) (H : Type) (enc : TypeId × Value → H) :
    ReturnsInHanded {} Try.checked os 8 .any (Rows.gcmTellsSpec.pre6 enc Try.prog Try.f8 Rows.gcmTellsRow.domain false) (Rows.gcmTellsSpec.post enc Try.prog Try.f8 false true false false) := by
  refine returnsInHanded_of_change (C := Try.checked) gcmTells_own started (by kernel_rfl) Try.func8
    (ChangeSpec.witness6 (enc := enc) (C := Try.checked) false ⟨#[], #[.agg (blk 16 fun _ => 0), .agg #[.string ByteArray.empty, .string ByteArray.empty, .string ByteArray.empty], .agg (blk 2 fun _ => 0)], []⟩ 8 (by kernel_rfl) (by kernel_rfl) (by kernel_rfl) (by kernel_rfl)) ?_
  intro W base args ds gs before hval0 hW _ _
  have hval : ∀ (j : Nat) t v, Try.f8.params[j]? = some t → args[j]? = some v → Value.okWide Try.prog W .any base t v := hval0
  have hW' := hW
  obtain ⟨p, q, hA0, hV, rfl, _, _⟩ := hW
  have hA : DataW.TrodAll enc Try.prog W 0 (fun _ => true) true Try.f8.params.toList args.toList ds p := hA0
  rw [Try.params8] at hA hval
  obtain ⟨v0, vs0, d0, ds0, p0, q0, hargs, rfl, rfl, h0, r0⟩ := trodAll_cons hA
  obtain ⟨v1, vs1, d1, ds1, p1, q1, rfl, rfl, rfl, h1, r1⟩ := trodAll_cons r0
  obtain ⟨v2, vs2, d2, ds2, p2, q2, rfl, rfl, rfl, h2, r2⟩ := trodAll_cons r1
  obtain ⟨rfl, rfl, rfl⟩ := trodAll_nil r2
  obtain rfl : args = #[v0, v1, v2] := by cases args; simp_all
  obtain ⟨rfl, rfl⟩ := trodVars_none hV
  obtain ⟨x0, rfl⟩ := open_blk (m := 16) Try.underlying22 (by kernel_rfl) (fun _ _ _ h => bytes_array Try.underlying22 (by kernel_rfl) (fun _ _ _ h => bytes_one Try.underlying5 h) h) (hval 0 22 v0 rfl rfl) h0
  obtain ⟨y1, z1, u1, rfl⟩ := open_tx (hval 1 52 v1 rfl rfl) h1
  obtain ⟨x2, rfl⟩ := open_blk (m := 2) Try.underlying60 (by kernel_rfl) (fun _ _ _ h => bytes_array Try.underlying60 (by kernel_rfl) (fun _ _ _ h => bytes_one Try.underlying5 h) h) (hval 2 60 v2 rfl rfl) h2
  refine (gcmTells_walk x0 (y1, z1, u1) x2 W).mono fun e W' ⟨he, hg⟩ => ?_
  subst he
  exact ⟨_, rfl, law_post (tb := 4) (by kernel_rfl) (by decide +kernel) rfl hW' rfl hg rfl Try.underlying4⟩

theorem gcmTells_proved : Rows.GcmTellsSaid :=
  OpenClaim.holds_of_wide 8 Try.f8 rfl rfl rfl rfl rfl rfl rfl ⟨rfl, rfl, rfl, rfl, rfl⟩ rfl rfl rfl rfl rfl (by kernel_rfl) Try.func8 (by kernel_rfl)
    (of_decide_eq_true (by kernel_rfl)) (by unfold Func.isWrapper; first | (rw [if_pos (by decide +kernel)]; kernel_rfl) | (rw [if_neg (by decide +kernel)]; exact ⟨rfl, rfl⟩))
    (fun os started H enc _ => gcmTells_lifted os started H enc)
#print axioms gcmTells_proved
end Go.Proofs.Ytklcgacbmphjcaa
