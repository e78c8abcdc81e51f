/- The statement on GcmStreams: whatever it is given, it returns true, and what it was given reads as it read before. No condition. -/
import Derived.Test.YtklcgacbmphjcaaGcTx
import Derived.Test.YtklcgacbmphjcaaMGround
namespace Go.Proofs.Ytklcgacbmphjcaa
open Go.ChangeShapes Go.WideShapes Go.ChangeAt Go.RowKit

theorem gcmStreams_own : ownKnob Try.prog.godebug = none := by kernel_rfl

set_option maxRecDepth 100000 in
theorem gcmStreams_lifted (os : Os) (started : os.Started) (H : Type) (enc : TypeId × Value → H) :
    ReturnsInHanded {} Try.checked os 10 .any (Rows.gcmStreamsSpec.pre6 enc Try.prog Try.f10 Rows.gcmStreamsRow.domain false) (Rows.gcmStreamsSpec.post enc Try.prog Try.f10 false true false false) := by
  refine returnsInHanded_of_change (C := Try.checked) gcmStreams_own started (by kernel_rfl) Try.func10
    (ChangeSpec.witness6 (enc := enc) (C := Try.checked) false ⟨#[], #[.agg (blk 16 fun _ => 0), .agg #[.string ByteArray.empty, .string ByteArray.empty, .string ByteArray.empty], .int .u32 0], []⟩ 8 (by kernel_rfl) (by kernel_rfl) (by kernel_rfl) (by kernel_rfl)) ?_
  intro W base args ds gs before hval0 hW _ _
  have hval : ∀ (j : Nat) t v, Try.f10.params[j]? = some t → args[j]? = some v → Value.okWide Try.prog W .any base t v := hval0
  have hW' := hW
  obtain ⟨p, q, hA0, hV, rfl, _, _⟩ := hW
  have hA : DataW.TrodAll enc Try.prog W 0 (fun _ => true) true Try.f10.params.toList args.toList ds p := hA0
  rw [Try.params10] at hA hval
  obtain ⟨v0, vs0, d0, ds0, p0, q0, hargs, rfl, rfl, h0, r0⟩ := trodAll_cons hA
  obtain ⟨v1, vs1, d1, ds1, p1, q1, rfl, rfl, rfl, h1, r1⟩ := trodAll_cons r0
  obtain ⟨v2, vs2, d2, ds2, p2, q2, rfl, rfl, rfl, h2, r2⟩ := trodAll_cons r1
  obtain ⟨rfl, rfl, rfl⟩ := trodAll_nil r2
  obtain rfl : args = #[v0, v1, v2] := by cases args; simp_all
  obtain ⟨rfl, rfl⟩ := trodVars_none hV
  obtain ⟨x0, rfl⟩ := open_blk (m := 16) Try.underlying22 (by kernel_rfl) (fun _ _ _ h => bytes_array Try.underlying22 (by kernel_rfl) (fun _ _ _ h => bytes_one Try.underlying5 h) h) (hval 0 22 v0 rfl rfl) h0
  obtain ⟨y1, z1, u1, rfl⟩ := open_tx (hval 1 52 v1 rfl rfl) h1
  obtain ⟨m2, rfl, hm2⟩ := open_u32 Try.underlying64 (hval 2 64 v2 rfl rfl) h2
  refine (gcmStreams_walk x0 (y1, z1, u1) m2 hm2 W).mono fun e W' ⟨he, hg⟩ => ?_
  subst he
  exact ⟨_, rfl, law_post (tb := 4) (by kernel_rfl) (by decide +kernel) rfl hW' rfl hg rfl Try.underlying4⟩

theorem gcmStreams_proved : Rows.GcmStreamsSaid :=
  OpenClaim.holds_of_wide 10 Try.f10 rfl rfl rfl rfl rfl rfl rfl ⟨rfl, rfl, rfl, rfl, rfl⟩ rfl rfl rfl rfl rfl (by kernel_rfl) Try.func10 (by kernel_rfl)
    (of_decide_eq_true (by kernel_rfl)) (by unfold Func.isWrapper; first | (rw [if_pos (by decide +kernel)]; kernel_rfl) | (rw [if_neg (by decide +kernel)]; exact ⟨rfl, rfl⟩))
    (fun os started H enc _ => gcmStreams_lifted os started H enc)
#print axioms gcmStreams_proved
end Go.Proofs.Ytklcgacbmphjcaa
