/- The statement on EntryLooks: whatever it is given, it returns true, and what it was given reads as it read before. No condition. -/
import Derived.Test.YtinlcpenllfcpaaEnLooks
import Derived.Test.YtinlcpenllfcpaaEnOpen
import Derived.Test.YtinlcpenllfcpaaLaw
namespace Go.Proofs.Ytinlcpenllfcpaa
open Go.ChangeShapes Go.WideShapes Go.ChangeAt Go.RowKit

theorem entryLooks_own : ownKnob Try.prog.godebug = none := by kernel_rfl

set_option maxRecDepth 100000 in
theorem entryLooks_lifted (os : Os) (started : os.Started) (H : Type) (enc : TypeId × Value → H) :
    ReturnsInHanded {} Try.checked os 5 .any (Rows.entryLooksSpec.pre6 enc Try.prog Try.f5 Rows.entryLooksRow.domain false) (Rows.entryLooksSpec.post enc Try.prog Try.f5 false true false false) := by
  refine returnsInHanded_of_change (C := Try.checked) entryLooks_own started (by kernel_rfl) Try.func5
    (ChangeSpec.witness6 (enc := enc) (C := Try.checked) false ⟨#[], #[.agg #[.int .u8 0, .int .u64 0, .string ByteArray.empty, .slice none 0 0, .slice none 0 0], .agg #[.int .u8 0, .int .u64 0, .string ByteArray.empty, .slice none 0 0, .slice none 0 0], .string ByteArray.empty], []⟩ 8 (by kernel_rfl) (by kernel_rfl) (by kernel_rfl) (by kernel_rfl)) ?_
  intro W base args ds gs before hval0 hW _ _
  have hval : ∀ (j : Nat) t v, Try.f5.params[j]? = some t → args[j]? = some v → Value.okWide Try.prog W .any base t v := hval0
  have hW' := hW
  obtain ⟨p, q, hA0, hV, rfl, _, _⟩ := hW
  have hA : DataW.TrodAll enc Try.prog W 0 (fun _ => true) true Try.f5.params.toList args.toList ds p := hA0
  rw [Try.params5] at hA hval
  obtain ⟨v0, vs0, d0, ds0, p0, q0, hargs, rfl, rfl, h0, r0⟩ := trodAll_cons hA
  obtain ⟨v1, vs1, d1, ds1, p1, q1, rfl, rfl, rfl, h1, r1⟩ := trodAll_cons r0
  obtain ⟨v2, vs2, d2, ds2, p2, q2, rfl, rfl, rfl, h2, r2⟩ := trodAll_cons r1
  obtain ⟨rfl, rfl, rfl⟩ := trodAll_nil r2
  obtain rfl : args = #[v0, v1, v2] := by cases args; simp_all
  obtain ⟨rfl, rfl⟩ := trodVars_none hV
  obtain ⟨c0, n0, rfl, hn0⟩ := open_node (hval 0 26 v0 rfl rfl) h0
  obtain ⟨c1, n1, rfl, hn1⟩ := open_node (hval 1 26 v1 rfl rfl) h1
  obtain ⟨s2, rfl, _, _, _⟩ := ChangeMaps.open_string Try.underlying9 (hval 2 9 v2 rfl rfl) h2
  refine (entryLooks_walk n0 n1 c0 c1 s2 W hn0 hn1).mono fun e W' ⟨he, hg⟩ => ?_
  subst he
  exact ⟨_, rfl, law_post (tb := 4) (by kernel_rfl) (by decide +kernel) rfl hW' rfl hg rfl Try.underlying4⟩

theorem entryLooks_proved : Rows.EntryLooksSaid :=
  OpenClaim.holds_of_wide 5 Try.f5 rfl rfl rfl rfl rfl rfl rfl ⟨rfl, rfl, rfl, rfl, rfl⟩ rfl rfl rfl rfl rfl (by kernel_rfl) Try.func5 (by kernel_rfl)
    (of_decide_eq_true (by kernel_rfl)) (by unfold Func.isWrapper; first | (rw [if_pos (by decide +kernel)]; kernel_rfl) | (rw [if_neg (by decide +kernel)]; exact ⟨rfl, rfl⟩))
    (fun os started H enc _ => entryLooks_lifted os started H enc)
#print axioms entryLooks_proved
end Go.Proofs.Ytinlcpenllfcpaa
