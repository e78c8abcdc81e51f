/- The statement on BarrierDoes: whatever it is given, it returns true, and what it was given reads as it read before. No condition. -/
import Derived.Test.YtgaecjhghpkcoaaGreatBaDoes
import Derived.Test.YtgaecjhghpkcoaaGreatOpOpen
import Derived.Test.YtgaecjhghpkcoaaGreatLaw
namespace Go.Proofs.YtgaecjhghpkcoaaGreat
open Go.ChangeShapes Go.WideShapes Go.ChangeAt Go.RowKit

theorem barrierDoes_own : ownKnob Tryz.prog.godebug = none := by kernel_rfl

set_option maxRecDepth 100000 in
theorem barrierDoes_lifted (os : Os) (started : os.Started) (H : Type) (enc : TypeId × Value → H) :
    ReturnsInHanded {} Tryz.checked os 3 .any (Rows.barrierDoesSpec.pre6 enc Tryz.prog Tryz.f3 Rows.barrierDoesRow.domain false) (Rows.barrierDoesSpec.post enc Tryz.prog Tryz.f3 false true false false) := by
  refine returnsInHanded_of_change (C := Tryz.checked) barrierDoes_own started (by kernel_rfl) Tryz.func3
    (ChangeSpec.witness6 (enc := enc) (C := Tryz.checked) false ⟨#[], #[.bool false, .agg (blk 16 fun _ => 0), .slice none 0 0], []⟩ 8 (by kernel_rfl) (by kernel_rfl) (by kernel_rfl) (by kernel_rfl)) ?_
  intro W base args ds gs before hval0 hW _ _
  have hval : ∀ (j : Nat) t v, Tryz.f3.params[j]? = some t → args[j]? = some v → Value.okWide Tryz.prog W .any base t v := hval0
  have hW' := hW
  obtain ⟨p, q, hA0, hV, rfl, _, _⟩ := hW
  have hA : DataW.TrodAll enc Tryz.prog W 0 (fun _ => true) true Tryz.f3.params.toList args.toList ds p := hA0
  rw [Tryz.params3] at hA hval
  obtain ⟨v0, vs0, d0, ds0, p0, q0, hargs, rfl, rfl, h0, r0⟩ := trodAll_cons hA
  obtain ⟨v1, vs1, d1, ds1, p1, q1, rfl, rfl, rfl, h1, r1⟩ := trodAll_cons r0
  obtain ⟨v2, vs2, d2, ds2, p2, q2, rfl, rfl, rfl, h2, r2⟩ := trodAll_cons r1
  obtain ⟨rfl, rfl, rfl⟩ := trodAll_nil r2
  obtain rfl : args = #[v0, v1, v2] := by cases args; simp_all
  obtain ⟨rfl, rfl⟩ := trodVars_none hV
  obtain ⟨x0, rfl, _⟩ := open_bool Tryz.underlying4 (hval 0 4 v0 rfl rfl) h0
  obtain ⟨x1, rfl⟩ := open_blk (m := 16) Tryz.underlying22 (by kernel_rfl) (fun _ _ _ h => bytes_array Tryz.underlying22 (by kernel_rfl) (fun _ _ _ h => bytes_one Tryz.underlying5 h) h) (hval 1 22 v1 rfl rfl) h1
  obtain ⟨M0, o0, _, ho0, _⟩ := open_ops (hval 2 23 v2 rfl rfl) h2
  refine (barrierDoes_walk v2 M0 o0 x1 x0 W ho0).mono fun e W' ⟨he, hg⟩ => ?_
  subst he
  exact ⟨_, rfl, law_post (tb := 4) (by kernel_rfl) (by decide +kernel) rfl hW' rfl hg rfl Tryz.underlying4⟩

theorem barrierDoes_proved : Rows.BarrierDoesSaid :=
  OpenClaim.holds_of_wide 3 Tryz.f3 rfl rfl rfl rfl rfl rfl rfl ⟨rfl, rfl, rfl, rfl, rfl⟩ rfl rfl rfl rfl rfl (by kernel_rfl) Tryz.func3 (by kernel_rfl)
    (of_decide_eq_true (by kernel_rfl)) (by unfold Func.isWrapper; first | (rw [if_pos (by decide +kernel)]; kernel_rfl) | (rw [if_neg (by decide +kernel)]; exact ⟨rfl, rfl⟩))
    (fun os started H enc _ => barrierDoes_lifted os started H enc)
#print axioms barrierDoes_proved
end Go.Proofs.YtgaecjhghpkcoaaGreat
