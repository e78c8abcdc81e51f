/-
  No cell of these rows narrows 'for every input' (looked for: loops, veiled, ifaces, maps, wideKeys, modest, calm, conditions, laid).
  DERIVED. THE GIVEN ROWS OF THIS SEAT. 5 by the template 'for every input the law returns true; each argument reads behind the call as it read before'; 0 by the template 'total and deterministic' (their statements: YtmkaemnjfaofdaaTotals.lean).
  GIVEN WITH THE SEED: the statements are not yours to turn. If you find one false, say at which input.
  Laid BY PROGRAM, IN A SANDBOX (cutbox-rows.mjs): the forced cells as the released guide's own fill.sh prints them over the translation fd14494c444a4073… (all of the seat's roots in one cut). By AI agents, Wed Nov 11 2026. No macro, syntax, notation, axiom, sorry.
-/
import Derived.Test.YtmkaemnjfaofdaaChecked
import GoSem.Claim
import GoSem.ClaimJoined
import GoSem.ClaimMapViews
import Derived.JoinedTies
import Derived.KernelRfl
namespace Go.Proofs.Ytmkaemnjfaofdaa
/- THE CELL 'sum', in the pinned program and in every row, IS THE sha256 OF THE DUMP (.gsa) THAT YtmkaemnjfaofdaaProg.lean LOADS. Nothing in Lean hashes anything: it is a label: what it is worth is what the hold of that sum in a sandbox is worth. -/
noncomputable def Try.pinned : Pinned := { name := "ytmkaemnjfaofdaa", sum := "fd14494c444a4073207ff1f148ef4696b9bd5ab849f4c584ff97185ccaf72be9", checked := Try.checked }
namespace Rows
def none {H : Type} : Left H := { results := [], args := [] }

/-- 'padlocklaw06.GfMuls': WHATEVER THE INPUT: true; the input reads as it did. -/
def gfMulsSpec : ChangeSpec := { name := "gfMuls", fn := fun _ => fun
  | [d1, d2, d3] => { results := [.lit (.bool true)], args := [d1, d2, d3] }
  | _ => none }
def gfMulsRow : OpenClaim := { program := "ytmkaemnjfaofdaa", sum := "fd14494c444a4073207ff1f148ef4696b9bd5ab849f4c584ff97185ccaf72be9", func := "padlock/padlocklaw06.GfMuls", spec := "gfMuls", apart := false }
def GfMulsSaid : Prop := gfMulsRow.holds Try.pinned (OpenSpec.ofChange gfMulsSpec)

/-- ITS FALSE NEIGHBOUR: 'it returns false'. Refute it at one input. -/
def gfMulsWrong : ChangeSpec := { name := "gfMuls", fn := fun _ => fun
  | [d1, d2, d3] => { results := [.lit (.bool false)], args := [d1, d2, d3] }
  | _ => none }
def GfMulsWrongFalsely : Prop := gfMulsRow.holds Try.pinned (OpenSpec.ofChange gfMulsWrong)

/-- 'padlocklaw06.GfBoxes': WHATEVER THE INPUT: true; the input reads as it did. -/
def gfBoxesSpec : ChangeSpec := { name := "gfBoxes", fn := fun _ => fun
  | [d1, d2] => { results := [.lit (.bool true)], args := [d1, d2] }
  | _ => none }
def gfBoxesRow : OpenClaim := { program := "ytmkaemnjfaofdaa", sum := "fd14494c444a4073207ff1f148ef4696b9bd5ab849f4c584ff97185ccaf72be9", func := "padlock/padlocklaw06.GfBoxes", spec := "gfBoxes", apart := false }
def GfBoxesSaid : Prop := gfBoxesRow.holds Try.pinned (OpenSpec.ofChange gfBoxesSpec)

/-- ITS FALSE NEIGHBOUR: 'it returns false'. Refute it at one input. -/
def gfBoxesWrong : ChangeSpec := { name := "gfBoxes", fn := fun _ => fun
  | [d1, d2] => { results := [.lit (.bool false)], args := [d1, d2] }
  | _ => none }
def GfBoxesWrongFalsely : Prop := gfBoxesRow.holds Try.pinned (OpenSpec.ofChange gfBoxesWrong)

/-- 'padlocklaw06.GfField': WHATEVER THE INPUT: true; the input reads as it did. -/
def gfFieldSpec : ChangeSpec := { name := "gfField", fn := fun _ => fun
  | [d1, d2, d3] => { results := [.lit (.bool true)], args := [d1, d2, d3] }
  | _ => none }
def gfFieldRow : OpenClaim := { program := "ytmkaemnjfaofdaa", sum := "fd14494c444a4073207ff1f148ef4696b9bd5ab849f4c584ff97185ccaf72be9", func := "padlock/padlocklaw06.GfField", spec := "gfField", apart := false }
def GfFieldSaid : Prop := gfFieldRow.holds Try.pinned (OpenSpec.ofChange gfFieldSpec)

/-- ITS FALSE NEIGHBOUR: 'it returns false'. Refute it at one input. -/
def gfFieldWrong : ChangeSpec := { name := "gfField", fn := fun _ => fun
  | [d1, d2, d3] => { results := [.lit (.bool false)], args := [d1, d2, d3] }
  | _ => none }
def GfFieldWrongFalsely : Prop := gfFieldRow.holds Try.pinned (OpenSpec.ofChange gfFieldWrong)

/-- 'padlocklaw06.GfInverses': WHATEVER THE INPUT: true; the input reads as it did. -/
def gfInversesSpec : ChangeSpec := { name := "gfInverses", fn := fun _ => fun
  | [d1, d2, d3] => { results := [.lit (.bool true)], args := [d1, d2, d3] }
  | _ => none }
def gfInversesRow : OpenClaim := { program := "ytmkaemnjfaofdaa", sum := "fd14494c444a4073207ff1f148ef4696b9bd5ab849f4c584ff97185ccaf72be9", func := "padlock/padlocklaw06.GfInverses", spec := "gfInverses", apart := false }
def GfInversesSaid : Prop := gfInversesRow.holds Try.pinned (OpenSpec.ofChange gfInversesSpec)

/-- ITS FALSE NEIGHBOUR: 'it returns false'. Refute it at one input. -/
def gfInversesWrong : ChangeSpec := { name := "gfInverses", fn := fun _ => fun
  | [d1, d2, d3] => { results := [.lit (.bool false)], args := [d1, d2, d3] }
  | _ => none }
def GfInversesWrongFalsely : Prop := gfInversesRow.holds Try.pinned (OpenSpec.ofChange gfInversesWrong)

/-- 'padlocklaw06.GfUndoes': WHATEVER THE INPUT: true; the input reads as it did. -/
def gfUndoesSpec : ChangeSpec := { name := "gfUndoes", fn := fun _ => fun
  | [d1, d2] => { results := [.lit (.bool true)], args := [d1, d2] }
  | _ => none }
def gfUndoesRow : OpenClaim := { program := "ytmkaemnjfaofdaa", sum := "fd14494c444a4073207ff1f148ef4696b9bd5ab849f4c584ff97185ccaf72be9", func := "padlock/padlocklaw06.GfUndoes", spec := "gfUndoes", apart := false }
def GfUndoesSaid : Prop := gfUndoesRow.holds Try.pinned (OpenSpec.ofChange gfUndoesSpec)

/-- ITS FALSE NEIGHBOUR: 'it returns false'. Refute it at one input. -/
def gfUndoesWrong : ChangeSpec := { name := "gfUndoes", fn := fun _ => fun
  | [d1, d2] => { results := [.lit (.bool false)], args := [d1, d2] }
  | _ => none }
def GfUndoesWrongFalsely : Prop := gfUndoesRow.holds Try.pinned (OpenSpec.ofChange gfUndoesWrong)

/- THE SECOND FORM. 'bulk': how many values and letters a reading holds, each counted each time it is reached (what is shared counts as often as it is met; a slice's spare places count too). A statement '..UptoSaid' is the law's where the arguments, and the package variables that the reading takes, are together of bulk at most 1048576: NARROWER than '..Said'. Prove '..Said' where nothing that the law and all that it calls make is longer than what came in: it says more and counts as full. Else prove '..UptoSaid'. A law counts once. -/
mutual
def uptoBulk {H : Type} : DataW H → Nat
  | .lit (.string bytes) => bytes.length + 1
  | .lit _ => 1
  | .nil => 1
  | .ptr d => uptoBulk d + 1
  | .slice elems spare => uptoBulkAll elems + uptoBulkAll spare + 1
  | .agg parts => uptoBulkAll parts + 1
  | .iface _ d => uptoBulk d + 1
  | .map entries => uptoBulkEntries entries + 1
  | .held _ => 1
def uptoBulkAll {H : Type} : List (DataW H) → Nat
  | [] => 0
  | d :: r => uptoBulk d + uptoBulkAll r
def uptoBulkEntries {H : Type} : List (Lit × DataW H) → Nat
  | [] => 0
  | x :: r => uptoBulkEntry x + uptoBulkEntries r
def uptoBulkEntry {H : Type} : Lit × DataW H → Nat
  | (.string bytes, d) => bytes.length + uptoBulk d + 1
  | (_, d) => uptoBulk d + 1
 end
def uptoSmall : (H : Type) → List (DataW H) → Bool := fun _ ds => decide (uptoBulkAll ds ≤ 1048576)
def OpenSpec.upto (s : _root_.Go.ChangeSpec) : _root_.Go.OpenSpec := { _root_.Go.OpenSpec.ofChange s with cond := some uptoSmall }

/-- 'padlocklaw06.GfMuls', WHERE WHAT IT READS IS OF BULK AT MOST 1048576: true; the input reads as it did. -/
def gfMulsUptoRow : OpenClaim := { program := "ytmkaemnjfaofdaa", sum := "fd14494c444a4073207ff1f148ef4696b9bd5ab849f4c584ff97185ccaf72be9", func := "padlock/padlocklaw06.GfMuls", spec := "gfMuls", apart := false, narrowed := true }
def GfMulsUptoSaid : Prop := gfMulsUptoRow.holds Try.pinned (OpenSpec.upto gfMulsSpec)

/-- 'padlocklaw06.GfBoxes', WHERE WHAT IT READS IS OF BULK AT MOST 1048576: true; the input reads as it did. -/
def gfBoxesUptoRow : OpenClaim := { program := "ytmkaemnjfaofdaa", sum := "fd14494c444a4073207ff1f148ef4696b9bd5ab849f4c584ff97185ccaf72be9", func := "padlock/padlocklaw06.GfBoxes", spec := "gfBoxes", apart := false, narrowed := true }
def GfBoxesUptoSaid : Prop := gfBoxesUptoRow.holds Try.pinned (OpenSpec.upto gfBoxesSpec)

/-- 'padlocklaw06.GfField', WHERE WHAT IT READS IS OF BULK AT MOST 1048576: true; the input reads as it did. -/
def gfFieldUptoRow : OpenClaim := { program := "ytmkaemnjfaofdaa", sum := "fd14494c444a4073207ff1f148ef4696b9bd5ab849f4c584ff97185ccaf72be9", func := "padlock/padlocklaw06.GfField", spec := "gfField", apart := false, narrowed := true }
def GfFieldUptoSaid : Prop := gfFieldUptoRow.holds Try.pinned (OpenSpec.upto gfFieldSpec)

/-- 'padlocklaw06.GfInverses', WHERE WHAT IT READS IS OF BULK AT MOST 1048576: true; the input reads as it did. -/
def gfInversesUptoRow : OpenClaim := { program := "ytmkaemnjfaofdaa", sum := "fd14494c444a4073207ff1f148ef4696b9bd5ab849f4c584ff97185ccaf72be9", func := "padlock/padlocklaw06.GfInverses", spec := "gfInverses", apart := false, narrowed := true }
def GfInversesUptoSaid : Prop := gfInversesUptoRow.holds Try.pinned (OpenSpec.upto gfInversesSpec)

/-- 'padlocklaw06.GfUndoes', WHERE WHAT IT READS IS OF BULK AT MOST 1048576: true; the input reads as it did. -/
def gfUndoesUptoRow : OpenClaim := { program := "ytmkaemnjfaofdaa", sum := "fd14494c444a4073207ff1f148ef4696b9bd5ab849f4c584ff97185ccaf72be9", func := "padlock/padlocklaw06.GfUndoes", spec := "gfUndoes", apart := false, narrowed := true }
def GfUndoesUptoSaid : Prop := gfUndoesUptoRow.holds Try.pinned (OpenSpec.upto gfUndoesSpec)

end Rows
end Go.Proofs.Ytmkaemnjfaofdaa
