/-
  NARROWER THAN 'FOR EVERY INPUT', by the rows' own cells (each row's printed sentence says how): EntryPuts: loops · EntryLooks: loops · EntryBack: loops · EntryMust: loops.
  DERIVED. THE GIVEN ROWS OF THIS SEAT. 5 by the template 'for every input the law returns true; each argument reads behind the call as it read before'; 0 by the template 'total and deterministic' (their statements: YtinlcpenllfcpaaTotals.lean).
  GIVEN WITH THE SEED: the statements are not yours to turn. If you find one false, say at which input.
  Laid BY PROGRAM, IN A SANDBOX (cutbox-rows.mjs): the forced cells as the released guide's own fill.sh prints them over the translation dbc324acd7ec355c… (all of the seat's roots in one cut). By AI agents, Wed Nov 11 2026. No macro, syntax, notation, axiom, sorry.
-/
import Derived.Test.YtinlcpenllfcpaaChecked
import GoSem.Claim
import GoSem.ClaimJoined
import GoSem.ClaimMapViews
import Derived.JoinedTies
import Derived.KernelRfl
namespace Go.Proofs.Ytinlcpenllfcpaa
/- THE CELL 'sum', in the pinned program and in every row, IS THE sha256 OF THE DUMP (.gsa) THAT YtinlcpenllfcpaaProg.lean LOADS. Nothing in Lean hashes anything: it is a label: what it is worth is what the hold of that sum in a sandbox is worth. -/
noncomputable def Try.pinned : Pinned := { name := "ytinlcpenllfcpaa", sum := "dbc324acd7ec355cf75ce9c21ca0d3d2087837fb00feb428bc8378aff4fc93be", checked := Try.checked }
namespace Rows
def none {H : Type} : Left H := { results := [], args := [] }

/-- 'padlocklaw10.EntryPuts': WHATEVER THE INPUT: true; the input reads as it did. -/
def entryPutsSpec : ChangeSpec := { name := "entryPuts", fn := fun _ => fun
  | [d] => { results := [.lit (.bool true)], args := [d] }
  | _ => none }
def entryPutsRow : OpenClaim := { program := "ytinlcpenllfcpaa", sum := "dbc324acd7ec355cf75ce9c21ca0d3d2087837fb00feb428bc8378aff4fc93be", func := "padlock/padlocklaw10.EntryPuts", spec := "entryPuts", unfollowed := true, recurses := true, loops := true, apart := false }
def EntryPutsSaid : Prop := entryPutsRow.holds Try.pinned (OpenSpec.ofChange entryPutsSpec)

/-- ITS FALSE NEIGHBOUR: 'it returns false'. Refute it at one input. -/
def entryPutsWrong : ChangeSpec := { name := "entryPuts", fn := fun _ => fun
  | [d] => { results := [.lit (.bool false)], args := [d] }
  | _ => none }
def EntryPutsWrongFalsely : Prop := entryPutsRow.holds Try.pinned (OpenSpec.ofChange entryPutsWrong)

/-- 'padlocklaw10.EntryTakes': WHATEVER THE INPUT: true; the input reads as it did. -/
def entryTakesSpec : ChangeSpec := { name := "entryTakes", fn := fun _ => fun
  | [d] => { results := [.lit (.bool true)], args := [d] }
  | _ => none }
def entryTakesRow : OpenClaim := { program := "ytinlcpenllfcpaa", sum := "dbc324acd7ec355cf75ce9c21ca0d3d2087837fb00feb428bc8378aff4fc93be", func := "padlock/padlocklaw10.EntryTakes", spec := "entryTakes", unfollowed := true, recurses := true, apart := false }
def EntryTakesSaid : Prop := entryTakesRow.holds Try.pinned (OpenSpec.ofChange entryTakesSpec)

/-- ITS FALSE NEIGHBOUR: 'it returns false'. Refute it at one input. -/
def entryTakesWrong : ChangeSpec := { name := "entryTakes", fn := fun _ => fun
  | [d] => { results := [.lit (.bool false)], args := [d] }
  | _ => none }
def EntryTakesWrongFalsely : Prop := entryTakesRow.holds Try.pinned (OpenSpec.ofChange entryTakesWrong)

/-- 'padlocklaw10.EntryLooks': WHATEVER THE INPUT: true; the input reads as it did. -/
def entryLooksSpec : ChangeSpec := { name := "entryLooks", fn := fun _ => fun
  | [d1, d2, d3] => { results := [.lit (.bool true)], args := [d1, d2, d3] }
  | _ => none }
def entryLooksRow : OpenClaim := { program := "ytinlcpenllfcpaa", sum := "dbc324acd7ec355cf75ce9c21ca0d3d2087837fb00feb428bc8378aff4fc93be", func := "padlock/padlocklaw10.EntryLooks", spec := "entryLooks", unfollowed := true, recurses := true, loops := true, apart := false }
def EntryLooksSaid : Prop := entryLooksRow.holds Try.pinned (OpenSpec.ofChange entryLooksSpec)

/-- ITS FALSE NEIGHBOUR: 'it returns false'. Refute it at one input. -/
def entryLooksWrong : ChangeSpec := { name := "entryLooks", fn := fun _ => fun
  | [d1, d2, d3] => { results := [.lit (.bool false)], args := [d1, d2, d3] }
  | _ => none }
def EntryLooksWrongFalsely : Prop := entryLooksRow.holds Try.pinned (OpenSpec.ofChange entryLooksWrong)

/-- 'padlocklaw10.EntryBack': WHATEVER THE INPUT: true; the input reads as it did. -/
def entryBackSpec : ChangeSpec := { name := "entryBack", fn := fun _ => fun
  | [d1, d2] => { results := [.lit (.bool true)], args := [d1, d2] }
  | _ => none }
def entryBackRow : OpenClaim := { program := "ytinlcpenllfcpaa", sum := "dbc324acd7ec355cf75ce9c21ca0d3d2087837fb00feb428bc8378aff4fc93be", func := "padlock/padlocklaw10.EntryBack", spec := "entryBack", unfollowed := true, recurses := true, loops := true, apart := false }
def EntryBackSaid : Prop := entryBackRow.holds Try.pinned (OpenSpec.ofChange entryBackSpec)

/-- ITS FALSE NEIGHBOUR: 'it returns false'. Refute it at one input. -/
def entryBackWrong : ChangeSpec := { name := "entryBack", fn := fun _ => fun
  | [d1, d2] => { results := [.lit (.bool false)], args := [d1, d2] }
  | _ => none }
def EntryBackWrongFalsely : Prop := entryBackRow.holds Try.pinned (OpenSpec.ofChange entryBackWrong)

/-- 'padlocklaw10.EntryMust': WHATEVER THE INPUT: true; the input reads as it did. -/
def entryMustSpec : ChangeSpec := { name := "entryMust", fn := fun _ => fun
  | [d] => { results := [.lit (.bool true)], args := [d] }
  | _ => none }
def entryMustRow : OpenClaim := { program := "ytinlcpenllfcpaa", sum := "dbc324acd7ec355cf75ce9c21ca0d3d2087837fb00feb428bc8378aff4fc93be", func := "padlock/padlocklaw10.EntryMust", spec := "entryMust", unfollowed := true, recurses := true, loops := true, apart := false }
def EntryMustSaid : Prop := entryMustRow.holds Try.pinned (OpenSpec.ofChange entryMustSpec)

/-- ITS FALSE NEIGHBOUR: 'it returns false'. Refute it at one input. -/
def entryMustWrong : ChangeSpec := { name := "entryMust", fn := fun _ => fun
  | [d] => { results := [.lit (.bool false)], args := [d] }
  | _ => none }
def EntryMustWrongFalsely : Prop := entryMustRow.holds Try.pinned (OpenSpec.ofChange entryMustWrong)

/- THE SECOND FORM. 'bulk': how many values and letters a reading holds, each counted each time it is reached (what is shared counts as often as it is met; a slice's spare places count too). A statement '..UptoSaid' is the law's where the arguments, and the package variables that the reading takes, are together of bulk at most 1048576: NARROWER than '..Said'. Prove '..Said' where nothing that the law and all that it calls make is longer than what came in: it says more and counts as full. Else prove '..UptoSaid'. A law counts once. -/
mutual
def uptoBulk {H : Type} : DataW H → Nat
  | .lit (.string bytes) => bytes.length + 1
  | .lit _ => 1
  | .nil => 1
  | .ptr d => uptoBulk d + 1
  | .slice elems spare => uptoBulkAll elems + uptoBulkAll spare + 1
  | .agg parts => uptoBulkAll parts + 1
  | .iface _ d => uptoBulk d + 1
  | .map entries => uptoBulkEntries entries + 1
  | .held _ => 1
def uptoBulkAll {H : Type} : List (DataW H) → Nat
  | [] => 0
  | d :: r => uptoBulk d + uptoBulkAll r
def uptoBulkEntries {H : Type} : List (Lit × DataW H) → Nat
  | [] => 0
  | x :: r => uptoBulkEntry x + uptoBulkEntries r
def uptoBulkEntry {H : Type} : Lit × DataW H → Nat
  | (.string bytes, d) => bytes.length + uptoBulk d + 1
  | (_, d) => uptoBulk d + 1
 end
def uptoSmall : (H : Type) → List (DataW H) → Bool := fun _ ds => decide (uptoBulkAll ds ≤ 1048576)
def OpenSpec.upto (s : _root_.Go.ChangeSpec) : _root_.Go.OpenSpec := { _root_.Go.OpenSpec.ofChange s with cond := some uptoSmall }

/-- 'padlocklaw10.EntryPuts', WHERE WHAT IT READS IS OF BULK AT MOST 1048576: true; the input reads as it did. -/
def entryPutsUptoRow : OpenClaim := { program := "ytinlcpenllfcpaa", sum := "dbc324acd7ec355cf75ce9c21ca0d3d2087837fb00feb428bc8378aff4fc93be", func := "padlock/padlocklaw10.EntryPuts", spec := "entryPuts", unfollowed := true, recurses := true, loops := true, apart := false, narrowed := true }
def EntryPutsUptoSaid : Prop := entryPutsUptoRow.holds Try.pinned (OpenSpec.upto entryPutsSpec)

/-- 'padlocklaw10.EntryTakes', WHERE WHAT IT READS IS OF BULK AT MOST 1048576: true; the input reads as it did. -/
def entryTakesUptoRow : OpenClaim := { program := "ytinlcpenllfcpaa", sum := "dbc324acd7ec355cf75ce9c21ca0d3d2087837fb00feb428bc8378aff4fc93be", func := "padlock/padlocklaw10.EntryTakes", spec := "entryTakes", unfollowed := true, recurses := true, apart := false, narrowed := true }
def EntryTakesUptoSaid : Prop := entryTakesUptoRow.holds Try.pinned (OpenSpec.upto entryTakesSpec)

/-- 'padlocklaw10.EntryLooks', WHERE WHAT IT READS IS OF BULK AT MOST 1048576: true; the input reads as it did. -/
def entryLooksUptoRow : OpenClaim := { program := "ytinlcpenllfcpaa", sum := "dbc324acd7ec355cf75ce9c21ca0d3d2087837fb00feb428bc8378aff4fc93be", func := "padlock/padlocklaw10.EntryLooks", spec := "entryLooks", unfollowed := true, recurses := true, loops := true, apart := false, narrowed := true }
def EntryLooksUptoSaid : Prop := entryLooksUptoRow.holds Try.pinned (OpenSpec.upto entryLooksSpec)

/-- 'padlocklaw10.EntryBack', WHERE WHAT IT READS IS OF BULK AT MOST 1048576: true; the input reads as it did. -/
def entryBackUptoRow : OpenClaim := { program := "ytinlcpenllfcpaa", sum := "dbc324acd7ec355cf75ce9c21ca0d3d2087837fb00feb428bc8378aff4fc93be", func := "padlock/padlocklaw10.EntryBack", spec := "entryBack", unfollowed := true, recurses := true, loops := true, apart := false, narrowed := true }
def EntryBackUptoSaid : Prop := entryBackUptoRow.holds Try.pinned (OpenSpec.upto entryBackSpec)

/-- 'padlocklaw10.EntryMust', WHERE WHAT IT READS IS OF BULK AT MOST 1048576: true; the input reads as it did. -/
def entryMustUptoRow : OpenClaim := { program := "ytinlcpenllfcpaa", sum := "dbc324acd7ec355cf75ce9c21ca0d3d2087837fb00feb428bc8378aff4fc93be", func := "padlock/padlocklaw10.EntryMust", spec := "entryMust", unfollowed := true, recurses := true, loops := true, apart := false, narrowed := true }
def EntryMustUptoSaid : Prop := entryMustUptoRow.holds Try.pinned (OpenSpec.upto entryMustSpec)

end Rows
end Go.Proofs.Ytinlcpenllfcpaa
