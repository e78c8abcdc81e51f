/-
  No cell of these rows narrows 'for every input' (looked for: loops, veiled, ifaces, maps, wideKeys, modest, calm, conditions, laid).
  DERIVED. THE GIVEN ROWS OF THIS SEAT. 8 by the template 'for every input the law returns true; each argument reads behind the call as it read before'; 0 by the template 'total and deterministic' (their statements: YtklcgacbmphjcaaTotals.lean).
  GIVEN WITH THE SEED: the statements are not yours to turn. If you find one false, say at which input.
  Laid BY PROGRAM, IN A SANDBOX (cutbox-rows.mjs): the forced cells as the released guide's own fill.sh prints them over the translation b2d747489a4e17ce… (all of the seat's roots in one cut). By AI agents, Wed Nov 11 2026. No macro, syntax, notation, axiom, sorry.
-/
import Derived.Test.YtklcgacbmphjcaaChecked
import GoSem.Claim
import GoSem.ClaimJoined
import GoSem.ClaimMapViews
import Derived.JoinedTies
import Derived.KernelRfl
namespace Go.Proofs.Ytklcgacbmphjcaa
/- THE CELL 'sum', in the pinned program and in every row, IS THE sha256 OF THE DUMP (.gsa) THAT YtklcgacbmphjcaaProg.lean LOADS. Nothing in Lean hashes anything: it is a label: what it is worth is what the hold of that sum in a sandbox is worth. -/
noncomputable def Try.pinned : Pinned := { name := "ytklcgacbmphjcaa", sum := "b2d747489a4e17cedc9f43493eb73ae02851d7a958fd1d08e6704208ea12ca6b", checked := Try.checked }
namespace Rows
def none {H : Type} : Left H := { results := [], args := [] }

/-- 'padlocklaw20.KeysTurn': WHATEVER THE INPUT: true; the input reads as it did. -/
def keysTurnSpec : ChangeSpec := { name := "keysTurn", fn := fun _ => fun
  | [d1, d2, d3] => { results := [.lit (.bool true)], args := [d1, d2, d3] }
  | _ => none }
def keysTurnRow : OpenClaim := { program := "ytklcgacbmphjcaa", sum := "b2d747489a4e17cedc9f43493eb73ae02851d7a958fd1d08e6704208ea12ca6b", func := "padlock/padlocklaw20.KeysTurn", spec := "keysTurn", unfollowed := true, recurses := true, apart := false }
def KeysTurnSaid : Prop := keysTurnRow.holds Try.pinned (OpenSpec.ofChange keysTurnSpec)

/-- ITS FALSE NEIGHBOUR: 'it returns false'. Refute it at one input. -/
def keysTurnWrong : ChangeSpec := { name := "keysTurn", fn := fun _ => fun
  | [d1, d2, d3] => { results := [.lit (.bool false)], args := [d1, d2, d3] }
  | _ => none }
def KeysTurnWrongFalsely : Prop := keysTurnRow.holds Try.pinned (OpenSpec.ofChange keysTurnWrong)

/-- 'padlocklaw20.KeysParse': WHATEVER THE INPUT: true; the input reads as it did. -/
def keysParseSpec : ChangeSpec := { name := "keysParse", fn := fun _ => fun
  | [d1, d2, d3] => { results := [.lit (.bool true)], args := [d1, d2, d3] }
  | _ => none }
def keysParseRow : OpenClaim := { program := "ytklcgacbmphjcaa", sum := "b2d747489a4e17cedc9f43493eb73ae02851d7a958fd1d08e6704208ea12ca6b", func := "padlock/padlocklaw20.KeysParse", spec := "keysParse", unfollowed := true, recurses := true, apart := false }
def KeysParseSaid : Prop := keysParseRow.holds Try.pinned (OpenSpec.ofChange keysParseSpec)

/-- ITS FALSE NEIGHBOUR: 'it returns false'. Refute it at one input. -/
def keysParseWrong : ChangeSpec := { name := "keysParse", fn := fun _ => fun
  | [d1, d2, d3] => { results := [.lit (.bool false)], args := [d1, d2, d3] }
  | _ => none }
def KeysParseWrongFalsely : Prop := keysParseRow.holds Try.pinned (OpenSpec.ofChange keysParseWrong)

/-- 'padlocklaw20.KeysApart': WHATEVER THE INPUT: true; the input reads as it did. -/
def keysApartSpec : ChangeSpec := { name := "keysApart", fn := fun _ => fun
  | [d1, d2, d3] => { results := [.lit (.bool true)], args := [d1, d2, d3] }
  | _ => none }
def keysApartRow : OpenClaim := { program := "ytklcgacbmphjcaa", sum := "b2d747489a4e17cedc9f43493eb73ae02851d7a958fd1d08e6704208ea12ca6b", func := "padlock/padlocklaw20.KeysApart", spec := "keysApart", unfollowed := true, recurses := true, apart := false }
def KeysApartSaid : Prop := keysApartRow.holds Try.pinned (OpenSpec.ofChange keysApartSpec)

/-- ITS FALSE NEIGHBOUR: 'it returns false'. Refute it at one input. -/
def keysApartWrong : ChangeSpec := { name := "keysApart", fn := fun _ => fun
  | [d1, d2, d3] => { results := [.lit (.bool false)], args := [d1, d2, d3] }
  | _ => none }
def KeysApartWrongFalsely : Prop := keysApartRow.holds Try.pinned (OpenSpec.ofChange keysApartWrong)

/-- 'padlocklaw09.GcmSeals': WHATEVER THE INPUT: true; the input reads as it did. -/
def gcmSealsSpec : ChangeSpec := { name := "gcmSeals", fn := fun _ => fun
  | [d1, d2] => { results := [.lit (.bool true)], args := [d1, d2] }
  | _ => none }
def gcmSealsRow : OpenClaim := { program := "ytklcgacbmphjcaa", sum := "b2d747489a4e17cedc9f43493eb73ae02851d7a958fd1d08e6704208ea12ca6b", func := "padlock/padlocklaw09.GcmSeals", spec := "gcmSeals", unfollowed := true, recurses := true, apart := false }
def GcmSealsSaid : Prop := gcmSealsRow.holds Try.pinned (OpenSpec.ofChange gcmSealsSpec)

/-- ITS FALSE NEIGHBOUR: 'it returns false'. Refute it at one input. -/
def gcmSealsWrong : ChangeSpec := { name := "gcmSeals", fn := fun _ => fun
  | [d1, d2] => { results := [.lit (.bool false)], args := [d1, d2] }
  | _ => none }
def GcmSealsWrongFalsely : Prop := gcmSealsRow.holds Try.pinned (OpenSpec.ofChange gcmSealsWrong)

/-- 'padlocklaw09.GcmBack': WHATEVER THE INPUT: true; the input reads as it did. -/
def gcmBackSpec : ChangeSpec := { name := "gcmBack", fn := fun _ => fun
  | [d1, d2, d3] => { results := [.lit (.bool true)], args := [d1, d2, d3] }
  | _ => none }
def gcmBackRow : OpenClaim := { program := "ytklcgacbmphjcaa", sum := "b2d747489a4e17cedc9f43493eb73ae02851d7a958fd1d08e6704208ea12ca6b", func := "padlock/padlocklaw09.GcmBack", spec := "gcmBack", unfollowed := true, recurses := true, apart := false }
def GcmBackSaid : Prop := gcmBackRow.holds Try.pinned (OpenSpec.ofChange gcmBackSpec)

/-- ITS FALSE NEIGHBOUR: 'it returns false'. Refute it at one input. -/
def gcmBackWrong : ChangeSpec := { name := "gcmBack", fn := fun _ => fun
  | [d1, d2, d3] => { results := [.lit (.bool false)], args := [d1, d2, d3] }
  | _ => none }
def GcmBackWrongFalsely : Prop := gcmBackRow.holds Try.pinned (OpenSpec.ofChange gcmBackWrong)

/-- 'padlocklaw09.GcmTells': WHATEVER THE INPUT: true; the input reads as it did. -/
def gcmTellsSpec : ChangeSpec := { name := "gcmTells", fn := fun _ => fun
  | [d1, d2, d3] => { results := [.lit (.bool true)], args := [d1, d2, d3] }
  | _ => none }
def gcmTellsRow : OpenClaim := { program := "ytklcgacbmphjcaa", sum := "b2d747489a4e17cedc9f43493eb73ae02851d7a958fd1d08e6704208ea12ca6b", func := "padlock/padlocklaw09.GcmTells", spec := "gcmTells", unfollowed := true, recurses := true, apart := false }
def GcmTellsSaid : Prop := gcmTellsRow.holds Try.pinned (OpenSpec.ofChange gcmTellsSpec)

/-- ITS FALSE NEIGHBOUR: 'it returns false'. Refute it at one input. -/
def gcmTellsWrong : ChangeSpec := { name := "gcmTells", fn := fun _ => fun
  | [d1, d2, d3] => { results := [.lit (.bool false)], args := [d1, d2, d3] }
  | _ => none }
def GcmTellsWrongFalsely : Prop := gcmTellsRow.holds Try.pinned (OpenSpec.ofChange gcmTellsWrong)

/-- 'padlocklaw09.GcmParts': WHATEVER THE INPUT: true; the input reads as it did. -/
def gcmPartsSpec : ChangeSpec := { name := "gcmParts", fn := fun _ => fun
  | [d1, d2, d3] => { results := [.lit (.bool true)], args := [d1, d2, d3] }
  | _ => none }
def gcmPartsRow : OpenClaim := { program := "ytklcgacbmphjcaa", sum := "b2d747489a4e17cedc9f43493eb73ae02851d7a958fd1d08e6704208ea12ca6b", func := "padlock/padlocklaw09.GcmParts", spec := "gcmParts", unfollowed := true, recurses := true, apart := false }
def GcmPartsSaid : Prop := gcmPartsRow.holds Try.pinned (OpenSpec.ofChange gcmPartsSpec)

/-- ITS FALSE NEIGHBOUR: 'it returns false'. Refute it at one input. -/
def gcmPartsWrong : ChangeSpec := { name := "gcmParts", fn := fun _ => fun
  | [d1, d2, d3] => { results := [.lit (.bool false)], args := [d1, d2, d3] }
  | _ => none }
def GcmPartsWrongFalsely : Prop := gcmPartsRow.holds Try.pinned (OpenSpec.ofChange gcmPartsWrong)

/-- 'padlocklaw09.GcmStreams': WHATEVER THE INPUT: true; the input reads as it did. -/
def gcmStreamsSpec : ChangeSpec := { name := "gcmStreams", fn := fun _ => fun
  | [d1, d2, d3] => { results := [.lit (.bool true)], args := [d1, d2, d3] }
  | _ => none }
def gcmStreamsRow : OpenClaim := { program := "ytklcgacbmphjcaa", sum := "b2d747489a4e17cedc9f43493eb73ae02851d7a958fd1d08e6704208ea12ca6b", func := "padlock/padlocklaw09.GcmStreams", spec := "gcmStreams", unfollowed := true, recurses := true, apart := false }
def GcmStreamsSaid : Prop := gcmStreamsRow.holds Try.pinned (OpenSpec.ofChange gcmStreamsSpec)

/-- ITS FALSE NEIGHBOUR: 'it returns false'. Refute it at one input. -/
def gcmStreamsWrong : ChangeSpec := { name := "gcmStreams", fn := fun _ => fun
  | [d1, d2, d3] => { results := [.lit (.bool false)], args := [d1, d2, d3] }
  | _ => none }
def GcmStreamsWrongFalsely : Prop := gcmStreamsRow.holds Try.pinned (OpenSpec.ofChange gcmStreamsWrong)

/- THE SECOND FORM. 'bulk': how many values and letters a reading holds, each counted each time it is reached (what is shared counts as often as it is met; a slice's spare places count too). A statement '..UptoSaid' is the law's where the arguments, and the package variables that the reading takes, are together of bulk at most 1048576: NARROWER than '..Said'. Prove '..Said' where nothing that the law and all that it calls make is longer than what came in: it says more and counts as full. Else prove '..UptoSaid'. A law counts once. -/
mutual
def uptoBulk {H : Type} : DataW H → Nat
  | .lit (.string bytes) => bytes.length + 1
  | .lit _ => 1
  | .nil => 1
  | .ptr d => uptoBulk d + 1
  | .slice elems spare => uptoBulkAll elems + uptoBulkAll spare + 1
  | .agg parts => uptoBulkAll parts + 1
  | .iface _ d => uptoBulk d + 1
  | .map entries => uptoBulkEntries entries + 1
  | .held _ => 1
def uptoBulkAll {H : Type} : List (DataW H) → Nat
  | [] => 0
  | d :: r => uptoBulk d + uptoBulkAll r
def uptoBulkEntries {H : Type} : List (Lit × DataW H) → Nat
  | [] => 0
  | x :: r => uptoBulkEntry x + uptoBulkEntries r
def uptoBulkEntry {H : Type} : Lit × DataW H → Nat
  | (.string bytes, d) => bytes.length + uptoBulk d + 1
  | (_, d) => uptoBulk d + 1
 end
def uptoSmall : (H : Type) → List (DataW H) → Bool := fun _ ds => decide (uptoBulkAll ds ≤ 1048576)
def OpenSpec.upto (s : _root_.Go.ChangeSpec) : _root_.Go.OpenSpec := { _root_.Go.OpenSpec.ofChange s with cond := some uptoSmall }

/-- 'padlocklaw20.KeysTurn', WHERE WHAT IT READS IS OF BULK AT MOST 1048576: true; the input reads as it did. -/
def keysTurnUptoRow : OpenClaim := { program := "ytklcgacbmphjcaa", sum := "b2d747489a4e17cedc9f43493eb73ae02851d7a958fd1d08e6704208ea12ca6b", func := "padlock/padlocklaw20.KeysTurn", spec := "keysTurn", unfollowed := true, recurses := true, apart := false, narrowed := true }
def KeysTurnUptoSaid : Prop := keysTurnUptoRow.holds Try.pinned (OpenSpec.upto keysTurnSpec)

/-- 'padlocklaw20.KeysParse', WHERE WHAT IT READS IS OF BULK AT MOST 1048576: true; the input reads as it did. -/
def keysParseUptoRow : OpenClaim := { program := "ytklcgacbmphjcaa", sum := "b2d747489a4e17cedc9f43493eb73ae02851d7a958fd1d08e6704208ea12ca6b", func := "padlock/padlocklaw20.KeysParse", spec := "keysParse", unfollowed := true, recurses := true, apart := false, narrowed := true }
def KeysParseUptoSaid : Prop := keysParseUptoRow.holds Try.pinned (OpenSpec.upto keysParseSpec)

/-- 'padlocklaw20.KeysApart', WHERE WHAT IT READS IS OF BULK AT MOST 1048576: true; the input reads as it did. -/
def keysApartUptoRow : OpenClaim := { program := "ytklcgacbmphjcaa", sum := "b2d747489a4e17cedc9f43493eb73ae02851d7a958fd1d08e6704208ea12ca6b", func := "padlock/padlocklaw20.KeysApart", spec := "keysApart", unfollowed := true, recurses := true, apart := false, narrowed := true }
def KeysApartUptoSaid : Prop := keysApartUptoRow.holds Try.pinned (OpenSpec.upto keysApartSpec)

/-- 'padlocklaw09.GcmSeals', WHERE WHAT IT READS IS OF BULK AT MOST 1048576: true; the input reads as it did. -/
def gcmSealsUptoRow : OpenClaim := { program := "ytklcgacbmphjcaa", sum := "b2d747489a4e17cedc9f43493eb73ae02851d7a958fd1d08e6704208ea12ca6b", func := "padlock/padlocklaw09.GcmSeals", spec := "gcmSeals", unfollowed := true, recurses := true, apart := false, narrowed := true }
def GcmSealsUptoSaid : Prop := gcmSealsUptoRow.holds Try.pinned (OpenSpec.upto gcmSealsSpec)

/-- 'padlocklaw09.GcmBack', WHERE WHAT IT READS IS OF BULK AT MOST 1048576: true; the input reads as it did. -/
def gcmBackUptoRow : OpenClaim := { program := "ytklcgacbmphjcaa", sum := "b2d747489a4e17cedc9f43493eb73ae02851d7a958fd1d08e6704208ea12ca6b", func := "padlock/padlocklaw09.GcmBack", spec := "gcmBack", unfollowed := true, recurses := true, apart := false, narrowed := true }
def GcmBackUptoSaid : Prop := gcmBackUptoRow.holds Try.pinned (OpenSpec.upto gcmBackSpec)

/-- 'padlocklaw09.GcmTells', WHERE WHAT IT READS IS OF BULK AT MOST 1048576: true; the input reads as it did. -/
def gcmTellsUptoRow : OpenClaim := { program := "ytklcgacbmphjcaa", sum := "b2d747489a4e17cedc9f43493eb73ae02851d7a958fd1d08e6704208ea12ca6b", func := "padlock/padlocklaw09.GcmTells", spec := "gcmTells", unfollowed := true, recurses := true, apart := false, narrowed := true }
def GcmTellsUptoSaid : Prop := gcmTellsUptoRow.holds Try.pinned (OpenSpec.upto gcmTellsSpec)

/-- 'padlocklaw09.GcmParts', WHERE WHAT IT READS IS OF BULK AT MOST 1048576: true; the input reads as it did. -/
def gcmPartsUptoRow : OpenClaim := { program := "ytklcgacbmphjcaa", sum := "b2d747489a4e17cedc9f43493eb73ae02851d7a958fd1d08e6704208ea12ca6b", func := "padlock/padlocklaw09.GcmParts", spec := "gcmParts", unfollowed := true, recurses := true, apart := false, narrowed := true }
def GcmPartsUptoSaid : Prop := gcmPartsUptoRow.holds Try.pinned (OpenSpec.upto gcmPartsSpec)

/-- 'padlocklaw09.GcmStreams', WHERE WHAT IT READS IS OF BULK AT MOST 1048576: true; the input reads as it did. -/
def gcmStreamsUptoRow : OpenClaim := { program := "ytklcgacbmphjcaa", sum := "b2d747489a4e17cedc9f43493eb73ae02851d7a958fd1d08e6704208ea12ca6b", func := "padlock/padlocklaw09.GcmStreams", spec := "gcmStreams", unfollowed := true, recurses := true, apart := false, narrowed := true }
def GcmStreamsUptoSaid : Prop := gcmStreamsUptoRow.holds Try.pinned (OpenSpec.upto gcmStreamsSpec)

end Rows
end Go.Proofs.Ytklcgacbmphjcaa
