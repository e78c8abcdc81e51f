/-
  No cell of these rows narrows 'for every input' (looked for: loops, veiled, ifaces, maps, wideKeys, modest, calm, conditions, laid).
  DERIVED. THE GIVEN ROWS OF THIS SEAT. 5 by the template 'for every input the law returns true; each argument reads behind the call as it read before'; 0 by the template 'total and deterministic' (their statements: YtgaecjhghpkcoaaTotals.lean).
  GIVEN WITH THE SEED: the statements are not yours to turn. If you find one false, say at which input.
  Laid BY PROGRAM, IN A SANDBOX (cutbox-rows.mjs): the forced cells as the released guide's own fill.sh prints them over the translation 33c9476a837d579a… (all of the seat's roots in one cut). By AI agents, Wed Nov 11 2026. No macro, syntax, notation, axiom, sorry.
-/
import Derived.Test.YtgaecjhghpkcoaaChecked
import GoSem.Claim
import GoSem.ClaimJoined
import GoSem.ClaimMapViews
import Derived.JoinedTies
import Derived.KernelRfl
namespace Go.Proofs.Ytgaecjhghpkcoaa
/- THE CELL 'sum', in the pinned program and in every row, IS THE sha256 OF THE DUMP (.gsa) THAT YtgaecjhghpkcoaaProg.lean LOADS. Nothing in Lean hashes anything: it is a label: what it is worth is what the hold of that sum in a sandbox is worth. -/
noncomputable def Try.pinned : Pinned := { name := "ytgaecjhghpkcoaa", sum := "33c9476a837d579aefef57447bcb5b3d2b1fd80dcaec784b1dbb0a3f8d37d1d9", checked := Try.checked }
namespace Rows
def none {H : Type} : Left H := { results := [], args := [] }

/-- 'padlocklaw20.KeysTurn': WHATEVER THE INPUT: true; the input reads as it did. -/
def keysTurnSpec : ChangeSpec := { name := "keysTurn", fn := fun _ => fun
  | [d1, d2, d3] => { results := [.lit (.bool true)], args := [d1, d2, d3] }
  | _ => none }
def keysTurnRow : OpenClaim := { program := "ytgaecjhghpkcoaa", sum := "33c9476a837d579aefef57447bcb5b3d2b1fd80dcaec784b1dbb0a3f8d37d1d9", func := "padlock/padlocklaw20.KeysTurn", spec := "keysTurn", unfollowed := true, recurses := true, apart := false }
def KeysTurnSaid : Prop := keysTurnRow.holds Try.pinned (OpenSpec.ofChange keysTurnSpec)

/-- ITS FALSE NEIGHBOUR: 'it returns false'. Refute it at one input. -/
def keysTurnWrong : ChangeSpec := { name := "keysTurn", fn := fun _ => fun
  | [d1, d2, d3] => { results := [.lit (.bool false)], args := [d1, d2, d3] }
  | _ => none }
def KeysTurnWrongFalsely : Prop := keysTurnRow.holds Try.pinned (OpenSpec.ofChange keysTurnWrong)

/-- 'padlocklaw20.KeysParse': WHATEVER THE INPUT: true; the input reads as it did. -/
def keysParseSpec : ChangeSpec := { name := "keysParse", fn := fun _ => fun
  | [d1, d2, d3] => { results := [.lit (.bool true)], args := [d1, d2, d3] }
  | _ => none }
def keysParseRow : OpenClaim := { program := "ytgaecjhghpkcoaa", sum := "33c9476a837d579aefef57447bcb5b3d2b1fd80dcaec784b1dbb0a3f8d37d1d9", func := "padlock/padlocklaw20.KeysParse", spec := "keysParse", unfollowed := true, recurses := true, apart := false }
def KeysParseSaid : Prop := keysParseRow.holds Try.pinned (OpenSpec.ofChange keysParseSpec)

/-- ITS FALSE NEIGHBOUR: 'it returns false'. Refute it at one input. -/
def keysParseWrong : ChangeSpec := { name := "keysParse", fn := fun _ => fun
  | [d1, d2, d3] => { results := [.lit (.bool false)], args := [d1, d2, d3] }
  | _ => none }
def KeysParseWrongFalsely : Prop := keysParseRow.holds Try.pinned (OpenSpec.ofChange keysParseWrong)

/-- 'padlocklaw20.KeysApart': WHATEVER THE INPUT: true; the input reads as it did. -/
def keysApartSpec : ChangeSpec := { name := "keysApart", fn := fun _ => fun
  | [d1, d2, d3] => { results := [.lit (.bool true)], args := [d1, d2, d3] }
  | _ => none }
def keysApartRow : OpenClaim := { program := "ytgaecjhghpkcoaa", sum := "33c9476a837d579aefef57447bcb5b3d2b1fd80dcaec784b1dbb0a3f8d37d1d9", func := "padlock/padlocklaw20.KeysApart", spec := "keysApart", unfollowed := true, recurses := true, apart := false }
def KeysApartSaid : Prop := keysApartRow.holds Try.pinned (OpenSpec.ofChange keysApartSpec)

/-- ITS FALSE NEIGHBOUR: 'it returns false'. Refute it at one input. -/
def keysApartWrong : ChangeSpec := { name := "keysApart", fn := fun _ => fun
  | [d1, d2, d3] => { results := [.lit (.bool false)], args := [d1, d2, d3] }
  | _ => none }
def KeysApartWrongFalsely : Prop := keysApartRow.holds Try.pinned (OpenSpec.ofChange keysApartWrong)

/-- 'padlocklaw21.BarrierTells': WHATEVER THE INPUT: true; the input reads as it did. -/
def barrierTellsSpec : ChangeSpec := { name := "barrierTells", fn := fun _ => fun
  | [d1, d2, d3] => { results := [.lit (.bool true)], args := [d1, d2, d3] }
  | _ => none }
def barrierTellsRow : OpenClaim := { program := "ytgaecjhghpkcoaa", sum := "33c9476a837d579aefef57447bcb5b3d2b1fd80dcaec784b1dbb0a3f8d37d1d9", func := "padlock/padlocklaw21.BarrierTells", spec := "barrierTells", inPlace := ["internal/abi.NoEscape", "internal/bytealg.MakeNoZero"], unfollowed := true, recurses := true, apart := false }
def BarrierTellsSaid : Prop := barrierTellsRow.holds Try.pinned (OpenSpec.ofChange barrierTellsSpec)

/-- ITS FALSE NEIGHBOUR: 'it returns false'. Refute it at one input. -/
def barrierTellsWrong : ChangeSpec := { name := "barrierTells", fn := fun _ => fun
  | [d1, d2, d3] => { results := [.lit (.bool false)], args := [d1, d2, d3] }
  | _ => none }
def BarrierTellsWrongFalsely : Prop := barrierTellsRow.holds Try.pinned (OpenSpec.ofChange barrierTellsWrong)

/-- 'padlocklaw21.BarrierBlind': WHATEVER THE INPUT: true; the input reads as it did. -/
def barrierBlindSpec : ChangeSpec := { name := "barrierBlind", fn := fun _ => fun
  | [d1, d2, d3] => { results := [.lit (.bool true)], args := [d1, d2, d3] }
  | _ => none }
def barrierBlindRow : OpenClaim := { program := "ytgaecjhghpkcoaa", sum := "33c9476a837d579aefef57447bcb5b3d2b1fd80dcaec784b1dbb0a3f8d37d1d9", func := "padlock/padlocklaw21.BarrierBlind", spec := "barrierBlind", inPlace := ["internal/abi.NoEscape", "internal/bytealg.MakeNoZero", "maps.clone"], unfollowed := true, recurses := true, apart := false }
def BarrierBlindSaid : Prop := barrierBlindRow.holds Try.pinned (OpenSpec.ofChange barrierBlindSpec)

/-- ITS FALSE NEIGHBOUR: 'it returns false'. Refute it at one input. -/
def barrierBlindWrong : ChangeSpec := { name := "barrierBlind", fn := fun _ => fun
  | [d1, d2, d3] => { results := [.lit (.bool false)], args := [d1, d2, d3] }
  | _ => none }
def BarrierBlindWrongFalsely : Prop := barrierBlindRow.holds Try.pinned (OpenSpec.ofChange barrierBlindWrong)

/- THE SECOND FORM. 'bulk': how many values and letters a reading holds, each counted each time it is reached (what is shared counts as often as it is met; a slice's spare places count too). A statement '..UptoSaid' is the law's where the arguments, and the package variables that the reading takes, are together of bulk at most 1048576: NARROWER than '..Said'. Prove '..Said' where nothing that the law and all that it calls make is longer than what came in: it says more and counts as full. Else prove '..UptoSaid'. A law counts once. -/
mutual
def uptoBulk {H : Type} : DataW H → Nat
  | .lit (.string bytes) => bytes.length + 1
  | .lit _ => 1
  | .nil => 1
  | .ptr d => uptoBulk d + 1
  | .slice elems spare => uptoBulkAll elems + uptoBulkAll spare + 1
  | .agg parts => uptoBulkAll parts + 1
  | .iface _ d => uptoBulk d + 1
  | .map entries => uptoBulkEntries entries + 1
  | .held _ => 1
def uptoBulkAll {H : Type} : List (DataW H) → Nat
  | [] => 0
  | d :: r => uptoBulk d + uptoBulkAll r
def uptoBulkEntries {H : Type} : List (Lit × DataW H) → Nat
  | [] => 0
  | x :: r => uptoBulkEntry x + uptoBulkEntries r
def uptoBulkEntry {H : Type} : Lit × DataW H → Nat
  | (.string bytes, d) => bytes.length + uptoBulk d + 1
  | (_, d) => uptoBulk d + 1
 end
def uptoSmall : (H : Type) → List (DataW H) → Bool := fun _ ds => decide (uptoBulkAll ds ≤ 1048576)
def OpenSpec.upto (s : _root_.Go.ChangeSpec) : _root_.Go.OpenSpec := { _root_.Go.OpenSpec.ofChange s with cond := some uptoSmall }

/-- 'padlocklaw20.KeysTurn', WHERE WHAT IT READS IS OF BULK AT MOST 1048576: true; the input reads as it did. -/
def keysTurnUptoRow : OpenClaim := { program := "ytgaecjhghpkcoaa", sum := "33c9476a837d579aefef57447bcb5b3d2b1fd80dcaec784b1dbb0a3f8d37d1d9", func := "padlock/padlocklaw20.KeysTurn", spec := "keysTurn", unfollowed := true, recurses := true, apart := false, narrowed := true }
def KeysTurnUptoSaid : Prop := keysTurnUptoRow.holds Try.pinned (OpenSpec.upto keysTurnSpec)

/-- 'padlocklaw20.KeysParse', WHERE WHAT IT READS IS OF BULK AT MOST 1048576: true; the input reads as it did. -/
def keysParseUptoRow : OpenClaim := { program := "ytgaecjhghpkcoaa", sum := "33c9476a837d579aefef57447bcb5b3d2b1fd80dcaec784b1dbb0a3f8d37d1d9", func := "padlock/padlocklaw20.KeysParse", spec := "keysParse", unfollowed := true, recurses := true, apart := false, narrowed := true }
def KeysParseUptoSaid : Prop := keysParseUptoRow.holds Try.pinned (OpenSpec.upto keysParseSpec)

/-- 'padlocklaw20.KeysApart', WHERE WHAT IT READS IS OF BULK AT MOST 1048576: true; the input reads as it did. -/
def keysApartUptoRow : OpenClaim := { program := "ytgaecjhghpkcoaa", sum := "33c9476a837d579aefef57447bcb5b3d2b1fd80dcaec784b1dbb0a3f8d37d1d9", func := "padlock/padlocklaw20.KeysApart", spec := "keysApart", unfollowed := true, recurses := true, apart := false, narrowed := true }
def KeysApartUptoSaid : Prop := keysApartUptoRow.holds Try.pinned (OpenSpec.upto keysApartSpec)

/-- 'padlocklaw21.BarrierTells', WHERE WHAT IT READS IS OF BULK AT MOST 1048576: true; the input reads as it did. -/
def barrierTellsUptoRow : OpenClaim := { program := "ytgaecjhghpkcoaa", sum := "33c9476a837d579aefef57447bcb5b3d2b1fd80dcaec784b1dbb0a3f8d37d1d9", func := "padlock/padlocklaw21.BarrierTells", spec := "barrierTells", inPlace := ["internal/abi.NoEscape", "internal/bytealg.MakeNoZero"], unfollowed := true, recurses := true, apart := false, narrowed := true }
def BarrierTellsUptoSaid : Prop := barrierTellsUptoRow.holds Try.pinned (OpenSpec.upto barrierTellsSpec)

/-- 'padlocklaw21.BarrierBlind', WHERE WHAT IT READS IS OF BULK AT MOST 1048576: true; the input reads as it did. -/
def barrierBlindUptoRow : OpenClaim := { program := "ytgaecjhghpkcoaa", sum := "33c9476a837d579aefef57447bcb5b3d2b1fd80dcaec784b1dbb0a3f8d37d1d9", func := "padlock/padlocklaw21.BarrierBlind", spec := "barrierBlind", inPlace := ["internal/abi.NoEscape", "internal/bytealg.MakeNoZero", "maps.clone"], unfollowed := true, recurses := true, apart := false, narrowed := true }
def BarrierBlindUptoSaid : Prop := barrierBlindUptoRow.holds Try.pinned (OpenSpec.upto barrierBlindSpec)

end Rows
end Go.Proofs.Ytgaecjhghpkcoaa
