/-
  No cell of these rows narrows 'for every input' (looked for: loops, veiled, ifaces, maps, wideKeys, modest, calm, conditions, laid).
  DERIVED. THE GIVEN ROWS OF THIS SEAT. 10 by the template 'for every input the law returns true; each argument reads behind the call as it read before'; 0 by the template 'total and deterministic' (their statements: YtepooocdpifcfaaTotals.lean).
  GIVEN WITH THE SEED: the statements are not yours to turn. If you find one false, say at which input.
  Laid BY PROGRAM, IN A SANDBOX (cutbox-rows.mjs): the forced cells as the released guide's own fill.sh prints them over the translation 41fbb699beac788b… (all of the seat's roots in one cut). By AI agents, Wed Nov 11 2026. No macro, syntax, notation, axiom, sorry.
-/
import Derived.Test.YtepooocdpifcfaaChecked
import GoSem.Claim
import GoSem.ClaimJoined
import GoSem.ClaimMapViews
import Derived.JoinedTies
import Derived.KernelRfl
namespace Go.Proofs.Ytepooocdpifcfaa
/- THE CELL 'sum', in the pinned program and in every row, IS THE sha256 OF THE DUMP (.gsa) THAT YtepooocdpifcfaaProg.lean LOADS. Nothing in Lean hashes anything: it is a label: what it is worth is what the hold of that sum in a sandbox is worth. -/
noncomputable def Try.pinned : Pinned := { name := "ytepooocdpifcfaa", sum := "41fbb699beac788b65b62dbde20eca92207542f1aaef984afeb98c5cf62efd15", checked := Try.checked }
namespace Rows
def none {H : Type} : Left H := { results := [], args := [] }

/-- 'padlocklaw08.GhashMuls': WHATEVER THE INPUT: true; the input reads as it did. -/
def ghashMulsSpec : ChangeSpec := { name := "ghashMuls", fn := fun _ => fun
  | [d1, d2, d3] => { results := [.lit (.bool true)], args := [d1, d2, d3] }
  | _ => none }
def ghashMulsRow : OpenClaim := { program := "ytepooocdpifcfaa", sum := "41fbb699beac788b65b62dbde20eca92207542f1aaef984afeb98c5cf62efd15", func := "padlock/padlocklaw08.GhashMuls", spec := "ghashMuls", apart := false }
def GhashMulsSaid : Prop := ghashMulsRow.holds Try.pinned (OpenSpec.ofChange ghashMulsSpec)

/-- ITS FALSE NEIGHBOUR: 'it returns false'. Refute it at one input. -/
def ghashMulsWrong : ChangeSpec := { name := "ghashMuls", fn := fun _ => fun
  | [d1, d2, d3] => { results := [.lit (.bool false)], args := [d1, d2, d3] }
  | _ => none }
def GhashMulsWrongFalsely : Prop := ghashMulsRow.holds Try.pinned (OpenSpec.ofChange ghashMulsWrong)

/-- 'padlocklaw08.GhashTells': WHATEVER THE INPUT: true; the input reads as it did. -/
def ghashTellsSpec : ChangeSpec := { name := "ghashTells", fn := fun _ => fun
  | [d1, d2, d3] => { results := [.lit (.bool true)], args := [d1, d2, d3] }
  | _ => none }
def ghashTellsRow : OpenClaim := { program := "ytepooocdpifcfaa", sum := "41fbb699beac788b65b62dbde20eca92207542f1aaef984afeb98c5cf62efd15", func := "padlock/padlocklaw08.GhashTells", spec := "ghashTells", apart := false }
def GhashTellsSaid : Prop := ghashTellsRow.holds Try.pinned (OpenSpec.ofChange ghashTellsSpec)

/-- ITS FALSE NEIGHBOUR: 'it returns false'. Refute it at one input. -/
def ghashTellsWrong : ChangeSpec := { name := "ghashTells", fn := fun _ => fun
  | [d1, d2, d3] => { results := [.lit (.bool false)], args := [d1, d2, d3] }
  | _ => none }
def GhashTellsWrongFalsely : Prop := ghashTellsRow.holds Try.pinned (OpenSpec.ofChange ghashTellsWrong)

/-- 'padlocklaw08.GhashSums': WHATEVER THE INPUT: true; the input reads as it did. -/
def ghashSumsSpec : ChangeSpec := { name := "ghashSums", fn := fun _ => fun
  | [d1, d2, d3] => { results := [.lit (.bool true)], args := [d1, d2, d3] }
  | _ => none }
def ghashSumsRow : OpenClaim := { program := "ytepooocdpifcfaa", sum := "41fbb699beac788b65b62dbde20eca92207542f1aaef984afeb98c5cf62efd15", func := "padlock/padlocklaw08.GhashSums", spec := "ghashSums", apart := false }
def GhashSumsSaid : Prop := ghashSumsRow.holds Try.pinned (OpenSpec.ofChange ghashSumsSpec)

/-- ITS FALSE NEIGHBOUR: 'it returns false'. Refute it at one input. -/
def ghashSumsWrong : ChangeSpec := { name := "ghashSums", fn := fun _ => fun
  | [d1, d2, d3] => { results := [.lit (.bool false)], args := [d1, d2, d3] }
  | _ => none }
def GhashSumsWrongFalsely : Prop := ghashSumsRow.holds Try.pinned (OpenSpec.ofChange ghashSumsWrong)

/-- 'padlocklaw08.GhashField': WHATEVER THE INPUT: true; the input reads as it did. -/
def ghashFieldSpec : ChangeSpec := { name := "ghashField", fn := fun _ => fun
  | [d] => { results := [.lit (.bool true)], args := [d] }
  | _ => none }
def ghashFieldRow : OpenClaim := { program := "ytepooocdpifcfaa", sum := "41fbb699beac788b65b62dbde20eca92207542f1aaef984afeb98c5cf62efd15", func := "padlock/padlocklaw08.GhashField", spec := "ghashField", apart := false }
def GhashFieldSaid : Prop := ghashFieldRow.holds Try.pinned (OpenSpec.ofChange ghashFieldSpec)

/-- ITS FALSE NEIGHBOUR: 'it returns false'. Refute it at one input. -/
def ghashFieldWrong : ChangeSpec := { name := "ghashField", fn := fun _ => fun
  | [d] => { results := [.lit (.bool false)], args := [d] }
  | _ => none }
def GhashFieldWrongFalsely : Prop := ghashFieldRow.holds Try.pinned (OpenSpec.ofChange ghashFieldWrong)

/-- 'padlocklaw08.GhashPowers': WHATEVER THE INPUT: true; the input reads as it did. -/
def ghashPowersSpec : ChangeSpec := { name := "ghashPowers", fn := fun _ => fun
  | [d1, d2, d3] => { results := [.lit (.bool true)], args := [d1, d2, d3] }
  | _ => none }
def ghashPowersRow : OpenClaim := { program := "ytepooocdpifcfaa", sum := "41fbb699beac788b65b62dbde20eca92207542f1aaef984afeb98c5cf62efd15", func := "padlock/padlocklaw08.GhashPowers", spec := "ghashPowers", apart := false }
def GhashPowersSaid : Prop := ghashPowersRow.holds Try.pinned (OpenSpec.ofChange ghashPowersSpec)

/-- ITS FALSE NEIGHBOUR: 'it returns false'. Refute it at one input. -/
def ghashPowersWrong : ChangeSpec := { name := "ghashPowers", fn := fun _ => fun
  | [d1, d2, d3] => { results := [.lit (.bool false)], args := [d1, d2, d3] }
  | _ => none }
def GhashPowersWrongFalsely : Prop := ghashPowersRow.holds Try.pinned (OpenSpec.ofChange ghashPowersWrong)

/-- 'padlocklaw07.CipherExpands': WHATEVER THE INPUT: true; the input reads as it did. -/
def cipherExpandsSpec : ChangeSpec := { name := "cipherExpands", fn := fun _ => fun
  | [d1, d2] => { results := [.lit (.bool true)], args := [d1, d2] }
  | _ => none }
def cipherExpandsRow : OpenClaim := { program := "ytepooocdpifcfaa", sum := "41fbb699beac788b65b62dbde20eca92207542f1aaef984afeb98c5cf62efd15", func := "padlock/padlocklaw07.CipherExpands", spec := "cipherExpands", unfollowed := true, recurses := true, apart := false }
def CipherExpandsSaid : Prop := cipherExpandsRow.holds Try.pinned (OpenSpec.ofChange cipherExpandsSpec)

/-- ITS FALSE NEIGHBOUR: 'it returns false'. Refute it at one input. -/
def cipherExpandsWrong : ChangeSpec := { name := "cipherExpands", fn := fun _ => fun
  | [d1, d2] => { results := [.lit (.bool false)], args := [d1, d2] }
  | _ => none }
def CipherExpandsWrongFalsely : Prop := cipherExpandsRow.holds Try.pinned (OpenSpec.ofChange cipherExpandsWrong)

/-- 'padlocklaw07.CipherSeals': WHATEVER THE INPUT: true; the input reads as it did. -/
def cipherSealsSpec : ChangeSpec := { name := "cipherSeals", fn := fun _ => fun
  | [d1, d2, d3] => { results := [.lit (.bool true)], args := [d1, d2, d3] }
  | _ => none }
def cipherSealsRow : OpenClaim := { program := "ytepooocdpifcfaa", sum := "41fbb699beac788b65b62dbde20eca92207542f1aaef984afeb98c5cf62efd15", func := "padlock/padlocklaw07.CipherSeals", spec := "cipherSeals", unfollowed := true, recurses := true, apart := false }
def CipherSealsSaid : Prop := cipherSealsRow.holds Try.pinned (OpenSpec.ofChange cipherSealsSpec)

/-- ITS FALSE NEIGHBOUR: 'it returns false'. Refute it at one input. -/
def cipherSealsWrong : ChangeSpec := { name := "cipherSeals", fn := fun _ => fun
  | [d1, d2, d3] => { results := [.lit (.bool false)], args := [d1, d2, d3] }
  | _ => none }
def CipherSealsWrongFalsely : Prop := cipherSealsRow.holds Try.pinned (OpenSpec.ofChange cipherSealsWrong)

/-- 'padlocklaw07.CipherBack': WHATEVER THE INPUT: true; the input reads as it did. -/
def cipherBackSpec : ChangeSpec := { name := "cipherBack", fn := fun _ => fun
  | [d1, d2] => { results := [.lit (.bool true)], args := [d1, d2] }
  | _ => none }
def cipherBackRow : OpenClaim := { program := "ytepooocdpifcfaa", sum := "41fbb699beac788b65b62dbde20eca92207542f1aaef984afeb98c5cf62efd15", func := "padlock/padlocklaw07.CipherBack", spec := "cipherBack", unfollowed := true, recurses := true, apart := false }
def CipherBackSaid : Prop := cipherBackRow.holds Try.pinned (OpenSpec.ofChange cipherBackSpec)

/-- ITS FALSE NEIGHBOUR: 'it returns false'. Refute it at one input. -/
def cipherBackWrong : ChangeSpec := { name := "cipherBack", fn := fun _ => fun
  | [d1, d2] => { results := [.lit (.bool false)], args := [d1, d2] }
  | _ => none }
def CipherBackWrongFalsely : Prop := cipherBackRow.holds Try.pinned (OpenSpec.ofChange cipherBackWrong)

/-- 'padlocklaw07.CipherTurns': WHATEVER THE INPUT: true; the input reads as it did. -/
def cipherTurnsSpec : ChangeSpec := { name := "cipherTurns", fn := fun _ => fun
  | [d] => { results := [.lit (.bool true)], args := [d] }
  | _ => none }
def cipherTurnsRow : OpenClaim := { program := "ytepooocdpifcfaa", sum := "41fbb699beac788b65b62dbde20eca92207542f1aaef984afeb98c5cf62efd15", func := "padlock/padlocklaw07.CipherTurns", spec := "cipherTurns", unfollowed := true, recurses := true, apart := false }
def CipherTurnsSaid : Prop := cipherTurnsRow.holds Try.pinned (OpenSpec.ofChange cipherTurnsSpec)

/-- ITS FALSE NEIGHBOUR: 'it returns false'. Refute it at one input. -/
def cipherTurnsWrong : ChangeSpec := { name := "cipherTurns", fn := fun _ => fun
  | [d] => { results := [.lit (.bool false)], args := [d] }
  | _ => none }
def CipherTurnsWrongFalsely : Prop := cipherTurnsRow.holds Try.pinned (OpenSpec.ofChange cipherTurnsWrong)

/-- 'padlocklaw07.CipherKeys': WHATEVER THE INPUT: true; the input reads as it did. -/
def cipherKeysSpec : ChangeSpec := { name := "cipherKeys", fn := fun _ => fun
  | [d1, d2] => { results := [.lit (.bool true)], args := [d1, d2] }
  | _ => none }
def cipherKeysRow : OpenClaim := { program := "ytepooocdpifcfaa", sum := "41fbb699beac788b65b62dbde20eca92207542f1aaef984afeb98c5cf62efd15", func := "padlock/padlocklaw07.CipherKeys", spec := "cipherKeys", unfollowed := true, recurses := true, apart := false }
def CipherKeysSaid : Prop := cipherKeysRow.holds Try.pinned (OpenSpec.ofChange cipherKeysSpec)

/-- ITS FALSE NEIGHBOUR: 'it returns false'. Refute it at one input. -/
def cipherKeysWrong : ChangeSpec := { name := "cipherKeys", fn := fun _ => fun
  | [d1, d2] => { results := [.lit (.bool false)], args := [d1, d2] }
  | _ => none }
def CipherKeysWrongFalsely : Prop := cipherKeysRow.holds Try.pinned (OpenSpec.ofChange cipherKeysWrong)

/- THE SECOND FORM. 'bulk': how many values and letters a reading holds, each counted each time it is reached (what is shared counts as often as it is met; a slice's spare places count too). A statement '..UptoSaid' is the law's where the arguments, and the package variables that the reading takes, are together of bulk at most 1048576: NARROWER than '..Said'. Prove '..Said' where nothing that the law and all that it calls make is longer than what came in: it says more and counts as full. Else prove '..UptoSaid'. A law counts once. -/
mutual
def uptoBulk {H : Type} : DataW H → Nat
  | .lit (.string bytes) => bytes.length + 1
  | .lit _ => 1
  | .nil => 1
  | .ptr d => uptoBulk d + 1
  | .slice elems spare => uptoBulkAll elems + uptoBulkAll spare + 1
  | .agg parts => uptoBulkAll parts + 1
  | .iface _ d => uptoBulk d + 1
  | .map entries => uptoBulkEntries entries + 1
  | .held _ => 1
def uptoBulkAll {H : Type} : List (DataW H) → Nat
  | [] => 0
  | d :: r => uptoBulk d + uptoBulkAll r
def uptoBulkEntries {H : Type} : List (Lit × DataW H) → Nat
  | [] => 0
  | x :: r => uptoBulkEntry x + uptoBulkEntries r
def uptoBulkEntry {H : Type} : Lit × DataW H → Nat
  | (.string bytes, d) => bytes.length + uptoBulk d + 1
  | (_, d) => uptoBulk d + 1
 end
def uptoSmall : (H : Type) → List (DataW H) → Bool := fun _ ds => decide (uptoBulkAll ds ≤ 1048576)
def OpenSpec.upto (s : _root_.Go.ChangeSpec) : _root_.Go.OpenSpec := { _root_.Go.OpenSpec.ofChange s with cond := some uptoSmall }

/-- 'padlocklaw08.GhashMuls', WHERE WHAT IT READS IS OF BULK AT MOST 1048576: true; the input reads as it did. -/
def ghashMulsUptoRow : OpenClaim := { program := "ytepooocdpifcfaa", sum := "41fbb699beac788b65b62dbde20eca92207542f1aaef984afeb98c5cf62efd15", func := "padlock/padlocklaw08.GhashMuls", spec := "ghashMuls", apart := false, narrowed := true }
def GhashMulsUptoSaid : Prop := ghashMulsUptoRow.holds Try.pinned (OpenSpec.upto ghashMulsSpec)

/-- 'padlocklaw08.GhashTells', WHERE WHAT IT READS IS OF BULK AT MOST 1048576: true; the input reads as it did. -/
def ghashTellsUptoRow : OpenClaim := { program := "ytepooocdpifcfaa", sum := "41fbb699beac788b65b62dbde20eca92207542f1aaef984afeb98c5cf62efd15", func := "padlock/padlocklaw08.GhashTells", spec := "ghashTells", apart := false, narrowed := true }
def GhashTellsUptoSaid : Prop := ghashTellsUptoRow.holds Try.pinned (OpenSpec.upto ghashTellsSpec)

/-- 'padlocklaw08.GhashSums', WHERE WHAT IT READS IS OF BULK AT MOST 1048576: true; the input reads as it did. -/
def ghashSumsUptoRow : OpenClaim := { program := "ytepooocdpifcfaa", sum := "41fbb699beac788b65b62dbde20eca92207542f1aaef984afeb98c5cf62efd15", func := "padlock/padlocklaw08.GhashSums", spec := "ghashSums", apart := false, narrowed := true }
def GhashSumsUptoSaid : Prop := ghashSumsUptoRow.holds Try.pinned (OpenSpec.upto ghashSumsSpec)

/-- 'padlocklaw08.GhashField', WHERE WHAT IT READS IS OF BULK AT MOST 1048576: true; the input reads as it did. -/
def ghashFieldUptoRow : OpenClaim := { program := "ytepooocdpifcfaa", sum := "41fbb699beac788b65b62dbde20eca92207542f1aaef984afeb98c5cf62efd15", func := "padlock/padlocklaw08.GhashField", spec := "ghashField", apart := false, narrowed := true }
def GhashFieldUptoSaid : Prop := ghashFieldUptoRow.holds Try.pinned (OpenSpec.upto ghashFieldSpec)

/-- 'padlocklaw08.GhashPowers', WHERE WHAT IT READS IS OF BULK AT MOST 1048576: true; the input reads as it did. -/
def ghashPowersUptoRow : OpenClaim := { program := "ytepooocdpifcfaa", sum := "41fbb699beac788b65b62dbde20eca92207542f1aaef984afeb98c5cf62efd15", func := "padlock/padlocklaw08.GhashPowers", spec := "ghashPowers", apart := false, narrowed := true }
def GhashPowersUptoSaid : Prop := ghashPowersUptoRow.holds Try.pinned (OpenSpec.upto ghashPowersSpec)

/-- 'padlocklaw07.CipherExpands', WHERE WHAT IT READS IS OF BULK AT MOST 1048576: true; the input reads as it did. -/
def cipherExpandsUptoRow : OpenClaim := { program := "ytepooocdpifcfaa", sum := "41fbb699beac788b65b62dbde20eca92207542f1aaef984afeb98c5cf62efd15", func := "padlock/padlocklaw07.CipherExpands", spec := "cipherExpands", unfollowed := true, recurses := true, apart := false, narrowed := true }
def CipherExpandsUptoSaid : Prop := cipherExpandsUptoRow.holds Try.pinned (OpenSpec.upto cipherExpandsSpec)

/-- 'padlocklaw07.CipherSeals', WHERE WHAT IT READS IS OF BULK AT MOST 1048576: true; the input reads as it did. -/
def cipherSealsUptoRow : OpenClaim := { program := "ytepooocdpifcfaa", sum := "41fbb699beac788b65b62dbde20eca92207542f1aaef984afeb98c5cf62efd15", func := "padlock/padlocklaw07.CipherSeals", spec := "cipherSeals", unfollowed := true, recurses := true, apart := false, narrowed := true }
def CipherSealsUptoSaid : Prop := cipherSealsUptoRow.holds Try.pinned (OpenSpec.upto cipherSealsSpec)

/-- 'padlocklaw07.CipherBack', WHERE WHAT IT READS IS OF BULK AT MOST 1048576: true; the input reads as it did. -/
def cipherBackUptoRow : OpenClaim := { program := "ytepooocdpifcfaa", sum := "41fbb699beac788b65b62dbde20eca92207542f1aaef984afeb98c5cf62efd15", func := "padlock/padlocklaw07.CipherBack", spec := "cipherBack", unfollowed := true, recurses := true, apart := false, narrowed := true }
def CipherBackUptoSaid : Prop := cipherBackUptoRow.holds Try.pinned (OpenSpec.upto cipherBackSpec)

/-- 'padlocklaw07.CipherTurns', WHERE WHAT IT READS IS OF BULK AT MOST 1048576: true; the input reads as it did. -/
def cipherTurnsUptoRow : OpenClaim := { program := "ytepooocdpifcfaa", sum := "41fbb699beac788b65b62dbde20eca92207542f1aaef984afeb98c5cf62efd15", func := "padlock/padlocklaw07.CipherTurns", spec := "cipherTurns", unfollowed := true, recurses := true, apart := false, narrowed := true }
def CipherTurnsUptoSaid : Prop := cipherTurnsUptoRow.holds Try.pinned (OpenSpec.upto cipherTurnsSpec)

/-- 'padlocklaw07.CipherKeys', WHERE WHAT IT READS IS OF BULK AT MOST 1048576: true; the input reads as it did. -/
def cipherKeysUptoRow : OpenClaim := { program := "ytepooocdpifcfaa", sum := "41fbb699beac788b65b62dbde20eca92207542f1aaef984afeb98c5cf62efd15", func := "padlock/padlocklaw07.CipherKeys", spec := "cipherKeys", unfollowed := true, recurses := true, apart := false, narrowed := true }
def CipherKeysUptoSaid : Prop := cipherKeysUptoRow.holds Try.pinned (OpenSpec.upto cipherKeysSpec)

end Rows
end Go.Proofs.Ytepooocdpifcfaa
