/-
  No cell of these rows narrows 'for every input' (looked for: loops, veiled, ifaces, maps, wideKeys, modest, calm, conditions, laid).
  DERIVED. THE GIVEN ROWS OF THIS SEAT. 4 by the template 'for every input the law returns true; each argument reads behind the call as it read before'; 0 by the template 'total and deterministic' (their statements: YtgaecjhghpkcoaaGreatTotals.lean).
  GIVEN WITH THE SEED: the statements are not yours to turn. If you find one false, say at which input.
  Laid BY PROGRAM, IN A SANDBOX (cutbox-rows.mjs): the forced cells as the released guide's own fill.sh prints them over the translation cb39646977b1b146… (all of the seat's roots in one cut). By AI agents, Wed Nov 11 2026. No macro, syntax, notation, axiom, sorry.
-/
import Derived.Test.YtgaecjhghpkcoaaGreatChecked
import GoSem.Claim
import GoSem.ClaimJoined
import GoSem.ClaimMapViews
import Derived.JoinedTies
import Derived.KernelRfl
namespace Go.Proofs.YtgaecjhghpkcoaaGreat
/- THE CELL 'sum', in the pinned program and in every row, IS THE sha256 OF THE DUMP (.gsa) THAT YtgaecjhghpkcoaaGreatProg.lean LOADS. Nothing in Lean hashes anything: it is a label: what it is worth is what the hold of that sum in a sandbox is worth. -/
noncomputable def Tryz.pinned : Pinned := { name := "ytgaecjhghpkcoaagreat", sum := "cb39646977b1b1466b24641a097e2586a97c9f090c54182f73b2437d4aabdebd", checked := Tryz.checked }
namespace Rows
def none {H : Type} : Left H := { results := [], args := [] }

/-- 'padlocklaw21.BarrierDoes': WHATEVER THE INPUT: true; the input reads as it did. -/
def barrierDoesSpec : ChangeSpec := { name := "barrierDoes", fn := fun _ => fun
  | [d1, d2, d3] => { results := [.lit (.bool true)], args := [d1, d2, d3] }
  | _ => none }
def barrierDoesRow : OpenClaim := { program := "ytgaecjhghpkcoaagreat", sum := "cb39646977b1b1466b24641a097e2586a97c9f090c54182f73b2437d4aabdebd", func := "padlock/padlocklaw21.BarrierDoes", spec := "barrierDoes", inPlace := ["internal/abi.NoEscape", "internal/bytealg.MakeNoZero"], unfollowed := true, recurses := true, apart := false }
def BarrierDoesSaid : Prop := barrierDoesRow.holds Tryz.pinned (OpenSpec.ofChange barrierDoesSpec)

/-- ITS FALSE NEIGHBOUR: 'it returns false'. Refute it at one input. -/
def barrierDoesWrong : ChangeSpec := { name := "barrierDoes", fn := fun _ => fun
  | [d1, d2, d3] => { results := [.lit (.bool false)], args := [d1, d2, d3] }
  | _ => none }
def BarrierDoesWrongFalsely : Prop := barrierDoesRow.holds Tryz.pinned (OpenSpec.ofChange barrierDoesWrong)

/-- 'padlocklaw21.BarrierBack': WHATEVER THE INPUT: true; the input reads as it did. -/
def barrierBackSpec : ChangeSpec := { name := "barrierBack", fn := fun _ => fun
  | [d1, d2, d3] => { results := [.lit (.bool true)], args := [d1, d2, d3] }
  | _ => none }
def barrierBackRow : OpenClaim := { program := "ytgaecjhghpkcoaagreat", sum := "cb39646977b1b1466b24641a097e2586a97c9f090c54182f73b2437d4aabdebd", func := "padlock/padlocklaw21.BarrierBack", spec := "barrierBack", inPlace := ["internal/abi.NoEscape", "internal/bytealg.MakeNoZero", "maps.clone"], unfollowed := true, recurses := true, apart := false }
def BarrierBackSaid : Prop := barrierBackRow.holds Tryz.pinned (OpenSpec.ofChange barrierBackSpec)

/-- ITS FALSE NEIGHBOUR: 'it returns false'. Refute it at one input. -/
def barrierBackWrong : ChangeSpec := { name := "barrierBack", fn := fun _ => fun
  | [d1, d2, d3] => { results := [.lit (.bool false)], args := [d1, d2, d3] }
  | _ => none }
def BarrierBackWrongFalsely : Prop := barrierBackRow.holds Tryz.pinned (OpenSpec.ofChange barrierBackWrong)

/-- 'padlocklaw21.BarrierUnlocks': WHATEVER THE INPUT: true; the input reads as it did. -/
def barrierUnlocksSpec : ChangeSpec := { name := "barrierUnlocks", fn := fun _ => fun
  | [d1, d2, d3] => { results := [.lit (.bool true)], args := [d1, d2, d3] }
  | _ => none }
def barrierUnlocksRow : OpenClaim := { program := "ytgaecjhghpkcoaagreat", sum := "cb39646977b1b1466b24641a097e2586a97c9f090c54182f73b2437d4aabdebd", func := "padlock/padlocklaw21.BarrierUnlocks", spec := "barrierUnlocks", inPlace := ["internal/abi.NoEscape", "internal/bytealg.MakeNoZero", "maps.clone"], unfollowed := true, recurses := true, apart := false }
def BarrierUnlocksSaid : Prop := barrierUnlocksRow.holds Tryz.pinned (OpenSpec.ofChange barrierUnlocksSpec)

/-- ITS FALSE NEIGHBOUR: 'it returns false'. Refute it at one input. -/
def barrierUnlocksWrong : ChangeSpec := { name := "barrierUnlocks", fn := fun _ => fun
  | [d1, d2, d3] => { results := [.lit (.bool false)], args := [d1, d2, d3] }
  | _ => none }
def BarrierUnlocksWrongFalsely : Prop := barrierUnlocksRow.holds Tryz.pinned (OpenSpec.ofChange barrierUnlocksWrong)

/-- 'padlocklaw21.BarrierNonces': WHATEVER THE INPUT: true; the input reads as it did. -/
def barrierNoncesSpec : ChangeSpec := { name := "barrierNonces", fn := fun _ => fun
  | [d1, d2, d3] => { results := [.lit (.bool true)], args := [d1, d2, d3] }
  | _ => none }
def barrierNoncesRow : OpenClaim := { program := "ytgaecjhghpkcoaagreat", sum := "cb39646977b1b1466b24641a097e2586a97c9f090c54182f73b2437d4aabdebd", func := "padlock/padlocklaw21.BarrierNonces", spec := "barrierNonces", inPlace := ["internal/abi.NoEscape", "internal/bytealg.MakeNoZero"], unfollowed := true, recurses := true, apart := false }
def BarrierNoncesSaid : Prop := barrierNoncesRow.holds Tryz.pinned (OpenSpec.ofChange barrierNoncesSpec)

/-- ITS FALSE NEIGHBOUR: 'it returns false'. Refute it at one input. -/
def barrierNoncesWrong : ChangeSpec := { name := "barrierNonces", fn := fun _ => fun
  | [d1, d2, d3] => { results := [.lit (.bool false)], args := [d1, d2, d3] }
  | _ => none }
def BarrierNoncesWrongFalsely : Prop := barrierNoncesRow.holds Tryz.pinned (OpenSpec.ofChange barrierNoncesWrong)

/- THE SECOND FORM. 'bulk': how many values and letters a reading holds, each counted each time it is reached (what is shared counts as often as it is met; a slice's spare places count too). A statement '..UptoSaid' is the law's where the arguments, and the package variables that the reading takes, are together of bulk at most 1048576: NARROWER than '..Said'. Prove '..Said' where nothing that the law and all that it calls make is longer than what came in: it says more and counts as full. Else prove '..UptoSaid'. A law counts once. -/
mutual
def uptoBulk {H : Type} : DataW H → Nat
  | .lit (.string bytes) => bytes.length + 1
  | .lit _ => 1
  | .nil => 1
  | .ptr d => uptoBulk d + 1
  | .slice elems spare => uptoBulkAll elems + uptoBulkAll spare + 1
  | .agg parts => uptoBulkAll parts + 1
  | .iface _ d => uptoBulk d + 1
  | .map entries => uptoBulkEntries entries + 1
  | .held _ => 1
def uptoBulkAll {H : Type} : List (DataW H) → Nat
  | [] => 0
  | d :: r => uptoBulk d + uptoBulkAll r
def uptoBulkEntries {H : Type} : List (Lit × DataW H) → Nat
  | [] => 0
  | x :: r => uptoBulkEntry x + uptoBulkEntries r
def uptoBulkEntry {H : Type} : Lit × DataW H → Nat
  | (.string bytes, d) => bytes.length + uptoBulk d + 1
  | (_, d) => uptoBulk d + 1
 end
def uptoSmall : (H : Type) → List (DataW H) → Bool := fun _ ds => decide (uptoBulkAll ds ≤ 1048576)
def OpenSpec.upto (s : _root_.Go.ChangeSpec) : _root_.Go.OpenSpec := { _root_.Go.OpenSpec.ofChange s with cond := some uptoSmall }

/-- 'padlocklaw21.BarrierDoes', WHERE WHAT IT READS IS OF BULK AT MOST 1048576: true; the input reads as it did. -/
def barrierDoesUptoRow : OpenClaim := { program := "ytgaecjhghpkcoaagreat", sum := "cb39646977b1b1466b24641a097e2586a97c9f090c54182f73b2437d4aabdebd", func := "padlock/padlocklaw21.BarrierDoes", spec := "barrierDoes", inPlace := ["internal/abi.NoEscape", "internal/bytealg.MakeNoZero"], unfollowed := true, recurses := true, apart := false, narrowed := true }
def BarrierDoesUptoSaid : Prop := barrierDoesUptoRow.holds Tryz.pinned (OpenSpec.upto barrierDoesSpec)

/-- 'padlocklaw21.BarrierBack', WHERE WHAT IT READS IS OF BULK AT MOST 1048576: true; the input reads as it did. -/
def barrierBackUptoRow : OpenClaim := { program := "ytgaecjhghpkcoaagreat", sum := "cb39646977b1b1466b24641a097e2586a97c9f090c54182f73b2437d4aabdebd", func := "padlock/padlocklaw21.BarrierBack", spec := "barrierBack", inPlace := ["internal/abi.NoEscape", "internal/bytealg.MakeNoZero", "maps.clone"], unfollowed := true, recurses := true, apart := false, narrowed := true }
def BarrierBackUptoSaid : Prop := barrierBackUptoRow.holds Tryz.pinned (OpenSpec.upto barrierBackSpec)

/-- 'padlocklaw21.BarrierUnlocks', WHERE WHAT IT READS IS OF BULK AT MOST 1048576: true; the input reads as it did. -/
def barrierUnlocksUptoRow : OpenClaim := { program := "ytgaecjhghpkcoaagreat", sum := "cb39646977b1b1466b24641a097e2586a97c9f090c54182f73b2437d4aabdebd", func := "padlock/padlocklaw21.BarrierUnlocks", spec := "barrierUnlocks", inPlace := ["internal/abi.NoEscape", "internal/bytealg.MakeNoZero", "maps.clone"], unfollowed := true, recurses := true, apart := false, narrowed := true }
def BarrierUnlocksUptoSaid : Prop := barrierUnlocksUptoRow.holds Tryz.pinned (OpenSpec.upto barrierUnlocksSpec)

/-- 'padlocklaw21.BarrierNonces', WHERE WHAT IT READS IS OF BULK AT MOST 1048576: true; the input reads as it did. -/
def barrierNoncesUptoRow : OpenClaim := { program := "ytgaecjhghpkcoaagreat", sum := "cb39646977b1b1466b24641a097e2586a97c9f090c54182f73b2437d4aabdebd", func := "padlock/padlocklaw21.BarrierNonces", spec := "barrierNonces", inPlace := ["internal/abi.NoEscape", "internal/bytealg.MakeNoZero"], unfollowed := true, recurses := true, apart := false, narrowed := true }
def BarrierNoncesUptoSaid : Prop := barrierNoncesUptoRow.holds Tryz.pinned (OpenSpec.upto barrierNoncesSpec)

end Rows
end Go.Proofs.YtgaecjhghpkcoaaGreat
