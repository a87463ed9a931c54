/-
  No cell of these rows narrows 'for every input' (looked for: loops, veiled, ifaces, maps, wideKeys, modest, calm, conditions, laid).
  DERIVED. THE GIVEN ROWS OF THIS SEAT. 5 by the template 'for every input the law returns true; each argument reads behind the call as it read before'; 0 by the template 'total and deterministic' (their statements: YthihhkabbdkohaaTotals.lean).
  GIVEN WITH THE SEED: the statements are not yours to turn. If you find one false, say at which input.
  Laid BY PROGRAM, IN A SANDBOX (cutbox-rows.mjs): the forced cells as the released guide's own fill.sh prints them over the translation 9e4fa82f4fa96cb7… (all of the seat's roots in one cut). By AI agents, Wed Nov 11 2026. No macro, syntax, notation, axiom, sorry.
-/
import Derived.Test.YthihhkabbdkohaaChecked
import GoSem.Claim
import GoSem.ClaimJoined
import GoSem.ClaimMapViews
import Derived.JoinedTies
import Derived.KernelRfl
namespace Go.Proofs.Ythihhkabbdkohaa
/- THE CELL 'sum', in the pinned program and in every row, IS THE sha256 OF THE DUMP (.gsa) THAT YthihhkabbdkohaaProg.lean LOADS. Nothing in Lean hashes anything: it is a label: what it is worth is what the hold of that sum in a sandbox is worth. -/
noncomputable def Try.pinned : Pinned := { name := "ythihhkabbdkohaa", sum := "9e4fa82f4fa96cb7fee10ab294bb58034d2f98c3034c9f95df775d6b79640ef6", checked := Try.checked }
namespace Rows
def none {H : Type} : Left H := { results := [], args := [] }

/-- 'laws.FnExactValidStuffs': WHATEVER THE INPUT: true; the input reads as it did. -/
def fnExactValidStuffsSpec : ChangeSpec := { name := "fnExactValidStuffs", fn := fun _ => fun
  | [d] => { results := [.lit (.bool true)], args := [d] }
  | _ => none }
def fnExactValidStuffsRow : OpenClaim := { program := "ythihhkabbdkohaa", sum := "9e4fa82f4fa96cb7fee10ab294bb58034d2f98c3034c9f95df775d6b79640ef6", func := "loop.example/g01043/laws.FnExactValidStuffs", spec := "fnExactValidStuffs", unfollowed := true, recurses := true, apart := false }
def FnExactValidStuffsSaid : Prop := fnExactValidStuffsRow.holds Try.pinned (OpenSpec.ofChange fnExactValidStuffsSpec)

/-- ITS FALSE NEIGHBOUR: 'it returns false'. Refute it at one input. -/
def fnExactValidStuffsWrong : ChangeSpec := { name := "fnExactValidStuffs", fn := fun _ => fun
  | [d] => { results := [.lit (.bool false)], args := [d] }
  | _ => none }
def FnExactValidStuffsWrongFalsely : Prop := fnExactValidStuffsRow.holds Try.pinned (OpenSpec.ofChange fnExactValidStuffsWrong)

/-- 'laws.FnExactValidSole': WHATEVER THE INPUT: true; the input reads as it did. -/
def fnExactValidSoleSpec : ChangeSpec := { name := "fnExactValidSole", fn := fun _ => fun
  | [d1, d2] => { results := [.lit (.bool true)], args := [d1, d2] }
  | _ => none }
def fnExactValidSoleRow : OpenClaim := { program := "ythihhkabbdkohaa", sum := "9e4fa82f4fa96cb7fee10ab294bb58034d2f98c3034c9f95df775d6b79640ef6", func := "loop.example/g01043/laws.FnExactValidSole", spec := "fnExactValidSole", unfollowed := true, recurses := true, apart := false }
def FnExactValidSoleSaid : Prop := fnExactValidSoleRow.holds Try.pinned (OpenSpec.ofChange fnExactValidSoleSpec)

/-- ITS FALSE NEIGHBOUR: 'it returns false'. Refute it at one input. -/
def fnExactValidSoleWrong : ChangeSpec := { name := "fnExactValidSole", fn := fun _ => fun
  | [d1, d2] => { results := [.lit (.bool false)], args := [d1, d2] }
  | _ => none }
def FnExactValidSoleWrongFalsely : Prop := fnExactValidSoleRow.holds Try.pinned (OpenSpec.ofChange fnExactValidSoleWrong)

/-- 'laws.FnExactGrooveDepth': WHATEVER THE INPUT: true; the input reads as it did. -/
def fnExactGrooveDepthSpec : ChangeSpec := { name := "fnExactGrooveDepth", fn := fun _ => fun
  | [d1, d2, d3] => { results := [.lit (.bool true)], args := [d1, d2, d3] }
  | _ => none }
def fnExactGrooveDepthRow : OpenClaim := { program := "ythihhkabbdkohaa", sum := "9e4fa82f4fa96cb7fee10ab294bb58034d2f98c3034c9f95df775d6b79640ef6", func := "loop.example/g01043/laws.FnExactGrooveDepth", spec := "fnExactGrooveDepth", unfollowed := true, recurses := true, apart := false }
def FnExactGrooveDepthSaid : Prop := fnExactGrooveDepthRow.holds Try.pinned (OpenSpec.ofChange fnExactGrooveDepthSpec)

/-- ITS FALSE NEIGHBOUR: 'it returns false'. Refute it at one input. -/
def fnExactGrooveDepthWrong : ChangeSpec := { name := "fnExactGrooveDepth", fn := fun _ => fun
  | [d1, d2, d3] => { results := [.lit (.bool false)], args := [d1, d2, d3] }
  | _ => none }
def FnExactGrooveDepthWrongFalsely : Prop := fnExactGrooveDepthRow.holds Try.pinned (OpenSpec.ofChange fnExactGrooveDepthWrong)

/-- 'laws.FnExactTurnSole': WHATEVER THE INPUT: true; the input reads as it did. -/
def fnExactTurnSoleSpec : ChangeSpec := { name := "fnExactTurnSole", fn := fun _ => fun
  | [d1, d2] => { results := [.lit (.bool true)], args := [d1, d2] }
  | _ => none }
def fnExactTurnSoleRow : OpenClaim := { program := "ythihhkabbdkohaa", sum := "9e4fa82f4fa96cb7fee10ab294bb58034d2f98c3034c9f95df775d6b79640ef6", func := "loop.example/g01043/laws.FnExactTurnSole", spec := "fnExactTurnSole", unfollowed := true, recurses := true, apart := false }
def FnExactTurnSoleSaid : Prop := fnExactTurnSoleRow.holds Try.pinned (OpenSpec.ofChange fnExactTurnSoleSpec)

/-- ITS FALSE NEIGHBOUR: 'it returns false'. Refute it at one input. -/
def fnExactTurnSoleWrong : ChangeSpec := { name := "fnExactTurnSole", fn := fun _ => fun
  | [d1, d2] => { results := [.lit (.bool false)], args := [d1, d2] }
  | _ => none }
def FnExactTurnSoleWrongFalsely : Prop := fnExactTurnSoleRow.holds Try.pinned (OpenSpec.ofChange fnExactTurnSoleWrong)

/-- 'laws.FnExactSoleText': WHATEVER THE INPUT: true; the input reads as it did. -/
def fnExactSoleTextSpec : ChangeSpec := { name := "fnExactSoleText", fn := fun _ => fun
  | [d1, d2] => { results := [.lit (.bool true)], args := [d1, d2] }
  | _ => none }
def fnExactSoleTextRow : OpenClaim := { program := "ythihhkabbdkohaa", sum := "9e4fa82f4fa96cb7fee10ab294bb58034d2f98c3034c9f95df775d6b79640ef6", func := "loop.example/g01043/laws.FnExactSoleText", spec := "fnExactSoleText", inPlace := ["internal/abi.NoEscape", "internal/bytealg.MakeNoZero"], unfollowed := true, recurses := true, apart := false }
def FnExactSoleTextSaid : Prop := fnExactSoleTextRow.holds Try.pinned (OpenSpec.ofChange fnExactSoleTextSpec)

/-- ITS FALSE NEIGHBOUR: 'it returns false'. Refute it at one input. -/
def fnExactSoleTextWrong : ChangeSpec := { name := "fnExactSoleText", fn := fun _ => fun
  | [d1, d2] => { results := [.lit (.bool false)], args := [d1, d2] }
  | _ => none }
def FnExactSoleTextWrongFalsely : Prop := fnExactSoleTextRow.holds Try.pinned (OpenSpec.ofChange fnExactSoleTextWrong)

/- THE SECOND FORM. 'bulk': how many values and letters a reading holds, each counted each time it is reached (what is shared counts as often as it is met; a slice's spare places count too). A statement '..UptoSaid' is the law's where the arguments, and the package variables that the reading takes, are together of bulk at most 1048576: NARROWER than '..Said'. Prove '..Said' where nothing that the law and all that it calls make is longer than what came in: it says more and counts as full. Else prove '..UptoSaid'. A law counts once. -/
mutual
def uptoBulk {H : Type} : DataW H → Nat
  | .lit (.string bytes) => bytes.length + 1
  | .lit _ => 1
  | .nil => 1
  | .ptr d => uptoBulk d + 1
  | .slice elems spare => uptoBulkAll elems + uptoBulkAll spare + 1
  | .agg parts => uptoBulkAll parts + 1
  | .iface _ d => uptoBulk d + 1
  | .map entries => uptoBulkEntries entries + 1
  | .held _ => 1
def uptoBulkAll {H : Type} : List (DataW H) → Nat
  | [] => 0
  | d :: r => uptoBulk d + uptoBulkAll r
def uptoBulkEntries {H : Type} : List (Lit × DataW H) → Nat
  | [] => 0
  | x :: r => uptoBulkEntry x + uptoBulkEntries r
def uptoBulkEntry {H : Type} : Lit × DataW H → Nat
  | (.string bytes, d) => bytes.length + uptoBulk d + 1
  | (_, d) => uptoBulk d + 1
 end
def uptoSmall : (H : Type) → List (DataW H) → Bool := fun _ ds => decide (uptoBulkAll ds ≤ 1048576)
def OpenSpec.upto (s : _root_.Go.ChangeSpec) : _root_.Go.OpenSpec := { _root_.Go.OpenSpec.ofChange s with cond := some uptoSmall }

/-- 'laws.FnExactValidStuffs', WHERE WHAT IT READS IS OF BULK AT MOST 1048576: true; the input reads as it did. -/
def fnExactValidStuffsUptoRow : OpenClaim := { program := "ythihhkabbdkohaa", sum := "9e4fa82f4fa96cb7fee10ab294bb58034d2f98c3034c9f95df775d6b79640ef6", func := "loop.example/g01043/laws.FnExactValidStuffs", spec := "fnExactValidStuffs", unfollowed := true, recurses := true, apart := false, narrowed := true }
def FnExactValidStuffsUptoSaid : Prop := fnExactValidStuffsUptoRow.holds Try.pinned (OpenSpec.upto fnExactValidStuffsSpec)

/-- 'laws.FnExactValidSole', WHERE WHAT IT READS IS OF BULK AT MOST 1048576: true; the input reads as it did. -/
def fnExactValidSoleUptoRow : OpenClaim := { program := "ythihhkabbdkohaa", sum := "9e4fa82f4fa96cb7fee10ab294bb58034d2f98c3034c9f95df775d6b79640ef6", func := "loop.example/g01043/laws.FnExactValidSole", spec := "fnExactValidSole", unfollowed := true, recurses := true, apart := false, narrowed := true }
def FnExactValidSoleUptoSaid : Prop := fnExactValidSoleUptoRow.holds Try.pinned (OpenSpec.upto fnExactValidSoleSpec)

/-- 'laws.FnExactGrooveDepth', WHERE WHAT IT READS IS OF BULK AT MOST 1048576: true; the input reads as it did. -/
def fnExactGrooveDepthUptoRow : OpenClaim := { program := "ythihhkabbdkohaa", sum := "9e4fa82f4fa96cb7fee10ab294bb58034d2f98c3034c9f95df775d6b79640ef6", func := "loop.example/g01043/laws.FnExactGrooveDepth", spec := "fnExactGrooveDepth", unfollowed := true, recurses := true, apart := false, narrowed := true }
def FnExactGrooveDepthUptoSaid : Prop := fnExactGrooveDepthUptoRow.holds Try.pinned (OpenSpec.upto fnExactGrooveDepthSpec)

/-- 'laws.FnExactTurnSole', WHERE WHAT IT READS IS OF BULK AT MOST 1048576: true; the input reads as it did. -/
def fnExactTurnSoleUptoRow : OpenClaim := { program := "ythihhkabbdkohaa", sum := "9e4fa82f4fa96cb7fee10ab294bb58034d2f98c3034c9f95df775d6b79640ef6", func := "loop.example/g01043/laws.FnExactTurnSole", spec := "fnExactTurnSole", unfollowed := true, recurses := true, apart := false, narrowed := true }
def FnExactTurnSoleUptoSaid : Prop := fnExactTurnSoleUptoRow.holds Try.pinned (OpenSpec.upto fnExactTurnSoleSpec)

/-- 'laws.FnExactSoleText', WHERE WHAT IT READS IS OF BULK AT MOST 1048576: true; the input reads as it did. -/
def fnExactSoleTextUptoRow : OpenClaim := { program := "ythihhkabbdkohaa", sum := "9e4fa82f4fa96cb7fee10ab294bb58034d2f98c3034c9f95df775d6b79640ef6", func := "loop.example/g01043/laws.FnExactSoleText", spec := "fnExactSoleText", inPlace := ["internal/abi.NoEscape", "internal/bytealg.MakeNoZero"], unfollowed := true, recurses := true, apart := false, narrowed := true }
def FnExactSoleTextUptoSaid : Prop := fnExactSoleTextUptoRow.holds Try.pinned (OpenSpec.upto fnExactSoleTextSpec)

end Rows
end Go.Proofs.Ythihhkabbdkohaa
