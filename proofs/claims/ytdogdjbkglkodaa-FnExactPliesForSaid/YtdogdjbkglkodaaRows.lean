/-
  No cell of these rows narrows 'for every input' (looked for: loops, veiled, ifaces, maps, wideKeys, modest, calm, conditions, laid).
  DERIVED. THE GIVEN ROWS OF THIS SEAT. 5 by the template 'for every input the law returns true; each argument reads behind the call as it read before'; 0 by the template 'total and deterministic' (their statements: YtdogdjbkglkodaaTotals.lean).
  GIVEN WITH THE SEED: the statements are not yours to turn. If you find one false, say at which input.
  Laid BY PROGRAM, IN A SANDBOX (cutbox-rows.mjs): the forced cells as the released guide's own fill.sh prints them over the translation 1009befe5d666208… (all of the seat's roots in one cut). By AI agents, Wed Nov 11 2026. No macro, syntax, notation, axiom, sorry.
-/
import Derived.Test.YtdogdjbkglkodaaChecked
import GoSem.Claim
import GoSem.ClaimJoined
import GoSem.ClaimMapViews
import Derived.JoinedTies
import Derived.KernelRfl
namespace Go.Proofs.Ytdogdjbkglkodaa
/- THE CELL 'sum', in the pinned program and in every row, IS THE sha256 OF THE DUMP (.gsa) THAT YtdogdjbkglkodaaProg.lean LOADS. Nothing in Lean hashes anything: it is a label: what it is worth is what the hold of that sum in a sandbox is worth. -/
noncomputable def Try.pinned : Pinned := { name := "ytdogdjbkglkodaa", sum := "1009befe5d666208b83876bb30adc48de4dd81195c9deb7dc0e3c7a7c1a8817a", checked := Try.checked }
namespace Rows
def none {H : Type} : Left H := { results := [], args := [] }

/-- 'laws.FnExactValidThread': WHATEVER THE INPUT: true; the input reads as it did. -/
def fnExactValidThreadSpec : ChangeSpec := { name := "fnExactValidThread", fn := fun _ => fun
  | [d] => { results := [.lit (.bool true)], args := [d] }
  | _ => none }
def fnExactValidThreadRow : OpenClaim := { program := "ytdogdjbkglkodaa", sum := "1009befe5d666208b83876bb30adc48de4dd81195c9deb7dc0e3c7a7c1a8817a", func := "loop.example/g01043/laws.FnExactValidThread", spec := "fnExactValidThread", apart := false }
def FnExactValidThreadSaid : Prop := fnExactValidThreadRow.holds Try.pinned (OpenSpec.ofChange fnExactValidThreadSpec)

/-- ITS FALSE NEIGHBOUR: 'it returns false'. Refute it at one input. -/
def fnExactValidThreadWrong : ChangeSpec := { name := "fnExactValidThread", fn := fun _ => fun
  | [d] => { results := [.lit (.bool false)], args := [d] }
  | _ => none }
def FnExactValidThreadWrongFalsely : Prop := fnExactValidThreadRow.holds Try.pinned (OpenSpec.ofChange fnExactValidThreadWrong)

/-- 'laws.FnExactStitchesOn': WHATEVER THE INPUT: true; the input reads as it did. -/
def fnExactStitchesOnSpec : ChangeSpec := { name := "fnExactStitchesOn", fn := fun _ => fun
  | [d1, d2] => { results := [.lit (.bool true)], args := [d1, d2] }
  | _ => none }
def fnExactStitchesOnRow : OpenClaim := { program := "ytdogdjbkglkodaa", sum := "1009befe5d666208b83876bb30adc48de4dd81195c9deb7dc0e3c7a7c1a8817a", func := "loop.example/g01043/laws.FnExactStitchesOn", spec := "fnExactStitchesOn", apart := false }
def FnExactStitchesOnSaid : Prop := fnExactStitchesOnRow.holds Try.pinned (OpenSpec.ofChange fnExactStitchesOnSpec)

/-- ITS FALSE NEIGHBOUR: 'it returns false'. Refute it at one input. -/
def fnExactStitchesOnWrong : ChangeSpec := { name := "fnExactStitchesOn", fn := fun _ => fun
  | [d1, d2] => { results := [.lit (.bool false)], args := [d1, d2] }
  | _ => none }
def FnExactStitchesOnWrongFalsely : Prop := fnExactStitchesOnRow.holds Try.pinned (OpenSpec.ofChange fnExactStitchesOnWrong)

/-- 'laws.FnExactThreadFor': WHATEVER THE INPUT: true; the input reads as it did. -/
def fnExactThreadForSpec : ChangeSpec := { name := "fnExactThreadFor", fn := fun _ => fun
  | [d1, d2, d3] => { results := [.lit (.bool true)], args := [d1, d2, d3] }
  | _ => none }
def fnExactThreadForRow : OpenClaim := { program := "ytdogdjbkglkodaa", sum := "1009befe5d666208b83876bb30adc48de4dd81195c9deb7dc0e3c7a7c1a8817a", func := "loop.example/g01043/laws.FnExactThreadFor", spec := "fnExactThreadFor", apart := false }
def FnExactThreadForSaid : Prop := fnExactThreadForRow.holds Try.pinned (OpenSpec.ofChange fnExactThreadForSpec)

/-- ITS FALSE NEIGHBOUR: 'it returns false'. Refute it at one input. -/
def fnExactThreadForWrong : ChangeSpec := { name := "fnExactThreadFor", fn := fun _ => fun
  | [d1, d2, d3] => { results := [.lit (.bool false)], args := [d1, d2, d3] }
  | _ => none }
def FnExactThreadForWrongFalsely : Prop := fnExactThreadForRow.holds Try.pinned (OpenSpec.ofChange fnExactThreadForWrong)

/-- 'laws.FnExactPliesFor': WHATEVER THE INPUT: true; the input reads as it did. -/
def fnExactPliesForSpec : ChangeSpec := { name := "fnExactPliesFor", fn := fun _ => fun
  | [d1, d2, d3] => { results := [.lit (.bool true)], args := [d1, d2, d3] }
  | _ => none }
def fnExactPliesForRow : OpenClaim := { program := "ytdogdjbkglkodaa", sum := "1009befe5d666208b83876bb30adc48de4dd81195c9deb7dc0e3c7a7c1a8817a", func := "loop.example/g01043/laws.FnExactPliesFor", spec := "fnExactPliesFor", apart := false }
def FnExactPliesForSaid : Prop := fnExactPliesForRow.holds Try.pinned (OpenSpec.ofChange fnExactPliesForSpec)

/-- ITS FALSE NEIGHBOUR: 'it returns false'. Refute it at one input. -/
def fnExactPliesForWrong : ChangeSpec := { name := "fnExactPliesFor", fn := fun _ => fun
  | [d1, d2, d3] => { results := [.lit (.bool false)], args := [d1, d2, d3] }
  | _ => none }
def FnExactPliesForWrongFalsely : Prop := fnExactPliesForRow.holds Try.pinned (OpenSpec.ofChange fnExactPliesForWrong)

/-- 'laws.FnExactStrengthOf': WHATEVER THE INPUT: true; the input reads as it did. -/
def fnExactStrengthOfSpec : ChangeSpec := { name := "fnExactStrengthOf", fn := fun _ => fun
  | [d] => { results := [.lit (.bool true)], args := [d] }
  | _ => none }
def fnExactStrengthOfRow : OpenClaim := { program := "ytdogdjbkglkodaa", sum := "1009befe5d666208b83876bb30adc48de4dd81195c9deb7dc0e3c7a7c1a8817a", func := "loop.example/g01043/laws.FnExactStrengthOf", spec := "fnExactStrengthOf", apart := false }
def FnExactStrengthOfSaid : Prop := fnExactStrengthOfRow.holds Try.pinned (OpenSpec.ofChange fnExactStrengthOfSpec)

/-- ITS FALSE NEIGHBOUR: 'it returns false'. Refute it at one input. -/
def fnExactStrengthOfWrong : ChangeSpec := { name := "fnExactStrengthOf", fn := fun _ => fun
  | [d] => { results := [.lit (.bool false)], args := [d] }
  | _ => none }
def FnExactStrengthOfWrongFalsely : Prop := fnExactStrengthOfRow.holds Try.pinned (OpenSpec.ofChange fnExactStrengthOfWrong)

/- THE SECOND FORM. 'bulk': how many values and letters a reading holds, each counted each time it is reached (what is shared counts as often as it is met; a slice's spare places count too). A statement '..UptoSaid' is the law's where the arguments, and the package variables that the reading takes, are together of bulk at most 1048576: NARROWER than '..Said'. Prove '..Said' where nothing that the law and all that it calls make is longer than what came in: it says more and counts as full. Else prove '..UptoSaid'. A law counts once. -/
mutual
def uptoBulk {H : Type} : DataW H → Nat
  | .lit (.string bytes) => bytes.length + 1
  | .lit _ => 1
  | .nil => 1
  | .ptr d => uptoBulk d + 1
  | .slice elems spare => uptoBulkAll elems + uptoBulkAll spare + 1
  | .agg parts => uptoBulkAll parts + 1
  | .iface _ d => uptoBulk d + 1
  | .map entries => uptoBulkEntries entries + 1
  | .held _ => 1
def uptoBulkAll {H : Type} : List (DataW H) → Nat
  | [] => 0
  | d :: r => uptoBulk d + uptoBulkAll r
def uptoBulkEntries {H : Type} : List (Lit × DataW H) → Nat
  | [] => 0
  | x :: r => uptoBulkEntry x + uptoBulkEntries r
def uptoBulkEntry {H : Type} : Lit × DataW H → Nat
  | (.string bytes, d) => bytes.length + uptoBulk d + 1
  | (_, d) => uptoBulk d + 1
 end
def uptoSmall : (H : Type) → List (DataW H) → Bool := fun _ ds => decide (uptoBulkAll ds ≤ 1048576)
def OpenSpec.upto (s : _root_.Go.ChangeSpec) : _root_.Go.OpenSpec := { _root_.Go.OpenSpec.ofChange s with cond := some uptoSmall }

/-- 'laws.FnExactValidThread', WHERE WHAT IT READS IS OF BULK AT MOST 1048576: true; the input reads as it did. -/
def fnExactValidThreadUptoRow : OpenClaim := { program := "ytdogdjbkglkodaa", sum := "1009befe5d666208b83876bb30adc48de4dd81195c9deb7dc0e3c7a7c1a8817a", func := "loop.example/g01043/laws.FnExactValidThread", spec := "fnExactValidThread", apart := false, narrowed := true }
def FnExactValidThreadUptoSaid : Prop := fnExactValidThreadUptoRow.holds Try.pinned (OpenSpec.upto fnExactValidThreadSpec)

/-- 'laws.FnExactStitchesOn', WHERE WHAT IT READS IS OF BULK AT MOST 1048576: true; the input reads as it did. -/
def fnExactStitchesOnUptoRow : OpenClaim := { program := "ytdogdjbkglkodaa", sum := "1009befe5d666208b83876bb30adc48de4dd81195c9deb7dc0e3c7a7c1a8817a", func := "loop.example/g01043/laws.FnExactStitchesOn", spec := "fnExactStitchesOn", apart := false, narrowed := true }
def FnExactStitchesOnUptoSaid : Prop := fnExactStitchesOnUptoRow.holds Try.pinned (OpenSpec.upto fnExactStitchesOnSpec)

/-- 'laws.FnExactThreadFor', WHERE WHAT IT READS IS OF BULK AT MOST 1048576: true; the input reads as it did. -/
def fnExactThreadForUptoRow : OpenClaim := { program := "ytdogdjbkglkodaa", sum := "1009befe5d666208b83876bb30adc48de4dd81195c9deb7dc0e3c7a7c1a8817a", func := "loop.example/g01043/laws.FnExactThreadFor", spec := "fnExactThreadFor", apart := false, narrowed := true }
def FnExactThreadForUptoSaid : Prop := fnExactThreadForUptoRow.holds Try.pinned (OpenSpec.upto fnExactThreadForSpec)

/-- 'laws.FnExactPliesFor', WHERE WHAT IT READS IS OF BULK AT MOST 1048576: true; the input reads as it did. -/
def fnExactPliesForUptoRow : OpenClaim := { program := "ytdogdjbkglkodaa", sum := "1009befe5d666208b83876bb30adc48de4dd81195c9deb7dc0e3c7a7c1a8817a", func := "loop.example/g01043/laws.FnExactPliesFor", spec := "fnExactPliesFor", apart := false, narrowed := true }
def FnExactPliesForUptoSaid : Prop := fnExactPliesForUptoRow.holds Try.pinned (OpenSpec.upto fnExactPliesForSpec)

/-- 'laws.FnExactStrengthOf', WHERE WHAT IT READS IS OF BULK AT MOST 1048576: true; the input reads as it did. -/
def fnExactStrengthOfUptoRow : OpenClaim := { program := "ytdogdjbkglkodaa", sum := "1009befe5d666208b83876bb30adc48de4dd81195c9deb7dc0e3c7a7c1a8817a", func := "loop.example/g01043/laws.FnExactStrengthOf", spec := "fnExactStrengthOf", apart := false, narrowed := true }
def FnExactStrengthOfUptoSaid : Prop := fnExactStrengthOfUptoRow.holds Try.pinned (OpenSpec.upto fnExactStrengthOfSpec)

end Rows
end Go.Proofs.Ytdogdjbkglkodaa
