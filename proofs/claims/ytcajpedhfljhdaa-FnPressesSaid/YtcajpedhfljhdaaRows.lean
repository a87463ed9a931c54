/-
  No cell of these rows narrows 'for every input' (looked for: loops, veiled, ifaces, maps, wideKeys, modest, calm, conditions, laid).
  DERIVED. THE GIVEN ROWS OF THIS SEAT. 11 by the template 'for every input the law returns true; each argument reads behind the call as it read before'; 0 by the template 'total and deterministic' (their statements: YtcajpedhfljhdaaTotals.lean).
  GIVEN WITH THE SEED: the statements are not yours to turn. If you find one false, say at which input.
  Laid BY PROGRAM, IN A SANDBOX (cutbox-rows.mjs): the forced cells as the released guide's own fill.sh prints them over the translation 084e6015ef3c1055… (all of the seat's roots in one cut). By AI agents, Wed Nov 11 2026. No macro, syntax, notation, axiom, sorry.
-/
import Derived.Test.YtcajpedhfljhdaaChecked
import GoSem.Claim
import GoSem.ClaimJoined
import GoSem.ClaimMapViews
import Derived.JoinedTies
import Derived.KernelRfl
namespace Go.Proofs.Ytcajpedhfljhdaa
/- THE CELL 'sum', in the pinned program and in every row, IS THE sha256 OF THE DUMP (.gsa) THAT YtcajpedhfljhdaaProg.lean LOADS. Nothing in Lean hashes anything: it is a label: what it is worth is what the hold of that sum in a sandbox is worth. -/
noncomputable def Try.pinned : Pinned := { name := "ytcajpedhfljhdaa", sum := "084e6015ef3c10557209cddae36bd562ac63d0f73f7915ba799c14e98f190672", checked := Try.checked }
namespace Rows
def none {H : Type} : Left H := { results := [], args := [] }

/-- 'laws.FnExactValidGlue': WHATEVER THE INPUT: true; the input reads as it did. -/
def fnExactValidGlueSpec : ChangeSpec := { name := "fnExactValidGlue", fn := fun _ => fun
  | [d] => { results := [.lit (.bool true)], args := [d] }
  | _ => none }
def fnExactValidGlueRow : OpenClaim := { program := "ytcajpedhfljhdaa", sum := "084e6015ef3c10557209cddae36bd562ac63d0f73f7915ba799c14e98f190672", func := "loop.example/g01043/laws.FnExactValidGlue", spec := "fnExactValidGlue", apart := false }
def FnExactValidGlueSaid : Prop := fnExactValidGlueRow.holds Try.pinned (OpenSpec.ofChange fnExactValidGlueSpec)

/-- ITS FALSE NEIGHBOUR: 'it returns false'. Refute it at one input. -/
def fnExactValidGlueWrong : ChangeSpec := { name := "fnExactValidGlue", fn := fun _ => fun
  | [d] => { results := [.lit (.bool false)], args := [d] }
  | _ => none }
def FnExactValidGlueWrongFalsely : Prop := fnExactValidGlueRow.holds Try.pinned (OpenSpec.ofChange fnExactValidGlueWrong)

/-- 'laws.FnExactWarmGlue': WHATEVER THE INPUT: true; the input reads as it did. -/
def fnExactWarmGlueSpec : ChangeSpec := { name := "fnExactWarmGlue", fn := fun _ => fun
  | [d1, d2] => { results := [.lit (.bool true)], args := [d1, d2] }
  | _ => none }
def fnExactWarmGlueRow : OpenClaim := { program := "ytcajpedhfljhdaa", sum := "084e6015ef3c10557209cddae36bd562ac63d0f73f7915ba799c14e98f190672", func := "loop.example/g01043/laws.FnExactWarmGlue", spec := "fnExactWarmGlue", apart := false }
def FnExactWarmGlueSaid : Prop := fnExactWarmGlueRow.holds Try.pinned (OpenSpec.ofChange fnExactWarmGlueSpec)

/-- ITS FALSE NEIGHBOUR: 'it returns false'. Refute it at one input. -/
def fnExactWarmGlueWrong : ChangeSpec := { name := "fnExactWarmGlue", fn := fun _ => fun
  | [d1, d2] => { results := [.lit (.bool false)], args := [d1, d2] }
  | _ => none }
def FnExactWarmGlueWrongFalsely : Prop := fnExactWarmGlueRow.holds Try.pinned (OpenSpec.ofChange fnExactWarmGlueWrong)

/-- 'laws.FnExactJoinWindow': WHATEVER THE INPUT: true; the input reads as it did. -/
def fnExactJoinWindowSpec : ChangeSpec := { name := "fnExactJoinWindow", fn := fun _ => fun
  | [d1, d2, d3] => { results := [.lit (.bool true)], args := [d1, d2, d3] }
  | _ => none }
def fnExactJoinWindowRow : OpenClaim := { program := "ytcajpedhfljhdaa", sum := "084e6015ef3c10557209cddae36bd562ac63d0f73f7915ba799c14e98f190672", func := "loop.example/g01043/laws.FnExactJoinWindow", spec := "fnExactJoinWindow", apart := false }
def FnExactJoinWindowSaid : Prop := fnExactJoinWindowRow.holds Try.pinned (OpenSpec.ofChange fnExactJoinWindowSpec)

/-- ITS FALSE NEIGHBOUR: 'it returns false'. Refute it at one input. -/
def fnExactJoinWindowWrong : ChangeSpec := { name := "fnExactJoinWindow", fn := fun _ => fun
  | [d1, d2, d3] => { results := [.lit (.bool false)], args := [d1, d2, d3] }
  | _ => none }
def FnExactJoinWindowWrongFalsely : Prop := fnExactJoinWindowRow.holds Try.pinned (OpenSpec.ofChange fnExactJoinWindowWrong)

/-- 'laws.FnExactSameJoins': WHATEVER THE INPUT: true; the input reads as it did. -/
def fnExactSameJoinsSpec : ChangeSpec := { name := "fnExactSameJoins", fn := fun _ => fun
  | [d1, d2] => { results := [.lit (.bool true)], args := [d1, d2] }
  | _ => none }
def fnExactSameJoinsRow : OpenClaim := { program := "ytcajpedhfljhdaa", sum := "084e6015ef3c10557209cddae36bd562ac63d0f73f7915ba799c14e98f190672", func := "loop.example/g01043/laws.FnExactSameJoins", spec := "fnExactSameJoins", apart := false }
def FnExactSameJoinsSaid : Prop := fnExactSameJoinsRow.holds Try.pinned (OpenSpec.ofChange fnExactSameJoinsSpec)

/-- ITS FALSE NEIGHBOUR: 'it returns false'. Refute it at one input. -/
def fnExactSameJoinsWrong : ChangeSpec := { name := "fnExactSameJoins", fn := fun _ => fun
  | [d1, d2] => { results := [.lit (.bool false)], args := [d1, d2] }
  | _ => none }
def FnExactSameJoinsWrongFalsely : Prop := fnExactSameJoinsRow.holds Try.pinned (OpenSpec.ofChange fnExactSameJoinsWrong)

/-- 'laws.FnExactJoinFault': WHATEVER THE INPUT: true; the input reads as it did. -/
def fnExactJoinFaultSpec : ChangeSpec := { name := "fnExactJoinFault", fn := fun _ => fun
  | [d1, d2] => { results := [.lit (.bool true)], args := [d1, d2] }
  | _ => none }
def fnExactJoinFaultRow : OpenClaim := { program := "ytcajpedhfljhdaa", sum := "084e6015ef3c10557209cddae36bd562ac63d0f73f7915ba799c14e98f190672", func := "loop.example/g01043/laws.FnExactJoinFault", spec := "fnExactJoinFault", apart := false }
def FnExactJoinFaultSaid : Prop := fnExactJoinFaultRow.holds Try.pinned (OpenSpec.ofChange fnExactJoinFaultSpec)

/-- ITS FALSE NEIGHBOUR: 'it returns false'. Refute it at one input. -/
def fnExactJoinFaultWrong : ChangeSpec := { name := "fnExactJoinFault", fn := fun _ => fun
  | [d1, d2] => { results := [.lit (.bool false)], args := [d1, d2] }
  | _ => none }
def FnExactJoinFaultWrongFalsely : Prop := fnExactJoinFaultRow.holds Try.pinned (OpenSpec.ofChange fnExactJoinFaultWrong)

/-- 'laws.FnExactValidJoins': WHATEVER THE INPUT: true; the input reads as it did. -/
def fnExactValidJoinsSpec : ChangeSpec := { name := "fnExactValidJoins", fn := fun _ => fun
  | [d] => { results := [.lit (.bool true)], args := [d] }
  | _ => none }
def fnExactValidJoinsRow : OpenClaim := { program := "ytcajpedhfljhdaa", sum := "084e6015ef3c10557209cddae36bd562ac63d0f73f7915ba799c14e98f190672", func := "loop.example/g01043/laws.FnExactValidJoins", spec := "fnExactValidJoins", unfollowed := true, recurses := true, apart := false }
def FnExactValidJoinsSaid : Prop := fnExactValidJoinsRow.holds Try.pinned (OpenSpec.ofChange fnExactValidJoinsSpec)

/-- ITS FALSE NEIGHBOUR: 'it returns false'. Refute it at one input. -/
def fnExactValidJoinsWrong : ChangeSpec := { name := "fnExactValidJoins", fn := fun _ => fun
  | [d] => { results := [.lit (.bool false)], args := [d] }
  | _ => none }
def FnExactValidJoinsWrongFalsely : Prop := fnExactValidJoinsRow.holds Try.pinned (OpenSpec.ofChange fnExactValidJoinsWrong)

/-- 'laws.FnExactCureShare': WHATEVER THE INPUT: true; the input reads as it did. -/
def fnExactCureShareSpec : ChangeSpec := { name := "fnExactCureShare", fn := fun _ => fun
  | [d1, d2, d3] => { results := [.lit (.bool true)], args := [d1, d2, d3] }
  | _ => none }
def fnExactCureShareRow : OpenClaim := { program := "ytcajpedhfljhdaa", sum := "084e6015ef3c10557209cddae36bd562ac63d0f73f7915ba799c14e98f190672", func := "loop.example/g01043/laws.FnExactCureShare", spec := "fnExactCureShare", apart := false }
def FnExactCureShareSaid : Prop := fnExactCureShareRow.holds Try.pinned (OpenSpec.ofChange fnExactCureShareSpec)

/-- ITS FALSE NEIGHBOUR: 'it returns false'. Refute it at one input. -/
def fnExactCureShareWrong : ChangeSpec := { name := "fnExactCureShare", fn := fun _ => fun
  | [d1, d2, d3] => { results := [.lit (.bool false)], args := [d1, d2, d3] }
  | _ => none }
def FnExactCureShareWrongFalsely : Prop := fnExactCureShareRow.holds Try.pinned (OpenSpec.ofChange fnExactCureShareWrong)

/-- 'laws.FnExactPressesFor': WHATEVER THE INPUT: true; the input reads as it did. -/
def fnExactPressesForSpec : ChangeSpec := { name := "fnExactPressesFor", fn := fun _ => fun
  | [d] => { results := [.lit (.bool true)], args := [d] }
  | _ => none }
def fnExactPressesForRow : OpenClaim := { program := "ytcajpedhfljhdaa", sum := "084e6015ef3c10557209cddae36bd562ac63d0f73f7915ba799c14e98f190672", func := "loop.example/g01043/laws.FnExactPressesFor", spec := "fnExactPressesFor", unfollowed := true, recurses := true, apart := false }
def FnExactPressesForSaid : Prop := fnExactPressesForRow.holds Try.pinned (OpenSpec.ofChange fnExactPressesForSpec)

/-- ITS FALSE NEIGHBOUR: 'it returns false'. Refute it at one input. -/
def fnExactPressesForWrong : ChangeSpec := { name := "fnExactPressesFor", fn := fun _ => fun
  | [d] => { results := [.lit (.bool false)], args := [d] }
  | _ => none }
def FnExactPressesForWrongFalsely : Prop := fnExactPressesForRow.holds Try.pinned (OpenSpec.ofChange fnExactPressesForWrong)

/-- 'laws.FnExactBadJoins': WHATEVER THE INPUT: true; the input reads as it did. -/
def fnExactBadJoinsSpec : ChangeSpec := { name := "fnExactBadJoins", fn := fun _ => fun
  | [d1, d2] => { results := [.lit (.bool true)], args := [d1, d2] }
  | _ => none }
def fnExactBadJoinsRow : OpenClaim := { program := "ytcajpedhfljhdaa", sum := "084e6015ef3c10557209cddae36bd562ac63d0f73f7915ba799c14e98f190672", func := "loop.example/g01043/laws.FnExactBadJoins", spec := "fnExactBadJoins", unfollowed := true, recurses := true, apart := false }
def FnExactBadJoinsSaid : Prop := fnExactBadJoinsRow.holds Try.pinned (OpenSpec.ofChange fnExactBadJoinsSpec)

/-- ITS FALSE NEIGHBOUR: 'it returns false'. Refute it at one input. -/
def fnExactBadJoinsWrong : ChangeSpec := { name := "fnExactBadJoins", fn := fun _ => fun
  | [d1, d2] => { results := [.lit (.bool false)], args := [d1, d2] }
  | _ => none }
def FnExactBadJoinsWrongFalsely : Prop := fnExactBadJoinsRow.holds Try.pinned (OpenSpec.ofChange fnExactBadJoinsWrong)

/-- 'laws.FnExactPressPlan': WHATEVER THE INPUT: true; the input reads as it did. -/
def fnExactPressPlanSpec : ChangeSpec := { name := "fnExactPressPlan", fn := fun _ => fun
  | [d1, d2, d3, d4] => { results := [.lit (.bool true)], args := [d1, d2, d3, d4] }
  | _ => none }
def fnExactPressPlanRow : OpenClaim := { program := "ytcajpedhfljhdaa", sum := "084e6015ef3c10557209cddae36bd562ac63d0f73f7915ba799c14e98f190672", func := "loop.example/g01043/laws.FnExactPressPlan", spec := "fnExactPressPlan", unfollowed := true, recurses := true, apart := false }
def FnExactPressPlanSaid : Prop := fnExactPressPlanRow.holds Try.pinned (OpenSpec.ofChange fnExactPressPlanSpec)

/-- ITS FALSE NEIGHBOUR: 'it returns false'. Refute it at one input. -/
def fnExactPressPlanWrong : ChangeSpec := { name := "fnExactPressPlan", fn := fun _ => fun
  | [d1, d2, d3, d4] => { results := [.lit (.bool false)], args := [d1, d2, d3, d4] }
  | _ => none }
def FnExactPressPlanWrongFalsely : Prop := fnExactPressPlanRow.holds Try.pinned (OpenSpec.ofChange fnExactPressPlanWrong)

/-- 'laws.FnPresses': WHATEVER THE INPUT: true; the input reads as it did. -/
def fnPressesSpec : ChangeSpec := { name := "fnPresses", fn := fun _ => fun
  | [d] => { results := [.lit (.bool true)], args := [d] }
  | _ => none }
def fnPressesRow : OpenClaim := { program := "ytcajpedhfljhdaa", sum := "084e6015ef3c10557209cddae36bd562ac63d0f73f7915ba799c14e98f190672", func := "loop.example/g01043/laws.FnPresses", spec := "fnPresses", unfollowed := true, recurses := true, apart := false }
def FnPressesSaid : Prop := fnPressesRow.holds Try.pinned (OpenSpec.ofChange fnPressesSpec)

/-- ITS FALSE NEIGHBOUR: 'it returns false'. Refute it at one input. -/
def fnPressesWrong : ChangeSpec := { name := "fnPresses", fn := fun _ => fun
  | [d] => { results := [.lit (.bool false)], args := [d] }
  | _ => none }
def FnPressesWrongFalsely : Prop := fnPressesRow.holds Try.pinned (OpenSpec.ofChange fnPressesWrong)

/- THE SECOND FORM. 'bulk': how many values and letters a reading holds, each counted each time it is reached (what is shared counts as often as it is met; a slice's spare places count too). A statement '..UptoSaid' is the law's where the arguments, and the package variables that the reading takes, are together of bulk at most 1048576: NARROWER than '..Said'. Prove '..Said' where nothing that the law and all that it calls make is longer than what came in: it says more and counts as full. Else prove '..UptoSaid'. A law counts once. -/
mutual
def uptoBulk {H : Type} : DataW H → Nat
  | .lit (.string bytes) => bytes.length + 1
  | .lit _ => 1
  | .nil => 1
  | .ptr d => uptoBulk d + 1
  | .slice elems spare => uptoBulkAll elems + uptoBulkAll spare + 1
  | .agg parts => uptoBulkAll parts + 1
  | .iface _ d => uptoBulk d + 1
  | .map entries => uptoBulkEntries entries + 1
  | .held _ => 1
def uptoBulkAll {H : Type} : List (DataW H) → Nat
  | [] => 0
  | d :: r => uptoBulk d + uptoBulkAll r
def uptoBulkEntries {H : Type} : List (Lit × DataW H) → Nat
  | [] => 0
  | x :: r => uptoBulkEntry x + uptoBulkEntries r
def uptoBulkEntry {H : Type} : Lit × DataW H → Nat
  | (.string bytes, d) => bytes.length + uptoBulk d + 1
  | (_, d) => uptoBulk d + 1
 end
def uptoSmall : (H : Type) → List (DataW H) → Bool := fun _ ds => decide (uptoBulkAll ds ≤ 1048576)
def OpenSpec.upto (s : _root_.Go.ChangeSpec) : _root_.Go.OpenSpec := { _root_.Go.OpenSpec.ofChange s with cond := some uptoSmall }

/-- 'laws.FnExactValidGlue', WHERE WHAT IT READS IS OF BULK AT MOST 1048576: true; the input reads as it did. -/
def fnExactValidGlueUptoRow : OpenClaim := { program := "ytcajpedhfljhdaa", sum := "084e6015ef3c10557209cddae36bd562ac63d0f73f7915ba799c14e98f190672", func := "loop.example/g01043/laws.FnExactValidGlue", spec := "fnExactValidGlue", apart := false, narrowed := true }
def FnExactValidGlueUptoSaid : Prop := fnExactValidGlueUptoRow.holds Try.pinned (OpenSpec.upto fnExactValidGlueSpec)

/-- 'laws.FnExactWarmGlue', WHERE WHAT IT READS IS OF BULK AT MOST 1048576: true; the input reads as it did. -/
def fnExactWarmGlueUptoRow : OpenClaim := { program := "ytcajpedhfljhdaa", sum := "084e6015ef3c10557209cddae36bd562ac63d0f73f7915ba799c14e98f190672", func := "loop.example/g01043/laws.FnExactWarmGlue", spec := "fnExactWarmGlue", apart := false, narrowed := true }
def FnExactWarmGlueUptoSaid : Prop := fnExactWarmGlueUptoRow.holds Try.pinned (OpenSpec.upto fnExactWarmGlueSpec)

/-- 'laws.FnExactJoinWindow', WHERE WHAT IT READS IS OF BULK AT MOST 1048576: true; the input reads as it did. -/
def fnExactJoinWindowUptoRow : OpenClaim := { program := "ytcajpedhfljhdaa", sum := "084e6015ef3c10557209cddae36bd562ac63d0f73f7915ba799c14e98f190672", func := "loop.example/g01043/laws.FnExactJoinWindow", spec := "fnExactJoinWindow", apart := false, narrowed := true }
def FnExactJoinWindowUptoSaid : Prop := fnExactJoinWindowUptoRow.holds Try.pinned (OpenSpec.upto fnExactJoinWindowSpec)

/-- 'laws.FnExactSameJoins', WHERE WHAT IT READS IS OF BULK AT MOST 1048576: true; the input reads as it did. -/
def fnExactSameJoinsUptoRow : OpenClaim := { program := "ytcajpedhfljhdaa", sum := "084e6015ef3c10557209cddae36bd562ac63d0f73f7915ba799c14e98f190672", func := "loop.example/g01043/laws.FnExactSameJoins", spec := "fnExactSameJoins", apart := false, narrowed := true }
def FnExactSameJoinsUptoSaid : Prop := fnExactSameJoinsUptoRow.holds Try.pinned (OpenSpec.upto fnExactSameJoinsSpec)

/-- 'laws.FnExactJoinFault', WHERE WHAT IT READS IS OF BULK AT MOST 1048576: true; the input reads as it did. -/
def fnExactJoinFaultUptoRow : OpenClaim := { program := "ytcajpedhfljhdaa", sum := "084e6015ef3c10557209cddae36bd562ac63d0f73f7915ba799c14e98f190672", func := "loop.example/g01043/laws.FnExactJoinFault", spec := "fnExactJoinFault", apart := false, narrowed := true }
def FnExactJoinFaultUptoSaid : Prop := fnExactJoinFaultUptoRow.holds Try.pinned (OpenSpec.upto fnExactJoinFaultSpec)

/-- 'laws.FnExactValidJoins', WHERE WHAT IT READS IS OF BULK AT MOST 1048576: true; the input reads as it did. -/
def fnExactValidJoinsUptoRow : OpenClaim := { program := "ytcajpedhfljhdaa", sum := "084e6015ef3c10557209cddae36bd562ac63d0f73f7915ba799c14e98f190672", func := "loop.example/g01043/laws.FnExactValidJoins", spec := "fnExactValidJoins", unfollowed := true, recurses := true, apart := false, narrowed := true }
def FnExactValidJoinsUptoSaid : Prop := fnExactValidJoinsUptoRow.holds Try.pinned (OpenSpec.upto fnExactValidJoinsSpec)

/-- 'laws.FnExactCureShare', WHERE WHAT IT READS IS OF BULK AT MOST 1048576: true; the input reads as it did. -/
def fnExactCureShareUptoRow : OpenClaim := { program := "ytcajpedhfljhdaa", sum := "084e6015ef3c10557209cddae36bd562ac63d0f73f7915ba799c14e98f190672", func := "loop.example/g01043/laws.FnExactCureShare", spec := "fnExactCureShare", apart := false, narrowed := true }
def FnExactCureShareUptoSaid : Prop := fnExactCureShareUptoRow.holds Try.pinned (OpenSpec.upto fnExactCureShareSpec)

/-- 'laws.FnExactPressesFor', WHERE WHAT IT READS IS OF BULK AT MOST 1048576: true; the input reads as it did. -/
def fnExactPressesForUptoRow : OpenClaim := { program := "ytcajpedhfljhdaa", sum := "084e6015ef3c10557209cddae36bd562ac63d0f73f7915ba799c14e98f190672", func := "loop.example/g01043/laws.FnExactPressesFor", spec := "fnExactPressesFor", unfollowed := true, recurses := true, apart := false, narrowed := true }
def FnExactPressesForUptoSaid : Prop := fnExactPressesForUptoRow.holds Try.pinned (OpenSpec.upto fnExactPressesForSpec)

/-- 'laws.FnExactBadJoins', WHERE WHAT IT READS IS OF BULK AT MOST 1048576: true; the input reads as it did. -/
def fnExactBadJoinsUptoRow : OpenClaim := { program := "ytcajpedhfljhdaa", sum := "084e6015ef3c10557209cddae36bd562ac63d0f73f7915ba799c14e98f190672", func := "loop.example/g01043/laws.FnExactBadJoins", spec := "fnExactBadJoins", unfollowed := true, recurses := true, apart := false, narrowed := true }
def FnExactBadJoinsUptoSaid : Prop := fnExactBadJoinsUptoRow.holds Try.pinned (OpenSpec.upto fnExactBadJoinsSpec)

/-- 'laws.FnExactPressPlan', WHERE WHAT IT READS IS OF BULK AT MOST 1048576: true; the input reads as it did. -/
def fnExactPressPlanUptoRow : OpenClaim := { program := "ytcajpedhfljhdaa", sum := "084e6015ef3c10557209cddae36bd562ac63d0f73f7915ba799c14e98f190672", func := "loop.example/g01043/laws.FnExactPressPlan", spec := "fnExactPressPlan", unfollowed := true, recurses := true, apart := false, narrowed := true }
def FnExactPressPlanUptoSaid : Prop := fnExactPressPlanUptoRow.holds Try.pinned (OpenSpec.upto fnExactPressPlanSpec)

/-- 'laws.FnPresses', WHERE WHAT IT READS IS OF BULK AT MOST 1048576: true; the input reads as it did. -/
def fnPressesUptoRow : OpenClaim := { program := "ytcajpedhfljhdaa", sum := "084e6015ef3c10557209cddae36bd562ac63d0f73f7915ba799c14e98f190672", func := "loop.example/g01043/laws.FnPresses", spec := "fnPresses", unfollowed := true, recurses := true, apart := false, narrowed := true }
def FnPressesUptoSaid : Prop := fnPressesUptoRow.holds Try.pinned (OpenSpec.upto fnPressesSpec)

end Rows
end Go.Proofs.Ytcajpedhfljhdaa
