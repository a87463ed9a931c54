/-
  No cell of these rows narrows 'for every input' (looked for: loops, veiled, ifaces, maps, wideKeys, modest, calm, conditions, laid).
  DERIVED. THE GIVEN ROWS OF THIS SEAT. 12 by the template 'for every input the law returns true; each argument reads behind the call as it read before'; 0 by the template 'total and deterministic' (their statements: YtlaapndncejlgaaTotals.lean).
  GIVEN WITH THE SEED: the statements are not yours to turn. If you find one false, say at which input.
  Laid BY PROGRAM, IN A SANDBOX (cutbox-rows.mjs): the forced cells as the released guide's own fill.sh prints them over the translation 48d34b442e3f07c8… (all of the seat's roots in one cut). By AI agents, Wed Nov 11 2026. No macro, syntax, notation, axiom, sorry.
-/
import Derived.Test.YtlaapndncejlgaaChecked
import GoSem.Claim
import GoSem.ClaimJoined
import GoSem.ClaimMapViews
import Derived.JoinedTies
import Derived.KernelRfl
namespace Go.Proofs.Ytlaapndncejlgaa
/- THE CELL 'sum', in the pinned program and in every row, IS THE sha256 OF THE DUMP (.gsa) THAT YtlaapndncejlgaaProg.lean LOADS. Nothing in Lean hashes anything: it is a label: what it is worth is what the hold of that sum in a sandbox is worth. -/
noncomputable def Try.pinned : Pinned := { name := "ytlaapndncejlgaa", sum := "48d34b442e3f07c85a4967c6f1167c3505aac6848254382e841288fb09eef82d", checked := Try.checked }
namespace Rows
def none {H : Type} : Left H := { results := [], args := [] }

/-- 'laws.FnExactStepsLeft': WHATEVER THE INPUT: true; the input reads as it did. -/
def fnExactStepsLeftSpec : ChangeSpec := { name := "fnExactStepsLeft", fn := fun _ => fun
  | [d1, d2, d3] => { results := [.lit (.bool true)], args := [d1, d2, d3] }
  | _ => none }
def fnExactStepsLeftRow : OpenClaim := { program := "ytlaapndncejlgaa", sum := "48d34b442e3f07c85a4967c6f1167c3505aac6848254382e841288fb09eef82d", func := "loop.example/g01043/laws.FnExactStepsLeft", spec := "fnExactStepsLeft", apart := false }
def FnExactStepsLeftSaid : Prop := fnExactStepsLeftRow.holds Try.pinned (OpenSpec.ofChange fnExactStepsLeftSpec)

/-- ITS FALSE NEIGHBOUR: 'it returns false'. Refute it at one input. -/
def fnExactStepsLeftWrong : ChangeSpec := { name := "fnExactStepsLeft", fn := fun _ => fun
  | [d1, d2, d3] => { results := [.lit (.bool false)], args := [d1, d2, d3] }
  | _ => none }
def FnExactStepsLeftWrongFalsely : Prop := fnExactStepsLeftRow.holds Try.pinned (OpenSpec.ofChange fnExactStepsLeftWrong)

/-- 'laws.FnExactWearHeel': WHATEVER THE INPUT: true; the input reads as it did. -/
def fnExactWearHeelSpec : ChangeSpec := { name := "fnExactWearHeel", fn := fun _ => fun
  | [d1, d2, d3] => { results := [.lit (.bool true)], args := [d1, d2, d3] }
  | _ => none }
def fnExactWearHeelRow : OpenClaim := { program := "ytlaapndncejlgaa", sum := "48d34b442e3f07c85a4967c6f1167c3505aac6848254382e841288fb09eef82d", func := "loop.example/g01043/laws.FnExactWearHeel", spec := "fnExactWearHeel", apart := false }
def FnExactWearHeelSaid : Prop := fnExactWearHeelRow.holds Try.pinned (OpenSpec.ofChange fnExactWearHeelSpec)

/-- ITS FALSE NEIGHBOUR: 'it returns false'. Refute it at one input. -/
def fnExactWearHeelWrong : ChangeSpec := { name := "fnExactWearHeel", fn := fun _ => fun
  | [d1, d2, d3] => { results := [.lit (.bool false)], args := [d1, d2, d3] }
  | _ => none }
def FnExactWearHeelWrongFalsely : Prop := fnExactWearHeelRow.holds Try.pinned (OpenSpec.ofChange fnExactWearHeelWrong)

/-- 'laws.FnExactValidStock': WHATEVER THE INPUT: true; the input reads as it did. -/
def fnExactValidStockSpec : ChangeSpec := { name := "fnExactValidStock", fn := fun _ => fun
  | [d] => { results := [.lit (.bool true)], args := [d] }
  | _ => none }
def fnExactValidStockRow : OpenClaim := { program := "ytlaapndncejlgaa", sum := "48d34b442e3f07c85a4967c6f1167c3505aac6848254382e841288fb09eef82d", func := "loop.example/g01043/laws.FnExactValidStock", spec := "fnExactValidStock", apart := false }
def FnExactValidStockSaid : Prop := fnExactValidStockRow.holds Try.pinned (OpenSpec.ofChange fnExactValidStockSpec)

/-- ITS FALSE NEIGHBOUR: 'it returns false'. Refute it at one input. -/
def fnExactValidStockWrong : ChangeSpec := { name := "fnExactValidStock", fn := fun _ => fun
  | [d] => { results := [.lit (.bool false)], args := [d] }
  | _ => none }
def FnExactValidStockWrongFalsely : Prop := fnExactValidStockRow.holds Try.pinned (OpenSpec.ofChange fnExactValidStockWrong)

/-- 'laws.FnExactSameStock': WHATEVER THE INPUT: true; the input reads as it did. -/
def fnExactSameStockSpec : ChangeSpec := { name := "fnExactSameStock", fn := fun _ => fun
  | [d1, d2] => { results := [.lit (.bool true)], args := [d1, d2] }
  | _ => none }
def fnExactSameStockRow : OpenClaim := { program := "ytlaapndncejlgaa", sum := "48d34b442e3f07c85a4967c6f1167c3505aac6848254382e841288fb09eef82d", func := "loop.example/g01043/laws.FnExactSameStock", spec := "fnExactSameStock", apart := false }
def FnExactSameStockSaid : Prop := fnExactSameStockRow.holds Try.pinned (OpenSpec.ofChange fnExactSameStockSpec)

/-- ITS FALSE NEIGHBOUR: 'it returns false'. Refute it at one input. -/
def fnExactSameStockWrong : ChangeSpec := { name := "fnExactSameStock", fn := fun _ => fun
  | [d1, d2] => { results := [.lit (.bool false)], args := [d1, d2] }
  | _ => none }
def FnExactSameStockWrongFalsely : Prop := fnExactSameStockRow.holds Try.pinned (OpenSpec.ofChange fnExactSameStockWrong)

/-- 'laws.FnExactUseLifts': WHATEVER THE INPUT: true; the input reads as it did. -/
def fnExactUseLiftsSpec : ChangeSpec := { name := "fnExactUseLifts", fn := fun _ => fun
  | [d1, d2] => { results := [.lit (.bool true)], args := [d1, d2] }
  | _ => none }
def fnExactUseLiftsRow : OpenClaim := { program := "ytlaapndncejlgaa", sum := "48d34b442e3f07c85a4967c6f1167c3505aac6848254382e841288fb09eef82d", func := "loop.example/g01043/laws.FnExactUseLifts", spec := "fnExactUseLifts", unfollowed := true, recurses := true, apart := false }
def FnExactUseLiftsSaid : Prop := fnExactUseLiftsRow.holds Try.pinned (OpenSpec.ofChange fnExactUseLiftsSpec)

/-- ITS FALSE NEIGHBOUR: 'it returns false'. Refute it at one input. -/
def fnExactUseLiftsWrong : ChangeSpec := { name := "fnExactUseLifts", fn := fun _ => fun
  | [d1, d2] => { results := [.lit (.bool false)], args := [d1, d2] }
  | _ => none }
def FnExactUseLiftsWrongFalsely : Prop := fnExactUseLiftsRow.holds Try.pinned (OpenSpec.ofChange fnExactUseLiftsWrong)

/-- 'laws.FnExactNearestHeel': WHATEVER THE INPUT: true; the input reads as it did. -/
def fnExactNearestHeelSpec : ChangeSpec := { name := "fnExactNearestHeel", fn := fun _ => fun
  | [d1, d2] => { results := [.lit (.bool true)], args := [d1, d2] }
  | _ => none }
def fnExactNearestHeelRow : OpenClaim := { program := "ytlaapndncejlgaa", sum := "48d34b442e3f07c85a4967c6f1167c3505aac6848254382e841288fb09eef82d", func := "loop.example/g01043/laws.FnExactNearestHeel", spec := "fnExactNearestHeel", apart := false }
def FnExactNearestHeelSaid : Prop := fnExactNearestHeelRow.holds Try.pinned (OpenSpec.ofChange fnExactNearestHeelSpec)

/-- ITS FALSE NEIGHBOUR: 'it returns false'. Refute it at one input. -/
def fnExactNearestHeelWrong : ChangeSpec := { name := "fnExactNearestHeel", fn := fun _ => fun
  | [d1, d2] => { results := [.lit (.bool false)], args := [d1, d2] }
  | _ => none }
def FnExactNearestHeelWrongFalsely : Prop := fnExactNearestHeelRow.holds Try.pinned (OpenSpec.ofChange fnExactNearestHeelWrong)

/-- 'laws.FnExactHeelHeights': WHATEVER THE INPUT: true; the input reads as it did. -/
def fnExactHeelHeightsSpec : ChangeSpec := { name := "fnExactHeelHeights", fn := fun _ => fun
  | [d1, d2] => { results := [.lit (.bool true)], args := [d1, d2] }
  | _ => none }
def fnExactHeelHeightsRow : OpenClaim := { program := "ytlaapndncejlgaa", sum := "48d34b442e3f07c85a4967c6f1167c3505aac6848254382e841288fb09eef82d", func := "loop.example/g01043/laws.FnExactHeelHeights", spec := "fnExactHeelHeights", apart := false }
def FnExactHeelHeightsSaid : Prop := fnExactHeelHeightsRow.holds Try.pinned (OpenSpec.ofChange fnExactHeelHeightsSpec)

/-- ITS FALSE NEIGHBOUR: 'it returns false'. Refute it at one input. -/
def fnExactHeelHeightsWrong : ChangeSpec := { name := "fnExactHeelHeights", fn := fun _ => fun
  | [d1, d2] => { results := [.lit (.bool false)], args := [d1, d2] }
  | _ => none }
def FnExactHeelHeightsWrongFalsely : Prop := fnExactHeelHeightsRow.holds Try.pinned (OpenSpec.ofChange fnExactHeelHeightsWrong)

/-- 'laws.FnExactBuildHeel': WHATEVER THE INPUT: true; the input reads as it did. -/
def fnExactBuildHeelSpec : ChangeSpec := { name := "fnExactBuildHeel", fn := fun _ => fun
  | [d1, d2] => { results := [.lit (.bool true)], args := [d1, d2] }
  | _ => none }
def fnExactBuildHeelRow : OpenClaim := { program := "ytlaapndncejlgaa", sum := "48d34b442e3f07c85a4967c6f1167c3505aac6848254382e841288fb09eef82d", func := "loop.example/g01043/laws.FnExactBuildHeel", spec := "fnExactBuildHeel", apart := false }
def FnExactBuildHeelSaid : Prop := fnExactBuildHeelRow.holds Try.pinned (OpenSpec.ofChange fnExactBuildHeelSpec)

/-- ITS FALSE NEIGHBOUR: 'it returns false'. Refute it at one input. -/
def fnExactBuildHeelWrong : ChangeSpec := { name := "fnExactBuildHeel", fn := fun _ => fun
  | [d1, d2] => { results := [.lit (.bool false)], args := [d1, d2] }
  | _ => none }
def FnExactBuildHeelWrongFalsely : Prop := fnExactBuildHeelRow.holds Try.pinned (OpenSpec.ofChange fnExactBuildHeelWrong)

/-- 'laws.FnExactPairHeels': WHATEVER THE INPUT: true; the input reads as it did. -/
def fnExactPairHeelsSpec : ChangeSpec := { name := "fnExactPairHeels", fn := fun _ => fun
  | [d1, d2] => { results := [.lit (.bool true)], args := [d1, d2] }
  | _ => none }
def fnExactPairHeelsRow : OpenClaim := { program := "ytlaapndncejlgaa", sum := "48d34b442e3f07c85a4967c6f1167c3505aac6848254382e841288fb09eef82d", func := "loop.example/g01043/laws.FnExactPairHeels", spec := "fnExactPairHeels", apart := false }
def FnExactPairHeelsSaid : Prop := fnExactPairHeelsRow.holds Try.pinned (OpenSpec.ofChange fnExactPairHeelsSpec)

/-- ITS FALSE NEIGHBOUR: 'it returns false'. Refute it at one input. -/
def fnExactPairHeelsWrong : ChangeSpec := { name := "fnExactPairHeels", fn := fun _ => fun
  | [d1, d2] => { results := [.lit (.bool false)], args := [d1, d2] }
  | _ => none }
def FnExactPairHeelsWrongFalsely : Prop := fnExactPairHeelsRow.holds Try.pinned (OpenSpec.ofChange fnExactPairHeelsWrong)

/-- 'laws.FnHeels': WHATEVER THE INPUT: true; the input reads as it did. -/
def fnHeelsSpec : ChangeSpec := { name := "fnHeels", fn := fun _ => fun
  | [d1, d2] => { results := [.lit (.bool true)], args := [d1, d2] }
  | _ => none }
def fnHeelsRow : OpenClaim := { program := "ytlaapndncejlgaa", sum := "48d34b442e3f07c85a4967c6f1167c3505aac6848254382e841288fb09eef82d", func := "loop.example/g01043/laws.FnHeels", spec := "fnHeels", unfollowed := true, recurses := true, apart := false }
def FnHeelsSaid : Prop := fnHeelsRow.holds Try.pinned (OpenSpec.ofChange fnHeelsSpec)

/-- ITS FALSE NEIGHBOUR: 'it returns false'. Refute it at one input. -/
def fnHeelsWrong : ChangeSpec := { name := "fnHeels", fn := fun _ => fun
  | [d1, d2] => { results := [.lit (.bool false)], args := [d1, d2] }
  | _ => none }
def FnHeelsWrongFalsely : Prop := fnHeelsRow.holds Try.pinned (OpenSpec.ofChange fnHeelsWrong)

/-- 'laws.FnHeelHeights': WHATEVER THE INPUT: true; the input reads as it did. -/
def fnHeelHeightsSpec : ChangeSpec := { name := "fnHeelHeights", fn := fun _ => fun
  | [d1, d2] => { results := [.lit (.bool true)], args := [d1, d2] }
  | _ => none }
def fnHeelHeightsRow : OpenClaim := { program := "ytlaapndncejlgaa", sum := "48d34b442e3f07c85a4967c6f1167c3505aac6848254382e841288fb09eef82d", func := "loop.example/g01043/laws.FnHeelHeights", spec := "fnHeelHeights", unfollowed := true, recurses := true, apart := false }
def FnHeelHeightsSaid : Prop := fnHeelHeightsRow.holds Try.pinned (OpenSpec.ofChange fnHeelHeightsSpec)

/-- ITS FALSE NEIGHBOUR: 'it returns false'. Refute it at one input. -/
def fnHeelHeightsWrong : ChangeSpec := { name := "fnHeelHeights", fn := fun _ => fun
  | [d1, d2] => { results := [.lit (.bool false)], args := [d1, d2] }
  | _ => none }
def FnHeelHeightsWrongFalsely : Prop := fnHeelHeightsRow.holds Try.pinned (OpenSpec.ofChange fnHeelHeightsWrong)

/-- 'laws.FnExactHeelFor': WHATEVER THE INPUT: true; the input reads as it did. -/
def fnExactHeelForSpec : ChangeSpec := { name := "fnExactHeelFor", fn := fun _ => fun
  | [d1, d2, d3] => { results := [.lit (.bool true)], args := [d1, d2, d3] }
  | _ => none }
def fnExactHeelForRow : OpenClaim := { program := "ytlaapndncejlgaa", sum := "48d34b442e3f07c85a4967c6f1167c3505aac6848254382e841288fb09eef82d", func := "loop.example/g01043/laws.FnExactHeelFor", spec := "fnExactHeelFor", unfollowed := true, recurses := true, apart := false }
def FnExactHeelForSaid : Prop := fnExactHeelForRow.holds Try.pinned (OpenSpec.ofChange fnExactHeelForSpec)

/-- ITS FALSE NEIGHBOUR: 'it returns false'. Refute it at one input. -/
def fnExactHeelForWrong : ChangeSpec := { name := "fnExactHeelFor", fn := fun _ => fun
  | [d1, d2, d3] => { results := [.lit (.bool false)], args := [d1, d2, d3] }
  | _ => none }
def FnExactHeelForWrongFalsely : Prop := fnExactHeelForRow.holds Try.pinned (OpenSpec.ofChange fnExactHeelForWrong)

/- THE SECOND FORM. 'bulk': how many values and letters a reading holds, each counted each time it is reached (what is shared counts as often as it is met; a slice's spare places count too). A statement '..UptoSaid' is the law's where the arguments, and the package variables that the reading takes, are together of bulk at most 1048576: NARROWER than '..Said'. Prove '..Said' where nothing that the law and all that it calls make is longer than what came in: it says more and counts as full. Else prove '..UptoSaid'. A law counts once. -/
mutual
def uptoBulk {H : Type} : DataW H → Nat
  | .lit (.string bytes) => bytes.length + 1
  | .lit _ => 1
  | .nil => 1
  | .ptr d => uptoBulk d + 1
  | .slice elems spare => uptoBulkAll elems + uptoBulkAll spare + 1
  | .agg parts => uptoBulkAll parts + 1
  | .iface _ d => uptoBulk d + 1
  | .map entries => uptoBulkEntries entries + 1
  | .held _ => 1
def uptoBulkAll {H : Type} : List (DataW H) → Nat
  | [] => 0
  | d :: r => uptoBulk d + uptoBulkAll r
def uptoBulkEntries {H : Type} : List (Lit × DataW H) → Nat
  | [] => 0
  | x :: r => uptoBulkEntry x + uptoBulkEntries r
def uptoBulkEntry {H : Type} : Lit × DataW H → Nat
  | (.string bytes, d) => bytes.length + uptoBulk d + 1
  | (_, d) => uptoBulk d + 1
 end
def uptoSmall : (H : Type) → List (DataW H) → Bool := fun _ ds => decide (uptoBulkAll ds ≤ 1048576)
def OpenSpec.upto (s : _root_.Go.ChangeSpec) : _root_.Go.OpenSpec := { _root_.Go.OpenSpec.ofChange s with cond := some uptoSmall }

/-- 'laws.FnExactStepsLeft', WHERE WHAT IT READS IS OF BULK AT MOST 1048576: true; the input reads as it did. -/
def fnExactStepsLeftUptoRow : OpenClaim := { program := "ytlaapndncejlgaa", sum := "48d34b442e3f07c85a4967c6f1167c3505aac6848254382e841288fb09eef82d", func := "loop.example/g01043/laws.FnExactStepsLeft", spec := "fnExactStepsLeft", apart := false, narrowed := true }
def FnExactStepsLeftUptoSaid : Prop := fnExactStepsLeftUptoRow.holds Try.pinned (OpenSpec.upto fnExactStepsLeftSpec)

/-- 'laws.FnExactWearHeel', WHERE WHAT IT READS IS OF BULK AT MOST 1048576: true; the input reads as it did. -/
def fnExactWearHeelUptoRow : OpenClaim := { program := "ytlaapndncejlgaa", sum := "48d34b442e3f07c85a4967c6f1167c3505aac6848254382e841288fb09eef82d", func := "loop.example/g01043/laws.FnExactWearHeel", spec := "fnExactWearHeel", apart := false, narrowed := true }
def FnExactWearHeelUptoSaid : Prop := fnExactWearHeelUptoRow.holds Try.pinned (OpenSpec.upto fnExactWearHeelSpec)

/-- 'laws.FnExactValidStock', WHERE WHAT IT READS IS OF BULK AT MOST 1048576: true; the input reads as it did. -/
def fnExactValidStockUptoRow : OpenClaim := { program := "ytlaapndncejlgaa", sum := "48d34b442e3f07c85a4967c6f1167c3505aac6848254382e841288fb09eef82d", func := "loop.example/g01043/laws.FnExactValidStock", spec := "fnExactValidStock", apart := false, narrowed := true }
def FnExactValidStockUptoSaid : Prop := fnExactValidStockUptoRow.holds Try.pinned (OpenSpec.upto fnExactValidStockSpec)

/-- 'laws.FnExactSameStock', WHERE WHAT IT READS IS OF BULK AT MOST 1048576: true; the input reads as it did. -/
def fnExactSameStockUptoRow : OpenClaim := { program := "ytlaapndncejlgaa", sum := "48d34b442e3f07c85a4967c6f1167c3505aac6848254382e841288fb09eef82d", func := "loop.example/g01043/laws.FnExactSameStock", spec := "fnExactSameStock", apart := false, narrowed := true }
def FnExactSameStockUptoSaid : Prop := fnExactSameStockUptoRow.holds Try.pinned (OpenSpec.upto fnExactSameStockSpec)

/-- 'laws.FnExactUseLifts', WHERE WHAT IT READS IS OF BULK AT MOST 1048576: true; the input reads as it did. -/
def fnExactUseLiftsUptoRow : OpenClaim := { program := "ytlaapndncejlgaa", sum := "48d34b442e3f07c85a4967c6f1167c3505aac6848254382e841288fb09eef82d", func := "loop.example/g01043/laws.FnExactUseLifts", spec := "fnExactUseLifts", unfollowed := true, recurses := true, apart := false, narrowed := true }
def FnExactUseLiftsUptoSaid : Prop := fnExactUseLiftsUptoRow.holds Try.pinned (OpenSpec.upto fnExactUseLiftsSpec)

/-- 'laws.FnExactNearestHeel', WHERE WHAT IT READS IS OF BULK AT MOST 1048576: true; the input reads as it did. -/
def fnExactNearestHeelUptoRow : OpenClaim := { program := "ytlaapndncejlgaa", sum := "48d34b442e3f07c85a4967c6f1167c3505aac6848254382e841288fb09eef82d", func := "loop.example/g01043/laws.FnExactNearestHeel", spec := "fnExactNearestHeel", apart := false, narrowed := true }
def FnExactNearestHeelUptoSaid : Prop := fnExactNearestHeelUptoRow.holds Try.pinned (OpenSpec.upto fnExactNearestHeelSpec)

/-- 'laws.FnExactHeelHeights', WHERE WHAT IT READS IS OF BULK AT MOST 1048576: true; the input reads as it did. -/
def fnExactHeelHeightsUptoRow : OpenClaim := { program := "ytlaapndncejlgaa", sum := "48d34b442e3f07c85a4967c6f1167c3505aac6848254382e841288fb09eef82d", func := "loop.example/g01043/laws.FnExactHeelHeights", spec := "fnExactHeelHeights", apart := false, narrowed := true }
def FnExactHeelHeightsUptoSaid : Prop := fnExactHeelHeightsUptoRow.holds Try.pinned (OpenSpec.upto fnExactHeelHeightsSpec)

/-- 'laws.FnExactBuildHeel', WHERE WHAT IT READS IS OF BULK AT MOST 1048576: true; the input reads as it did. -/
def fnExactBuildHeelUptoRow : OpenClaim := { program := "ytlaapndncejlgaa", sum := "48d34b442e3f07c85a4967c6f1167c3505aac6848254382e841288fb09eef82d", func := "loop.example/g01043/laws.FnExactBuildHeel", spec := "fnExactBuildHeel", apart := false, narrowed := true }
def FnExactBuildHeelUptoSaid : Prop := fnExactBuildHeelUptoRow.holds Try.pinned (OpenSpec.upto fnExactBuildHeelSpec)

/-- 'laws.FnExactPairHeels', WHERE WHAT IT READS IS OF BULK AT MOST 1048576: true; the input reads as it did. -/
def fnExactPairHeelsUptoRow : OpenClaim := { program := "ytlaapndncejlgaa", sum := "48d34b442e3f07c85a4967c6f1167c3505aac6848254382e841288fb09eef82d", func := "loop.example/g01043/laws.FnExactPairHeels", spec := "fnExactPairHeels", apart := false, narrowed := true }
def FnExactPairHeelsUptoSaid : Prop := fnExactPairHeelsUptoRow.holds Try.pinned (OpenSpec.upto fnExactPairHeelsSpec)

/-- 'laws.FnHeels', WHERE WHAT IT READS IS OF BULK AT MOST 1048576: true; the input reads as it did. -/
def fnHeelsUptoRow : OpenClaim := { program := "ytlaapndncejlgaa", sum := "48d34b442e3f07c85a4967c6f1167c3505aac6848254382e841288fb09eef82d", func := "loop.example/g01043/laws.FnHeels", spec := "fnHeels", unfollowed := true, recurses := true, apart := false, narrowed := true }
def FnHeelsUptoSaid : Prop := fnHeelsUptoRow.holds Try.pinned (OpenSpec.upto fnHeelsSpec)

/-- 'laws.FnHeelHeights', WHERE WHAT IT READS IS OF BULK AT MOST 1048576: true; the input reads as it did. -/
def fnHeelHeightsUptoRow : OpenClaim := { program := "ytlaapndncejlgaa", sum := "48d34b442e3f07c85a4967c6f1167c3505aac6848254382e841288fb09eef82d", func := "loop.example/g01043/laws.FnHeelHeights", spec := "fnHeelHeights", unfollowed := true, recurses := true, apart := false, narrowed := true }
def FnHeelHeightsUptoSaid : Prop := fnHeelHeightsUptoRow.holds Try.pinned (OpenSpec.upto fnHeelHeightsSpec)

/-- 'laws.FnExactHeelFor', WHERE WHAT IT READS IS OF BULK AT MOST 1048576: true; the input reads as it did. -/
def fnExactHeelForUptoRow : OpenClaim := { program := "ytlaapndncejlgaa", sum := "48d34b442e3f07c85a4967c6f1167c3505aac6848254382e841288fb09eef82d", func := "loop.example/g01043/laws.FnExactHeelFor", spec := "fnExactHeelFor", unfollowed := true, recurses := true, apart := false, narrowed := true }
def FnExactHeelForUptoSaid : Prop := fnExactHeelForUptoRow.holds Try.pinned (OpenSpec.upto fnExactHeelForSpec)

end Rows
end Go.Proofs.Ytlaapndncejlgaa
