/-
  No cell of these rows narrows 'for every input' (looked for: loops, veiled, ifaces, maps, wideKeys, modest, calm, conditions, laid).
  DERIVED. THE GIVEN ROWS OF THIS SEAT. 10 by the template 'for every input the law returns true; each argument reads behind the call as it read before'; 0 by the template 'total and deterministic' (their statements: YtgdndmpnnocgiaaTotals.lean).
  GIVEN WITH THE SEED: the statements are not yours to turn. If you find one false, say at which input.
  Laid BY PROGRAM, IN A SANDBOX (cutbox-rows.mjs): the forced cells as the released guide's own fill.sh prints them over the translation 8bf66306ed4437f2… (all of the seat's roots in one cut). By AI agents, Wed Nov 11 2026. No macro, syntax, notation, axiom, sorry.
-/
import Derived.Test.YtgdndmpnnocgiaaChecked
import GoSem.Claim
import GoSem.ClaimJoined
import GoSem.ClaimMapViews
import Derived.JoinedTies
import Derived.KernelRfl
namespace Go.Proofs.Ytgdndmpnnocgiaa
/- THE CELL 'sum', in the pinned program and in every row, IS THE sha256 OF THE DUMP (.gsa) THAT YtgdndmpnnocgiaaProg.lean LOADS. Nothing in Lean hashes anything: it is a label: what it is worth is what the hold of that sum in a sandbox is worth. -/
noncomputable def Try.pinned : Pinned := { name := "ytgdndmpnnocgiaa", sum := "8bf66306ed4437f2bbd6161dd3b780b2cfadc6cbed976fb25576b286f8644fe3", checked := Try.checked }
namespace Rows
def none {H : Type} : Left H := { results := [], args := [] }

/-- 'laws.FnExactHoleClash': WHATEVER THE INPUT: true; the input reads as it did. -/
def fnExactHoleClashSpec : ChangeSpec := { name := "fnExactHoleClash", fn := fun _ => fun
  | [d1, d2, d3] => { results := [.lit (.bool true)], args := [d1, d2, d3] }
  | _ => none }
def fnExactHoleClashRow : OpenClaim := { program := "ytgdndmpnnocgiaa", sum := "8bf66306ed4437f2bbd6161dd3b780b2cfadc6cbed976fb25576b286f8644fe3", func := "loop.example/g01043/laws.FnExactHoleClash", spec := "fnExactHoleClash", apart := false }
def FnExactHoleClashSaid : Prop := fnExactHoleClashRow.holds Try.pinned (OpenSpec.ofChange fnExactHoleClashSpec)

/-- ITS FALSE NEIGHBOUR: 'it returns false'. Refute it at one input. -/
def fnExactHoleClashWrong : ChangeSpec := { name := "fnExactHoleClash", fn := fun _ => fun
  | [d1, d2, d3] => { results := [.lit (.bool false)], args := [d1, d2, d3] }
  | _ => none }
def FnExactHoleClashWrongFalsely : Prop := fnExactHoleClashRow.holds Try.pinned (OpenSpec.ofChange fnExactHoleClashWrong)

/-- 'laws.FnExactLockPlaces': WHATEVER THE INPUT: true; the input reads as it did. -/
def fnExactLockPlacesSpec : ChangeSpec := { name := "fnExactLockPlaces", fn := fun _ => fun
  | [d1, d2, d3] => { results := [.lit (.bool true)], args := [d1, d2, d3] }
  | _ => none }
def fnExactLockPlacesRow : OpenClaim := { program := "ytgdndmpnnocgiaa", sum := "8bf66306ed4437f2bbd6161dd3b780b2cfadc6cbed976fb25576b286f8644fe3", func := "loop.example/g01043/laws.FnExactLockPlaces", spec := "fnExactLockPlaces", apart := false }
def FnExactLockPlacesSaid : Prop := fnExactLockPlacesRow.holds Try.pinned (OpenSpec.ofChange fnExactLockPlacesSpec)

/-- ITS FALSE NEIGHBOUR: 'it returns false'. Refute it at one input. -/
def fnExactLockPlacesWrong : ChangeSpec := { name := "fnExactLockPlaces", fn := fun _ => fun
  | [d1, d2, d3] => { results := [.lit (.bool false)], args := [d1, d2, d3] }
  | _ => none }
def FnExactLockPlacesWrongFalsely : Prop := fnExactLockPlacesRow.holds Try.pinned (OpenSpec.ofChange fnExactLockPlacesWrong)

/-- 'laws.FnExactStitchTotal': WHATEVER THE INPUT: true; the input reads as it did. -/
def fnExactStitchTotalSpec : ChangeSpec := { name := "fnExactStitchTotal", fn := fun _ => fun
  | [d1, d2] => { results := [.lit (.bool true)], args := [d1, d2] }
  | _ => none }
def fnExactStitchTotalRow : OpenClaim := { program := "ytgdndmpnnocgiaa", sum := "8bf66306ed4437f2bbd6161dd3b780b2cfadc6cbed976fb25576b286f8644fe3", func := "loop.example/g01043/laws.FnExactStitchTotal", spec := "fnExactStitchTotal", unfollowed := true, recurses := true, apart := false }
def FnExactStitchTotalSaid : Prop := fnExactStitchTotalRow.holds Try.pinned (OpenSpec.ofChange fnExactStitchTotalSpec)

/-- ITS FALSE NEIGHBOUR: 'it returns false'. Refute it at one input. -/
def fnExactStitchTotalWrong : ChangeSpec := { name := "fnExactStitchTotal", fn := fun _ => fun
  | [d1, d2] => { results := [.lit (.bool false)], args := [d1, d2] }
  | _ => none }
def FnExactStitchTotalWrongFalsely : Prop := fnExactStitchTotalRow.holds Try.pinned (OpenSpec.ofChange fnExactStitchTotalWrong)

/-- 'laws.FnExactSeamMinutes': WHATEVER THE INPUT: true; the input reads as it did. -/
def fnExactSeamMinutesSpec : ChangeSpec := { name := "fnExactSeamMinutes", fn := fun _ => fun
  | [d1, d2, d3, d4] => { results := [.lit (.bool true)], args := [d1, d2, d3, d4] }
  | _ => none }
def fnExactSeamMinutesRow : OpenClaim := { program := "ytgdndmpnnocgiaa", sum := "8bf66306ed4437f2bbd6161dd3b780b2cfadc6cbed976fb25576b286f8644fe3", func := "loop.example/g01043/laws.FnExactSeamMinutes", spec := "fnExactSeamMinutes", unfollowed := true, recurses := true, apart := false }
def FnExactSeamMinutesSaid : Prop := fnExactSeamMinutesRow.holds Try.pinned (OpenSpec.ofChange fnExactSeamMinutesSpec)

/-- ITS FALSE NEIGHBOUR: 'it returns false'. Refute it at one input. -/
def fnExactSeamMinutesWrong : ChangeSpec := { name := "fnExactSeamMinutes", fn := fun _ => fun
  | [d1, d2, d3, d4] => { results := [.lit (.bool false)], args := [d1, d2, d3, d4] }
  | _ => none }
def FnExactSeamMinutesWrongFalsely : Prop := fnExactSeamMinutesRow.holds Try.pinned (OpenSpec.ofChange fnExactSeamMinutesWrong)

/-- 'laws.FnExactHolesOf': WHATEVER THE INPUT: true; the input reads as it did. -/
def fnExactHolesOfSpec : ChangeSpec := { name := "fnExactHolesOf", fn := fun _ => fun
  | [d1, d2] => { results := [.lit (.bool true)], args := [d1, d2] }
  | _ => none }
def fnExactHolesOfRow : OpenClaim := { program := "ytgdndmpnnocgiaa", sum := "8bf66306ed4437f2bbd6161dd3b780b2cfadc6cbed976fb25576b286f8644fe3", func := "loop.example/g01043/laws.FnExactHolesOf", spec := "fnExactHolesOf", unfollowed := true, recurses := true, apart := false }
def FnExactHolesOfSaid : Prop := fnExactHolesOfRow.holds Try.pinned (OpenSpec.ofChange fnExactHolesOfSpec)

/-- ITS FALSE NEIGHBOUR: 'it returns false'. Refute it at one input. -/
def fnExactHolesOfWrong : ChangeSpec := { name := "fnExactHolesOf", fn := fun _ => fun
  | [d1, d2] => { results := [.lit (.bool false)], args := [d1, d2] }
  | _ => none }
def FnExactHolesOfWrongFalsely : Prop := fnExactHolesOfRow.holds Try.pinned (OpenSpec.ofChange fnExactHolesOfWrong)

/-- 'laws.FnExactCountsFor': WHATEVER THE INPUT: true; the input reads as it did. -/
def fnExactCountsForSpec : ChangeSpec := { name := "fnExactCountsFor", fn := fun _ => fun
  | [d1, d2] => { results := [.lit (.bool true)], args := [d1, d2] }
  | _ => none }
def fnExactCountsForRow : OpenClaim := { program := "ytgdndmpnnocgiaa", sum := "8bf66306ed4437f2bbd6161dd3b780b2cfadc6cbed976fb25576b286f8644fe3", func := "loop.example/g01043/laws.FnExactCountsFor", spec := "fnExactCountsFor", unfollowed := true, recurses := true, apart := false }
def FnExactCountsForSaid : Prop := fnExactCountsForRow.holds Try.pinned (OpenSpec.ofChange fnExactCountsForSpec)

/-- ITS FALSE NEIGHBOUR: 'it returns false'. Refute it at one input. -/
def fnExactCountsForWrong : ChangeSpec := { name := "fnExactCountsFor", fn := fun _ => fun
  | [d1, d2] => { results := [.lit (.bool false)], args := [d1, d2] }
  | _ => none }
def FnExactCountsForWrongFalsely : Prop := fnExactCountsForRow.holds Try.pinned (OpenSpec.ofChange fnExactCountsForWrong)

/-- 'laws.FnExactEvenestStitch': WHATEVER THE INPUT: true; the input reads as it did. -/
def fnExactEvenestStitchSpec : ChangeSpec := { name := "fnExactEvenestStitch", fn := fun _ => fun
  | [d1, d2, d3] => { results := [.lit (.bool true)], args := [d1, d2, d3] }
  | _ => none }
def fnExactEvenestStitchRow : OpenClaim := { program := "ytgdndmpnnocgiaa", sum := "8bf66306ed4437f2bbd6161dd3b780b2cfadc6cbed976fb25576b286f8644fe3", func := "loop.example/g01043/laws.FnExactEvenestStitch", spec := "fnExactEvenestStitch", unfollowed := true, recurses := true, apart := false }
def FnExactEvenestStitchSaid : Prop := fnExactEvenestStitchRow.holds Try.pinned (OpenSpec.ofChange fnExactEvenestStitchSpec)

/-- ITS FALSE NEIGHBOUR: 'it returns false'. Refute it at one input. -/
def fnExactEvenestStitchWrong : ChangeSpec := { name := "fnExactEvenestStitch", fn := fun _ => fun
  | [d1, d2, d3] => { results := [.lit (.bool false)], args := [d1, d2, d3] }
  | _ => none }
def FnExactEvenestStitchWrongFalsely : Prop := fnExactEvenestStitchRow.holds Try.pinned (OpenSpec.ofChange fnExactEvenestStitchWrong)

/-- 'laws.FnExactStitchLengths': WHATEVER THE INPUT: true; the input reads as it did. -/
def fnExactStitchLengthsSpec : ChangeSpec := { name := "fnExactStitchLengths", fn := fun _ => fun
  | [d1, d2] => { results := [.lit (.bool true)], args := [d1, d2] }
  | _ => none }
def fnExactStitchLengthsRow : OpenClaim := { program := "ytgdndmpnnocgiaa", sum := "8bf66306ed4437f2bbd6161dd3b780b2cfadc6cbed976fb25576b286f8644fe3", func := "loop.example/g01043/laws.FnExactStitchLengths", spec := "fnExactStitchLengths", unfollowed := true, recurses := true, apart := false }
def FnExactStitchLengthsSaid : Prop := fnExactStitchLengthsRow.holds Try.pinned (OpenSpec.ofChange fnExactStitchLengthsSpec)

/-- ITS FALSE NEIGHBOUR: 'it returns false'. Refute it at one input. -/
def fnExactStitchLengthsWrong : ChangeSpec := { name := "fnExactStitchLengths", fn := fun _ => fun
  | [d1, d2] => { results := [.lit (.bool false)], args := [d1, d2] }
  | _ => none }
def FnExactStitchLengthsWrongFalsely : Prop := fnExactStitchLengthsRow.holds Try.pinned (OpenSpec.ofChange fnExactStitchLengthsWrong)

/-- 'laws.FnExactSlopeOf': WHATEVER THE INPUT: true; the input reads as it did. -/
def fnExactSlopeOfSpec : ChangeSpec := { name := "fnExactSlopeOf", fn := fun _ => fun
  | [d1, d2] => { results := [.lit (.bool true)], args := [d1, d2] }
  | _ => none }
def fnExactSlopeOfRow : OpenClaim := { program := "ytgdndmpnnocgiaa", sum := "8bf66306ed4437f2bbd6161dd3b780b2cfadc6cbed976fb25576b286f8644fe3", func := "loop.example/g01043/laws.FnExactSlopeOf", spec := "fnExactSlopeOf", unfollowed := true, recurses := true, apart := false }
def FnExactSlopeOfSaid : Prop := fnExactSlopeOfRow.holds Try.pinned (OpenSpec.ofChange fnExactSlopeOfSpec)

/-- ITS FALSE NEIGHBOUR: 'it returns false'. Refute it at one input. -/
def fnExactSlopeOfWrong : ChangeSpec := { name := "fnExactSlopeOf", fn := fun _ => fun
  | [d1, d2] => { results := [.lit (.bool false)], args := [d1, d2] }
  | _ => none }
def FnExactSlopeOfWrongFalsely : Prop := fnExactSlopeOfRow.holds Try.pinned (OpenSpec.ofChange fnExactSlopeOfWrong)

/-- 'laws.FnHoles': WHATEVER THE INPUT: true; the input reads as it did. -/
def fnHolesSpec : ChangeSpec := { name := "fnHoles", fn := fun _ => fun
  | [d] => { results := [.lit (.bool true)], args := [d] }
  | _ => none }
def fnHolesRow : OpenClaim := { program := "ytgdndmpnnocgiaa", sum := "8bf66306ed4437f2bbd6161dd3b780b2cfadc6cbed976fb25576b286f8644fe3", func := "loop.example/g01043/laws.FnHoles", spec := "fnHoles", unfollowed := true, recurses := true, apart := false }
def FnHolesSaid : Prop := fnHolesRow.holds Try.pinned (OpenSpec.ofChange fnHolesSpec)

/-- ITS FALSE NEIGHBOUR: 'it returns false'. Refute it at one input. -/
def fnHolesWrong : ChangeSpec := { name := "fnHoles", fn := fun _ => fun
  | [d] => { results := [.lit (.bool false)], args := [d] }
  | _ => none }
def FnHolesWrongFalsely : Prop := fnHolesRow.holds Try.pinned (OpenSpec.ofChange fnHolesWrong)

/- THE SECOND FORM. 'bulk': how many values and letters a reading holds, each counted each time it is reached (what is shared counts as often as it is met; a slice's spare places count too). A statement '..UptoSaid' is the law's where the arguments, and the package variables that the reading takes, are together of bulk at most 1048576: NARROWER than '..Said'. Prove '..Said' where nothing that the law and all that it calls make is longer than what came in: it says more and counts as full. Else prove '..UptoSaid'. A law counts once. -/
mutual
def uptoBulk {H : Type} : DataW H → Nat
  | .lit (.string bytes) => bytes.length + 1
  | .lit _ => 1
  | .nil => 1
  | .ptr d => uptoBulk d + 1
  | .slice elems spare => uptoBulkAll elems + uptoBulkAll spare + 1
  | .agg parts => uptoBulkAll parts + 1
  | .iface _ d => uptoBulk d + 1
  | .map entries => uptoBulkEntries entries + 1
  | .held _ => 1
def uptoBulkAll {H : Type} : List (DataW H) → Nat
  | [] => 0
  | d :: r => uptoBulk d + uptoBulkAll r
def uptoBulkEntries {H : Type} : List (Lit × DataW H) → Nat
  | [] => 0
  | x :: r => uptoBulkEntry x + uptoBulkEntries r
def uptoBulkEntry {H : Type} : Lit × DataW H → Nat
  | (.string bytes, d) => bytes.length + uptoBulk d + 1
  | (_, d) => uptoBulk d + 1
 end
def uptoSmall : (H : Type) → List (DataW H) → Bool := fun _ ds => decide (uptoBulkAll ds ≤ 1048576)
def OpenSpec.upto (s : _root_.Go.ChangeSpec) : _root_.Go.OpenSpec := { _root_.Go.OpenSpec.ofChange s with cond := some uptoSmall }

/-- 'laws.FnExactHoleClash', WHERE WHAT IT READS IS OF BULK AT MOST 1048576: true; the input reads as it did. -/
def fnExactHoleClashUptoRow : OpenClaim := { program := "ytgdndmpnnocgiaa", sum := "8bf66306ed4437f2bbd6161dd3b780b2cfadc6cbed976fb25576b286f8644fe3", func := "loop.example/g01043/laws.FnExactHoleClash", spec := "fnExactHoleClash", apart := false, narrowed := true }
def FnExactHoleClashUptoSaid : Prop := fnExactHoleClashUptoRow.holds Try.pinned (OpenSpec.upto fnExactHoleClashSpec)

/-- 'laws.FnExactLockPlaces', WHERE WHAT IT READS IS OF BULK AT MOST 1048576: true; the input reads as it did. -/
def fnExactLockPlacesUptoRow : OpenClaim := { program := "ytgdndmpnnocgiaa", sum := "8bf66306ed4437f2bbd6161dd3b780b2cfadc6cbed976fb25576b286f8644fe3", func := "loop.example/g01043/laws.FnExactLockPlaces", spec := "fnExactLockPlaces", apart := false, narrowed := true }
def FnExactLockPlacesUptoSaid : Prop := fnExactLockPlacesUptoRow.holds Try.pinned (OpenSpec.upto fnExactLockPlacesSpec)

/-- 'laws.FnExactStitchTotal', WHERE WHAT IT READS IS OF BULK AT MOST 1048576: true; the input reads as it did. -/
def fnExactStitchTotalUptoRow : OpenClaim := { program := "ytgdndmpnnocgiaa", sum := "8bf66306ed4437f2bbd6161dd3b780b2cfadc6cbed976fb25576b286f8644fe3", func := "loop.example/g01043/laws.FnExactStitchTotal", spec := "fnExactStitchTotal", unfollowed := true, recurses := true, apart := false, narrowed := true }
def FnExactStitchTotalUptoSaid : Prop := fnExactStitchTotalUptoRow.holds Try.pinned (OpenSpec.upto fnExactStitchTotalSpec)

/-- 'laws.FnExactSeamMinutes', WHERE WHAT IT READS IS OF BULK AT MOST 1048576: true; the input reads as it did. -/
def fnExactSeamMinutesUptoRow : OpenClaim := { program := "ytgdndmpnnocgiaa", sum := "8bf66306ed4437f2bbd6161dd3b780b2cfadc6cbed976fb25576b286f8644fe3", func := "loop.example/g01043/laws.FnExactSeamMinutes", spec := "fnExactSeamMinutes", unfollowed := true, recurses := true, apart := false, narrowed := true }
def FnExactSeamMinutesUptoSaid : Prop := fnExactSeamMinutesUptoRow.holds Try.pinned (OpenSpec.upto fnExactSeamMinutesSpec)

/-- 'laws.FnExactHolesOf', WHERE WHAT IT READS IS OF BULK AT MOST 1048576: true; the input reads as it did. -/
def fnExactHolesOfUptoRow : OpenClaim := { program := "ytgdndmpnnocgiaa", sum := "8bf66306ed4437f2bbd6161dd3b780b2cfadc6cbed976fb25576b286f8644fe3", func := "loop.example/g01043/laws.FnExactHolesOf", spec := "fnExactHolesOf", unfollowed := true, recurses := true, apart := false, narrowed := true }
def FnExactHolesOfUptoSaid : Prop := fnExactHolesOfUptoRow.holds Try.pinned (OpenSpec.upto fnExactHolesOfSpec)

/-- 'laws.FnExactCountsFor', WHERE WHAT IT READS IS OF BULK AT MOST 1048576: true; the input reads as it did. -/
def fnExactCountsForUptoRow : OpenClaim := { program := "ytgdndmpnnocgiaa", sum := "8bf66306ed4437f2bbd6161dd3b780b2cfadc6cbed976fb25576b286f8644fe3", func := "loop.example/g01043/laws.FnExactCountsFor", spec := "fnExactCountsFor", unfollowed := true, recurses := true, apart := false, narrowed := true }
def FnExactCountsForUptoSaid : Prop := fnExactCountsForUptoRow.holds Try.pinned (OpenSpec.upto fnExactCountsForSpec)

/-- 'laws.FnExactEvenestStitch', WHERE WHAT IT READS IS OF BULK AT MOST 1048576: true; the input reads as it did. -/
def fnExactEvenestStitchUptoRow : OpenClaim := { program := "ytgdndmpnnocgiaa", sum := "8bf66306ed4437f2bbd6161dd3b780b2cfadc6cbed976fb25576b286f8644fe3", func := "loop.example/g01043/laws.FnExactEvenestStitch", spec := "fnExactEvenestStitch", unfollowed := true, recurses := true, apart := false, narrowed := true }
def FnExactEvenestStitchUptoSaid : Prop := fnExactEvenestStitchUptoRow.holds Try.pinned (OpenSpec.upto fnExactEvenestStitchSpec)

/-- 'laws.FnExactStitchLengths', WHERE WHAT IT READS IS OF BULK AT MOST 1048576: true; the input reads as it did. -/
def fnExactStitchLengthsUptoRow : OpenClaim := { program := "ytgdndmpnnocgiaa", sum := "8bf66306ed4437f2bbd6161dd3b780b2cfadc6cbed976fb25576b286f8644fe3", func := "loop.example/g01043/laws.FnExactStitchLengths", spec := "fnExactStitchLengths", unfollowed := true, recurses := true, apart := false, narrowed := true }
def FnExactStitchLengthsUptoSaid : Prop := fnExactStitchLengthsUptoRow.holds Try.pinned (OpenSpec.upto fnExactStitchLengthsSpec)

/-- 'laws.FnExactSlopeOf', WHERE WHAT IT READS IS OF BULK AT MOST 1048576: true; the input reads as it did. -/
def fnExactSlopeOfUptoRow : OpenClaim := { program := "ytgdndmpnnocgiaa", sum := "8bf66306ed4437f2bbd6161dd3b780b2cfadc6cbed976fb25576b286f8644fe3", func := "loop.example/g01043/laws.FnExactSlopeOf", spec := "fnExactSlopeOf", unfollowed := true, recurses := true, apart := false, narrowed := true }
def FnExactSlopeOfUptoSaid : Prop := fnExactSlopeOfUptoRow.holds Try.pinned (OpenSpec.upto fnExactSlopeOfSpec)

/-- 'laws.FnHoles', WHERE WHAT IT READS IS OF BULK AT MOST 1048576: true; the input reads as it did. -/
def fnHolesUptoRow : OpenClaim := { program := "ytgdndmpnnocgiaa", sum := "8bf66306ed4437f2bbd6161dd3b780b2cfadc6cbed976fb25576b286f8644fe3", func := "loop.example/g01043/laws.FnHoles", spec := "fnHoles", unfollowed := true, recurses := true, apart := false, narrowed := true }
def FnHolesUptoSaid : Prop := fnHolesUptoRow.holds Try.pinned (OpenSpec.upto fnHolesSpec)

end Rows
end Go.Proofs.Ytgdndmpnnocgiaa
