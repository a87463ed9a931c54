/-
  No cell of these rows narrows 'for every input' (looked for: loops, veiled, ifaces, maps, wideKeys, modest, calm, conditions, laid).
  DERIVED. THE GIVEN ROWS OF THIS SEAT. 8 by the template 'for every input the law returns true; each argument reads behind the call as it read before'; 0 by the template 'total and deterministic' (their statements: YtoomkeicfdmdoaaTotals.lean).
  GIVEN WITH THE SEED: the statements are not yours to turn. If you find one false, say at which input.
  Laid BY PROGRAM, IN A SANDBOX (cutbox-rows.mjs): the forced cells as the released guide's own fill.sh prints them over the translation 9e0d99ec9c72b776… (all of the seat's roots in one cut). By AI agents, Wed Nov 11 2026. No macro, syntax, notation, axiom, sorry.
-/
import Derived.Test.YtoomkeicfdmdoaaChecked
import GoSem.Claim
import GoSem.ClaimJoined
import GoSem.ClaimMapViews
import Derived.JoinedTies
import Derived.KernelRfl
namespace Go.Proofs.Ytoomkeicfdmdoaa
/- THE CELL 'sum', in the pinned program and in every row, IS THE sha256 OF THE DUMP (.gsa) THAT YtoomkeicfdmdoaaProg.lean LOADS. Nothing in Lean hashes anything: it is a label: what it is worth is what the hold of that sum in a sandbox is worth. -/
noncomputable def Try.pinned : Pinned := { name := "ytoomkeicfdmdoaa", sum := "9e0d99ec9c72b7765aa8d42880ee16f1f20ac0e4e5774b2b0209247a04a17c3f", checked := Try.checked }
namespace Rows
def none {H : Type} : Left H := { results := [], args := [] }

/-- 'laws.FnExactSpoolFault': WHATEVER THE INPUT: true; the input reads as it did. -/
def fnExactSpoolFaultSpec : ChangeSpec := { name := "fnExactSpoolFault", fn := fun _ => fun
  | [d1, d2, d3] => { results := [.lit (.bool true)], args := [d1, d2, d3] }
  | _ => none }
def fnExactSpoolFaultRow : OpenClaim := { program := "ytoomkeicfdmdoaa", sum := "9e0d99ec9c72b7765aa8d42880ee16f1f20ac0e4e5774b2b0209247a04a17c3f", func := "loop.example/g01043/laws.FnExactSpoolFault", spec := "fnExactSpoolFault", unfollowed := true, recurses := true, apart := false }
def FnExactSpoolFaultSaid : Prop := fnExactSpoolFaultRow.holds Try.pinned (OpenSpec.ofChange fnExactSpoolFaultSpec)

/-- ITS FALSE NEIGHBOUR: 'it returns false'. Refute it at one input. -/
def fnExactSpoolFaultWrong : ChangeSpec := { name := "fnExactSpoolFault", fn := fun _ => fun
  | [d1, d2, d3] => { results := [.lit (.bool false)], args := [d1, d2, d3] }
  | _ => none }
def FnExactSpoolFaultWrongFalsely : Prop := fnExactSpoolFaultRow.holds Try.pinned (OpenSpec.ofChange fnExactSpoolFaultWrong)

/-- 'laws.FnExactFirstSpools': WHATEVER THE INPUT: true; the input reads as it did. -/
def fnExactFirstSpoolsSpec : ChangeSpec := { name := "fnExactFirstSpools", fn := fun _ => fun
  | [d1, d2] => { results := [.lit (.bool true)], args := [d1, d2] }
  | _ => none }
def fnExactFirstSpoolsRow : OpenClaim := { program := "ytoomkeicfdmdoaa", sum := "9e0d99ec9c72b7765aa8d42880ee16f1f20ac0e4e5774b2b0209247a04a17c3f", func := "loop.example/g01043/laws.FnExactFirstSpools", spec := "fnExactFirstSpools", unfollowed := true, recurses := true, apart := false }
def FnExactFirstSpoolsSaid : Prop := fnExactFirstSpoolsRow.holds Try.pinned (OpenSpec.ofChange fnExactFirstSpoolsSpec)

/-- ITS FALSE NEIGHBOUR: 'it returns false'. Refute it at one input. -/
def fnExactFirstSpoolsWrong : ChangeSpec := { name := "fnExactFirstSpools", fn := fun _ => fun
  | [d1, d2] => { results := [.lit (.bool false)], args := [d1, d2] }
  | _ => none }
def FnExactFirstSpoolsWrongFalsely : Prop := fnExactFirstSpoolsRow.holds Try.pinned (OpenSpec.ofChange fnExactFirstSpoolsWrong)

/-- 'laws.FnExactLeftOnSpools': WHATEVER THE INPUT: true; the input reads as it did. -/
def fnExactLeftOnSpoolsSpec : ChangeSpec := { name := "fnExactLeftOnSpools", fn := fun _ => fun
  | [d1, d2, d3] => { results := [.lit (.bool true)], args := [d1, d2, d3] }
  | _ => none }
def fnExactLeftOnSpoolsRow : OpenClaim := { program := "ytoomkeicfdmdoaa", sum := "9e0d99ec9c72b7765aa8d42880ee16f1f20ac0e4e5774b2b0209247a04a17c3f", func := "loop.example/g01043/laws.FnExactLeftOnSpools", spec := "fnExactLeftOnSpools", unfollowed := true, recurses := true, apart := false }
def FnExactLeftOnSpoolsSaid : Prop := fnExactLeftOnSpoolsRow.holds Try.pinned (OpenSpec.ofChange fnExactLeftOnSpoolsSpec)

/-- ITS FALSE NEIGHBOUR: 'it returns false'. Refute it at one input. -/
def fnExactLeftOnSpoolsWrong : ChangeSpec := { name := "fnExactLeftOnSpools", fn := fun _ => fun
  | [d1, d2, d3] => { results := [.lit (.bool false)], args := [d1, d2, d3] }
  | _ => none }
def FnExactLeftOnSpoolsWrongFalsely : Prop := fnExactLeftOnSpoolsRow.holds Try.pinned (OpenSpec.ofChange fnExactLeftOnSpoolsWrong)

/-- 'laws.FnExactFewestSpools': WHATEVER THE INPUT: true; the input reads as it did. -/
def fnExactFewestSpoolsSpec : ChangeSpec := { name := "fnExactFewestSpools", fn := fun _ => fun
  | [d1, d2] => { results := [.lit (.bool true)], args := [d1, d2] }
  | _ => none }
def fnExactFewestSpoolsRow : OpenClaim := { program := "ytoomkeicfdmdoaa", sum := "9e0d99ec9c72b7765aa8d42880ee16f1f20ac0e4e5774b2b0209247a04a17c3f", func := "loop.example/g01043/laws.FnExactFewestSpools", spec := "fnExactFewestSpools", unfollowed := true, recurses := true, apart := false }
def FnExactFewestSpoolsSaid : Prop := fnExactFewestSpoolsRow.holds Try.pinned (OpenSpec.ofChange fnExactFewestSpoolsSpec)

/-- ITS FALSE NEIGHBOUR: 'it returns false'. Refute it at one input. -/
def fnExactFewestSpoolsWrong : ChangeSpec := { name := "fnExactFewestSpools", fn := fun _ => fun
  | [d1, d2] => { results := [.lit (.bool false)], args := [d1, d2] }
  | _ => none }
def FnExactFewestSpoolsWrongFalsely : Prop := fnExactFewestSpoolsRow.holds Try.pinned (OpenSpec.ofChange fnExactFewestSpoolsWrong)

/-- 'laws.FnSpools': WHATEVER THE INPUT: true; the input reads as it did. -/
def fnSpoolsSpec : ChangeSpec := { name := "fnSpools", fn := fun _ => fun
  | [d1, d2] => { results := [.lit (.bool true)], args := [d1, d2] }
  | _ => none }
def fnSpoolsRow : OpenClaim := { program := "ytoomkeicfdmdoaa", sum := "9e0d99ec9c72b7765aa8d42880ee16f1f20ac0e4e5774b2b0209247a04a17c3f", func := "loop.example/g01043/laws.FnSpools", spec := "fnSpools", unfollowed := true, recurses := true, apart := false }
def FnSpoolsSaid : Prop := fnSpoolsRow.holds Try.pinned (OpenSpec.ofChange fnSpoolsSpec)

/-- ITS FALSE NEIGHBOUR: 'it returns false'. Refute it at one input. -/
def fnSpoolsWrong : ChangeSpec := { name := "fnSpools", fn := fun _ => fun
  | [d1, d2] => { results := [.lit (.bool false)], args := [d1, d2] }
  | _ => none }
def FnSpoolsWrongFalsely : Prop := fnSpoolsRow.holds Try.pinned (OpenSpec.ofChange fnSpoolsWrong)

/-- 'laws.FnExactLeastHeight': WHATEVER THE INPUT: true; the input reads as it did. -/
def fnExactLeastHeightSpec : ChangeSpec := { name := "fnExactLeastHeight", fn := fun _ => fun
  | [d1, d2] => { results := [.lit (.bool true)], args := [d1, d2] }
  | _ => none }
def fnExactLeastHeightRow : OpenClaim := { program := "ytoomkeicfdmdoaa", sum := "9e0d99ec9c72b7765aa8d42880ee16f1f20ac0e4e5774b2b0209247a04a17c3f", func := "loop.example/g01043/laws.FnExactLeastHeight", spec := "fnExactLeastHeight", unfollowed := true, recurses := true, apart := false }
def FnExactLeastHeightSaid : Prop := fnExactLeastHeightRow.holds Try.pinned (OpenSpec.ofChange fnExactLeastHeightSpec)

/-- ITS FALSE NEIGHBOUR: 'it returns false'. Refute it at one input. -/
def fnExactLeastHeightWrong : ChangeSpec := { name := "fnExactLeastHeight", fn := fun _ => fun
  | [d1, d2] => { results := [.lit (.bool false)], args := [d1, d2] }
  | _ => none }
def FnExactLeastHeightWrongFalsely : Prop := fnExactLeastHeightRow.holds Try.pinned (OpenSpec.ofChange fnExactLeastHeightWrong)

/-- 'laws.FnExactBestRows': WHATEVER THE INPUT: true; the input reads as it did. -/
def fnExactBestRowsSpec : ChangeSpec := { name := "fnExactBestRows", fn := fun _ => fun
  | [d1, d2] => { results := [.lit (.bool true)], args := [d1, d2] }
  | _ => none }
def fnExactBestRowsRow : OpenClaim := { program := "ytoomkeicfdmdoaa", sum := "9e0d99ec9c72b7765aa8d42880ee16f1f20ac0e4e5774b2b0209247a04a17c3f", func := "loop.example/g01043/laws.FnExactBestRows", spec := "fnExactBestRows", unfollowed := true, recurses := true, apart := false }
def FnExactBestRowsSaid : Prop := fnExactBestRowsRow.holds Try.pinned (OpenSpec.ofChange fnExactBestRowsSpec)

/-- ITS FALSE NEIGHBOUR: 'it returns false'. Refute it at one input. -/
def fnExactBestRowsWrong : ChangeSpec := { name := "fnExactBestRows", fn := fun _ => fun
  | [d1, d2] => { results := [.lit (.bool false)], args := [d1, d2] }
  | _ => none }
def FnExactBestRowsWrongFalsely : Prop := fnExactBestRowsRow.holds Try.pinned (OpenSpec.ofChange fnExactBestRowsWrong)

/-- 'laws.FnNested': WHATEVER THE INPUT: true; the input reads as it did. -/
def fnNestedSpec : ChangeSpec := { name := "fnNested", fn := fun _ => fun
  | [d] => { results := [.lit (.bool true)], args := [d] }
  | _ => none }
def fnNestedRow : OpenClaim := { program := "ytoomkeicfdmdoaa", sum := "9e0d99ec9c72b7765aa8d42880ee16f1f20ac0e4e5774b2b0209247a04a17c3f", func := "loop.example/g01043/laws.FnNested", spec := "fnNested", unfollowed := true, recurses := true, apart := false }
def FnNestedSaid : Prop := fnNestedRow.holds Try.pinned (OpenSpec.ofChange fnNestedSpec)

/-- ITS FALSE NEIGHBOUR: 'it returns false'. Refute it at one input. -/
def fnNestedWrong : ChangeSpec := { name := "fnNested", fn := fun _ => fun
  | [d] => { results := [.lit (.bool false)], args := [d] }
  | _ => none }
def FnNestedWrongFalsely : Prop := fnNestedRow.holds Try.pinned (OpenSpec.ofChange fnNestedWrong)

/- THE SECOND FORM. 'bulk': how many values and letters a reading holds, each counted each time it is reached (what is shared counts as often as it is met; a slice's spare places count too). A statement '..UptoSaid' is the law's where the arguments, and the package variables that the reading takes, are together of bulk at most 1048576: NARROWER than '..Said'. Prove '..Said' where nothing that the law and all that it calls make is longer than what came in: it says more and counts as full. Else prove '..UptoSaid'. A law counts once. -/
mutual
def uptoBulk {H : Type} : DataW H → Nat
  | .lit (.string bytes) => bytes.length + 1
  | .lit _ => 1
  | .nil => 1
  | .ptr d => uptoBulk d + 1
  | .slice elems spare => uptoBulkAll elems + uptoBulkAll spare + 1
  | .agg parts => uptoBulkAll parts + 1
  | .iface _ d => uptoBulk d + 1
  | .map entries => uptoBulkEntries entries + 1
  | .held _ => 1
def uptoBulkAll {H : Type} : List (DataW H) → Nat
  | [] => 0
  | d :: r => uptoBulk d + uptoBulkAll r
def uptoBulkEntries {H : Type} : List (Lit × DataW H) → Nat
  | [] => 0
  | x :: r => uptoBulkEntry x + uptoBulkEntries r
def uptoBulkEntry {H : Type} : Lit × DataW H → Nat
  | (.string bytes, d) => bytes.length + uptoBulk d + 1
  | (_, d) => uptoBulk d + 1
 end
def uptoSmall : (H : Type) → List (DataW H) → Bool := fun _ ds => decide (uptoBulkAll ds ≤ 1048576)
def OpenSpec.upto (s : _root_.Go.ChangeSpec) : _root_.Go.OpenSpec := { _root_.Go.OpenSpec.ofChange s with cond := some uptoSmall }

/-- 'laws.FnExactSpoolFault', WHERE WHAT IT READS IS OF BULK AT MOST 1048576: true; the input reads as it did. -/
def fnExactSpoolFaultUptoRow : OpenClaim := { program := "ytoomkeicfdmdoaa", sum := "9e0d99ec9c72b7765aa8d42880ee16f1f20ac0e4e5774b2b0209247a04a17c3f", func := "loop.example/g01043/laws.FnExactSpoolFault", spec := "fnExactSpoolFault", unfollowed := true, recurses := true, apart := false, narrowed := true }
def FnExactSpoolFaultUptoSaid : Prop := fnExactSpoolFaultUptoRow.holds Try.pinned (OpenSpec.upto fnExactSpoolFaultSpec)

/-- 'laws.FnExactFirstSpools', WHERE WHAT IT READS IS OF BULK AT MOST 1048576: true; the input reads as it did. -/
def fnExactFirstSpoolsUptoRow : OpenClaim := { program := "ytoomkeicfdmdoaa", sum := "9e0d99ec9c72b7765aa8d42880ee16f1f20ac0e4e5774b2b0209247a04a17c3f", func := "loop.example/g01043/laws.FnExactFirstSpools", spec := "fnExactFirstSpools", unfollowed := true, recurses := true, apart := false, narrowed := true }
def FnExactFirstSpoolsUptoSaid : Prop := fnExactFirstSpoolsUptoRow.holds Try.pinned (OpenSpec.upto fnExactFirstSpoolsSpec)

/-- 'laws.FnExactLeftOnSpools', WHERE WHAT IT READS IS OF BULK AT MOST 1048576: true; the input reads as it did. -/
def fnExactLeftOnSpoolsUptoRow : OpenClaim := { program := "ytoomkeicfdmdoaa", sum := "9e0d99ec9c72b7765aa8d42880ee16f1f20ac0e4e5774b2b0209247a04a17c3f", func := "loop.example/g01043/laws.FnExactLeftOnSpools", spec := "fnExactLeftOnSpools", unfollowed := true, recurses := true, apart := false, narrowed := true }
def FnExactLeftOnSpoolsUptoSaid : Prop := fnExactLeftOnSpoolsUptoRow.holds Try.pinned (OpenSpec.upto fnExactLeftOnSpoolsSpec)

/-- 'laws.FnExactFewestSpools', WHERE WHAT IT READS IS OF BULK AT MOST 1048576: true; the input reads as it did. -/
def fnExactFewestSpoolsUptoRow : OpenClaim := { program := "ytoomkeicfdmdoaa", sum := "9e0d99ec9c72b7765aa8d42880ee16f1f20ac0e4e5774b2b0209247a04a17c3f", func := "loop.example/g01043/laws.FnExactFewestSpools", spec := "fnExactFewestSpools", unfollowed := true, recurses := true, apart := false, narrowed := true }
def FnExactFewestSpoolsUptoSaid : Prop := fnExactFewestSpoolsUptoRow.holds Try.pinned (OpenSpec.upto fnExactFewestSpoolsSpec)

/-- 'laws.FnSpools', WHERE WHAT IT READS IS OF BULK AT MOST 1048576: true; the input reads as it did. -/
def fnSpoolsUptoRow : OpenClaim := { program := "ytoomkeicfdmdoaa", sum := "9e0d99ec9c72b7765aa8d42880ee16f1f20ac0e4e5774b2b0209247a04a17c3f", func := "loop.example/g01043/laws.FnSpools", spec := "fnSpools", unfollowed := true, recurses := true, apart := false, narrowed := true }
def FnSpoolsUptoSaid : Prop := fnSpoolsUptoRow.holds Try.pinned (OpenSpec.upto fnSpoolsSpec)

/-- 'laws.FnExactLeastHeight', WHERE WHAT IT READS IS OF BULK AT MOST 1048576: true; the input reads as it did. -/
def fnExactLeastHeightUptoRow : OpenClaim := { program := "ytoomkeicfdmdoaa", sum := "9e0d99ec9c72b7765aa8d42880ee16f1f20ac0e4e5774b2b0209247a04a17c3f", func := "loop.example/g01043/laws.FnExactLeastHeight", spec := "fnExactLeastHeight", unfollowed := true, recurses := true, apart := false, narrowed := true }
def FnExactLeastHeightUptoSaid : Prop := fnExactLeastHeightUptoRow.holds Try.pinned (OpenSpec.upto fnExactLeastHeightSpec)

/-- 'laws.FnExactBestRows', WHERE WHAT IT READS IS OF BULK AT MOST 1048576: true; the input reads as it did. -/
def fnExactBestRowsUptoRow : OpenClaim := { program := "ytoomkeicfdmdoaa", sum := "9e0d99ec9c72b7765aa8d42880ee16f1f20ac0e4e5774b2b0209247a04a17c3f", func := "loop.example/g01043/laws.FnExactBestRows", spec := "fnExactBestRows", unfollowed := true, recurses := true, apart := false, narrowed := true }
def FnExactBestRowsUptoSaid : Prop := fnExactBestRowsUptoRow.holds Try.pinned (OpenSpec.upto fnExactBestRowsSpec)

/-- 'laws.FnNested', WHERE WHAT IT READS IS OF BULK AT MOST 1048576: true; the input reads as it did. -/
def fnNestedUptoRow : OpenClaim := { program := "ytoomkeicfdmdoaa", sum := "9e0d99ec9c72b7765aa8d42880ee16f1f20ac0e4e5774b2b0209247a04a17c3f", func := "loop.example/g01043/laws.FnNested", spec := "fnNested", unfollowed := true, recurses := true, apart := false, narrowed := true }
def FnNestedUptoSaid : Prop := fnNestedUptoRow.holds Try.pinned (OpenSpec.upto fnNestedSpec)

end Rows
end Go.Proofs.Ytoomkeicfdmdoaa
