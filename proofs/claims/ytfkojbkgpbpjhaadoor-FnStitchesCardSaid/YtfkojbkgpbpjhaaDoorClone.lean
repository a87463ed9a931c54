/-
  Copies of slices: contracts. No condition of its own.
-/
import Derived.Test.YtfkojbkgpbpjhaaDoorApp
import Derived.Lib.SliceRun
import Derived.WalkKit
namespace Go.Proofs.YtfkojbkgpbpjhaaDoor
open Go.ChangeShapes Go.WideShapes Go.ChangeAt Go.RowKit Go.Deep

/-- A new slice of the call's own that holds the cells cs. -/
def OwnRow (w : World) (E k n : Nat) (cs : List Value) (e : Ending) (w' : World) : Prop :=
  ∃ a cap, e = .returned (.slice a n cap) ∧ w'.ownsRow w.heap.size E k (.slice a n cap) n cs ∧ Below w.heap.size w w'

end Go.Proofs.YtfkojbkgpbpjhaaDoor
