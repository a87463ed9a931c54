/-
  Cells that a law keeps while it calls. No condition of its own.
-/
import Derived.Test.YtgdndmpnnocgiaaSrc
namespace Go.Proofs.Ytgdndmpnnocgiaa
open Go.ChangeShapes Go.WideShapes Go.ChangeAt Go.RowKit Go.Deep

/-- Some rows of cells, each at its address. -/
def KA (W : World) : List (Option Addr × List Value) → Prop
  | [] => True
  | x :: L => CellsAt W x.1 x.2 ∧ KA W L
theorem KA.nil (W : World) : KA W [] := trivial
theorem KA.h {W : World} {a : Option Addr} {c : List Value} {L : List (Option Addr × List Value)} (h : KA W ((a, c) :: L)) : CellsAt W a c := And.left h
theorem KA.t {W : World} {x : Option Addr × List Value} {L : List (Option Addr × List Value)} (h : KA W (x :: L)) : KA W L := And.right h
theorem KA.add {W : World} {a : Option Addr} {c : List Value} {L : List (Option Addr × List Value)} (h : KA W L) (hc : CellsAt W a c) : KA W ((a, c) :: L) := ⟨hc, h⟩
theorem KA.below {W W' : World} : ∀ {L : List (Option Addr × List Value)}, KA W L → Below W.heap.size W W' → KA W' L
  | [], _, _ => trivial
  | _ :: _, h, hb => ⟨h.1.below hb, KA.below h.2 hb⟩
/-- The bytes of a law's argument. -/
theorem code_at {w : World} {a : Option Addr} {n : Nat} {zs : List Int} (l : zs.length = n) (h : CellsAt w a (zs.map (Value.int .u8))) (hw : ∀ z ∈ zs, (Lit.int .u8 z).wf = true) (hn : n ≤ 1048576) : CodeAt w a n :=
  ⟨zs, h, l, fun z hz => by
    have h := hw z hz
    have e1 : IntKind.u8.min = 0 := by rfl
    have e2 : IntKind.u8.max = 255 := by rfl
    simp [Lit.wf, e1, e2] at h; omega, hn⟩
end Go.Proofs.Ytgdndmpnnocgiaa
