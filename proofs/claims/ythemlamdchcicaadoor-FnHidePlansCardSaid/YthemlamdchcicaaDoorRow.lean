/-
  Rows that a law holds while it calls: facts that last over calls and over markings. No condition of its own.
-/
import Derived.Test.YthemlamdchcicaaDoorCopy
namespace Go.Proofs.YthemlamdchcicaaDoor
open Go.ChangeShapes Go.WideShapes Go.ChangeAt Go.RowKit Go.Deep

/-- A row whose block, if it has one, was made between two sizes of the heap. -/
def Row (w : World) (lo hi E k : Nat) (v : Value) (n : Nat) (cs : List Value) : Prop :=
  w.ownsRow lo E k v n cs ∧ ∀ b, v.ownBlock = some b → lo ≤ b ∧ b < hi

theorem own_block {w : World} {B E k n b : Nat} {v : Value} {cs : List Value} (h : w.ownsRow B E k v n cs) (hv : v.ownBlock = some b) : B ≤ b ∧ b < w.heap.size := h.lt b hv

theorem Row.mk_ {w : World} {lo E k n : Nat} {v : Value} {cs : List Value} (h : w.ownsRow lo E k v n cs) : Row w lo w.heap.size E k v n cs := ⟨h, fun _ hb => own_block h hb⟩
theorem Row.below {w w' : World} {lo hi E k n : Nat} {v : Value} {cs : List Value} (h : Row w lo hi E k v n cs) (hb : Below w.heap.size w w') : Row w' lo hi E k v n cs := ⟨own_below h.1 hb, h.2⟩
theorem Row.turn {w w' : World} {lo hi E k n : Nat} {v : Value} {cs cs' : List Value} (h : Row w lo hi E k v n cs) (ho : w'.ownsRow lo E k v n cs') : Row w' lo hi E k v n cs' := ⟨ho, h.2⟩
theorem Row.cells {w : World} {lo hi E k n m cap : Nat} {a : Option Addr} {cs : List Value} (h : Row w lo hi E k (.slice a m cap) n cs) : CellsAt w a cs := CellsAt.of_own h.1
theorem Row.grown {w w' : World} {lo hi E k n : Nat} {v : Value} {cs : List Value} {row : Option Nat} (h : Row w lo hi E k v n cs) (hg : w.grownBy w' row) (hr : ∀ b, row = some b → b < lo ∨ hi ≤ b) : Row w' lo hi E k v n cs := by
  refine ⟨⟨h.1.1, ?_⟩, h.2⟩
  rcases h.1.2 with h0 | ⟨g, cap, cur, hv, hB, hgt, r⟩
  · exact .inl h0
  · refine .inr ⟨g, cap, cur, hv, hB, (hg.block g (Array.getElem?_eq_some_iff.1 hgt).1 ?_).trans hgt, r⟩
    intro e
    subst hv
    have h2 := h.2 g rfl
    have h3 := hr g e.symm
    omega

theorem marked_as {P : Program} {f : FuncId} {args : Array Value} {w : World} {B E k n cnt : Nat} {v : Value} {k0 k1 : Int} (h : Calls P f args w (Marked w B E k v n cnt k0)) (hk : k1 = k0 + ((cnt : Nat) : Int)) :
    Calls P f args w fun e w' => e = .returned (.int .i64 k1) ∧ w'.ownsRow B E k v n (marks k0 cnt) ∧ w.grownBy w' v.ownBlock := by
  rw [hk]; exact h
theorem held_as {P : Program} {f : FuncId} {args : Array Value} {w : World} {cnt : Nat} {k0 k1 : Int} (h : Calls P f args w fun e w' => e = .returned (.int .i64 (k0 + ((cnt : Nat) : Int))) ∧ Below w.heap.size w w') (hk : k1 = k0 + ((cnt : Nat) : Int)) :
    Calls P f args w fun e w' => e = .returned (.int .i64 k1) ∧ Below w.heap.size w w' := by
  rw [hk]; exact h

/-- What a function answers with a new slice of ints and a code. -/
def RowEnd (w : World) (E k : Nat) (ds : List Int) (c : Int) (e : Ending) (w' : World) : Prop :=
  ∃ a n cap, e = .returned (.tuple #[.slice a n cap, .int .i64 c]) ∧ ds.length = n * k ∧ n ≤ 1073741824 ∧ w'.ownsRow w.heap.size E k (.slice a n cap) n (ds.map (Value.int .i64)) ∧ Below w.heap.size w w'
end Go.Proofs.YthemlamdchcicaaDoor
