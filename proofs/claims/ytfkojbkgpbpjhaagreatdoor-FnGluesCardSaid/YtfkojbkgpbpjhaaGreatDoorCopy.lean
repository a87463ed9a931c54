/-
  The laws' own helpers on slices of integers (to, eq, mark, held): contracts. No condition of its own.
-/
import Derived.Test.YtfkojbkgpbpjhaaGreatDoorProg
import Derived.Test.YtfkojbkgpbpjhaaGreatDoorBase
import Derived.Deep.OwnRows
import Derived.BigQuiet
import Derived.Deep.QuietTactic
import Derived.Outline
import Derived.KernelRfl
namespace Go.Proofs.YtfkojbkgpbpjhaaGreatDoor
open Go.ChangeShapes Go.WideShapes Go.ChangeAt Go.RowKit Go.Deep

theorem infoI : (Tryz.prog.info? 2).map (fun i => (i.zero, i.size, i.bytes)) = some (some (.int .i64 0), 1, 8) := by kernel_rfl

/-- A new slice of n elements that holds the cells cs. -/
def NewRow (w : World) (E k n : Nat) (cs : List Value) (e : Ending) (w' : World) : Prop :=
  ∃ g, e = .returned (.slice (some ⟨g, 0, none⟩) n n) ∧ w'.ownsRow w.heap.size E k (.slice (some ⟨g, 0, none⟩) n n) n cs ∧ Below w.heap.size w w'

theorem set_fill (cs zr : List Value) (m : Nat) (u : Value) (hm : m < cs.length) (hz : zr.length = cs.length) (hu : cs[m]? = some u) :
    (cs.take m ++ zr.drop m).set m u = cs.take (m + 1) ++ zr.drop (m + 1) := by
  rw [List.set_append_right _ _ (by simp; omega)]
  have e1 : m - (cs.take m).length = 0 := by simp; omega
  rw [e1, List.drop_eq_getElem_cons (by omega), List.set_cons_zero, List.take_add_one, hu]
  simp

def zeros (n : Nat) : List Value := List.replicate n (.int .i64 0)
theorem length_zeros (n : Nat) : (zeros n).length = n := by simp [zeros]

theorem newRow_intro {w w' : World} {E k n g : Nat} {cs : List Value} (h : w'.ownsRow w.heap.size E k (.slice (some ⟨g, 0, none⟩) n n) n cs) (hb : Below w.heap.size w w') :
    NewRow w E k n cs (.returned (.slice (some ⟨g, 0, none⟩) n n)) w' := ⟨g, rfl, h, hb⟩


/-! ### marks: k, k + 1, .. -/
def marks (k : Int) (n : Nat) : List Value := (List.range n).map fun i => .int .i64 (k + (i : Nat))
theorem length_marks (k : Int) (n : Nat) : (marks k n).length = n := by simp [marks]
theorem marks_at (k : Int) (n i : Nat) (h : i < n) : (marks k n)[i]? = some (.int .i64 (k + (i : Nat))) := by simp [marks, h]
theorem marks_set (k : Int) (cs : List Value) (m : Nat) (hm : m < cs.length) : (marks k m ++ cs.drop m).set m (.int .i64 (k + (m : Nat))) = marks k (m + 1) ++ cs.drop (m + 1) := by
  rw [List.set_append_right _ _ (by simp [length_marks])]
  rw [length_marks, Nat.sub_self, List.drop_eq_getElem_cons hm, List.set_cons_zero]
  simp [marks, List.range_succ]

theorem marks_set' (k : Int) (cs : List Value) (m : Nat) (z : Int) (hm : m < cs.length) (hz : z = k + (m : Nat)) : (marks k m ++ cs.drop m).set m (.int .i64 z) = marks k (m + 1) ++ cs.drop (m + 1) := by
  rw [hz]; exact marks_set k cs m hm

/-- What a marking leaves: the next number; the row holds the numbers; only its block has turned. -/
def Marked (w : World) (B E k : Nat) (v : Value) (n cnt : Nat) (k0 : Int) (e : Ending) (w' : World) : Prop :=
  e = .returned (.int .i64 (k0 + cnt)) ∧ w'.ownsRow B E k v n (marks k0 cnt) ∧ w.grownBy w' v.ownBlock

/-- The two forms of an owned row's value. -/
theorem own_form {w : World} {B E k n c : Nat} {a : Option Addr} {cs : List Value} (h : w.ownsRow B E k (.slice a n c) n cs) : n = 0 ∨ ∃ g, a = some ⟨g, 0, none⟩ := by
  rcases h.2 with ⟨_, h0⟩ | ⟨g, cap, cur, hv, _⟩
  · exact .inl h0
  · simp only [Value.slice.injEq] at hv
    exact .inr ⟨g, hv.1⟩

theorem cells_zero {w : World} {B E k n : Nat} {v : Value} {cs : List Value} (h : w.ownsRow B E k v n cs) (hn : n = 0) : cs = [] := by
  have := h.1
  rw [hn] at this
  simpa using this


end Go.Proofs.YtfkojbkgpbpjhaaGreatDoor
