/-
  Rows of rows that a call owns: appends, what they keep. No condition of its own.
-/
import Derived.Test.YthemlamdchcicaaDoorHideW
import Derived.Deep.RegionHeld3
namespace Go.Proofs.YthemlamdchcicaaDoor
open Go.ChangeShapes Go.WideShapes Go.ChangeAt Go.RowKit Go.Deep Go.Shelf

/-- A slice of slices: v its value, k the number of its rows, L the rows, U the blocks that it takes up. -/
def LL (W : World) (B E1 E2 : Nat) (v : Value) (k : Nat) (L : Nat → List Value) (PA : Nat → Option Addr) (PC : Nat → Nat) (U : Nat → Prop) : Prop :=
  W.ownsRow B E1 1 v k ((List.range k).map fun j => .slice (PA j) (L j).length (PC j)) ∧ (∀ b, v.ownBlock = some b → U b) ∧ (∀ b, U b → b < W.heap.size) ∧
    ∀ j, j < k → W.ownsRow B E2 1 (.slice (PA j) (L j).length (PC j)) (L j).length (L j) ∧ ∀ b, (Value.slice (PA j) (L j).length (PC j)).ownBlock = some b → U b ∧ v.ownBlock ≠ some b
section
variable {W W' : World} {B E1 E2 k : Nat} {v : Value} {L : Nat → List Value} {PA : Nat → Option Addr} {PC : Nat → Nat} {U : Nat → Prop}
theorem LL.grown {g : Nat} (h : LL W B E1 E2 v k L PA PC U) (hg : W.grownBy W' (some g)) (hn : ¬ U g) : LL W' B E1 E2 v k L PA PC U :=
  ⟨own_no h.1 hg (fun e => hn (h.2.1 g e)), h.2.1, fun b hb => Nat.lt_of_lt_of_le (h.2.2.1 b hb) hg.size, fun j hj => ⟨own_no (h.2.2.2 j hj).1 hg (fun e => hn ((h.2.2.2 j hj).2 g e).1), (h.2.2.2 j hj).2⟩⟩
theorem LL.below (h : LL W B E1 E2 v k L PA PC U) (hb : Below W.heap.size W W') : LL W' B E1 E2 v k L PA PC U :=
  ⟨own_below h.1 hb, h.2.1, fun b hu => Nat.lt_of_lt_of_le (h.2.2.1 b hu) hb.size, fun j hj => ⟨own_below (h.2.2.2 j hj).1 hb, (h.2.2.2 j hj).2⟩⟩
theorem LL.alloc (h : LL W B E1 E2 v k L PA PC U) (o : Obj) : LL (W.alloc o) B E1 E2 v k L PA PC U := h.below ((Below.refl _ _).alloc (Nat.le_refl _) o)
theorem LL.drew (h : LL W B E1 E2 v k L PA PC U) : LL W.drew B E1 E2 v k L PA PC U := h
/-- One row more: the outer row has been appended to, over its block or a new one. -/
theorem LL.app {g cap : Nat} {ai : Option Addr} {ci : Nat} {xs : List Value} (h : LL W B E1 E2 v k L PA PC U) (hg : W.grownBy W' v.ownBlock) (hat : v.ownBlock = some g ∨ W.heap.size ≤ g)
    (ho : W'.ownsRow B E1 1 (.slice (some ⟨g, 0, none⟩) (k + 1) cap) (k + 1) (((List.range k).map fun j => .slice (PA j) (L j).length (PC j)) ++ [.slice ai xs.length ci])) (hL : L k = xs)
    (hi : W.ownsRow B E2 1 (.slice ai xs.length ci) xs.length xs) (hni : ∀ b, (Value.slice ai xs.length ci).ownBlock = some b → ¬ U b) :
    LL W' B E1 E2 (.slice (some ⟨g, 0, none⟩) (k + 1) cap) (k + 1) L (fun j => if j = k then ai else PA j) (fun j => if j = k then ci else PC j) (fun b => U b ∨ b = g ∨ (Value.slice ai xs.length ci).ownBlock = some b) := by
  have hgb : ∀ b, (Value.slice (some ⟨g, 0, none⟩) (k + 1) cap).ownBlock = some b → b = g := fun b e => by
    have : g = b := by simpa [Value.ownBlock] using e
    exact this.symm
  have hgl : g < W'.heap.size := (own_block (b := g) ho rfl).2
  have hsz := hg.size
  have hni2 : ∀ b, (Value.slice ai xs.length ci).ownBlock = some b → v.ownBlock ≠ some b := fun b e e2 => hni b e (h.2.1 b e2)
  refine ⟨?_, fun b e => .inr (.inl (hgb b e)), fun b hb => ?_, fun j hj => ?_⟩
  · have e : ((List.range (k + 1)).map fun j => Value.slice ((fun j => if j = k then ai else PA j) j) (L j).length ((fun j => if j = k then ci else PC j) j)) = ((List.range k).map fun j => .slice (PA j) (L j).length (PC j)) ++ [.slice ai xs.length ci] := by
      rw [List.range_succ, List.map_append]
      congr 1
      · apply List.map_congr_left
        intro j hj
        have := List.mem_range.1 hj
        have e : ¬ j = k := by omega
        simp [e]
      · simp [hL]
    rw [e]
    exact ho
  · rcases hb with hb | hb | hb
    · exact Nat.lt_of_lt_of_le (h.2.2.1 b hb) hsz
    · rw [hb]; exact hgl
    · exact Nat.lt_of_lt_of_le (own_block hi hb).2 hsz
  · by_cases e : j = k
    · subst e
      simp only [if_pos, hL]
      refine ⟨own_grown_ne hi hg (fun b hb e2 => hni2 b hb e2), fun b hb => ⟨.inr (.inr hb), fun e2 => ?_⟩⟩
      have e3 := hgb b e2
      subst e3
      rcases hat with h1 | h1
      · exact hni2 b hb h1
      · have := (own_block hi hb).2
        omega
    · have hj' : j < k := by omega
      obtain ⟨i1, i2⟩ := h.2.2.2 j hj'
      simp only [if_neg e]
      refine ⟨own_grown_ne i1 hg (fun b hb e2 => (i2 b hb).2 e2), fun b hb => ⟨.inl (i2 b hb).1, fun e2 => ?_⟩⟩
      have e3 := hgb b e2
      subst e3
      rcases hat with h1 | h1
      · exact (i2 b hb).2 h1
      · have := h.2.2.1 b (i2 b hb).1
        omega
theorem LL.none {E : Nat} (hB : B ≤ W.heap.size) : LL W B E1 E2 (.slice none 0 0) 0 L PA PC (fun _ => False) := by
  have _ := E
  have _ := hB
  exact ⟨⟨rfl, .inl ⟨rfl, rfl⟩⟩, fun b e => by simp [Value.ownBlock] at e, fun b h => h.elim, fun j hj => absurd hj (Nat.not_lt_zero _)⟩
theorem LL.form (h : LL W B E1 E2 v k L PA PC U) : ∃ a c, v = .slice a k c := own_cap h.1
end
end Go.Proofs.YthemlamdchcicaaDoor
