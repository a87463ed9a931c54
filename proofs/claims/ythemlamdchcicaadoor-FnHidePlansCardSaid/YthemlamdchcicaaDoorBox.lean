/-
  A struct in a block of its own. No condition of its own.
-/
import Derived.Test.YthemlamdchcicaaDoorApp2
namespace Go.Proofs.YthemlamdchcicaaDoor
open Go.ChangeShapes Go.WideShapes Go.ChangeAt Go.RowKit Go.Deep

/-- The block q holds the k cells vs; it is not older than B. -/
def Obx (W : World) (B q E k : Nat) (vs : List Value) : Prop := W.ownsRow B E k (.slice (some ⟨q, 0, none⟩) 1 1) 1 vs
theorem Obx.new (W : World) (B E k : Nat) (cs : Array Value) (hB : B ≤ W.heap.size) (hk : cs.size = k) : Obx (W.alloc (.cells cs E)) B W.heap.size E k cs.toList :=
  own_base (World.ownsRow_lit (base := W.heap.size) (size := k) (e := E) W cs 1 (Nat.le_refl _) (by unfold maxLen; omega) (by simp [hk])) hB
theorem Obx.cell {W : World} {B q E k : Nat} {vs : List Value} (h : Obx W B q E k vs) (j : Nat) (hj : j < k) : W.cell? ⟨q, j, none⟩ = vs[j]? := by
  unfold Obx at h
  exact h.cellAt j (by omega)
theorem Obx.fr {W : World} {B q E k : Nat} {vs : List Value} (h : Obx W B q E k vs) (j : Nat) : W.frozen? ⟨q, j, none⟩ = false := by
  unfold Obx at h
  exact h.frozenAt j
theorem Obx.lt {W : World} {B q E k : Nat} {vs : List Value} (h : Obx W B q E k vs) : B ≤ q ∧ q < W.heap.size := own_block h rfl
theorem Obx.set {W : World} {B q E k : Nat} {vs : List Value} (h : Obx W B q E k vs) (j : Nat) (u : Value) : Obx (W.setCell ⟨q, j, none⟩ u) B q E k (vs.set j u) := by
  unfold Obx at h ⊢
  exact (h.stored j u).1
theorem setCell_grown (W : World) (q j : Nat) (u : Value) : W.grownBy (W.setCell ⟨q, j, none⟩ u) (some q) :=
  ⟨rfl, rfl, rfl, by simp [World.setCell], fun i _ hne => by
    simp only [World.setCell, Array.getElem?_modify]
    rw [if_neg (by intro e; exact hne (by rw [← e]))]⟩
theorem Obx.grown {W W' : World} {B q E k : Nat} {vs : List Value} {row : Option Nat} (h : Obx W B q E k vs) (hg : W.grownBy W' row) (hr : row = some q → False) : Obx W' B q E k vs :=
  own_grown_ne h hg (fun b hb e => hr (by have h1 : q = b := (by simpa [Value.ownBlock] using hb); rw [e, h1]))
theorem Obx.setOther {W : World} {B q E k q' : Nat} {vs : List Value} (h : Obx W B q E k vs) (j : Nat) (u : Value) (hq : q' ≠ q) : Obx (W.setCell ⟨q', j, none⟩ u) B q E k vs :=
  h.grown (setCell_grown W q' j u) (fun e => hq (by simpa using e))
theorem Obx.below {W W' : World} {B q E k : Nat} {vs : List Value} (h : Obx W B q E k vs) (hb : Below W.heap.size W W') : Obx W' B q E k vs := own_below h hb
theorem Obx.alloc {W : World} {B q E k : Nat} {vs : List Value} (h : Obx W B q E k vs) (o : Obj) : Obx (W.alloc o) B q E k vs := h.below ((Below.refl _ _).alloc (Nat.le_refl _) o)
theorem Obx.base {W : World} {B B' q E k : Nat} {vs : List Value} (h : Obx W B q E k vs) (hB : B' ≤ B) : Obx W B' q E k vs := own_base h hB
theorem grown_from_drew {W W' : World} {row : Option Nat} (h : W.drew.grownBy W' row) : W.grownBy W' row := ⟨h.os, h.tape, h.output, h.size, h.block⟩
/-- What a world keeps where one old block alone may turn. -/
theorem gcell {W w1 : World} {p : Nat} (hg : W.grownBy w1 (some p)) : (∀ b o, b < W.heap.size → ¬ b = p → w1.cell? ⟨b, o, none⟩ = W.cell? ⟨b, o, none⟩) ∧ (∀ b o, b < W.heap.size → ¬ b = p → w1.frozen? ⟨b, o, none⟩ = W.frozen? ⟨b, o, none⟩) ∧ (∀ n, n < W.heap.size → n < w1.heap.size) :=
  ⟨fun b o h1 h2 => hg.cell_far ⟨b, o, none⟩ h1 (fun e => h2 (by simpa using e)), fun b o h1 h2 => hg.frozen_far ⟨b, o, none⟩ h1 (fun e => h2 (by simpa using e)), fun n h => Nat.lt_of_lt_of_le h hg.size⟩
end Go.Proofs.YthemlamdchcicaaDoor
