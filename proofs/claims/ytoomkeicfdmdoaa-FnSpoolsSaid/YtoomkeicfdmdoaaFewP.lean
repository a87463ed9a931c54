/-
  The search for the fewest spools, in plain Lean. No condition of its own.
-/
import Derived.Test.YtoomkeicfdmdoaaCut
namespace Go.Proofs.Ytoomkeicfdmdoaa

/-- One place of the search: the need y is cut from the spool k. -/
def fewTo : List Int → List Int → List Int → List Int → Int → List Int × Int → List Int × Int
  | [], _, _, pre, used, st => if 0 ≤ st.2 ∧ st.2 ≤ used then st else (pre, used)
  | y :: ys, left, uses, pre, used, st => if 0 ≤ st.2 ∧ st.2 ≤ used then st else
      (List.range left.length).foldl (fun s k => if left.getD k 0 < y then s else fewTo ys (left.set k (left.getD k 0 - y)) (uses.set k (uses.getD k 0 + 1)) (pre ++ [(k : Int)]) (if uses.getD k 0 = 0 then used + 1 else used) s) st
/-- The search at one need, behind the first k spools. -/
def fewAt (y : Int) (ys left uses pre : List Int) (used : Int) (st : List Int × Int) (k : Nat) : List Int × Int :=
  (List.range k).foldl (fun s k => if left.getD k 0 < y then s else fewTo ys (left.set k (left.getD k 0 - y)) (uses.set k (uses.getD k 0 + 1)) (pre ++ [(k : Int)]) (if uses.getD k 0 = 0 then used + 1 else used) s) st
theorem fewTo_cut {ys left uses pre : List Int} {used : Int} {st : List Int × Int} (h0 : 0 ≤ st.2) (h1 : st.2 ≤ used) : fewTo ys left uses pre used st = st := by
  cases ys <;> simp [fewTo, h0, h1]
theorem fewTo_end {left uses pre : List Int} {used : Int} {st : List Int × Int} (h : ¬ (0 ≤ st.2 ∧ st.2 ≤ used)) : fewTo [] left uses pre used st = (pre, used) := by
  simp only [fewTo, if_neg h]
theorem fewTo_more {y : Int} {ys left uses pre : List Int} {used : Int} {st : List Int × Int} (h : ¬ (0 ≤ st.2 ∧ st.2 ≤ used)) : fewTo (y :: ys) left uses pre used st = fewAt y ys left uses pre used st left.length := by
  simp only [fewTo, if_neg h, fewAt]
theorem fewAt_zero (y : Int) (ys left uses pre : List Int) (used : Int) (st : List Int × Int) : fewAt y ys left uses pre used st 0 = st := rfl
theorem fewAt_skip {y : Int} {ys left uses pre : List Int} {used u : Int} {st : List Int × Int} {k : Nat} (hu : left.getD k 0 = u) (h : u < y) : fewAt y ys left uses pre used st (k + 1) = fewAt y ys left uses pre used st k := by
  subst hu
  simp only [fewAt, List.range_succ, List.foldl_append, List.foldl_cons, List.foldl_nil, if_pos h]
theorem fewAt_new {y : Int} {ys left uses pre : List Int} {used u : Int} {st : List Int × Int} {k : Nat} (hu : left.getD k 0 = u) (h : ¬ u < y) (hq : uses.getD k 0 = 0) : fewAt y ys left uses pre used st (k + 1) = fewTo ys (left.set k (u - y)) (uses.set k (0 + 1)) (pre ++ [(k : Int)]) (used + 1) (fewAt y ys left uses pre used st k) := by
  subst hu
  simp only [fewAt, List.range_succ, List.foldl_append, List.foldl_cons, List.foldl_nil, if_neg h, hq, if_true]
theorem fewAt_old {y : Int} {ys left uses pre : List Int} {used u q : Int} {st : List Int × Int} {k : Nat} (hu : left.getD k 0 = u) (h : ¬ u < y) (hq : uses.getD k 0 = q) (h0 : q ≠ 0) : fewAt y ys left uses pre used st (k + 1) = fewTo ys (left.set k (u - y)) (uses.set k (q + 1)) (pre ++ [(k : Int)]) used (fewAt y ys left uses pre used st k) := by
  subst hu
  subst hq
  simp only [fewAt, List.range_succ, List.foldl_append, List.foldl_cons, List.foldl_nil, if_neg h, if_neg h0]
/-- What the search finds: the fewest are between -1 and the number of needs. -/
theorem fewTo_bd (ys : List Int) : ∀ (left uses pre : List Int) (used : Int) (st : List Int × Int) (m : Nat), 0 ≤ used → used + ys.length ≤ m → -1 ≤ st.2 → st.2 ≤ m → -1 ≤ (fewTo ys left uses pre used st).2 ∧ (fewTo ys left uses pre used st).2 ≤ m := by
  induction ys with
  | nil =>
    intro left uses pre used st m h0 h1 h2 h3
    simp only [fewTo]
    split
    · exact ⟨h2, h3⟩
    · simp at h1 ⊢; omega
  | cons y ys ih =>
    intro left uses pre used st m h0 h1 h2 h3
    simp only [fewTo]
    split
    · exact ⟨h2, h3⟩
    · rename_i hcc
      clear hcc
      generalize List.range left.length = ks
      induction ks generalizing st with
      | nil => exact ⟨h2, h3⟩
      | cons k ks ihk =>
        simp only [List.foldl_cons]
        simp only [List.length_cons] at h1
        refine ihk _ ?_ ?_
        all_goals split
        · exact h2
        · exact (ih _ _ _ _ st m (by split <;> omega) (by split <;> (push_cast at h1; omega)) h2 h3).1
        · exact h3
        · exact (ih _ _ _ _ st m (by split <;> omega) (by split <;> (push_cast at h1; omega)) h2 h3).2
theorem fewAt_bd {y : Int} {ys left uses pre : List Int} {used : Int} {st : List Int × Int} {m : Nat} (h0 : 0 ≤ used) (h1 : used + ys.length + 1 ≤ m) (h2 : -1 ≤ st.2) (h3 : st.2 ≤ m) (k : Nat) : -1 ≤ (fewAt y ys left uses pre used st k).2 ∧ (fewAt y ys left uses pre used st k).2 ≤ m := by
  induction k with
  | zero => exact ⟨h2, h3⟩
  | succ k ih =>
    simp only [fewAt, List.range_succ, List.foldl_append, List.foldl_cons, List.foldl_nil] at ih ⊢
    split
    · exact ih
    · exact fewTo_bd ys _ _ _ _ _ m (by split <;> omega) (by split <;> omega) ih.1 ih.2
/-- The length of what the search finds. -/
theorem fewTo_len (ys : List Int) : ∀ (left uses pre : List Int) (used : Int) (st : List Int × Int), st.1.length ≤ pre.length + ys.length → (fewTo ys left uses pre used st).1.length ≤ pre.length + ys.length := by
  induction ys with
  | nil =>
    intro left uses pre used st h
    simp only [fewTo]
    split
    · exact h
    · simp
  | cons y ys ih =>
    intro left uses pre used st h
    simp only [fewTo]
    split
    · exact h
    · rename_i hcc
      clear hcc
      generalize List.range left.length = ks
      induction ks generalizing st with
      | nil => exact h
      | cons k ks ihk =>
        simp only [List.foldl_cons]
        refine ihk _ ?_
        split
        · exact h
        · have := ih (left.set k (left.getD k 0 - y)) (uses.set k (uses.getD k 0 + 1)) (pre ++ [(k : Int)]) (if uses.getD k 0 = 0 then used + 1 else used) st (by simp at h ⊢; omega)
          simp at this ⊢; omega
end Go.Proofs.Ytoomkeicfdmdoaa
