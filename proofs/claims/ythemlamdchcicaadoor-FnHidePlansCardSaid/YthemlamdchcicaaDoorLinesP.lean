/-
  The lines of a plan, in plain words. No program.
-/
import Derived.Test.YthemlamdchcicaaDoorMirror
namespace Go.Proofs.YthemlamdchcicaaDoor

theorem join_nil (xs : List (List UInt8)) : Lib.join xs [] = xs.flatten := by
  induction xs with
  | nil => rfl
  | cons x xs ih =>
    cases xs with
    | nil => simp [Lib.join]
    | cons y ys =>
      simp only [Lib.join, List.intercalate, List.intersperse, List.flatten_cons, List.nil_append] at ih ⊢
      rw [ih]
def flatB (rows : List ByteArray) : List UInt8 := (rows.map (·.data.toList)).flatten
theorem flat_at {m : Nat} : ∀ (rows : List ByteArray), (∀ r ∈ rows, r.size = m) → (flatB rows).length = rows.length * m ∧ ∀ y x, y < rows.length → x < m → (flatB rows).getD (y * m + x) 0 = (rows.getD y ⟨#[]⟩).data.toList.getD x 0
  | [], _ => ⟨by simp [flatB], fun y x h => absurd h (Nat.not_lt_zero _)⟩
  | r :: rows, h => by
    obtain ⟨h1, h2⟩ := flat_at rows (fun r hr => h r (List.mem_cons_of_mem _ hr))
    have hs : r.data.toList.length = m := by rw [Array.length_toList]; exact h r (List.mem_cons_self ..)
    have e : flatB (r :: rows) = r.data.toList ++ flatB rows := by simp [flatB]
    rw [e]
    refine ⟨by rw [List.length_append, h1, hs, List.length_cons, Nat.succ_mul]; omega, fun y x hy hx => ?_⟩
    cases y with
    | zero =>
      simp only [Nat.zero_mul, Nat.zero_add, List.getD]
      rw [List.getElem?_append_left (by omega)]
      rfl
    | succ y =>
      have e2 : (y + 1) * m + x = m + (y * m + x) := by rw [Nat.succ_mul]; omega
      have h3 := h2 y x (by simpa using hy) hx
      simp only [List.getD] at h3 ⊢
      rw [e2, List.getElem?_append_right (by omega), hs, Nat.add_sub_cancel_left, h3]
      rfl
def paintL (l : List UInt8) (m : Nat) (c : Cut) (f i k : Nat) : List UInt8 := (List.range l.length).map fun j => if j < k ∧ inR m c f j = true then UInt8.ofNat (48 + i) else l.getD j 0
theorem paint_len (l : List UInt8) (m : Nat) (c : Cut) (f i k : Nat) : (paintL l m c f i k).length = l.length := by simp [paintL]
theorem paint_at {l : List UInt8} {m : Nat} {c : Cut} {f i k j : Nat} (hj : j < l.length) : (paintL l m c f i k).getD j 0 = if j < k ∧ inR m c f j = true then UInt8.ofNat (48 + i) else l.getD j 0 := by
  simp [paintL, List.getD, hj]
theorem paint_zero (l : List UInt8) (m : Nat) (c : Cut) (f i : Nat) : paintL l m c f i 0 = l := by
  apply List.ext_getElem
  · rw [paint_len]
  · intro j h1 h2
    simp [paintL, List.getD, List.getElem?_eq_getElem h2]
theorem paint_no {l : List UInt8} {m : Nat} {c : Cut} {f i k : Nat} (h : inR m c f k = false) : paintL l m c f i (k + 1) = paintL l m c f i k := by
  unfold paintL
  apply List.map_congr_left
  intro j _
  by_cases e : j = k
  · subst e; simp [h]
  · have e2 : j < k + 1 ↔ j < k := by omega
    simp only [e2]
theorem paint_yes {l : List UInt8} {m : Nat} {c : Cut} {f i k : Nat} (h : inR m c f k = true) : (paintL l m c f i k).set k (UInt8.ofNat (48 + i)) = paintL l m c f i (k + 1) := by
  apply List.ext_getElem
  · rw [List.length_set, paint_len, paint_len]
  · intro j h1 h2
    rw [List.getElem_set]
    simp only [paintL, List.getElem_map, List.getElem_range]
    by_cases e : k = j
    · subst e
      rw [if_pos rfl, if_pos ⟨by omega, h⟩]
    · rw [if_neg e]
      have e2 : j < k + 1 ↔ j < k := by omega
      simp only [e2]
def paintP (l : List UInt8) (m : Nat) (zs ps : List Int) : Nat → List UInt8
  | 0 => l
  | i + 1 => if ps.getD i 0 < 0 then paintP l m zs ps i else paintL (paintP l m zs ps i) m (cutAt zs i) (ps.getD i 0).toNat i (paintP l m zs ps i).length
theorem paintP_len (l : List UInt8) (m : Nat) (zs ps : List Int) (i : Nat) : (paintP l m zs ps i).length = l.length := by
  induction i with
  | zero => rfl
  | succ i ih =>
    unfold paintP
    split
    · exact ih
    · rw [paint_len]; exact ih
theorem cover_succ (m : Nat) (zs ps : List Int) (i j : Nat) : coverB m (doneL zs ps (i + 1)) j = (coverB m (doneL zs ps i) j || (decide (0 ≤ ps.getD i 0) && inR m (cutAt zs i) (ps.getD i 0).toNat j)) := by
  rw [doneL_succ]
  simp [coverB, List.any_append]
theorem paintP_at {l : List UInt8} {m : Nat} {zs ps : List Int} {j : Nat} (hj : j < l.length) : ∀ i, i ≤ 4 → (coverB m (doneL zs ps i) j = false → (paintP l m zs ps i).getD j 0 = l.getD j 0) ∧ (coverB m (doneL zs ps i) j = true → 48 ≤ ((paintP l m zs ps i).getD j 0).toNat ∧ ((paintP l m zs ps i).getD j 0).toNat ≤ 51) := by
  intro i
  induction i with
  | zero =>
    intro _
    refine ⟨fun _ => rfl, fun h => ?_⟩
    simp [coverB, doneL] at h
  | succ i ih =>
    intro h4
    obtain ⟨h1, h2⟩ := ih (by omega)
    rw [cover_succ]
    unfold paintP
    by_cases h0 : ps.getD i 0 < 0
    · rw [if_pos h0, show decide (0 ≤ ps.getD i 0) = false by simpa using h0, Bool.false_and, Bool.or_false]
      exact ⟨h1, h2⟩
    · rw [if_neg h0, show decide (0 ≤ ps.getD i 0) = true by simpa using h0, Bool.true_and]
      have hl := paintP_len l m zs ps i
      rw [paint_at (by rw [hl]; exact hj)]
      cases hr : inR m (cutAt zs i) (ps.getD i 0).toNat j with
      | true =>
        rw [if_pos ⟨by rw [hl]; exact hj, rfl⟩, Bool.or_true]
        refine ⟨fun h => (by cases h), fun _ => ?_⟩
        rw [UInt8.toNat_ofNat', Nat.mod_eq_of_lt (by omega)]
        omega
      | false =>
        rw [if_neg (fun h => by cases h.2), Bool.or_false]
        exact ⟨h1, h2⟩
/-- The rows of some bytes. -/
def rowsOf (l : List UInt8) (m n : Nat) : List ByteArray := (List.range n).map fun y => ⟨((l.drop (y * m)).take m).toArray⟩
theorem rowsOf_len (l : List UInt8) (m n : Nat) : (rowsOf l m n).length = n := by simp [rowsOf]
theorem rowsOf_succ (l : List UInt8) (m n : Nat) : rowsOf l m (n + 1) = rowsOf l m n ++ [⟨((l.drop (n * m)).take m).toArray⟩] := by simp [rowsOf, List.range_succ]
theorem rowsOf_at {l : List UInt8} {m n y : Nat} (hl : l.length = n * m) (hy : y < n) : ∃ r, (rowsOf l m n)[y]? = some r ∧ r.size = m ∧ ∀ x, x < m → r.data.toList.getD x 0 = l.getD (y * m + x) 0 := by
  have h1 : y * m + m ≤ n * m := by rw [← Nat.succ_mul]; exact Nat.mul_le_mul_right _ hy
  refine ⟨⟨((l.drop (y * m)).take m).toArray⟩, by simp [rowsOf, hy], ?_, fun x hx => ?_⟩
  · show ((l.drop (y * m)).take m).toArray.size = m
    rw [List.size_toArray, List.length_take, List.length_drop]
    omega
  · simp [List.getD, hx]
end Go.Proofs.YthemlamdchcicaaDoor
