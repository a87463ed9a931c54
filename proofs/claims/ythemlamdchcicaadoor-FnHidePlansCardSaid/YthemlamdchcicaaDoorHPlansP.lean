/-
  Plain laws of plans: what is shown, what is good, what is used. No program.
-/
import Derived.Test.YthemlamdchcicaaDoorUsed
namespace Go.Proofs.YthemlamdchcicaaDoor

theorem count_getD (F : List UInt8) (p : UInt8 → Bool) : (List.range F.length).countP (fun j => p (F.getD j 0)) = F.countP p := by
  have e : F = (List.range F.length).map fun j => F.getD j 0 := by
    apply List.ext_getElem
    · simp
    · intro j h1 h2
      simp [List.getD, List.getElem?_eq_getElem h1]
  conv => rhs; rw [e]
  rw [List.countP_map]
  rfl
theorem good_row (r : ByteArray) : r.size - Lib.countByte r.data.toList 120 = r.data.toList.countP (fun b => b != 120) := by
  have h1 := List.length_eq_countP_add_countP (fun b : UInt8 => b == 120) (l := r.data.toList)
  have h2 : r.data.toList.length = r.size := by rw [Array.length_toList]; rfl
  have h3 : Lib.countByte r.data.toList 120 = r.data.toList.countP (fun b : UInt8 => b == 120) := rfl
  have h4 : r.data.toList.countP (fun b : UInt8 => decide ¬ (b == 120) = true) = r.data.toList.countP (fun b => b != 120) := by
    apply List.countP_congr
    intro b _
    simp
  omega
theorem good_flat (rows : List ByteArray) : goodR rows = (flatB rows).countP (fun b => b != 120) := by
  induction rows with
  | nil => rfl
  | cons r rows ih =>
    have e : flatB (r :: rows) = r.data.toList ++ flatB rows := by simp [flatB]
    rw [e, List.countP_append, ← ih, ← good_row]
    simp [goodR]
def goodTo (F : List UInt8) (k : Nat) : Nat := (List.range k).countP fun j => F.getD j 0 != 120
def shownTo (m : Nat) (ds : List (Cut × Int)) (k : Nat) : Nat := (List.range k).countP (coverB m ds)
theorem goodTo_succ (F : List UInt8) (k : Nat) : goodTo F (k + 1) = goodTo F k + (if F.getD k 0 = 120 then 0 else 1) := by
  unfold goodTo
  rw [List.range_succ, List.countP_append]
  by_cases h : F.getD k 0 = 120
  · rw [if_pos h]
    simp only [List.countP_cons, List.countP_nil, h]
    rfl
  · rw [if_neg h]
    have h2 : (F.getD k 0 != 120) = true := by simpa using h
    simp only [List.countP_cons, List.countP_nil, h2]
    rfl
theorem shownTo_succ (m : Nat) (ds : List (Cut × Int)) (k : Nat) : shownTo m ds (k + 1) = shownTo m ds k + (if coverB m ds k = true then 1 else 0) := by
  unfold shownTo
  rw [List.range_succ, List.countP_append]
  cases h : coverB m ds k <;> simp [h]
theorem goodTo_le (F : List UInt8) (k : Nat) : goodTo F k ≤ k := by
  have := List.countP_le_length (p := fun j => F.getD j 0 != 120) (l := List.range k)
  simpa [goodTo] using this
theorem shownTo_le (m : Nat) (ds : List (Cut × Int)) (k : Nat) : shownTo m ds k ≤ k := by
  have := List.countP_le_length (p := coverB m ds) (l := List.range k)
  simpa [shownTo] using this
theorem goodTo_end {rows : List ByteArray} {n m : Nat} (h : HideOk rows n m) : goodTo (flatB rows) (n * m) = goodR rows := by
  have hl := (flat_at rows h.size).1
  rw [h.len] at hl
  rw [good_flat, ← count_getD, hl]
  rfl
theorem shownTo_end {rows : List ByteArray} {n m nl : Nat} {zs ps : List Int} (h : HideOk rows n m) (hso : PlanSo rows n m zs ps nl) : shownTo m (doneL zs ps nl) (n * m) = usedD (doneL zs ps nl) := by
  have h1 := count_sound h.m1 (doneL zs ps nl) [] hso.2
  rw [List.nil_append] at h1
  unfold shownTo
  rw [h1]
  have h2 : (List.range (n * m)).countP (coverB m []) = 0 := by
    rw [List.countP_eq_zero]
    intro j _
    simp [coverB]
  omega
/-- A covered field is no hole. -/
theorem cover_good {rows : List ByteArray} {n m nl j : Nat} {zs ps : List Int} (h : HideOk rows n m) (hc : cutsB zs nl = true) (hso : PlanSo rows n m zs ps nl) (hj : j < n * m) (hk : coverB m (doneL zs ps nl) j = true) : (flatB rows).getD j 0 ≠ 120 := by
  have hm := h.m1
  have hy : j / m < n := Nat.div_lt_of_lt_mul (by rw [Nat.mul_comm]; exact hj)
  have hx : j % m < m := Nat.mod_lt _ (by omega)
  have hjj : j / m * m + j % m = j := by rw [Nat.mul_comm]; exact Nat.div_add_mod j m
  have h1 := (flat_at rows h.size).2 (j / m) (j % m) (by rw [h.len]; exact hy) hx
  rw [hjj] at h1
  simp only [coverB, doneL, List.any_map, List.any_eq_true, List.mem_range, Function.comp, Bool.and_eq_true, decide_eq_true_eq] at hk
  obtain ⟨k, hkn, h0, hin⟩ := hk
  have hyes := okB_yes (sound_at hso.2 k hkn) h0
  obtain ⟨_, hck, _, _⟩ := cutsB_at hc hkn
  simp only [inR, decide_eq_true_eq] at hin
  intro e
  have hq : fieldQ rows (j / m) (j % m) = 0 := by
    unfold fieldQ
    rw [← h1, e]
    rfl
  have hbad := fits_bad' (rows := rows) (n := n) (m := m) (f := (ps.getD k 0).toNat) (c := cutAt zs k) hin.1 hin.2.1 hin.2.2.1 hin.2.2.2 (by rw [hq]; have := hck.2.2.1.1; omega)
  rw [hyes.2.1] at hbad
  cases hbad
theorem shown_le_good {rows : List ByteArray} {n m nl : Nat} {zs ps : List Int} (h : HideOk rows n m) (hc : cutsB zs nl = true) (hso : PlanSo rows n m zs ps nl) : usedD (doneL zs ps nl) ≤ goodR rows := by
  rw [← shownTo_end h hso, ← goodTo_end h]
  unfold shownTo goodTo
  apply List.countP_mono_left
  intro j hj hk
  have h2 := cover_good h hc hso (List.mem_range.1 hj) hk
  simpa using h2
theorem good_le {rows : List ByteArray} {n m : Nat} (h : HideOk rows n m) : goodR rows ≤ 36 := by
  rw [← goodTo_end h]
  have h1 := goodTo_le (flatB rows) (n * m)
  have h2 : n * m ≤ 36 := Nat.mul_le_mul h.n6 h.m6
  omega
/-- The bytes of a hide are letters. -/
theorem flat_byte {rows : List ByteArray} {n m j : Nat} (h : HideOk rows n m) (hj : j < n * m) : 97 ≤ ((flatB rows).getD j 0).toNat := by
  have hm := h.m1
  have hy : j / m < n := Nat.div_lt_of_lt_mul (by rw [Nat.mul_comm]; exact hj)
  have hx : j % m < m := Nat.mod_lt _ (by omega)
  have hjj : j / m * m + j % m = j := by rw [Nat.mul_comm]; exact Nat.div_add_mod j m
  have h1 := (flat_at rows h.size).2 (j / m) (j % m) (by rw [h.len]; exact hy) hx
  rw [hjj] at h1
  rw [h1]
  obtain ⟨r, hr, hg, hs, hmem⟩ := hide_row h hy
  rw [hg, byte_at (by rw [hs]; exact hx)]
  have hq := h.good r hmem _ (byte_mem (r := r) (x := j % m) (by rw [hs]; exact hx))
  rcases qual_ways (r[j % m]'(by rw [hs]; exact hx)) with ⟨e, _⟩ | ⟨e, _⟩ | ⟨e, _⟩ | ⟨e, _⟩ | ⟨_, _, _, _, e⟩
  · omega
  · omega
  · omega
  · omega
  · rw [e] at hq
    omega
theorem share_law {U G : Nat} (hG : 1 ≤ G) (hG36 : G ≤ 36) (hU : U ≤ G) : ∃ X Y P : Nat, (U : Int) / Int.gcd U G = (X : Int) ∧ (G : Int) / Int.gcd U G = (Y : Int) ∧ 1 ≤ Y ∧ Y ≤ 36 ∧ X ≤ 36 ∧ (X : Int) * (G : Int) = (P : Int) ∧ (U : Int) * (Y : Int) = (P : Int) ∧ P ≤ 1296 := by
  have e : Int.gcd (U : Int) (G : Int) = Nat.gcd U G := by simp
  have hg : 1 ≤ Nat.gcd U G := Nat.gcd_pos_of_pos_right _ hG
  obtain ⟨x, hx⟩ := Nat.gcd_dvd_left U G
  obtain ⟨y, hy⟩ := Nat.gcd_dvd_right U G
  rw [e]
  generalize Nat.gcd U G = d at hg hx hy
  have hX : U / d = x := by rw [hx]; exact Nat.mul_div_cancel_left _ hg
  have hY : G / d = y := by rw [hy]; exact Nat.mul_div_cancel_left _ hg
  have hyG : y ≤ G := by rw [hy]; exact Nat.le_mul_of_pos_left _ hg
  have hxU : x ≤ U := by rw [hx]; exact Nat.le_mul_of_pos_left _ hg
  have hy1 : 1 ≤ y := by
    rcases Nat.eq_zero_or_pos y with h | h
    · subst h; simp at hy; omega
    · exact h
  have hp : x * G = U * y := by
    rw [hy, hx]
    rw [Nat.mul_comm d x, Nat.mul_assoc]
  refine ⟨x, y, x * G, by rw [← hX]; simp, by rw [← hY]; simp, hy1, by omega, by omega, by simp, ?_, ?_⟩
  · rw [hp]; simp
  · exact Nat.mul_le_mul (show x ≤ 36 by omega) hG36
end Go.Proofs.YthemlamdchcicaaDoor
