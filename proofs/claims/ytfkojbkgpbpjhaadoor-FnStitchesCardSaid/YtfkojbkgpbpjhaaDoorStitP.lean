/-
  Stitches in plain Lean: counts have their sum and are fair, lengths times counts are sides. No condition of its own.
-/
import Derived.Test.YtfkojbkgpbpjhaaDoorCounts
import Derived.Test.YtfkojbkgpbpjhaaDoorEvenI
namespace Go.Proofs.YtfkojbkgpbpjhaaDoor
open Go.Deep

/-! ### Counts -/
def csum : List Int → Int
  | [] => 0
  | z :: zs => z + csum zs
theorem csum_set (W : List Int) (k : Nat) (x : Int) (h : k < W.length) : csum (W.set k x) = csum W + (x - W.getD k 0) := by
  induction W generalizing k with
  | nil => simp at h
  | cons a W ih =>
    cases k with
    | zero => simp [csum]; omega
    | succ k =>
      simp only [List.set_cons_succ, csum, ih k (by simpa using h), List.getD_cons_succ]
      omega
theorem csum_ones (n : Nat) : csum (List.replicate n 1) = n := by
  induction n with
  | zero => simp [csum]
  | succ n ih => simp only [List.replicate_succ, csum, ih]; omega
theorem cnts_sum (zs : List Int) {n : Nat} (hn : 1 ≤ n) (r : Nat) : csum (cntsI zs n r) = n + r := by
  induction r with
  | zero => simp only [cntsI, csum_ones]; omega
  | succ r ih =>
    simp only [cntsI]
    rw [csum_set _ _ _ (by rw [length_cntsI]; exact bestI_lt _ _ hn (Nat.le_refl _)), ih]
    omega
/-- The best side has the longest stitches. -/
theorem bestI_max {zs L : List Int} {n : Nat} (hL : ∀ j, j < n → 1 ≤ L.getD j 0) : ∀ i, i ≤ n → ∀ j, j < i → zs.getD j 0 * L.getD (bestI zs L i) 0 ≤ zs.getD (bestI zs L i) 0 * L.getD j 0 := by
  intro i
  induction i with
  | zero => intro _ j hj; omega
  | succ i ih =>
    intro hi j hj
    have hb : bestI zs L i < n := bestI_lt zs L (by omega) (by omega)
    simp only [bestI]
    generalize hbb : bestI zs L i = b at hb ih
    split
    · rename_i h
      by_cases e : j = i
      · subst e; exact Int.le_of_eq rfl
      · have h1 := ih (by omega) j (by omega)
        have p1 := hL j (by omega)
        have p2 := hL b hb
        have p3 := hL i (by omega)
        exact frac_trans (a := zs.getD j 0) (b := L.getD j 0) (c := zs.getD b 0) (d := L.getD b 0) (e := zs.getD i 0) (f := L.getD i 0) (by omega) (by omega) (by omega) h1 (by omega)
    · rename_i h
      by_cases e : j = i
      · subst e; omega
      · exact ih (by omega) j (by omega)
/-- Nobody has a stitch that another one had needed more. -/
theorem cnts_fair {zs : List Int} {n : Nat} (hz : ∀ j, j < n → 0 ≤ zs.getD j 0) (r : Nat) : ∀ i k, i < n → k < n → 1 < (cntsI zs n r).getD k 0 → zs.getD i 0 * ((cntsI zs n r).getD k 0 - 1) ≤ zs.getD k 0 * (cntsI zs n r).getD i 0 := by
  induction r with
  | zero =>
    intro i k hi hk h
    simp [cntsI, hk] at h
  | succ r ih =>
    intro i k hi hk h
    have hL := fun j (hj : j < n) => (cntsI_bd zs n r j hj).1
    have hlen := length_cntsI zs n r
    have hmax := bestI_max (zs := zs) hL n (Nat.le_refl _)
    simp only [cntsI] at h ⊢
    generalize hLL : cntsI zs n r = L at ih hL hlen hmax h ⊢
    have hb : bestI zs L n < n := bestI_lt zs L (by omega) (Nat.le_refl _)
    generalize hbb : bestI zs L n = b at hb hmax h ⊢
    have e1 : ∀ j, (L.set b (L.getD b 0 + 1)).getD j 0 = if b = j then L.getD b 0 + 1 else L.getD j 0 := fun j => by
      by_cases e : b = j
      · subst e; simp [hlen, hb]
      · rw [if_neg e]; simp [List.getElem?_set_ne e]
    rw [e1 k] at h
    rw [e1 k, e1 i]
    by_cases ek : b = k
    · subst ek
      rw [if_pos rfl]
      have hm := hmax i hi
      by_cases ei : b = i
      · subst ei
        rw [if_pos rfl]
        exact Int.mul_le_mul_of_nonneg_left (by omega) (hz b hb)
      · rw [if_neg ei]
        rw [show L.getD b 0 + 1 - 1 = L.getD b 0 by omega]
        exact hm
    · rw [if_neg ek] at h ⊢
      have hi2 := ih i k hi hk h
      by_cases ei : b = i
      · subst ei
        rw [if_pos rfl, Int.mul_add]
        have := hz k hk
        omega
      · rw [if_neg ei]
        exact hi2

/-! ### Lengths -/
theorem lens_mul {zs : List Int} {n : Nat} {s : Int} {k : Nat} (hk : k < n) (hc : 1 ≤ cn zs s k) : (lensI zs s n).getD (k * 2) 0 * cn zs s k = zs.getD k 0 * (lensI zs s n).getD (k * 2 + 1) 0 := by
  obtain ⟨h1, h2⟩ := lens_at zs s hk
  obtain ⟨g, _, e1, e2⟩ := rel_low (z := zs.getD k 0) hc
  rw [h1, h2]
  generalize zs.getD k 0 / (Int.gcd (zs.getD k 0) (cn zs s k) : Int) = p at e1 ⊢
  generalize cn zs s k / (Int.gcd (zs.getD k 0) (cn zs s k) : Int) = q at e2 ⊢
  rw [e1, e2, ← Int.mul_assoc, Int.mul_comm p g]
/-- The number of stitches is the nearest one. -/
theorem cnt_near {a s n : Int} (h2 : 1 ≤ s) (h : cntI a s = n) : 1 ≤ n ∧ (n = 1 ∨ (2 * n * s ≤ 2 * a + s ∧ 2 * a - s < 2 * n * s)) := by
  unfold cntI at h
  refine ⟨by omega, ?_⟩
  by_cases e : n = 1
  · exact .inl e
  · right
    have hr : rndI a s = n := by omega
    unfold rndI at hr
    have d1 := Int.ediv_mul_le (2 * a + s) (show (2 * s : Int) ≠ 0 by omega)
    have d2 := Int.lt_ediv_add_one_mul_self (2 * a + s) (show (0 : Int) < 2 * s by omega)
    rw [hr] at d1 d2
    have e1 : n * (2 * s) = 2 * n * s := by rw [Int.mul_comm 2 n, Int.mul_assoc]
    rw [Int.add_mul, e1] at d2
    rw [e1] at d1
    omega
end Go.Proofs.YtfkojbkgpbpjhaaDoor
