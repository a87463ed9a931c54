/-
  What a plan of presses is, in plain Lean: its joins are good, and no more of them are in presses than there are. No condition of its own.
-/
import Derived.Test.YtcajpedhfljhdaaPlan
import Derived.Test.YtcajpedhfljhdaaPresses
import Derived.Test.YtcajpedhfljhdaaBad
namespace Go.Proofs.Ytcajpedhfljhdaa
open Go.Deep

/-- How many numbers of a list are above t. -/
def numOver (t : Int) : List Int → Int
  | [] => 0
  | f :: fs => (if t < f then 1 else 0) + numOver t fs
theorem numOver_le (t : Int) (fs : List Int) : 0 ≤ numOver t fs ∧ numOver t fs ≤ fs.length := by
  induction fs with
  | nil => simp [numOver]
  | cons f fs ih =>
    simp only [numOver, List.length_cons]
    split <;> omega
theorem numOver_set (t v : Int) (fs : List Int) (b : Nat) (h : b < fs.length) : numOver t (fs.set b v) = numOver t fs + ((if t < v then 1 else 0) - (if t < fs.getD b 0 then 1 else 0)) := by
  induction fs generalizing b with
  | nil => simp at h
  | cons f fs ih =>
    cases b with
    | zero => simp [numOver]; omega
    | succ b =>
      simp only [List.set_cons_succ, numOver, ih b (by simpa using h), List.getD_cons_succ]
      omega
theorem getD_app {xs ys : List Int} {j : Nat} (h : j < xs.length) : (xs ++ ys).getD j 0 = xs.getD j 0 := by
  simp [List.getElem?_append_left h]
theorem getD_app_r {xs ys : List Int} {j k : Nat} (h : j = xs.length + k) : (xs ++ ys).getD j 0 = ys.getD k 0 := by
  subst h
  simp [List.getElem?_append_right (show xs.length ≤ xs.length + k by omega)]
theorem cntTo_app {out l : List Int} {t : Int} {j : Nat} (h : j * 4 ≤ out.length) : cntTo (out ++ l) t j = cntTo out t j := by
  induction j with
  | zero => rfl
  | succ j ih =>
    simp only [cntTo]
    rw [ih (by omega), getD_app (by omega), getD_app (by omega)]
/-- What holds behind i joins of a plan. -/
structure PlanAt (d o p : Int) (xs ys : List Int) (P i : Nat) (fs out : List Int) : Prop where
  lenF : fs.length = P
  lenO : out.length = i * 4
  each : ∀ k, k < i → out.getD (k * 4) 0 = xs.getD k 0 ∧ out.getD (k * 4 + 1) 0 = ys.getD k 0 ∧ max (xs.getD k 0) (ys.getD k 0) + d ≤ out.getD (k * 4 + 2) 0 ∧ out.getD (k * 4 + 2) 0 ≤ min (xs.getD k 0) (ys.getD k 0) + o ∧ out.getD (k * 4 + 3) 0 = out.getD (k * 4 + 2) 0 + p
  most : ∀ t, cntTo out t i ≤ numOver t fs
theorem planTo_at {d o p : Int} {xs ys : List Int} {P : Nat} (hP : 1 ≤ P) (hp : 1 ≤ p) : ∀ {i : Nat} {fs out : List Int}, planTo d o p xs ys P i = some (fs, out) → PlanAt d o p xs ys P i fs out := by
  intro i
  induction i with
  | zero =>
    intro fs out h
    simp only [planTo, Option.some.injEq, Prod.mk.injEq] at h
    obtain ⟨rfl, rfl⟩ := h
    exact ⟨by simp, rfl, fun k hk => absurd hk (by omega), fun t => by simpa [cntTo] using (numOver_le t _).1⟩
  | succ i ih =>
    intro fs out h
    cases hq : planTo d o p xs ys P i with
    | none => simp [planTo, hq] at h
    | some q =>
      obtain ⟨f0, o0⟩ := q
      obtain ⟨a1, a2, a3, a4⟩ := ih hq
      simp only [planTo, hq, Option.bind_some] at h
      split at h
      · cases h
      · rename_i hk
        simp only [Option.some.injEq, Prod.mk.injEq] at h
        obtain ⟨b, hb⟩ : ∃ b, bst f0 P = b := ⟨_, rfl⟩
        have hbP : b < P := by rw [← hb]; exact bst_lt f0 hP
        rw [hb] at h hk
        obtain ⟨J, hJ⟩ : ∃ J, max (max (xs.getD i 0) (ys.getD i 0) + d) (f0.getD b 0) = J := ⟨_, rfl⟩
        rw [hJ] at h hk
        obtain ⟨rfl, rfl⟩ := h
        refine ⟨by simp [a1], by simp [a2]; omega, fun k hk' => ?_, fun t => ?_⟩
        · by_cases e : k = i
          · subst e
            rw [getD_app_r (k := 0) (by omega), getD_app_r (k := 1) (by omega), getD_app_r (k := 2) (by omega), getD_app_r (k := 3) (by omega)]
            simp only [List.getD_cons_zero, List.getD_cons_succ]
            exact ⟨trivial, trivial, by omega, by omega, trivial⟩
          · rw [getD_app (by omega), getD_app (by omega), getD_app (by omega), getD_app (by omega)]
            exact a3 k (by omega)
        · have hm := a4 t
          simp only [cntTo]
          rw [cntTo_app (by omega), getD_app_r (k := 2) (by omega), getD_app_r (k := 3) (by omega), numOver_set _ _ _ _ (by omega)]
          simp only [List.getD_cons_zero, List.getD_cons_succ]
          generalize f0.getD b 0 = v at hJ ⊢
          split
          · rw [if_pos (by omega), if_neg (by omega)]; omega
          · split
            · split <;> omega
            · rw [if_neg (by omega)]; omega
theorem PlanAt.joins {d o p : Int} {xs ys fs out : List Int} {P n : Nat} (h : PlanAt d o p xs ys P n fs out) (hn : n ≤ 20) (h0 : 0 ≤ d) (h1 : d ≤ o) (h2 : o ≤ 1440) (h3 : 1 ≤ p) (h4 : p ≤ 1440) (hx : ∀ k, k < n → 0 ≤ xs.getD k 0 ∧ xs.getD k 0 ≤ 50000) (hy : ∀ k, k < n → 0 ≤ ys.getD k 0 ∧ ys.getD k 0 ≤ 50000) : joinsB out n = true := by
  simp only [joinsB, Bool.and_eq_true, decide_eq_true_eq]
  refine ⟨fun k hk => ?_, hn⟩
  obtain ⟨e1, e2, e3, e4, e5⟩ := h.each k hk
  have b1 := hx k hk
  have b2 := hy k hk
  simp only [joinAt]
  rw [joinB_true, e1, e2, e5]
  omega
theorem PlanAt.none {d o p : Int} {xs ys fs out : List Int} {P n : Nat} (h : PlanAt d o p xs ys P n fs out) : ∀ k, k ≤ n → badTo d o p out k = [] := by
  intro k
  induction k with
  | zero => exact fun _ => rfl
  | succ k ih =>
    intro hk
    obtain ⟨e1, e2, e3, e4, e5⟩ := h.each k (by omega)
    simp only [badTo]
    have hf : faultAt d o p out k = noneS := by
      simp only [faultAt]
      rw [e1, e2, e5]
      exact faultF_none (by omega) (by omega) (by omega)
    rw [ih (by omega), if_pos hf]
    rfl
theorem PlanAt.few {d o p : Int} {xs ys fs out : List Int} {P n : Nat} (h : PlanAt d o p xs ys P n fs out) : ∀ i, mostTo out n i ≤ P := by
  intro i
  induction i with
  | zero => simp [mostTo]
  | succ i ih =>
    simp only [mostTo]
    have h1 := h.most (out.getD (i * 4 + 2) 0)
    have h2 := (numOver_le (out.getD (i * 4 + 2) 0) fs).2
    rw [h.lenF] at h2
    omega
/-- What the law asks of a plan that goes. -/
theorem plan_good {d o p pr : Int} {xs ys : List Int} {n m : Nat} (hc : planC d o p xs n ys m pr = 0) (hxl : xs.length = n) (hyl : ys.length = m) :
    badC d o p (planF d o p xs n ys m pr) n = 0 ∧ badF d o p (planF d o p xs n ys m pr) n = [] ∧ pressC (planF d o p xs n ys m pr) n = 0 ∧ pressF (planF d o p xs n ys m pr) n ≤ pr ∧ (planF d o p xs n ys m pr).length = n * 4 ∧ ∀ z ∈ planF d o p xs n ys m pr, 0 ≤ z ∧ z ≤ 100000 := by
  unfold planC at hc
  split at hc
  · rename_i hg
    split at hc
    · rename_i hk
      split at hc
      · cases hc
      · rename_i hs
        obtain ⟨k1, k2, k3, k4, k5⟩ := id hk
        obtain ⟨p1, p2⟩ := inB_true.1 k5
        obtain ⟨g1, g2, g3, g4, g5⟩ := glueB_true.1 hg
        obtain ⟨P, rfl⟩ : ∃ P : Nat, pr = (P : Int) := ⟨pr.toNat, by omega⟩
        rw [Int.toNat_natCast] at hs
        cases hq : planTo d o p xs ys P n with
        | none => simp [hq] at hs
        | some q =>
          obtain ⟨fs, out⟩ := q
          have hat := planTo_at (by omega) g4 hq
          rw [(plan_yes hg hk hq).1]
          have hj := hat.joins k2 g1 g2 g3 g4 g5 (fun k hk => outB_at k3 (by omega)) (fun k hk => outB_at k4 (by omega))
          refine ⟨by simp [badC, hg, hj], by simp [badF, hg, hj, hat.none n (Nat.le_refl _)], by simp [pressC, hj], by simp only [pressF, hj, if_true]; exact hat.few n, hat.lenO, fun z hz => ?_⟩
          obtain ⟨j, hjl, rfl⟩ := List.getElem_of_mem hz
          have hl := hat.lenO
          have ha := joinsB_at hj (k := j / 4) (by omega)
          simp only [joinAt] at ha
          rw [joinB_true] at ha
          have e : out[j] = out.getD j 0 := by simp [List.getElem?_eq_getElem hjl]
          rw [e]
          rcases (by omega : j = j / 4 * 4 ∨ j = j / 4 * 4 + 1 ∨ j = j / 4 * 4 + 2 ∨ j = j / 4 * 4 + 3) with h | h | h | h
          · rw [← h] at ha; omega
          · rw [← h] at ha; omega
          · rw [← h] at ha; omega
          · rw [← h] at ha; omega
    · cases hc
  · cases hc
/-- What the law asks of bad joins. -/
theorem bad_mem {d o p : Int} {zs : List Int} {k : Nat} : ∀ n, k < n → ((k : Int) ∈ badTo d o p zs n ↔ faultAt d o p zs k ≠ noneS) := by
  have hlt : ∀ n (x : Int), x ∈ badTo d o p zs n → 0 ≤ x ∧ x < n := by
    intro n
    induction n with
    | zero => intro x hx; simp [badTo] at hx
    | succ n ih =>
      intro x hx
      simp only [badTo, List.mem_append] at hx
      rcases hx with hx | hx
      · have := ih x hx; omega
      · split at hx
        · simp at hx
        · simp at hx; omega
  intro n
  induction n with
  | zero => intro h; omega
  | succ n ih =>
    intro h
    simp only [badTo, List.mem_append]
    by_cases e : k = n
    · subst e
      have hno : ¬ (k : Int) ∈ badTo d o p zs k := fun hm => by have := hlt k _ hm; omega
      split
      · rename_i hf; simp [hno, hf]
      · rename_i hf; simp [hno, hf]
    · rw [ih (by omega)]
      have : ¬ (k : Int) ∈ (if faultAt d o p zs n = noneS then [] else [(n : Int)]) := by
        split
        · simp
        · simp; omega
      simp [this]
end Go.Proofs.Ytcajpedhfljhdaa
