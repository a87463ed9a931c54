/-
  Plain laws of spools: the search is complete, its answer is a plan with the fewest spools. No condition of its own.
-/
import Derived.Test.YtoomkeicfdmdoaaSpoolsC
namespace Go.Proofs.Ytoomkeicfdmdoaa
open Go.Shelf

def isum : List Int → Int
  | [] => 0
  | z :: zs => z + isum zs
theorem isum_set {l : List Int} {q : Nat} {v : Int} (h : q < l.length) : isum (l.set q v) = isum l - l.getD q 0 + v := by
  induction l generalizing q with
  | nil => simp at h
  | cons z zs ih =>
    cases q with
    | zero => simp [isum]; omega
    | succ q =>
      have := ih (q := q) (by simpa using h)
      simp only [List.set_cons_succ, isum, this, List.getD_cons_succ]
      omega
/-- What is left when the needs are cut from the spools that a plan names. -/
def cutL : List Int → List Int → List Int → Option (List Int)
  | left, [], [] => some left
  | left, y :: ys, q :: qs => if 0 ≤ q ∧ q < left.length ∧ y ≤ left.getD q.toNat 0 then cutL (left.set q.toNat (left.getD q.toNat 0 - y)) ys qs else none
  | _, [], _ :: _ => none
  | _, _ :: _, [] => none
theorem cutL_cons {left ys qs l : List Int} {y q : Int} (h : cutL left (y :: ys) (q :: qs) = some l) : ∃ k : Nat, q = (k : Int) ∧ k < left.length ∧ y ≤ left.getD k 0 ∧ cutL (left.set k (left.getD k 0 - y)) ys qs = some l := by
  simp only [cutL] at h
  split at h
  · rename_i hh
    obtain ⟨k, rfl⟩ : ∃ k : Nat, q = (k : Int) := ⟨q.toNat, by omega⟩
    simp only [Int.toNat_natCast] at h hh
    exact ⟨k, rfl, by omega, hh.2.2, h⟩
  · cases h
theorem cutL_mk {left ys qs l : List Int} {y : Int} {k : Nat} (h1 : k < left.length) (h2 : y ≤ left.getD k 0) (h : cutL (left.set k (left.getD k 0 - y)) ys qs = some l) : cutL left (y :: ys) ((k : Int) :: qs) = some l := by
  simp only [cutL, Int.toNat_natCast]
  rw [if_pos ⟨by omega, by omega, h2⟩]
  exact h
theorem cutL_len {left ys qs l : List Int} (h : cutL left ys qs = some l) : qs.length = ys.length ∧ l.length = left.length := by
  induction ys generalizing left qs with
  | nil =>
    cases qs with
    | nil => simp only [cutL, Option.some.injEq] at h; subst h; simp
    | cons q qs => simp [cutL] at h
  | cons y ys ih =>
    cases qs with
    | nil => simp [cutL] at h
    | cons q qs =>
      obtain ⟨k, _, _, _, h4⟩ := cutL_cons h
      have := ih h4
      simp at this ⊢
      omega
theorem cutL_sum {left ys qs l : List Int} (h : cutL left ys qs = some l) : isum l = isum left - isum ys := by
  induction ys generalizing left qs with
  | nil =>
    cases qs with
    | nil => simp only [cutL, Option.some.injEq] at h; subst h; simp [isum]
    | cons q qs => simp [cutL] at h
  | cons y ys ih =>
    cases qs with
    | nil => simp [cutL] at h
    | cons q qs =>
      obtain ⟨k, _, h2, _, h4⟩ := cutL_cons h
      have := ih h4
      rw [isum_set h2] at this
      simp only [isum]
      omega
theorem getD_set_self {l : List Int} {k : Nat} {v : Int} (h : k < l.length) : (l.set k v).getD k 0 = v := by simp [h]
theorem getD_set_ne {l : List Int} {k j : Nat} {v : Int} (h : k ≠ j) : (l.set k v).getD j 0 = l.getD j 0 := by simp [List.getElem?_set_ne h]
theorem cutL_bd {left ys qs l : List Int} (h : cutL left ys qs = some l) (hy : ∀ y ∈ ys, 0 ≤ y) (j : Nat) (hj : 0 ≤ left.getD j 0) : 0 ≤ l.getD j 0 ∧ l.getD j 0 ≤ left.getD j 0 := by
  induction ys generalizing left qs with
  | nil =>
    cases qs with
    | nil => simp only [cutL, Option.some.injEq] at h; subst h; omega
    | cons q qs => simp [cutL] at h
  | cons y ys ih =>
    cases qs with
    | nil => simp [cutL] at h
    | cons q qs =>
      obtain ⟨k, _, h2, h3, h4⟩ := cutL_cons h
      have hy0 := hy y (by simp)
      have hi := ih h4 (fun z hz => hy z (by simp [hz]))
      by_cases e : k = j
      · subst e
        rw [getD_set_self h2] at hi
        have := hi (by omega)
        omega
      · rw [getD_set_ne e] at hi
        exact hi hj
theorem cutL_mem {left ys qs l : List Int} (h : cutL left ys qs = some l) : ∀ q ∈ qs, 0 ≤ q ∧ q < left.length := by
  induction ys generalizing left qs with
  | nil =>
    cases qs with
    | nil => simp
    | cons q qs => simp [cutL] at h
  | cons y ys ih =>
    cases qs with
    | nil => simp
    | cons q qs =>
      obtain ⟨k, h1, h2, h3, h4⟩ := cutL_cons h
      have := ih h4
      intro p hp
      rcases List.mem_cons.1 hp with rfl | hp
      · omega
      · have := this p hp
        simp at this
        exact this
theorem cutL_snoc {left ys qs l : List Int} {y : Int} {k : Nat} (h : cutL left ys qs = some l) (h1 : k < l.length) (h2 : y ≤ l.getD k 0) : cutL left (ys ++ [y]) (qs ++ [(k : Int)]) = some (l.set k (l.getD k 0 - y)) := by
  induction ys generalizing left qs with
  | nil =>
    cases qs with
    | nil =>
      simp only [cutL, Option.some.injEq] at h
      subst h
      exact cutL_mk h1 h2 (by simp [cutL])
    | cons q qs => simp [cutL] at h
  | cons z ys ih =>
    cases qs with
    | nil => simp [cutL] at h
    | cons q qs =>
      obtain ⟨j, rfl, hj, h3, h4⟩ := cutL_cons h
      exact cutL_mk hj h3 (ih h4)
/-! ### The two ways to cut -/
theorem leftTo_cons (left ys qs : List Int) (y q : Int) (i : Nat) : leftTo left (y :: ys) (q :: qs) (i + 1) = if left.getD q.toNat 0 < y then none else leftTo (left.set q.toNat (left.getD q.toNat 0 - y)) ys qs i := by
  induction i with
  | zero => simp [leftTo]
  | succ i ih =>
    rw [leftTo, ih]
    split
    · rfl
    · simp only [List.getD_cons_succ]
      rw [leftTo]
theorem leftTo_cut {left ys qs l : List Int} (h : cutL left ys qs = some l) : leftTo left ys qs ys.length = some l := by
  induction ys generalizing left qs with
  | nil =>
    cases qs with
    | nil => simp only [cutL, Option.some.injEq] at h; subst h; rfl
    | cons q qs => simp [cutL] at h
  | cons y ys ih =>
    cases qs with
    | nil => simp [cutL] at h
    | cons q qs =>
      obtain ⟨k, rfl, h2, h3, h4⟩ := cutL_cons h
      rw [List.length_cons, leftTo_cons, if_neg (by rw [Int.toNat_natCast]; omega), Int.toNat_natCast]
      exact ih h4
theorem cut_first {zs ys : List Int} : ∀ {i : Nat} {l o : List Int}, firstTo zs ys i = some (l, o) → i ≤ ys.length → cutL zs (ys.take i) o = some l ∧ o.length = i := by
  intro i
  induction i with
  | zero =>
    intro l o h _
    simp only [firstTo, Option.some.injEq, Prod.mk.injEq] at h
    obtain ⟨rfl, rfl⟩ := h
    simp [cutL]
  | succ i ih =>
    intro l o h hi
    simp only [firstTo] at h
    cases hp : firstTo zs ys i with
    | none => rw [hp] at h; simp at h
    | some s =>
      obtain ⟨l0, o0⟩ := s
      rw [hp] at h
      simp only [Option.bind_some] at h
      split at h
      · cases h
      · rename_i hn
        obtain ⟨k, hk⟩ : ∃ k : Nat, fitI (ys.getD i 0) l0 = (k : Int) := ⟨(fitI (ys.getD i 0) l0).toNat, by omega⟩
        rw [hk] at h
        simp only [Int.toNat_natCast, Option.some.injEq, Prod.mk.injEq] at h
        obtain ⟨rfl, rfl⟩ := h
        obtain ⟨h1, h2⟩ := ih hp (by omega)
        obtain ⟨x, hx, hpx⟩ := idxI_at hk
        obtain ⟨hkl, hxe⟩ := List.getElem?_eq_some_iff.1 hx
        have e1 : l0.getD k 0 = x := by simp [hx]
        have e2 : ys.take (i + 1) = ys.take i ++ [ys.getD i 0] := by
          rw [List.take_succ_eq_append_getElem (by omega)]
          simp [List.getElem?_eq_getElem (show i < ys.length by omega)]
        rw [e2]
        refine ⟨cutL_snoc h1 hkl ?_, by simp [h2]⟩
        rw [e1]
        simpa using hpx
/-! ### How many spools are used -/
def unB (uses qs : List Int) (i : Nat) : Bool := decide (uses.getD i 0 ≠ 0) || decide ((i : Int) ∈ qs)
def un (uses qs : List Int) (n : Nat) : Int := ((List.range n).countP (unB uses qs) : Nat)
theorem un_nonneg (uses qs : List Int) (n : Nat) : 0 ≤ un uses qs n := by unfold un; omega
theorem un_mono {uses qs : List Int} {n : Nat} : un uses [] n ≤ un uses qs n := by
  unfold un
  have := List.countP_mono_left (l := List.range n) (p := unB uses []) (q := unB uses qs) (fun i _ h => by
    simp only [unB, Bool.or_eq_true] at h ⊢
    rcases h with h | h
    · exact .inl h
    · simp at h)
  omega
theorem un_step {uses qs : List Int} {n k : Nat} (hk : k < uses.length) (h0 : 0 ≤ uses.getD k 0) : un (uses.set k (uses.getD k 0 + 1)) qs n = un uses ((k : Int) :: qs) n := by
  unfold un
  congr 1
  refine List.countP_congr (fun i _ => ?_)
  simp only [unB]
  by_cases e : k = i
  · subst e
    rw [getD_set_self hk, decide_eq_true (show uses.getD k 0 + 1 ≠ 0 by omega), decide_eq_true (show (k : Int) ∈ (k : Int) :: qs by simp)]
    simp
  · rw [getD_set_ne e]
    have : (i : Int) ≠ (k : Int) := by omega
    simp [this]
theorem countP_one (p : Nat → Bool) (k : Nat) : ∀ n, ((List.range n).countP (fun i => p i || i == k) : Int) = ((List.range n).countP p : Int) + (if k < n then (if p k then 0 else 1) else 0) := by
  intro n
  induction n with
  | zero => simp
  | succ n ih =>
    simp only [List.range_succ, List.countP_append, List.countP_cons, List.countP_nil]
    by_cases e : k = n
    · subst e
      rw [if_neg (Nat.lt_irrefl k)] at ih
      rw [if_pos (Nat.lt_succ_self k)]
      have ih2 : ((List.range k).countP (fun i => p i || i == k) : Int) = ((List.range k).countP p : Int) := by omega
      rw [show ((k == k) = true) from by simp, Bool.or_true]
      cases p k
      · simp; omega
      · simp; omega
    · have e2 : (n == k) = false := by simp; omega
      simp only [e2, Bool.or_false]
      by_cases hkn : k < n
      · rw [if_pos hkn] at ih
        rw [if_pos (show k < n + 1 by omega)]
        generalize (if p n = true then 1 else 0 : Nat) = t
        omega
      · rw [if_neg hkn] at ih
        rw [if_neg (show ¬ k < n + 1 by omega)]
        generalize (if p n = true then 1 else 0 : Nat) = t
        omega
theorem un_one {uses : List Int} {n k : Nat} (hk : k < n) : un uses [(k : Int)] n = if uses.getD k 0 = 0 then un uses [] n + 1 else un uses [] n := by
  unfold un
  have h := countP_one (unB uses []) k n
  have e : (List.range n).countP (unB uses [(k : Int)]) = (List.range n).countP (fun i => unB uses [] i || i == k) := by
    refine List.countP_congr (fun i _ => ?_)
    simp [unB]
    omega
  rw [e, h, if_pos hk]
  by_cases hz : uses.getD k 0 = 0
  · rw [if_pos hz]
    rw [show unB uses [] k = false by simp only [unB]; rw [hz]; rfl]; rfl
  · rw [if_neg hz]
    rw [show unB uses [] k = true by simp only [unB]; rw [decide_eq_true hz]; rfl]; simp
/-! ### The search is complete, and its answer is the least -/
theorem fewAt_step (y : Int) (ys left uses pre : List Int) (used : Int) (st : List Int × Int) (k : Nat) : fewAt y ys left uses pre used st (k + 1) = if left.getD k 0 < y then fewAt y ys left uses pre used st k else fewTo ys (left.set k (left.getD k 0 - y)) (uses.set k (uses.getD k 0 + 1)) (pre ++ [(k : Int)]) (if uses.getD k 0 = 0 then used + 1 else used) (fewAt y ys left uses pre used st k) := by
  simp only [fewAt, List.range_succ, List.foldl_append, List.foldl_cons, List.foldl_nil]
def Found (left ys uses pre : List Int) (n : Nat) (st st' : List Int × Int) (P : List Int → Prop) : Prop :=
  (st' = st ∨ ∃ qs l, cutL left ys qs = some l ∧ st'.1 = pre ++ qs ∧ st'.2 = un uses qs n) ∧ (0 ≤ st.2 → 0 ≤ st'.2 ∧ st'.2 ≤ st.2) ∧ (∀ qs l, P qs → cutL left ys qs = some l → 0 ≤ st'.2 ∧ st'.2 ≤ un uses qs n)
theorem found_same {left ys uses pre : List Int} {n : Nat} {st : List Int × Int} (h0 : 0 ≤ st.2) (h : st.2 ≤ un uses [] n) (P : List Int → Prop) : Found left ys uses pre n st st P :=
  ⟨.inl rfl, fun h => ⟨h, Int.le_refl _⟩, fun _ _ _ _ => ⟨h0, Int.le_trans h un_mono⟩⟩
theorem few_ok (ys : List Int) : ∀ (left uses pre : List Int) (used : Int) (st : List Int × Int) (n : Nat), left.length = n → uses.length = n → (∀ j, 0 ≤ uses.getD j 0) → used = un uses [] n → Found left ys uses pre n st (fewTo ys left uses pre used st) (fun _ => True) := by
  induction ys with
  | nil =>
    intro left uses pre used st n hl hu hj hus
    by_cases hc : 0 ≤ st.2 ∧ st.2 ≤ used
    · rw [fewTo_cut hc.1 hc.2]
      exact found_same hc.1 (by omega) _
    · rw [fewTo_end hc]
      have h0 := un_nonneg uses [] n
      refine ⟨.inr ⟨[], left, rfl, by simp, hus⟩, fun h => ⟨by omega, by simp only; omega⟩, fun qs l _ h => ?_⟩
      have := @un_mono uses qs n
      exact ⟨by simp only; omega, by simp only; omega⟩
  | cons y ys ih =>
    intro left uses pre used st n hl hu hj hus
    by_cases hc : 0 ≤ st.2 ∧ st.2 ≤ used
    · rw [fewTo_cut hc.1 hc.2]
      exact found_same hc.1 (by omega) _
    · rw [fewTo_more hc, hl]
      have inner : ∀ k, k ≤ n → Found left (y :: ys) uses pre n st (fewAt y ys left uses pre used st k) (fun qs => ∃ j : Nat, j < k ∧ qs.head? = some (j : Int)) := by
        intro k
        induction k with
        | zero => exact fun _ => ⟨.inl rfl, fun h => ⟨h, Int.le_refl _⟩, fun qs l ⟨j, hj, _⟩ => absurd hj (Nat.not_lt_zero _)⟩
        | succ k ihk =>
          intro hk
          obtain ⟨f1, f2, f3⟩ := ihk (by omega)
          rw [fewAt_step]
          by_cases hy : left.getD k 0 < y
          · rw [if_pos hy]
            refine ⟨f1, f2, fun qs l ⟨j, hjk, hh⟩ hcut => ?_⟩
            by_cases e : j = k
            · subst e
              cases qs with
              | nil => simp at hh
              | cons q qs =>
                obtain ⟨j2, h1, h2, h3, h4⟩ := cutL_cons hcut
                simp at hh
                have : j2 = j := by omega
                subst this
                omega
            · exact f3 qs l ⟨j, by omega, hh⟩ hcut
          · rw [if_neg hy]
            have hku : k < uses.length := by omega
            have hul := ih (left.set k (left.getD k 0 - y)) (uses.set k (uses.getD k 0 + 1)) (pre ++ [(k : Int)]) (if uses.getD k 0 = 0 then used + 1 else used) (fewAt y ys left uses pre used st k) n (by simp [hl]) (by simp [hu])
              (fun j => by
                by_cases e : k = j
                · subst e; rw [getD_set_self hku]; have := hj k; omega
                · rw [getD_set_ne e]; exact hj j)
              (by rw [un_step hku (hj k), un_one (by omega), hus])
            generalize fewAt y ys left uses pre used st k = st1 at f1 f2 f3 hul ⊢
            obtain ⟨g1, g2, g3⟩ := hul
            generalize fewTo ys (left.set k (left.getD k 0 - y)) (uses.set k (uses.getD k 0 + 1)) (pre ++ [(k : Int)]) (if uses.getD k 0 = 0 then used + 1 else used) st1 = st2 at g1 g2 g3 ⊢
            refine ⟨?_, ?_, ?_⟩
            · rcases g1 with rfl | ⟨qs, l, h1, h2, h3⟩
              · exact f1
              · exact .inr ⟨(k : Int) :: qs, l, cutL_mk (by omega) (by omega) h1, by rw [h2]; simp, by rw [h3, un_step hku (hj k)]⟩
            · intro h
              have := f2 h
              have := g2 this.1
              omega
            · intro qs l ⟨j, hjk, hh⟩ hcut
              by_cases e : j = k
              · subst e
                cases qs with
                | nil => simp at hh
                | cons q qs =>
                  obtain ⟨j2, h1, h2, h3, h4⟩ := cutL_cons hcut
                  simp at hh
                  have : j2 = j := by omega
                  subst this
                  have := g3 qs l trivial h4
                  rw [un_step hku (hj j2)] at this
                  rw [hh]
                  exact this
              · have h1 := f3 qs l ⟨j, by omega, hh⟩ hcut
                have h2 := g2 h1.1
                omega
      obtain ⟨f1, f2, f3⟩ := inner n (Nat.le_refl _)
      refine ⟨f1, f2, fun qs l _ hcut => f3 qs l ?_ hcut⟩
      cases qs with
      | nil => simp [cutL] at hcut
      | cons q qs =>
        obtain ⟨j, rfl, h2, _, _⟩ := cutL_cons hcut
        exact ⟨j, by omega, rfl⟩
/-! ### The law's facts -/
def usedTo (qs : List Int) (i : Nat) : Int := ((List.range i).countP (fun j : Nat => decide ((j : Int) ∈ qs)) : Nat)
theorem usedTo_succ (qs : List Int) (i : Nat) : usedTo qs (i + 1) = usedTo qs i + (if decide ((i : Int) ∈ qs) then 1 else 0) := by
  simp only [usedTo, List.range_succ, List.countP_append, List.countP_cons, List.countP_nil]
  split <;> simp
theorem usedTo_bd (qs : List Int) (i : Nat) : 0 ≤ usedTo qs i ∧ usedTo qs i ≤ i := by
  unfold usedTo
  have := List.countP_le_length (p := fun i : Nat => decide ((i : Int) ∈ qs)) (l := List.range i)
  simp only [List.length_range] at this
  omega
theorem un_rep (qs : List Int) (n : Nat) : un (List.replicate n 0) qs n = usedTo qs n := by
  unfold un usedTo
  congr 1
  refine List.countP_congr (fun i _ => ?_)
  simp only [unB, rep_getD]
  simp
theorem few0_facts {zs ys : List Int} {n : Nat} (hl : zs.length = n) : Found zs ys (List.replicate n 0) [] n ([], -1) (few0 zs ys n) (fun _ => True) :=
  few_ok ys zs (List.replicate n 0) [] 0 ([], -1) n hl (by simp) (fun j => by rw [rep_getD]; omega) (by rw [un_rep]; simp [usedTo])
theorem first_none {zs ys : List Int} {n m : Nat} (hl : zs.length = n) (hm : ys.length = m) (h : (few0 zs ys n).2 < 0) : firstTo zs ys m = none := by
  cases hf : firstTo zs ys m with
  | none => rfl
  | some s =>
    obtain ⟨l, o⟩ := s
    have h1 := (cut_first hf (by omega)).1
    rw [List.take_of_length_le (by omega)] at h1
    have := ((few0_facts hl).2.2 o l trivial h1).1
    omega
theorem few_some {zs ys : List Int} {n : Nat} (hl : zs.length = n) (h : ¬ (few0 zs ys n).2 < 0) : ∃ l, cutL zs ys (few0 zs ys n).1 = some l ∧ (few0 zs ys n).2 = usedTo (few0 zs ys n).1 n := by
  rcases (few0_facts (ys := ys) hl).1 with e | ⟨qs, l, h1, h2, h3⟩
  · rw [e] at h; simp at h
  · rw [List.nil_append] at h2
    rw [h2, h3, un_rep]
    exact ⟨l, h1, rfl⟩
theorem few_first {zs ys l o : List Int} {n m : Nat} (hl : zs.length = n) (hm : ys.length = m) (hf : firstTo zs ys m = some (l, o)) : cutL zs ys o = some l ∧ 0 ≤ (few0 zs ys n).2 ∧ (few0 zs ys n).2 ≤ usedTo o n := by
  have h1 := (cut_first hf (by omega)).1
  rw [List.take_of_length_le (by omega)] at h1
  have h2 := (few0_facts hl).2.2 o l trivial h1
  rw [un_rep] at h2
  exact ⟨h1, h2.1, h2.2⟩
theorem plan_of_cut {zs ys qs l : List Int} {n m p : Nat} (hl : zs.length = n) (hm : ys.length = m) (hp : qs.length = p) (hok : spoolsB zs ys n m = true) (h : cutL zs ys qs = some l) : p = m ∧ planB zs ys qs n m p = true ∧ leftTo zs ys qs p = some l := by
  have hlen := (cutL_len h).1
  have hmem := cutL_mem h
  obtain rfl : p = m := by omega
  refine ⟨rfl, ?_, by rw [← hm]; exact leftTo_cut h⟩
  simp only [planB, hok, Bool.true_and, Bool.and_eq_true, decide_eq_true_eq, Bool.not_eq_true']
  refine ⟨trivial, ?_⟩
  rw [outB_false]
  intro q hq
  have := hmem q hq
  omega
theorem cut_codes {zs ys qs l : List Int} {n m p : Nat} (hl : zs.length = n) (hm : ys.length = m) (hp : qs.length = p) (hok : spoolsB zs ys n m = true) (h : cutL zs ys qs = some l) :
    spoolZ zs ys qs n m p = -1 ∧ planC zs ys qs n m p = 0 ∧ leftL zs ys qs n m p = l ∧ leftC zs ys qs n m p = 0 := by
  obtain ⟨_, h2, h3⟩ := plan_of_cut hl hm hp hok h
  refine ⟨?_, ?_, ?_, ?_⟩
  · simp only [spoolZ, h2, if_true]; exact cutZ_some h3
  · simp [planC, h2]
  · simp [leftL, h2, h3]
  · simp [leftC, h2, h3]
end Go.Proofs.Ytoomkeicfdmdoaa
