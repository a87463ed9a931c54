/-
  A path along an injective step leaves a finite set. No program. Patterns: mates of edges, the way from an open edge, the rings of open edges. No program. Maps from edges: to edges, to bools. Patterns in memory; the program's small functions on them. The program's tests of edges, seams and pieces. The program's test of seams; searches of seams and pieces that find nothing. No condition of its own.
-/
import Derived.Test.YthemlamdchcicaaGreatDoorGBase
import Derived.Test.YthemlamdchcicaaGreatDoorGName
import Derived.Test.YthemlamdchcicaaGreatDoorGBox
import Derived.Maps.OwnSet
import Derived.DeepKeys4
import Derived.StillTailTactics
import Derived.BigQuiet
import Derived.BigRegion
import Derived.Deep.RegionHeld3
import Derived.Deep.RegionLaw
import Derived.Deep.DeepCutAuto
import Derived.Deep.CutBlock

namespace Go.Proofs.YthemlamdchcicaaGreatDoor

theorem pigeon : ∀ (N : Nat) (g : Nat → Nat), (∀ i, i ≤ N → g i < N) → ∃ i j, i < j ∧ j ≤ N ∧ g i = g j := by
  intro N
  induction N with
  | zero => intro g h; exact absurd (h 0 (Nat.le_refl _)) (Nat.not_lt_zero _)
  | succ N ih =>
    intro g h
    by_cases hx : ∃ i, i ≤ N ∧ g i = g (N + 1)
    · obtain ⟨i, hi, he⟩ := hx
      exact ⟨i, N + 1, by omega, Nat.le_refl _, he⟩
    · have hne : ∀ i, i ≤ N → g i ≠ g (N + 1) := fun i hi e => hx ⟨i, hi, e⟩
      have hv := h (N + 1) (Nat.le_refl _)
      obtain ⟨i, j, h1, h2, h3⟩ := ih (fun i => if g i = N then g (N + 1) else g i) (fun i hi => by
        have h4 := h i (by omega)
        have h5 := hne i hi
        show (if g i = N then g (N + 1) else g i) < N
        by_cases e : g i = N
        · rw [if_pos e]; omega
        · rw [if_neg e]; omega)
      refine ⟨i, j, h1, by omega, ?_⟩
      have hi := hne i (by omega)
      have hj := hne j (by omega)
      have h3' : (if g i = N then g (N + 1) else g i) = (if g j = N then g (N + 1) else g j) := h3
      by_cases ei : g i = N
      · by_cases ej : g j = N
        · omega
        · rw [if_pos ei, if_neg ej] at h3'; exact absurd h3'.symm hj
      · by_cases ej : g j = N
        · rw [if_neg ei, if_pos ej] at h3'; exact absurd h3' hi
        · rw [if_neg ei, if_neg ej] at h3'; exact h3'
/-- The k-th edge of a path. -/
def pathAt (f : Nat → Nat) (e : Nat) : Nat → Nat
  | 0 => e
  | k + 1 => f (pathAt f e k)
theorem path_ends {N : Nat} (f : Nat → Nat) (P : Nat → Bool) (hlt : ∀ e, P e = true → e < N) (hinj : ∀ a b, P a = true → P b = true → f a = f b → a = b) (e0 : Nat) (hstart : ∀ a, P a = true → f a ≠ e0) :
    ∃ k, k ≤ N ∧ P (pathAt f e0 k) = false ∧ ∀ j, j < k → P (pathAt f e0 j) = true := by
  by_cases hall : ∃ k, k ≤ N ∧ P (pathAt f e0 k) = false
  · have key : ∀ k, k ≤ N → P (pathAt f e0 k) = false → ∃ m, m ≤ N ∧ P (pathAt f e0 m) = false ∧ ∀ j, j < m → P (pathAt f e0 j) = true := by
      intro k
      induction k using Nat.strongRecOn with
      | ind k ih =>
        intro hk hP
        by_cases hj : ∃ j, j < k ∧ P (pathAt f e0 j) = false
        · obtain ⟨j, h1, h2⟩ := hj
          exact ih j h1 (by omega) h2
        · refine ⟨k, hk, hP, fun j h1 => ?_⟩
          cases e : P (pathAt f e0 j) with
          | true => rfl
          | false => exact absurd ⟨j, h1, e⟩ hj
    obtain ⟨k, hk, hP⟩ := hall
    exact key k hk hP
  · exfalso
    have hP : ∀ k, k ≤ N → P (pathAt f e0 k) = true := fun k hk => by
      cases e : P (pathAt f e0 k) with
      | true => rfl
      | false => exact absurd ⟨k, hk, e⟩ hall
    obtain ⟨i, j, h1, h2, h3⟩ := pigeon N (pathAt f e0) (fun k hk => hlt _ (hP k hk))
    have key : ∀ i j, i < j → j ≤ N → pathAt f e0 i = pathAt f e0 j → False := by
      intro i
      induction i with
      | zero =>
        intro j h1 h2 h3
        obtain ⟨j, rfl⟩ : ∃ m, j = m + 1 := ⟨j - 1, by omega⟩
        exact hstart _ (hP j (by omega)) h3.symm
      | succ i ih =>
        intro j h1 h2 h3
        obtain ⟨j, rfl⟩ : ∃ m, j = m + 1 := ⟨j - 1, by omega⟩
        exact ih j (by omega) (by omega) (hinj _ _ (hP i (by omega)) (hP j (by omega)) h3)
    exact key i j h1 h2 h3
end Go.Proofs.YthemlamdchcicaaGreatDoor

namespace Go.Proofs.YthemlamdchcicaaGreatDoor

/-- A path along an injective step, over any kind of edges that have numbers. -/
def pathOf {E : Type} (f : E → E) (e : E) : Nat → E
  | 0 => e
  | k + 1 => f (pathOf f e k)
theorem path_ends_of {E : Type} {N : Nat} (c : E → Nat) (f : E → E) (P : E → Bool) (hlt : ∀ e, P e = true → c e < N) (hc : ∀ a b, P a = true → P b = true → c a = c b → a = b)
    (hinj : ∀ a b, P a = true → P b = true → f a = f b → a = b) (e0 : E) (hstart : ∀ a, P a = true → f a ≠ e0) :
    ∃ k, k ≤ N ∧ P (pathOf f e0 k) = false ∧ ∀ j, j < k → P (pathOf f e0 j) = true := by
  by_cases hall : ∃ k, k ≤ N ∧ P (pathOf f e0 k) = false
  · have key : ∀ k, k ≤ N → P (pathOf f e0 k) = false → ∃ m, m ≤ N ∧ P (pathOf f e0 m) = false ∧ ∀ j, j < m → P (pathOf f e0 j) = true := by
      intro k
      induction k using Nat.strongRecOn with
      | ind k ih =>
        intro hk hP
        by_cases hj : ∃ j, j < k ∧ P (pathOf f e0 j) = false
        · obtain ⟨j, h1, h2⟩ := hj
          exact ih j h1 (by omega) h2
        · refine ⟨k, hk, hP, fun j h1 => ?_⟩
          cases e : P (pathOf f e0 j) with
          | true => rfl
          | false => exact absurd ⟨j, h1, e⟩ hj
    obtain ⟨k, hk, hP⟩ := hall
    exact key k hk hP
  · exfalso
    have hP : ∀ k, k ≤ N → P (pathOf f e0 k) = true := fun k hk => by
      cases e : P (pathOf f e0 k) with
      | true => rfl
      | false => exact absurd ⟨k, hk, e⟩ hall
    obtain ⟨i, j, h1, h2, h3⟩ := pigeon N (fun k => c (pathOf f e0 k)) (fun k hk => hlt _ (hP k hk))
    have key : ∀ i j, i < j → j ≤ N → pathOf f e0 i = pathOf f e0 j → False := by
      intro i
      induction i with
      | zero =>
        intro j h1 h2 h3
        obtain ⟨j, rfl⟩ : ∃ m, j = m + 1 := ⟨j - 1, by omega⟩
        exact hstart _ (hP j (by omega)) h3.symm
      | succ i ih =>
        intro j h1 h2 h3
        obtain ⟨j, rfl⟩ : ∃ m, j = m + 1 := ⟨j - 1, by omega⟩
        exact ih j (by omega) (by omega) (hinj _ _ (hP i (by omega)) (hP j (by omega)) h3)
    exact key i j h1 h2 (hc _ _ (hP i (by omega)) (hP j (by omega)) h3)

abbrev Ed := Nat × Nat
/-- A pattern: pieces with the lengths of their edges, and seams between two edges. -/
structure Pat where
  n : Nat
  name : Nat → ByteArray
  len : Nat → Nat
  val : Nat → Nat → Int
  m : Nat
  a : Nat → Ed
  b : Nat → Ed
def Pat.on (p : Pat) (e : Ed) : Prop := e.1 < p.n ∧ e.2 < p.len e.1
structure Pat.Ok (p : Pat) : Prop where
  n1 : 1 ≤ p.n
  n2 : p.n ≤ 10
  len : ∀ i, i < p.n → 3 ≤ p.len i ∧ p.len i ≤ 8
  name : ∀ i, i < p.n → okName (p.name i) = true ∧ (p.name i).size ≤ 20
  val : ∀ i j, i < p.n → j < p.len i → 1 ≤ p.val i j ∧ p.val i j ≤ 10000
  m : p.m ≤ 8
  on : ∀ k, k < p.m → p.on (p.a k) ∧ p.on (p.b k)
  ab : ∀ k, k < p.m → p.a k ≠ p.b k
  aa : ∀ j k, j < k → k < p.m → p.a j ≠ p.a k ∧ p.a j ≠ p.b k ∧ p.b j ≠ p.a k ∧ p.b j ≠ p.b k
/-- The edge with which the first K seams join an edge. -/
def Pat.mateTo (p : Pat) : Nat → Ed → Option Ed
  | 0, _ => none
  | k + 1, e => if e = p.b k then some (p.a k) else if e = p.a k then some (p.b k) else Pat.mateTo p k e
def Pat.mate (p : Pat) (e : Ed) : Option Ed := p.mateTo p.m e
theorem Pat.mateTo_none {p : Pat} {e : Ed} : ∀ {K : Nat}, p.mateTo K e = none ↔ ∀ k, k < K → e ≠ p.a k ∧ e ≠ p.b k
  | 0 => by simp [Pat.mateTo]
  | K + 1 => by
    unfold Pat.mateTo
    by_cases h1 : e = p.b K
    · rw [if_pos h1]
      simp only [reduceCtorEq, false_iff]
      exact fun h => (h K (by omega)).2 h1
    · rw [if_neg h1]
      by_cases h2 : e = p.a K
      · rw [if_pos h2]
        simp only [reduceCtorEq, false_iff]
        exact fun h => (h K (by omega)).1 h2
      · rw [if_neg h2, Pat.mateTo_none]
        constructor
        · intro h k hk
          by_cases hkK : k = K
          · subst hkK; exact ⟨h2, h1⟩
          · exact h k (by omega)
        · exact fun h k hk => h k (by omega)
theorem Pat.mateTo_some {p : Pat} {e o : Ed} : ∀ {K : Nat}, p.mateTo K e = some o → ∃ k, k < K ∧ (e = p.a k ∧ o = p.b k ∨ e = p.b k ∧ o = p.a k)
  | 0 => by simp [Pat.mateTo]
  | K + 1 => by
    unfold Pat.mateTo
    by_cases h1 : e = p.b K
    · rw [if_pos h1]
      intro h
      exact ⟨K, by omega, .inr ⟨h1, (Option.some.inj h).symm⟩⟩
    · rw [if_neg h1]
      by_cases h2 : e = p.a K
      · rw [if_pos h2]
        intro h
        exact ⟨K, by omega, .inl ⟨h2, (Option.some.inj h).symm⟩⟩
      · rw [if_neg h2]
        intro h
        obtain ⟨k, hk, r⟩ := Pat.mateTo_some h
        exact ⟨k, by omega, r⟩
theorem Pat.Ok.mateTo_a {p : Pat} (h : p.Ok) : ∀ {K k : Nat}, k < K → K ≤ p.m → p.mateTo K (p.a k) = some (p.b k) ∧ p.mateTo K (p.b k) = some (p.a k)
  | 0, _, h1, _ => by omega
  | K + 1, k, h1, h2 => by
    unfold Pat.mateTo
    by_cases e : k = K
    · subst e
      rw [if_neg (h.ab k (by omega)), if_pos rfl, if_pos rfl]
      exact ⟨rfl, rfl⟩
    · obtain ⟨r1, r2, r3, r4⟩ := h.aa k K (by omega) (by omega)
      rw [if_neg r2, if_neg r1, if_neg r4, if_neg r3]
      exact h.mateTo_a (by omega) (by omega)
theorem Pat.Ok.mate_a {p : Pat} (h : p.Ok) {k : Nat} (hk : k < p.m) : p.mate (p.a k) = some (p.b k) ∧ p.mate (p.b k) = some (p.a k) := h.mateTo_a hk (Nat.le_refl _)
theorem Pat.Ok.mate_sym {p : Pat} (h : p.Ok) {e o : Ed} (hm : p.mate e = some o) : p.mate o = some e := by
  obtain ⟨k, hk, ⟨rfl, rfl⟩ | ⟨rfl, rfl⟩⟩ := Pat.mateTo_some hm
  · exact (h.mate_a hk).2
  · exact (h.mate_a hk).1
theorem Pat.Ok.mate_on {p : Pat} (h : p.Ok) {e o : Ed} (hm : p.mate e = some o) : p.on e ∧ p.on o := by
  obtain ⟨k, hk, ⟨rfl, rfl⟩ | ⟨rfl, rfl⟩⟩ := Pat.mateTo_some hm
  · exact h.on k hk
  · exact (h.on k hk).symm
/-- The next edge of the piece. -/
def Pat.nxt (p : Pat) (e : Ed) : Ed := (e.1, (e.2 + 1) % p.len e.1)
theorem Pat.nxt_on {p : Pat} {e : Ed} (h : p.on e) : p.on (p.nxt e) := ⟨h.1, Nat.mod_lt _ (by have := h.2; omega)⟩
theorem mod_one {x L : Nat} (h : x < L) : (x + 1) % L = if x + 1 = L then 0 else x + 1 := by
  by_cases e : x + 1 = L
  · rw [if_pos e, e, Nat.mod_self]
  · rw [if_neg e, Nat.mod_eq_of_lt (by omega)]
theorem Pat.nxt_inj {p : Pat} {e o : Ed} (h : p.on e) (h' : p.on o) (hn : p.nxt e = p.nxt o) : e = o := by
  obtain ⟨e1, e2⟩ := e
  obtain ⟨o1, o2⟩ := o
  simp only [Pat.nxt, Prod.mk.injEq] at hn
  obtain ⟨rfl, h2⟩ := hn
  have a1 : e2 < p.len e1 := h.2
  have a2 : o2 < p.len e1 := h'.2
  rw [mod_one a1, mod_one a2] at h2
  have : e2 = o2 := by
    split at h2 <;> split at h2 <;> omega
  rw [this]
/-- Along seams to an open edge; f: so many seams at most. -/
def Pat.fol (p : Pat) : Nat → Ed → Ed
  | 0, e => e
  | f + 1, e => match p.mate e with
    | none => e
    | some o => Pat.fol p f (p.nxt o)
theorem Pat.fol_open {p : Pat} {e : Ed} (h : p.mate e = none) : ∀ f, p.fol f e = e
  | 0 => rfl
  | f + 1 => by unfold Pat.fol; rw [h]
theorem Pat.fol_step {p : Pat} {e o : Ed} {f : Nat} (h : p.mate e = some o) : p.fol (f + 1) e = p.fol f (p.nxt o) := by
  show (match p.mate e with | none => e | some o => p.fol f (p.nxt o)) = _
  rw [h]
def Pat.stepE (p : Pat) (e : Ed) : Ed := match p.mate e with
  | none => e
  | some o => p.nxt o
theorem Pat.stepE_some {p : Pat} {e o : Ed} (h : p.mate e = some o) : p.stepE e = p.nxt o := by unfold Pat.stepE; rw [h]
theorem Pat.fol_path {p : Pat} {K : Nat} (e : Ed) (h : ∀ j, j < K → (p.mate (pathOf p.stepE e j)).isSome = true) : ∀ f, p.fol (f + K) e = p.fol f (pathOf p.stepE e K) := by
  induction K with
  | zero => intro f; rfl
  | succ K ih =>
    intro f
    have h1 := ih (fun j hj => h j (by omega)) (f + 1)
    rw [show f + (K + 1) = f + 1 + K from by omega, h1]
    have h2 := h K (by omega)
    obtain ⟨o, ho⟩ := Option.isSome_iff_exists.1 h2
    rw [Pat.fol_step ho]
    show _ = p.fol f (p.stepE (pathOf p.stepE e K))
    rw [Pat.stepE_some ho]
theorem Pat.on_lt {p : Pat} (h : p.Ok) {e : Ed} (he : p.on e) : 8 * e.1 + e.2 < 80 := by
  have h1 := (h.len e.1 he.1).2
  have h2 := he.2
  have h3 := he.1
  have h4 := h.n2
  omega
/-- From behind an open edge the way meets an open edge. -/
theorem Pat.Ok.fol_ends {p : Pat} (h : p.Ok) {e : Ed} (he : p.on e) (ho : p.mate e = none) : p.mate (p.fol 80 (p.nxt e)) = none := by
  obtain ⟨K, hK, h1, h2⟩ := path_ends_of (N := 80) (fun e : Ed => 8 * e.1 + e.2) p.stepE (fun e => (p.mate e).isSome) (fun a ha => by
      obtain ⟨o, ho⟩ := Option.isSome_iff_exists.1 ha
      exact Pat.on_lt h (h.mate_on ho).1) (fun a b ha hb hab => by
      obtain ⟨oa, ha⟩ := Option.isSome_iff_exists.1 ha
      obtain ⟨ob, hb⟩ := Option.isSome_iff_exists.1 hb
      have a1 := (h.mate_on ha).1
      have b1 := (h.mate_on hb).1
      have a2 := (h.len a.1 a1.1).2
      have b2 := (h.len b.1 b1.1).2
      have a3 := a1.2
      have b3 := b1.2
      have hab : 8 * a.1 + a.2 = 8 * b.1 + b.2 := hab
      exact Prod.ext (by omega) (by omega)) (fun a b ha hb hab => by
      obtain ⟨oa, ha⟩ := Option.isSome_iff_exists.1 ha
      obtain ⟨ob, hb⟩ := Option.isSome_iff_exists.1 hb
      unfold Pat.stepE at hab
      rw [ha, hb] at hab
      have e1 := Pat.nxt_inj (h.mate_on ha).2 (h.mate_on hb).2 hab
      have s1 := h.mate_sym ha
      have s2 := h.mate_sym hb
      rw [e1] at s1
      exact Option.some.inj (s1.symm.trans s2)) (p.nxt e) (fun a ha hab => by
      obtain ⟨oa, ha⟩ := Option.isSome_iff_exists.1 ha
      unfold Pat.stepE at hab
      rw [ha] at hab
      have e1 := Pat.nxt_inj (h.mate_on ha).2 he hab
      have s1 := h.mate_sym ha
      rw [e1, ho] at s1
      exact absurd s1 (by simp))
  have hn : p.mate (pathOf p.stepE (p.nxt e) K) = none := by simpa using h1
  have h3 := Pat.fol_path (p.nxt e) h2 (80 - K)
  rw [show 80 - K + K = 80 from by omega, Pat.fol_open hn] at h3
  rw [h3]
  exact hn
theorem Pat.Ok.fol_on {p : Pat} (h : p.Ok) : ∀ (f : Nat) {e : Ed}, p.on e → p.on (p.fol f e)
  | 0, _, he => he
  | f + 1, e, he => by
    unfold Pat.fol
    cases hm : p.mate e with
    | none => exact he
    | some o => exact h.fol_on f (Pat.nxt_on (h.mate_on hm).2)
/-- The open edge behind an open edge. -/
def Pat.turn (p : Pat) (e : Ed) : Ed := p.fol 80 (p.nxt e)
/-- The open edges that are done when a ring has been gone round. -/
def Pat.ring (p : Pat) : Nat → Ed → List Ed → List Ed
  | 0, _, done => done
  | f + 1, e, done => if e ∈ done then done else Pat.ring p f (p.turn e) (e :: done)
/-- The number of rings, and what is done. -/
def Pat.rings (p : Pat) (es : List Ed) : Nat → Nat × List Ed
  | 0 => (0, [])
  | k + 1 => let r := Pat.rings p es k
    (if es.getD k (0, 0) ∈ r.2 then r.1 else r.1 + 1, p.ring (81 - r.2.length) (es.getD k (0, 0)) r.2)
theorem Pat.ring_stop {p : Pat} {f : Nat} {e : Ed} {done : List Ed} (h : e ∈ done) : p.ring f e done = done := by
  cases f with
  | zero => rfl
  | succ f => unfold Pat.ring; rw [if_pos h]
theorem Pat.ring_step {p : Pat} {f : Nat} {e : Ed} {done : List Ed} (h : e ∉ done) : p.ring (f + 1) e done = p.ring f (p.turn e) (e :: done) := by
  show (if e ∈ done then done else p.ring f (p.turn e) (e :: done)) = _
  rw [if_neg h]
theorem nodup_lt : ∀ (N : Nat) (l : List Nat), l.Nodup → (∀ x ∈ l, x < N) → l.length ≤ N
  | 0, l, _, h => by
    cases l with
    | nil => simp
    | cons x l => exact absurd (h x (by simp)) (by omega)
  | N + 1, l, hn, h => by
    have h1 := nodup_lt N (l.filter (fun x => decide (x ≠ N))) (hn.filter _) (fun x hx => by
      simp only [List.mem_filter, decide_eq_true_eq] at hx
      have := h x hx.1
      omega)
    have h2 : l.length ≤ (l.filter (fun x => decide (x ≠ N))).length + 1 := by
      clear h h1
      induction l with
      | nil => simp
      | cons x l ih =>
        obtain ⟨hx, hl⟩ := List.nodup_cons.1 hn
        by_cases e : x = N
        · subst e
          have h3 : l.filter (fun y => decide (y ≠ x)) = l := List.filter_eq_self.2 (fun y hy => by simp only [decide_eq_true_eq]; exact fun e => hx (e ▸ hy))
          rw [List.filter_cons, if_neg (by simp), h3]
          simp
        · have := ih hl
          simp [e]
          simpa using this
    omega
/-- Edges without repeats are few. -/
theorem Pat.Ok.few {p : Pat} (h : p.Ok) {l : List Ed} (hn : l.Nodup) (hl : ∀ e ∈ l, p.on e) : l.length ≤ 80 := by
  have h1 := nodup_lt 80 (l.map fun e => 8 * e.1 + e.2) (by
    rw [List.nodup_iff_pairwise_ne, List.pairwise_map]
    refine List.Pairwise.imp_of_mem ?_ (List.nodup_iff_pairwise_ne.1 hn)
    intro a b ha hb hab e
    have a1 := hl a ha
    have b1 := hl b hb
    have a2 := (h.len a.1 a1.1).2
    have b2 := (h.len b.1 b1.1).2
    have a3 := a1.2
    have b3 := b1.2
    exact hab (Prod.ext (by omega) (by omega))) (fun x hx => by
    obtain ⟨e, he, rfl⟩ := List.mem_map.1 hx
    exact Pat.on_lt h (hl e he))
  simpa using h1
end Go.Proofs.YthemlamdchcicaaGreatDoor

namespace Go.Proofs.YthemlamdchcicaaGreatDoor
open Go.ChangeShapes Go.WideShapes Go.ChangeAt Go.RowKit Go.Deep Go.ChangeMaps

def edV (e : Ed) : Value := .agg #[.int .i64 (e.1 : Int), .int .i64 (e.2 : Int)]
theorem edV_inj {e o : Ed} (h : edV e = edV o) : e = o := by
  unfold edV at h
  simp only [Value.agg.injEq, Array.mk.injEq, List.cons.injEq, Value.int.injEq, true_and, and_true] at h
  exact Prod.ext (by omega) (by omega)
def small (e : Ed) : Prop := e.1 < 1000 ∧ e.2 < 1000
theorem wf_small {n : Nat} (h : n < 1000) : (Lit.int .i64 (n : Int)).wf = true := by
  have h1 : IntKind.i64.min = -9223372036854775808 := by decide
  have h2 : IntKind.i64.max = 9223372036854775807 := by decide
  simp only [Lit.wf, Bool.and_eq_true, decide_eq_true_eq]
  omega
theorem wideEd : (match Tryz.prog.underlying 126 with | some (.array _ _) | some (.struct _) => true | _ => false) = true := by rw [Tryz.underlying126]
set_option maxRecDepth 100000 in
theorem rowEd : (126 : TypeId) < Tryz.prog.types.size := of_decide_eq_true (by kernel_rfl)
theorem atEd : Tryz.prog.keyTypeAt 3 126 = true := by kernel_rfl
set_option maxRecDepth 100000 in
theorem keyedEd : Maps.Keyed Tryz.prog 126 := Maps.Keyed.of_law (deep_law_laid laidOut (m := 3) (by omega) rowEd atEd wideEd)
theorem keyType_ed : Tryz.prog.keyType 126 = true := by kernel_rfl
theorem cells_ed : Tryz.prog.cellsOf 126 = 2 := by kernel_rfl
theorem cells_i : Tryz.prog.cellsOf 2 = 1 := by kernel_rfl
theorem tsize : ∃ m, Tryz.prog.types.size = m + 1 := ⟨Tryz.prog.types.size - 1, by have : 0 < Tryz.prog.types.size := of_decide_eq_true (by kernel_rfl); omega⟩
theorem keyOf_ed {e : Ed} (h : small e) : ∃ l, keyOf Tryz.prog 126 (edV e) = some l := by
  have wa := wf_small h.1
  have wb := wf_small h.2
  obtain ⟨m, hm⟩ := tsize
  refine ⟨.string (keyBytes [.int .i64 (e.1 : Int), .int .i64 (e.2 : Int)]), ?_⟩
  unfold keyOf edV
  simp only [Tryz.underlying126]
  rw [if_pos (by simp [keyType_ed, Value.formed, Tryz.underlying126, cells_ed]), hm]
  unfold Program.keyLits
  simp only [Tryz.underlying126, Value.cells]
  rw [if_pos (by rw [cells_ed]; exact ⟨rfl, by simp⟩)]
  simp [cells_i, Program.keyLits, Tryz.underlying2, wa, wb]

/-- The block b is a map with the entries ps. -/
def MapRow (w : World) (b : Nat) (ps : List (Ed × Value)) : Prop :=
  ∃ es clock, w.heap[b]? = some (.map es clock) ∧ es.toList.map (fun x => (x.key, x.val)) = ps.map (fun q => (edV q.1, q.2)) ∧ ∀ q ∈ ps, small q.1
theorem MapRow.lt {w : World} {b : Nat} {ps : List (Ed × Value)} (h : MapRow w b ps) : b < w.heap.size := by
  obtain ⟨es, clock, hb, _⟩ := h
  exact (Array.getElem?_eq_some_iff.1 hb).1
theorem MapRow.grown {w w' : World} {b : Nat} {ps : List (Ed × Value)} {row : Option Nat} (h : MapRow w b ps) (hg : w.grownBy w' row) (hne : row ≠ some b) : MapRow w' b ps := by
  have hlt := h.lt
  obtain ⟨es, clock, hb, r⟩ := h
  exact ⟨es, clock, (hg.block b hlt (fun e => hne e.symm)).trans hb, r⟩
theorem MapRow.below {w w' : World} {b : Nat} {ps : List (Ed × Value)} (h : MapRow w b ps) (hb : Below w.heap.size w w') : MapRow w' b ps := by
  have hlt := h.lt
  obtain ⟨es, clock, hh, r⟩ := h
  exact ⟨es, clock, (hb.block b hlt).trans hh, r⟩
theorem MapRow.made (w : World) : MapRow (w.alloc (.map #[] 0)) w.heap.size [] := ⟨#[], 0, (MapKept.heap_alloc w _).1, rfl, by simp⟩
theorem MapRow.keys {ps : List (Ed × Value)} {es : Array MapEntry} (h : es.toList.map (fun x => (x.key, x.val)) = ps.map (fun q => (edV q.1, q.2))) (hs : ∀ q ∈ ps, small q.1) : ∀ x ∈ es.toList, ∃ l, keyOf Tryz.prog 126 x.key = some l := by
  intro x hx
  have h1 : (x.key, x.val) ∈ es.toList.map (fun x => (x.key, x.val)) := List.mem_map.2 ⟨x, hx, rfl⟩
  rw [h] at h1
  obtain ⟨q, hq, e⟩ := List.mem_map.1 h1
  simp only [Prod.mk.injEq] at e
  rw [← e.1]
  exact keyOf_ed (hs q hq)
theorem MapRow.look {w : World} {b : Nat} {ps : List (Ed × Value)} (h : MapRow w b ps) (c : Bool) {t el : TypeId} (ht : Tryz.prog.underlying t = some (.map 126 el)) {z : Value} (hz : (zeroValue el).run Tryz.prog w = .ok z w) {e : Ed} (he : small e) :
    (∃ v, (e, v) ∈ ps ∧ (Instr.lookup t (.map (some b)) (edV e) c).run Tryz.prog w = .ok (if c then .tuple #[v, .bool true] else v) w) ∨
    ((∀ v, (e, v) ∉ ps) ∧ (Instr.lookup t (.map (some b)) (edV e) c).run Tryz.prog w = .ok (if c then .tuple #[z, .bool false] else z) w) := by
  obtain ⟨es, clock, hb, hps, hs⟩ := h
  obtain ⟨l, hkey⟩ := keyOf_ed he
  have K := keyedEd
  rcases K.find w hkey es.toList (MapRow.keys hps hs) with ⟨h1, h2⟩ | ⟨j, e0, h1, h2, h3⟩
  · refine .inr ⟨fun v hv => ?_, by simp [Instr.lookup, run_underlying ht, MapKept.run_getObj_map hb, K.check w _ hkey, h1, hz, Result.andThen]⟩
    have h4 : (edV e, v) ∈ ps.map (fun q => (edV q.1, q.2)) := List.mem_map.2 ⟨_, hv, rfl⟩
    rw [← hps] at h4
    obtain ⟨x, hx, e1⟩ := List.mem_map.1 h4
    simp only [Prod.mk.injEq] at e1
    exact h2 x hx e1.1
  · refine .inl ⟨e0.val, ?_, by simp [Instr.lookup, run_underlying ht, MapKept.run_getObj_map hb, K.check w _ hkey, h1, Result.andThen]⟩
    have h4 : (e0.key, e0.val) ∈ es.toList.map (fun x => (x.key, x.val)) := List.mem_map.2 ⟨e0, List.mem_of_getElem? h2, rfl⟩
    rw [hps] at h4
    obtain ⟨q, hq, e1⟩ := List.mem_map.1 h4
    simp only [Prod.mk.injEq] at e1
    rw [h3] at e1
    have e2 := edV_inj e1.1
    rw [← e1.2, ← e2]
    exact hq
theorem MapRow.store {w : World} {b : Nat} {ps : List (Ed × Value)} (h : MapRow w b ps) {t el : TypeId} (ht : Tryz.prog.underlying t = some (.map 126 el)) {e : Ed} (he : small e) (hnew : ∀ v, (e, v) ∉ ps) (v : Value) :
    ∃ w', (Instr.mapUpdate t (.map (some b)) (edV e) v).run Tryz.prog w = .ok () w' ∧ MapRow w' b (ps ++ [(e, v)]) ∧ w.grownBy w' (some b) := by
  obtain ⟨es, clock, hb, hps, hs⟩ := h
  obtain ⟨l, hkey⟩ := keyOf_ed he
  have K := keyedEd
  rcases K.find w hkey es.toList (MapRow.keys hps hs) with ⟨h1, h2⟩ | ⟨j, e0, h1, h2, h3⟩
  · refine ⟨setBlock w b (.map (es.push ⟨edV e, v, clock⟩) (clock + 1)), by simp [Instr.mapUpdate, run_underlying ht, MapKept.run_getObj_map hb, K.check w false hkey, h1, MapKept.run_setObj_map _ hb, Result.andThen, setBlock], ⟨_, _, heap_setBlock_same hb _, ?_, ?_⟩, ?_⟩
    · rw [Array.toList_push, List.map_append, List.map_append, hps]
      rfl
    · intro q hq
      simp only [List.mem_append, List.mem_singleton] at hq
      rcases hq with hq | rfl
      · exact hs q hq
      · exact he
    · exact ⟨rfl, rfl, rfl, by simp [setBlock], fun i _ hi => heap_setBlock_other hb _ (fun e => hi (by rw [e]))⟩
  · exfalso
    have h4 : (e0.key, e0.val) ∈ es.toList.map (fun x => (x.key, x.val)) := List.mem_map.2 ⟨e0, List.mem_of_getElem? h2, rfl⟩
    rw [hps] at h4
    obtain ⟨q, hq, e1⟩ := List.mem_map.1 h4
    simp only [Prod.mk.injEq] at e1
    rw [h3] at e1
    have e2 := edV_inj e1.1
    exact hnew e0.val (by rw [← e1.2, ← e2]; exact hq)
theorem MapRow.len {w : World} {b : Nat} {ps : List (Ed × Value)} (h : MapRow w b ps) {t el : TypeId} (ht : Tryz.prog.underlying t = some (.map 126 el)) (ty : TypeId) : (Builtin.len_ #[t] ty #[.map (some b)]).run Tryz.prog w = .ok (.int .i64 (ps.length : Int)) w := by
  obtain ⟨es, clock, hb, hps, _⟩ := h
  have e1 : es.size = ps.length := by
    have := congrArg List.length hps
    simpa using this
  rw [← e1]
  simp [Builtin.len_, run_underlying ht, MapKept.run_getObj_map hb, goInt, Result.andThen]

/-! At the operation. -/
section
variable (w : World) {ops : Array Oper} {rest : List Oper} {o : Oper} {a : Act} {Q : Exit → Act → World → Prop}
theorem wpList_len_ed (hg : o.guard = none) (m : Operand) (t : TypeId) (hop : o.op = Op.call { callee := Callee.builtin Builtin.len, args := #[m], argTypes := #[t] })
    (el : TypeId) (ht : Tryz.prog.underlying t = some (.map 126 el)) (b : Nat) (ps : List (Ed × Value)) (hm : a.eval m = .map (some b)) (h : MapRow w b ps)
    (hK : wpList Tryz.prog ops Q rest (a.put o.dst (.int .i64 (ps.length : Int))) w) : wpList Tryz.prog ops Q (o :: rest) a w := by
  refine wpList_plain hg fun K' hK' => ?_
  unfold Oper.wp
  simp [execOp, hop, resolve, invoke, builtin, hm, h.len ht o.type, Result.andThen]
  exact hK' _ _ hK
theorem wpList_store_ed (hg : o.guard = none) (m x v : Operand) (t : TypeId) (hop : o.op = Op.mapUpdate t m x v)
    (el : TypeId) (ht : Tryz.prog.underlying t = some (.map 126 el)) (b : Nat) (ps : List (Ed × Value)) (hm : a.eval m = .map (some b)) (h : MapRow w b ps)
    (e : Ed) (he : small e) (hnew : ∀ v, (e, v) ∉ ps) (val : Value) (hx : a.eval x = edV e) (hv : a.eval v = val)
    (hK : ∀ w', MapRow w' b (ps ++ [(e, val)]) → w.grownBy w' (some b) → wpList Tryz.prog ops Q rest (a.put o.dst undef) w') :
    wpList Tryz.prog ops Q (o :: rest) a w := by
  refine wpList_plain hg fun K' hK' => ?_
  obtain ⟨w', hrun, r1, r2⟩ := h.store ht he hnew val
  unfold Oper.wp
  simp [execOp, hop, hm, hx, hv, hrun, Result.andThen]
  exact hK' _ _ (hK w' r1 r2)
theorem wpList_look_ed (hg : o.guard = none) (c : Bool) (m x : Operand) (t : TypeId) (hop : o.op = Op.lookup t m x c) (b : Nat) (hm : a.eval m = .map (some b)) (e : Ed) (hx : a.eval x = edV e) (u : Value) (hrun : (Instr.lookup t (.map (some b)) (edV e) c).run Tryz.prog w = .ok u w)
    (hK : wpList Tryz.prog ops Q rest (a.put o.dst u) w) : wpList Tryz.prog ops Q (o :: rest) a w := by
  refine wpList_plain hg fun K' hK' => ?_
  unfold Oper.wp
  simp [execOp, hop, hm, hx, hrun, Result.andThen]
  exact hK' _ _ hK
end

/-- The map of mates of the first K seams. -/
def PairsAt (w : World) (b : Nat) (p : Pat) (K : Nat) : Prop := ∃ ps, MapRow w b ps ∧ ps.length = 2 * K ∧ ∀ e v, (e, v) ∈ ps ↔ ∃ o, p.mateTo K e = some o ∧ v = edV o
theorem PairsAt.grown {w w' : World} {b K : Nat} {p : Pat} {row : Option Nat} (h : PairsAt w b p K) (hg : w.grownBy w' row) (hne : row ≠ some b) : PairsAt w' b p K := by
  obtain ⟨ps, h1, r⟩ := h
  exact ⟨ps, h1.grown hg hne, r⟩
theorem PairsAt.below {w w' : World} {b K : Nat} {p : Pat} (h : PairsAt w b p K) (hb : Below w.heap.size w w') : PairsAt w' b p K := by
  obtain ⟨ps, h1, r⟩ := h
  exact ⟨ps, h1.below hb, r⟩
theorem PairsAt.lt {w : World} {b K : Nat} {p : Pat} (h : PairsAt w b p K) : b < w.heap.size := by
  obtain ⟨ps, h1, r⟩ := h
  exact h1.lt
theorem PairsAt.made (w : World) (p : Pat) : PairsAt (w.alloc (.map #[] 0)) w.heap.size p 0 := ⟨[], MapRow.made w, rfl, fun e v => by simp [Pat.mateTo]⟩
theorem PairsAt.look {w : World} {b K : Nat} {p : Pat} (h : PairsAt w b p K) {t : TypeId} (ht : Tryz.prog.underlying t = some (.map 126 126)) {e : Ed} (he : small e) :
    (Instr.lookup t (.map (some b)) (edV e) true).run Tryz.prog w = .ok (match p.mateTo K e with | some o => .tuple #[edV o, .bool true] | none => .tuple #[edV (0, 0), .bool false]) w := by
  obtain ⟨ps, h1, _, h2⟩ := h
  rcases h1.look true ht (z := edV (0, 0)) (by kernel_rfl) he with ⟨v, hv, hr⟩ | ⟨hv, hr⟩
  · obtain ⟨o, ho, rfl⟩ := (h2 e v).1 hv
    rw [hr, ho]
    rfl
  · cases hm : p.mateTo K e with
    | none => rw [hr]; rfl
    | some o => exact absurd ((h2 e _).2 ⟨o, hm, rfl⟩) (hv _)
theorem PairsAt.more {w : World} {b K : Nat} {p : Pat} (h : PairsAt w b p K) (hp : p.Ok) (hK : K < p.m) : ∃ ps, MapRow w b ps ∧ (∀ v, (p.a K, v) ∉ ps) ∧ (∀ v, (p.b K, v) ∉ ps ++ [(p.a K, edV (p.b K))]) ∧
    ∀ w', MapRow w' b ((ps ++ [(p.a K, edV (p.b K))]) ++ [(p.b K, edV (p.a K))]) → PairsAt w' b p (K + 1) := by
  obtain ⟨ps, h1, h0, h2⟩ := h
  have na : p.mateTo K (p.a K) = none := Pat.mateTo_none.2 (fun k hk => by
    obtain ⟨r1, r2, r3, r4⟩ := hp.aa k K hk hK
    exact ⟨fun e => r1 e.symm, fun e => r3 e.symm⟩)
  have nb : p.mateTo K (p.b K) = none := Pat.mateTo_none.2 (fun k hk => by
    obtain ⟨r1, r2, r3, r4⟩ := hp.aa k K hk hK
    exact ⟨fun e => r2 e.symm, fun e => r4 e.symm⟩)
  have hab := hp.ab K hK
  refine ⟨ps, h1, fun v hv => ?_, fun v hv => ?_, fun w' h3 => ⟨_, h3, by simp; omega, fun e v => ?_⟩⟩
  · obtain ⟨o, ho, _⟩ := (h2 _ v).1 hv
    rw [na] at ho
    cases ho
  · simp only [List.mem_append, List.mem_singleton, Prod.mk.injEq] at hv
    rcases hv with hv | ⟨hv, _⟩
    · obtain ⟨o, ho, _⟩ := (h2 _ v).1 hv
      rw [nb] at ho
      cases ho
    · exact hab hv.symm
  · simp only [List.mem_append, List.mem_singleton, Prod.mk.injEq]
    have hu : p.mateTo (K + 1) e = if e = p.b K then some (p.a K) else if e = p.a K then some (p.b K) else p.mateTo K e := rfl
    rw [hu]
    by_cases e1 : e = p.b K
    · rw [if_pos e1]
      subst e1
      constructor
      · rintro ((hv | ⟨hv, _⟩) | ⟨_, rfl⟩)
        · obtain ⟨o, ho, _⟩ := (h2 _ v).1 hv
          rw [nb] at ho
          cases ho
        · exact absurd hv.symm hab
        · exact ⟨_, rfl, rfl⟩
      · rintro ⟨o, ho, rfl⟩
        cases ho
        exact .inr ⟨rfl, rfl⟩
    · rw [if_neg e1]
      by_cases e2 : e = p.a K
      · rw [if_pos e2]
        subst e2
        constructor
        · rintro ((hv | ⟨_, rfl⟩) | ⟨hv, _⟩)
          · obtain ⟨o, ho, _⟩ := (h2 _ v).1 hv
            rw [na] at ho
            cases ho
          · exact ⟨_, rfl, rfl⟩
          · exact absurd hv e1
        · rintro ⟨o, ho, rfl⟩
          cases ho
          exact .inl (.inr ⟨rfl, rfl⟩)
      · rw [if_neg e2, ← h2 e v]
        constructor
        · rintro ((hv | ⟨hv, _⟩) | ⟨hv, _⟩)
          · exact hv
          · exact absurd hv e2
          · exact absurd hv e1
        · exact fun hv => .inl (.inl hv)
/-- The set of the edges that are done. -/
def DoneAt (w : World) (b : Nat) (done : List Ed) : Prop := MapRow w b (done.reverse.map fun e => (e, .bool true))
theorem DoneAt.look {w : World} {b : Nat} {done : List Ed} (h : DoneAt w b done) {t : TypeId} (ht : Tryz.prog.underlying t = some (.map 126 4)) {e : Ed} (he : small e) :
    (Instr.lookup t (.map (some b)) (edV e) false).run Tryz.prog w = .ok (.bool (decide (e ∈ done))) w := by
  rcases MapRow.look h false ht (z := .bool false) (by kernel_rfl) he with ⟨v, hv, hr⟩ | ⟨hv, hr⟩
  · simp only [List.mem_map, List.mem_reverse, Prod.mk.injEq] at hv
    obtain ⟨a, ha, rfl, rfl⟩ := hv
    rw [hr, decide_eq_true ha]
    rfl
  · have hn : e ∉ done := fun hm => hv (.bool true) (List.mem_map.2 ⟨e, by simpa using hm, rfl⟩)
    rw [hr, decide_eq_false hn]
    rfl
theorem DoneAt.new {done : List Ed} {e : Ed} (he : e ∉ done) : ∀ v : Value, (e, v) ∉ done.reverse.map fun e => (e, Value.bool true) := by
  intro v hv
  simp only [List.mem_map, List.mem_reverse, Prod.mk.injEq] at hv
  obtain ⟨a, ha, rfl, _⟩ := hv
  exact he ha
theorem DoneAt.of_store {w : World} {b : Nat} {done : List Ed} {e : Ed} (h : MapRow w b ((done.reverse.map fun e => (e, Value.bool true)) ++ [(e, .bool true)])) : DoneAt w b (e :: done) := by
  unfold DoneAt
  simpa using h
end Go.Proofs.YthemlamdchcicaaGreatDoor

namespace Go.Proofs.YthemlamdchcicaaGreatDoor
open Go.ChangeShapes Go.WideShapes Go.ChangeAt Go.RowKit Go.Deep

/-- The pieces lie at aP. -/
def PcsAt (w : World) (p : Pat) (aP : Option Addr) : Prop :=
  ∃ b o, aP = some ⟨b, o, none⟩ ∧ b < w.heap.size ∧ ∀ i, i < p.n → w.cell? ⟨b, o + i * 2, none⟩ = some (.string (p.name i)) ∧ ∃ g q c, w.cell? ⟨b, o + i * 2 + 1, none⟩ = some (.slice (some ⟨g, q, none⟩) (p.len i) c) ∧ p.len i ≤ c ∧ g < w.heap.size ∧
    ∀ j, j < p.len i → w.cell? ⟨g, q + j, none⟩ = some (.int .i64 (p.val i j))
theorem PcsAt.below {w w' : World} {p : Pat} {aP : Option Addr} (h : PcsAt w p aP) (hb : Below w.heap.size w w') : PcsAt w' p aP := by
  obtain ⟨b, o, rfl, h1, h2⟩ := h
  refine ⟨b, o, rfl, Nat.lt_of_lt_of_le h1 hb.size, fun i hi => ?_⟩
  obtain ⟨h3, g, q, c, h4, h5, h6, h7⟩ := h2 i hi
  exact ⟨(hb.cell (p := ⟨b, o + i * 2, none⟩) h1).trans h3, g, q, c, (hb.cell (p := ⟨b, o + i * 2 + 1, none⟩) h1).trans h4, h5, Nat.lt_of_lt_of_le h6 hb.size, fun j hj => (hb.cell (p := ⟨g, q + j, none⟩) h6).trans (h7 j hj)⟩
/-- The seams lie at aS. -/
def SmsAt (w : World) (p : Pat) (aS : Option Addr) : Prop :=
  p.m = 0 ∨ ∃ b o, aS = some ⟨b, o, none⟩ ∧ b < w.heap.size ∧ ∀ k, k < p.m → w.cell? ⟨b, o + k * 4, none⟩ = some (.int .i64 ((p.a k).1 : Int)) ∧ w.cell? ⟨b, o + k * 4 + 1, none⟩ = some (.int .i64 ((p.a k).2 : Int)) ∧
    w.cell? ⟨b, o + k * 4 + 2, none⟩ = some (.int .i64 ((p.b k).1 : Int)) ∧ w.cell? ⟨b, o + k * 4 + 3, none⟩ = some (.int .i64 ((p.b k).2 : Int))
theorem SmsAt.below {w w' : World} {p : Pat} {aS : Option Addr} (h : SmsAt w p aS) (hb : Below w.heap.size w w') : SmsAt w' p aS := by
  rcases h with h | ⟨b, o, rfl, h1, h2⟩
  · exact .inl h
  · refine .inr ⟨b, o, rfl, Nat.lt_of_lt_of_le h1 hb.size, fun k hk => ?_⟩
    obtain ⟨h3, h4, h5, h6⟩ := h2 k hk
    exact ⟨(hb.cell (p := ⟨b, o + k * 4, none⟩) h1).trans h3, (hb.cell (p := ⟨b, o + k * 4 + 1, none⟩) h1).trans h4, (hb.cell (p := ⟨b, o + k * 4 + 2, none⟩) h1).trans h5, (hb.cell (p := ⟨b, o + k * 4 + 3, none⟩) h1).trans h6⟩
def PatAt (w : World) (p : Pat) (aP aS : Option Addr) : Prop := PcsAt w p aP ∧ SmsAt w p aS
theorem PatAt.below {w w' : World} {p : Pat} {aP aS : Option Addr} (h : PatAt w p aP aS) (hb : Below w.heap.size w w') : PatAt w' p aP aS := ⟨h.1.below hb, h.2.below hb⟩
theorem Pat.Ok.small {p : Pat} (h : p.Ok) {e : Ed} (he : p.on e) : small e := by
  have h1 := (h.len e.1 he.1).2
  have h2 := he.2
  have h3 := he.1
  have h4 := h.n2
  exact ⟨by omega, by omega⟩

theorem Obx.two {W : World} {B q E : Nat} {a b u v : Value} (h : Obx W B q E 2 [a, b]) : ((W.setCell ⟨q, 0, none⟩ u).setCell ⟨q, 1, none⟩ v).cell? ⟨q, 0, none⟩ = some u ∧ ((W.setCell ⟨q, 0, none⟩ u).setCell ⟨q, 1, none⟩ v).cell? ⟨q, 1, none⟩ = some v :=
  ⟨Obx.cell (show Obx ((W.setCell ⟨q, 0, none⟩ u).setCell ⟨q, 1, none⟩ v) B q E 2 [u, v] from (h.set 0 u).set 1 v) 0 (by omega), Obx.cell (show Obx ((W.setCell ⟨q, 0, none⟩ u).setCell ⟨q, 1, none⟩ v) B q E 2 [u, v] from (h.set 0 u).set 1 v) 1 (by omega)⟩
theorem Obx.set2 {W : World} {B q E : Nat} {a b u v : Value} (h : Obx W B q E 2 [a, b]) : Obx ((W.setCell ⟨q, 0, none⟩ u).setCell ⟨q, 1, none⟩ v) B q E 2 [u, v] := (h.set 0 u).set 1 v
set_option maxHeartbeats 1600000 in
theorem sides_any (x y u v : Int) (w : World) : Calls Tryz.prog 77 #[.agg #[.int .i64 x, .int .i64 y, .int .i64 u, .int .i64 v]] w fun e w' => e = .returned (.tuple #[.agg #[.int .i64 x, .int .i64 y], .agg #[.int .i64 u, .int .i64 v]]) ∧ Below w.heap.size w w' := by
  go_enter Tryz.func77, Tryz.ntmps77
  go_wp2_with fail
  go_big_region
  all_goals go_wp2_with fail
  all_goals exact bodyPost_ret (v := .tuple #[.agg #[.int .i64 x, .int .i64 y], .agg #[.int .i64 u, .int .i64 v]]) (by simp [results, Tryz.results77, go_sem]) rfl ⟨rfl, (by repeat (first | exact Below.refl _ _ | assumption | refine Below.drew ?_ | refine below_drewN ?_ _ | refine Below.alloc ?_ (by simp; try omega) _ | refine Below.setCell ?_ (by simp; try omega) _))⟩
set_option maxHeartbeats 1600000 in
theorem length_any (p : Pat) (aP aS : Option Addr) (cP cS : Nat) (op : Int) (e : Ed) (he : p.on e) (w : World) (h : PcsAt w p aP) :
    Calls Tryz.prog 75 #[.agg #[.slice aP p.n cP, .slice aS p.m cS, .int .i64 op], edV e] w fun r w' => r = .returned (.int .i64 (p.val e.1 e.2)) ∧ Below w.heap.size w w' := by
  obtain ⟨x, y⟩ := e
  obtain ⟨b, o, rfl, h1, h2⟩ := h
  obtain ⟨h3, g, q, c, h4, h5, h6, h7⟩ := h2 x he.1
  have h8 := h7 y he.2
  have hx : x < p.n := he.1
  have hy : y < p.len x := he.2
  show Calls Tryz.prog 75 #[.agg #[.slice (some ⟨b, o, none⟩) p.n cP, .slice aS p.m cS, .int .i64 op], .agg #[.int .i64 (x : Int), .int .i64 (y : Int)]] w fun r w' => r = .returned (.int .i64 (p.val x y)) ∧ Below w.heap.size w w'
  generalize p.n = n at hx ⊢
  generalize p.len x = L at hy h4 h5
  generalize p.val x y = z at h8 ⊢
  have hx2 : (x : Int) < (n : Int) := by omega
  have hy2 : (y : Int) < (L : Int) := by omega
  clear h2 h7 h3 he
  go_enter Tryz.func75, Tryz.ntmps75
  go_wp2_with fail
  go_big_quiet (fail)
  go_wp2_with fail
  go_ret
  exact ⟨rfl, (by repeat (first | exact Below.refl _ _ | assumption | refine Below.drew ?_ | refine below_drewN ?_ _ | refine Below.alloc ?_ (by simp; try omega) _ | refine Below.setCell ?_ (by simp; try omega) _))⟩
end Go.Proofs.YthemlamdchcicaaGreatDoor

namespace Go.Proofs.YthemlamdchcicaaGreatDoor
open Go.ChangeShapes Go.WideShapes Go.ChangeAt Go.RowKit Go.Deep Go.Shelf

set_option maxHeartbeats 1600000 in
theorem next_ed (p : Pat) (aP aS : Option Addr) (cP cS : Nat) (op : Int) (e : Ed) (he : p.on e) (hl : p.len e.1 ≤ 8) (w : World) (h : PcsAt w p aP) :
    Calls Tryz.prog 76 #[.agg #[.slice aP p.n cP, .slice aS p.m cS, .int .i64 op], edV e] w fun r w' => r = .returned (edV (p.nxt e)) ∧ Below w.heap.size w w' := by
  obtain ⟨x, y⟩ := e
  obtain ⟨b, o, rfl, h1, h2⟩ := h
  obtain ⟨h3, g, q, c, h4, h5, h6, h7⟩ := h2 x he.1
  have hx : x < p.n := he.1
  have hy : y < p.len x := he.2
  have hl : p.len x ≤ 8 := hl
  show Calls Tryz.prog 76 #[.agg #[.slice (some ⟨b, o, none⟩) p.n cP, .slice aS p.m cS, .int .i64 op], .agg #[.int .i64 (x : Int), .int .i64 (y : Int)]] w fun r w' => r = .returned (.agg #[.int .i64 (x : Int), .int .i64 (((y + 1) % p.len x : Nat) : Int)]) ∧ Below w.heap.size w w'
  generalize p.n = n at hx ⊢
  generalize p.len x = L at hy hl h4 h5 ⊢
  obtain ⟨z, hz⟩ : ∃ z : Int, ((y : Int) + 1) % (L : Int) = z := ⟨_, rfl⟩
  rw [show (((y + 1) % L : Nat) : Int) = z from by rw [← hz]; simp]
  have hx2 : (x : Int) < (n : Int) := by omega
  have hL : (L : Int) ≠ 0 := by omega
  have HZ := Lib.hid hz
  clear h2 h7 h3 he hz
  obtain ⟨W, hW⟩ : ∃ W, ((w.alloc (.cells #[.slice (some ⟨b, o, none⟩) n cP, .slice aS p.m cS, .int .i64 op] 41)).alloc (.cells #[.int .i64 (x : Int), .int .i64 (y : Int)] 126)).alloc (.cells #[.int .i64 0, .int .i64 0] 126) = W := ⟨_, rfl⟩
  have hB : Below w.heap.size w W := by rw [← hW]; exact (by repeat (first | exact Below.refl _ _ | assumption | refine Below.drew ?_ | refine below_drewN ?_ _ | refine Below.alloc ?_ (by simp; try omega) _ | refine Below.setCell ?_ (by simp; try omega) _))
  have c5 := (hB.cell (p := ⟨b, o + x * 2 + 1, none⟩) h1).trans h4
  have c0 : W.cell? ⟨w.heap.size, 0, none⟩ = some (.slice (some ⟨b, o, none⟩) n cP) := by rw [← hW]; simp [go_sem]
  have c1 : W.cell? ⟨w.heap.size + 1, 0, none⟩ = some (.int .i64 (x : Int)) := by rw [← hW]; simp [go_sem]
  have c2 : W.cell? ⟨w.heap.size + 1, 1, none⟩ = some (.int .i64 (y : Int)) := by rw [← hW]; simp [go_sem]
  have HQ := Lib.hid (show Obx W w.heap.size (w.heap.size + 1 + 1) 126 2 [.int .i64 0, .int .i64 0] by
    rw [← hW]
    simpa using Obx.new ((w.alloc (.cells #[.slice (some ⟨b, o, none⟩) n cP, .slice aS p.m cS, .int .i64 op] 41)).alloc (.cells #[.int .i64 (x : Int), .int .i64 (y : Int)] 126)) w.heap.size 126 2 #[.int .i64 0, .int .i64 0] (by simp; omega) rfl)
  have c3 : W.cell? ⟨w.heap.size + 1 + 1, 0, none⟩ = some (.int .i64 0) := HQ.out.cell 0 (by omega)
  have c4 : W.cell? ⟨w.heap.size + 1 + 1, 1, none⟩ = some (.int .i64 0) := HQ.out.cell 1 (by omega)
  have f3 := HQ.out.fr 0
  have f4 := HQ.out.fr 1
  have z4 := HQ.out.lt.2
  have HX := Lib.hid (HQ.out.two (u := .int .i64 (x : Int)) (v := .int .i64 z))
  have HW := Lib.hid hW
  have HB := Lib.hid hB
  clear hW hB h4 h1 h5 h6
  go_enter Tryz.func76, Tryz.ntmps76
  go_upto_region 1 with fail
  rw [HW.out]
  go_big_region
  all_goals go_wp2_with fail
  rw [HZ.out]
  obtain ⟨x0, x1⟩ := HX.out
  exact bodyPost_ret (v := .agg #[.int .i64 (x : Int), .int .i64 z]) (by simp [results, Tryz.results76, go_sem, x0, x1]) rfl ⟨rfl, (by repeat (first | exact HB.out | refine Below.drew ?_ | refine Below.setCell ?_ (by simp; try omega) _))⟩
set_option maxHeartbeats 1600000 in
theorem hasEdge_ok (p : Pat) (aP aS : Option Addr) (cP cS : Nat) (op : Int) (e : Ed) (he : p.on e) (hn : p.n ≤ 10) (hl : p.len e.1 ≤ 8) (w : World) (h : PcsAt w p aP) :
    Calls Tryz.prog 103 #[.agg #[.slice aP p.n cP, .slice aS p.m cS, .int .i64 op], edV e] w fun r w' => r = .returned (.bool true) ∧ Below w.heap.size w w' := by
  obtain ⟨x, y⟩ := e
  obtain ⟨b, o, rfl, h1, h2⟩ := h
  obtain ⟨h3, g, q, c, h4, h5, h6, h7⟩ := h2 x he.1
  have hx : x < p.n := he.1
  have hy : y < p.len x := he.2
  have hl : p.len x ≤ 8 := hl
  show Calls Tryz.prog 103 #[.agg #[.slice (some ⟨b, o, none⟩) p.n cP, .slice aS p.m cS, .int .i64 op], .agg #[.int .i64 (x : Int), .int .i64 (y : Int)]] w fun r w' => r = .returned (.bool true) ∧ Below w.heap.size w w'
  generalize p.n = n at hx hn ⊢
  generalize p.len x = L at hy hl h4 h5
  have hx2 : (x : Int) < (n : Int) := by omega
  have i1 : inB (x : Int) 0 ((n : Int) - 1) = true := inB_true.2 ⟨by omega, by omega⟩
  have i2 : inB (y : Int) 0 ((L : Int) - 1) = true := inB_true.2 ⟨by omega, by omega⟩
  have v1 : IntKind.i64.wrap ((n : Int) - 1) = (n : Int) - 1 := IntWalk.i64_in _ (by omega)
  have v2 : IntKind.i64.wrap ((L : Int) - 1) = (L : Int) - 1 := IntWalk.i64_in _ (by omega)
  clear h2 h7 h3 he
  go_enter Tryz.func103, Tryz.ntmps103
  go_wp2_with fail
  go_big_quiet ((go_at_call 53; first | exact quiet_left (callsB (within_any _ _ _ _) (by assumption)) | exact quiet_left (within_any _ _ _ _) | exact quiet_add_left (callsB (within_any _ _ _ _) (by assumption)) | exact quiet_add_left (within_any _ _ _ _)))
  go_wp2_with fail
  go_ret
  exact ⟨rfl, (by repeat (first | exact Below.refl _ _ | assumption | refine Below.drew ?_ | refine below_drewN ?_ _ | refine Below.alloc ?_ (by simp; try omega) _ | refine Below.setCell ?_ (by simp; try omega) _))⟩
end Go.Proofs.YthemlamdchcicaaGreatDoor

namespace Go.Proofs.YthemlamdchcicaaGreatDoor
open Go.ChangeShapes Go.WideShapes Go.ChangeAt Go.RowKit Go.Deep Go.Shelf

/-- A pattern in a box. -/
def PBox (W : World) (q : Nat) (aP : Option Addr) (n cP : Nat) (aS : Option Addr) (m cS : Nat) (op : Int) : Prop :=
  W.cell? ⟨q, 0, none⟩ = some (.slice aP n cP) ∧ W.cell? ⟨q, 1, none⟩ = some (.slice aS m cS) ∧ W.cell? ⟨q, 2, none⟩ = some (.int .i64 op) ∧ q < W.heap.size
theorem PBox.below {W W' : World} {q n cP m cS : Nat} {aP aS : Option Addr} {op : Int} (h : PBox W q aP n cP aS m cS op) (hb : Below W.heap.size W W') : PBox W' q aP n cP aS m cS op :=
  ⟨(hb.cell (p := ⟨q, 0, none⟩) h.2.2.2).trans h.1, (hb.cell (p := ⟨q, 1, none⟩) h.2.2.2).trans h.2.1, (hb.cell (p := ⟨q, 2, none⟩) h.2.2.2).trans h.2.2.1, Nat.lt_of_lt_of_le h.2.2.2 hb.size⟩
theorem PBox.new (w : World) (aP : Option Addr) (n cP : Nat) (aS : Option Addr) (m cS : Nat) (op : Int) : PBox (w.alloc (.cells #[.slice aP n cP, .slice aS m cS, .int .i64 op] 41)) w.heap.size aP n cP aS m cS op :=
  ⟨by simp [go_sem], by simp [go_sem], by simp [go_sem], by simp⟩

set_option maxHeartbeats 3200000 in
theorem hasSeam_ok (p : Pat) (hp : p.Ok) (aP aS : Option Addr) (cP cS : Nat) (op : Int) (k : Nat) (hk : k < p.m) (w : World) (h : PcsAt w p aP) :
    Calls Tryz.prog 72 #[.agg #[.slice aP p.n cP, .slice aS p.m cS, .int .i64 op], .agg #[.int .i64 ((p.a k).1 : Int), .int .i64 ((p.a k).2 : Int), .int .i64 ((p.b k).1 : Int), .int .i64 ((p.b k).2 : Int)]] w fun r w' => r = .returned (.bool true) ∧ Below w.heap.size w w' := by
  obtain ⟨ha, hb⟩ := hp.on k hk
  have HA := Lib.hid (fun W (hb : Below w.heap.size w W) => hasEdge_ok p aP aS cP cS op (p.a k) ha hp.n2 (hp.len _ ha.1).2 W (h.below hb))
  have HB := Lib.hid (fun W (hb' : Below w.heap.size w W) => hasEdge_ok p aP aS cP cS op (p.b k) hb hp.n2 (hp.len _ hb.1).2 W (h.below hb'))
  unfold edV at HA HB
  generalize ((p.a k).1 : Int) = x at HA ⊢
  generalize ((p.a k).2 : Int) = y at HA ⊢
  generalize ((p.b k).1 : Int) = u at HB ⊢
  generalize ((p.b k).2 : Int) = v at HB ⊢
  have HP := Lib.hid (PBox.new w aP p.n cP aS p.m cS op)
  clear h ha hb hk
  obtain ⟨W, hW⟩ : ∃ W, (w.alloc (.cells #[.slice aP p.n cP, .slice aS p.m cS, .int .i64 op] 41)).alloc (.cells #[.int .i64 x, .int .i64 y, .int .i64 u, .int .i64 v] 110) = W := ⟨_, rfl⟩
  have HB1 := Lib.hid (show Bel w.heap.size w W by rw [← hW]; exact ((Bel.refl w).alloc _).alloc _)
  have HP1 := Lib.hid (show PBox W w.heap.size aP p.n cP aS p.m cS op by rw [← hW]; exact HP.out.below ((Bel.refl _).alloc _).1)
  have c0 : W.cell? ⟨w.heap.size + 1, 0, none⟩ = some (.int .i64 x) := by rw [← hW]; simp [go_sem]
  have c1 : W.cell? ⟨w.heap.size + 1, 1, none⟩ = some (.int .i64 y) := by rw [← hW]; simp [go_sem]
  have c2 : W.cell? ⟨w.heap.size + 1, 2, none⟩ = some (.int .i64 u) := by rw [← hW]; simp [go_sem]
  have c3 : W.cell? ⟨w.heap.size + 1, 3, none⟩ = some (.int .i64 v) := by rw [← hW]; simp [go_sem]
  have HW := Lib.hid hW
  clear hW HP
  go_enter Tryz.func72, Tryz.ntmps72
  go_upto_region 1 with fail
  rw [HW.out]
  go_wp2_with fail
  refine (sides_any x y u v W).mono ?_
  rintro e w1 ⟨rfl, hb1⟩
  have HB2 := Lib.hid (HB1.out.step hb1)
  obtain ⟨p0, p1, p2, p3⟩ := HP1.out.below hb1
  clear hb1 c0 c1 c2 c3
  go_wp2_with fail
  refine (HA.out _ (by repeat (first | exact HB2.out.1 | refine Below.drew ?_ | refine Below.alloc ?_ (by have := HB2.out.2; simp; omega) _ | refine Below.setCell ?_ (by have := HB2.out.2; simp; omega) _))).mono ?_
  rintro e w2 ⟨rfl, hb2⟩
  have q0 : w2.cell? ⟨w1.heap.size + 1, 0, none⟩ = some (.int .i64 u) := (hb2.cell (p := ⟨w1.heap.size + 1, 0, none⟩) (by simp)).trans (by simp [go_sem])
  have q1 : w2.cell? ⟨w1.heap.size + 1, 1, none⟩ = some (.int .i64 v) := (hb2.cell (p := ⟨w1.heap.size + 1, 1, none⟩) (by simp)).trans (by simp [go_sem])
  have r0 : w2.cell? ⟨w.heap.size, 0, none⟩ = some (.slice aP p.n cP) := (hb2.cell (p := ⟨w.heap.size, 0, none⟩) (by simp; omega)).trans (by simp [go_sem, p0, p3])
  have r1 : w2.cell? ⟨w.heap.size, 1, none⟩ = some (.slice aS p.m cS) := (hb2.cell (p := ⟨w.heap.size, 1, none⟩) (by simp; omega)).trans (by simp [go_sem, p1, p3])
  have r2 : w2.cell? ⟨w.heap.size, 2, none⟩ = some (.int .i64 op) := (hb2.cell (p := ⟨w.heap.size, 2, none⟩) (by simp; omega)).trans (by simp [go_sem, p2, p3])
  have HB3 := Lib.hid (Bel.step (B := w.heap.size) (a := w) (show Bel w.heap.size w _ from (by repeat (first | exact HB2.out | refine Bel.drew ?_ | refine Bel.alloc ?_ _ | refine Bel.setCell ?_ (by have := HB2.out.2; simp; omega) _))) hb2)
  clear hb2 p0 p1 p2
  go_wp2_with fail
  refine (HB.out _ HB3.out.1).mono ?_
  rintro e w3 ⟨rfl, hb3⟩
  have HB4 := Lib.hid (HB3.out.step hb3)
  clear hb3 q0 q1 r0 r1 r2
  go_wp2_with fail
  go_ret
  exact ⟨rfl, HB4.out.1⟩
set_option maxHeartbeats 1600000 in
theorem vp2_ok (p : Pat) (hp : p.Ok) (aP aS : Option Addr) (cP cS : Nat) (op : Int) (k : Nat) (hk : k < p.m) (q : Nat) (w : World) (h : PcsAt w p aP) (hq : PBox w q aP p.n cP aS p.m cS op) :
    Calls Tryz.prog 71 #[.agg #[.int .i64 ((p.a k).1 : Int), .int .i64 ((p.a k).2 : Int), .int .i64 ((p.b k).1 : Int), .int .i64 ((p.b k).2 : Int)], .pointer (some ⟨q, 0, none⟩)] w fun r w' => r = .returned (.bool false) ∧ Below w.heap.size w w' := by
  have HA := Lib.hid (fun W (hb : Below w.heap.size w W) => hasSeam_ok p hp aP aS cP cS op k hk W (h.below hb))
  generalize ((p.a k).1 : Int) = x at HA ⊢
  generalize ((p.a k).2 : Int) = y at HA ⊢
  generalize ((p.b k).1 : Int) = u at HA ⊢
  generalize ((p.b k).2 : Int) = v at HA ⊢
  obtain ⟨q0, q1, q2, q3⟩ := hq
  clear h hk
  go_enter Tryz.func71, Tryz.ntmps71
  go_wp2_with fail
  refine (HA.out _ (by repeat (first | exact Below.refl _ _ | assumption | refine Below.drew ?_ | refine below_drewN ?_ _ | refine Below.alloc ?_ (by simp; try omega) _ | refine Below.setCell ?_ (by simp; try omega) _))).mono ?_
  rintro e w2 ⟨rfl, hb2⟩
  have HB := Lib.hid (show Below w.heap.size w w2 from Below.trans (show Below w.heap.size w _ from (by repeat (first | exact Below.refl _ _ | assumption | refine Below.drew ?_ | refine below_drewN ?_ _ | refine Below.alloc ?_ (by simp; try omega) _ | refine Below.setCell ?_ (by simp; try omega) _))) (hb2.mono (by simp)))
  clear hb2
  go_wp2_with fail
  go_ret
  exact ⟨rfl, HB.out⟩
set_option maxHeartbeats 1600000 in
/-- No seam is found. -/
theorem indexSeam_none (p : Pat) (aS : Option Addr) (cS : Nat) (g : Nat) (lb : Array Value) (w : World) (eg : ∀ args w, (callFunc g args).run Tryz.prog w = .ok (.enter g args) w) (hm : p.m ≤ 8) (hc : SmsAt w p aS)
    (hp : ∀ (k : Nat) (W : World), Below w.heap.size w W → k < p.m → Calls Tryz.prog g (#[.agg #[.int .i64 ((p.a k).1 : Int), .int .i64 ((p.a k).2 : Int), .int .i64 ((p.b k).1 : Int), .int .i64 ((p.b k).2 : Int)]] ++ lb) W fun e W' => e = .returned (.bool false) ∧ Below W.heap.size W W') :
    Calls Tryz.prog 102 #[.slice aS p.m cS, .func (.func g) #[] lb] w fun e w' => e = .returned (.int .i64 (-1)) ∧ Below w.heap.size w w' := by
  rcases hc with h0 | ⟨b, off, rfl, hb, hcell⟩
  · rw [h0]
    clear hp eg hm
    go_enter Tryz.func102, Tryz.ntmps102
    go_wp2
    refine wp_loop_once ?_
    go_wp2
    go_ret
    exact ⟨rfl, Below.refl _ _⟩
  · have Hc := Lib.hid hcell
    have Hp := Lib.hid hp
    clear hcell hp
    obtain ⟨m, hmm⟩ : ∃ m, p.m = m := ⟨_, rfl⟩
    rw [hmm] at hm Hc Hp ⊢
    clear hmm
    go_enter Tryz.func102, Tryz.ntmps102
    go_wp2
    go_loopw [5, 8] (fun _ i wr => ∃ k : Nat, k ≤ m ∧ i = .int .i64 k ∧ Hid (Below w.heap.size w wr)) (fun _ i _ => m - (intOf i).toNat)
    case atStart => exact ⟨0, Nat.zero_le _, rfl, Lib.hid (Below.refl _ _)⟩
    case round =>
      obtain ⟨k, hk, rfl, hbw⟩ := hrel
      by_cases hlt : k < m
      · have hcall := Hp.out k wr hbw.out hlt
        obtain ⟨c0, c1, c2, c3⟩ := Hc.out k hlt
        have d0 := (hbw.out.cell (p := ⟨b, off + k * 4, none⟩) hb).trans c0
        have d1 := (hbw.out.cell (p := ⟨b, off + k * 4 + 1, none⟩) hb).trans c1
        have d2 := (hbw.out.cell (p := ⟨b, off + k * 4 + 2, none⟩) hb).trans c2
        have d3 := (hbw.out.cell (p := ⟨b, off + k * 4 + 3, none⟩) hb).trans c3
        clear c0 c1 c2 c3
        generalize ((p.a k).1 : Int) = x at hcall d0
        generalize ((p.a k).2 : Int) = y at hcall d1
        generalize ((p.b k).1 : Int) = u at hcall d2
        generalize ((p.b k).2 : Int) = v at hcall d3
        have hlt' : (k : Int) < (m : Int) := by omega
        go_wp2_with (go_at_fn g; refine hcall.mono ?_; rintro e w' ⟨rfl, hb'⟩)
        go_roundw
        case rel => exact ⟨k + 1, by omega, by go_num, Lib.hid (hbw.out.trans (hb'.mono hbw.out.size))⟩
        case measure => simp [intOf]; omega
      · go_wp2
        go_ret
        exact ⟨rfl, hbw.out⟩
theorem containsSeam_none (p : Pat) (aS : Option Addr) (cS : Nat) (g : Nat) (lb : Array Value) (w : World) (eg : ∀ args w, (callFunc g args).run Tryz.prog w = .ok (.enter g args) w) (hm : p.m ≤ 8) (hc : SmsAt w p aS)
    (hp : ∀ (k : Nat) (W : World), Below w.heap.size w W → k < p.m → Calls Tryz.prog g (#[.agg #[.int .i64 ((p.a k).1 : Int), .int .i64 ((p.a k).2 : Int), .int .i64 ((p.b k).1 : Int), .int .i64 ((p.b k).2 : Int)]] ++ lb) W fun e W' => e = .returned (.bool false) ∧ Below W.heap.size W W') :
    Calls Tryz.prog 70 #[.slice aS p.m cS, .func (.func g) #[] lb] w fun e w' => e = .returned (.bool false) ∧ Below w.heap.size w w' := by
  have hcon := indexSeam_none p aS cS g lb w eg hm hc hp
  clear eg hm hc hp
  go_enter Tryz.func70, Tryz.ntmps70
  go_wp2_with (go_at_call 102; refine hcon.mono ?_; rintro e w' ⟨rfl, hb'⟩)
  go_ret
  exact ⟨rfl, hb'⟩
end Go.Proofs.YthemlamdchcicaaGreatDoor
