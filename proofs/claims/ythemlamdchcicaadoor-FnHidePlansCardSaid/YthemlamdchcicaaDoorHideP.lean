/-
  Hides, pieces and plans, in plain Lean. No condition of its own.
-/
import Derived.WalkKit
namespace Go.Proofs.YthemlamdchcicaaDoor

/-- A piece. -/
structure Cut where
  w : Nat
  h : Nat
  q : Int
  v : Int

/-- The quality of a letter, -1 if it is none. -/
def qualU (b : UInt8) : Int := if b = 97 then 3 else if b = 98 then 2 else if b = 99 then 1 else if b = 120 then 0 else -1
/-- The quality of a field. -/
def fieldQ (rows : List ByteArray) (y x : Nat) : Int := qualU ((rows.getD y ⟨#[]⟩).data.toList.getD x 0)
/-- A piece fits at a field of a hide of n rows and m columns. -/
def fitsB (rows : List ByteArray) (n m : Nat) (c : Cut) (at_ : Nat) : Bool :=
  decide (at_ / m + c.h ≤ n) && decide (at_ % m + c.w ≤ m) && (List.range c.h).all fun y => (List.range c.w).all fun x => decide (c.q ≤ fieldQ rows (at_ / m + y) (at_ % m + x))
/-- A field is under a piece. -/
def inR (m : Nat) (c : Cut) (at_ j : Nat) : Bool := decide (at_ / m ≤ j / m ∧ j / m < at_ / m + c.h ∧ at_ % m ≤ j % m ∧ j % m < at_ % m + c.w)
/-- Two pieces have a field in common. -/
def meetB (m : Nat) (a : Cut) (f : Nat) (b : Cut) (g : Nat) : Bool := decide (f % m < g % m + b.w ∧ g % m < f % m + a.w ∧ f / m < g / m + b.h ∧ g / m < f / m + a.h)
theorem meet_symm {m f g : Nat} {a b : Cut} : meetB m a f b g = meetB m b g a f := by
  unfold meetB
  congr 1
  apply propext
  constructor <;> (rintro ⟨h1, h2, h3, h4⟩; exact ⟨by omega, by omega, by omega, by omega⟩)
theorem inR_meet {m f g j : Nat} {a b : Cut} (h1 : inR m a f j = true) (h2 : inR m b g j = true) : meetB m a f b g = true := by
  simp only [inR, meetB, decide_eq_true_eq] at *
  omega
theorem meet_inR {m f g : Nat} {a b : Cut} (hm : 1 ≤ m) (ha : 1 ≤ a.w ∧ 1 ≤ a.h) (hb : 1 ≤ b.w ∧ 1 ≤ b.h) (_ : f % m + a.w ≤ m) (_ : g % m + b.w ≤ m) (h : meetB m a f b g = true) :
    ∃ j, inR m a f j = true ∧ inR m b g j = true := by
  simp only [inR, meetB, decide_eq_true_eq] at *
  obtain ⟨y, hy⟩ : ∃ y, y = max (f / m) (g / m) := ⟨_, rfl⟩
  obtain ⟨x, hx⟩ : ∃ x, x = max (f % m) (g % m) := ⟨_, rfl⟩
  have hxm : x < m := by omega
  have e1 : (y * m + x) / m = y := by rw [Nat.add_comm, Nat.add_mul_div_right _ _ (by omega), Nat.div_eq_of_lt hxm, Nat.zero_add]
  have e2 : (y * m + x) % m = x := by rw [Nat.add_comm, Nat.add_mul_mod_self_right, Nat.mod_eq_of_lt hxm]
  refine ⟨y * m + x, ?_, ?_⟩
  all_goals
    rw [e1, e2]
    omega
/-- The fields under a piece, as a number of bits. -/
def bitsN (p : Nat → Bool) (k : Nat) : Nat := (List.range k).foldl (fun s j => if p j then s ||| 2 ^ j else s) 0
theorem bitsN_succ (p : Nat → Bool) (k : Nat) : bitsN p (k + 1) = if p k then bitsN p k ||| 2 ^ k else bitsN p k := by
  simp [bitsN, List.range_succ]
theorem bitsN_bit (p : Nat → Bool) (k j : Nat) : (bitsN p k).testBit j = (decide (j < k) && p j) := by
  induction k with
  | zero => simp [bitsN]
  | succ k ih =>
    rw [bitsN_succ]
    by_cases hp : p k
    · rw [if_pos hp, Nat.testBit_or, ih, Nat.testBit_two_pow]
      by_cases hj : j = k
      · subst hj; simp [hp]
      · have h1 : decide (k = j) = false := by simp; omega
        rw [h1, Bool.or_false]
        have h2 : decide (j < k + 1) = decide (j < k) := by congr 1; apply propext; omega
        rw [h2]
    · rw [if_neg hp, ih]
      by_cases hj : j = k
      · subst hj; simp [hp]
      · have h2 : decide (j < k + 1) = decide (j < k) := by congr 1; apply propext; omega
        rw [h2]
theorem bitsN_lt (p : Nat → Bool) (k : Nat) : bitsN p k < 2 ^ k := by
  apply Nat.lt_pow_two_of_testBit
  intro j hj
  rw [bitsN_bit]
  simp; omega
def maskN (m : Nat) (c : Cut) (at_ : Nat) : Nat := bitsN (fun j => inR m c at_ j) 36
/-- All fields at which a piece fits. -/
def placesL (rows : List ByteArray) (n m : Nat) (c : Cut) : List Nat := (List.range (n * m)).filter (fitsB rows n m c)
/-- A piece at a field meets none of the pieces that lie. -/
def freeB (m : Nat) (done : List (Cut × Int)) (c : Cut) (f : Nat) : Bool := done.all fun d => decide (d.2 < 0) || !meetB m c f d.1 d.2.toNat
/-- The fields that are taken. -/
def takenN (m : Nat) (done : List (Cut × Int)) : Nat := done.foldl (fun t d => if d.2 < 0 then t else t ||| maskN m d.1 d.2.toNat) 0
theorem takenN_app (m : Nat) (done : List (Cut × Int)) (c : Cut) (f : Int) : takenN m (done ++ [(c, f)]) = if f < 0 then takenN m done else takenN m done ||| maskN m c f.toNat := by
  simp [takenN]
theorem takenN_bit (m : Nat) (done : List (Cut × Int)) (j : Nat) : (takenN m done).testBit j = (decide (j < 36) && done.any fun d => decide (0 ≤ d.2) && inR m d.1 d.2.toNat j) := by
  have key : ∀ (t : Nat), (done.foldl (fun t d => if d.2 < 0 then t else t ||| maskN m d.1 d.2.toNat) t).testBit j = (t.testBit j || (decide (j < 36) && done.any fun d => decide (0 ≤ d.2) && inR m d.1 d.2.toNat j)) := by
    induction done with
    | nil => intro t; simp
    | cons d ds ih =>
      intro t
      simp only [List.foldl_cons, List.any_cons]
      rw [ih]
      by_cases hd : d.2 < 0
      · rw [if_pos hd, show decide (0 ≤ d.2) = false by simp; omega]; simp
      · rw [if_neg hd, Nat.testBit_or, maskN, bitsN_bit, show decide (0 ≤ d.2) = true by simp; omega]
        cases t.testBit j <;> cases decide (j < 36) <;> simp
  unfold takenN
  rw [key 0]
  simp
/-- A plan's pieces lie within m columns and n rows. -/
def Lie (n m : Nat) (done : List (Cut × Int)) : Prop := ∀ d ∈ done, 0 ≤ d.2 → d.2.toNat / m + d.1.h ≤ n ∧ d.2.toNat % m + d.1.w ≤ m ∧ 1 ≤ d.1.w ∧ 1 ≤ d.1.h
theorem inR_lt {n m f j : Nat} {c : Cut} (hm1 : 1 ≤ m) (h1 : f / m + c.h ≤ n) (h : inR m c f j = true) : j < n * m := by
  simp only [inR, decide_eq_true_eq] at h
  have h2 : j / m < n := by omega
  exact (Nat.div_lt_iff_lt_mul (by omega)).1 h2
/-- A set of fields is apart from those that are taken just if the piece meets none. -/
theorem free_iff {n m f : Nat} {c : Cut} {done : List (Cut × Int)} (hn : n ≤ 6) (hm : m ≤ 6) (hm1 : 1 ≤ m) (hc : 1 ≤ c.w ∧ 1 ≤ c.h) (hf : f / m + c.h ≤ n ∧ f % m + c.w ≤ m) (hl : Lie n m done) :
    (maskN m c f &&& takenN m done = 0) ↔ freeB m done c f = true := by
  have hnm : n * m ≤ 36 := Nat.mul_le_mul hn hm
  constructor
  · intro h
    simp only [freeB, List.all_eq_true, Bool.or_eq_true, decide_eq_true_eq, Bool.not_eq_true']
    intro d hd
    by_cases hneg : d.2 < 0
    · exact .inl hneg
    · right
      cases hmt : meetB m c f d.1 d.2.toNat with
      | false => rfl
      | true =>
        exfalso
        obtain ⟨l1, l2, l3, l4⟩ := hl d hd (by omega)
        obtain ⟨j, j1, j2⟩ := meet_inR hm1 hc ⟨l3, l4⟩ hf.2 l2 hmt
        have hj : j < 36 := Nat.lt_of_lt_of_le (inR_lt hm1 hf.1 j1) hnm
        have hb : (maskN m c f &&& takenN m done).testBit j = true := by
          rw [Nat.testBit_and, maskN, bitsN_bit, takenN_bit]
          simp only [hj, decide_true, Bool.true_and, j1, List.any_eq_true, Bool.and_eq_true, decide_eq_true_eq]
          exact ⟨d, hd, by omega, j2⟩
        rw [h] at hb
        simp at hb
  · intro h
    apply Nat.eq_of_testBit_eq
    intro j
    rw [Nat.testBit_and, maskN, bitsN_bit, takenN_bit, Nat.zero_testBit]
    cases h1 : (decide (j < 36) && inR m c f j) with
    | false => simp
    | true =>
      cases h2 : (decide (j < 36) && done.any fun d => decide (0 ≤ d.2) && inR m d.1 d.2.toNat j) with
      | false => simp
      | true =>
        exfalso
        simp only [Bool.and_eq_true, List.any_eq_true, decide_eq_true_eq] at h1 h2
        obtain ⟨_, d, hd, hd0, hd1⟩ := h2
        simp only [freeB, List.all_eq_true, Bool.or_eq_true, decide_eq_true_eq, Bool.not_eq_true'] at h
        rcases h d hd with hh | hh
        · omega
        · rw [inR_meet h1.2 hd1] at hh; cases hh
/-- The search for the first plan with the greatest worth. -/
def bestTo (rows : List ByteArray) (n m : Nat) : List Cut → List (Cut × Int) → Int → List Int × Int → List Int × Int
  | [], done, sum, st => if st.2 < sum then (done.map (·.2), sum) else st
  | c :: cs, done, sum, st => (placesL rows n m c).foldl (fun s f => if freeB m done c f then bestTo rows n m cs (done ++ [(c, (f : Int))]) (sum + c.v) s else s) (bestTo rows n m cs (done ++ [(c, -1)]) sum st)
/-- The search at one piece, behind the first k places. -/
def bestAt (rows : List ByteArray) (n m : Nat) (c : Cut) (cs : List Cut) (done : List (Cut × Int)) (sum : Int) (st : List Int × Int) (k : Nat) : List Int × Int :=
  ((placesL rows n m c).take k).foldl (fun s f => if freeB m done c f then bestTo rows n m cs (done ++ [(c, (f : Int))]) (sum + c.v) s else s) (bestTo rows n m cs (done ++ [(c, -1)]) sum st)
def worths (cs : List Cut) : Int := (cs.map (·.v)).foldr (· + ·) 0
theorem worths_nonneg {cs : List Cut} (h : ∀ c ∈ cs, 0 ≤ c.v) : 0 ≤ worths cs := by
  induction cs with
  | nil => simp [worths]
  | cons c cs ih =>
    have h1 := ih (fun d hd => h d (by simp [hd]))
    have h2 := h c (by simp)
    simp only [worths, List.map_cons, List.foldr_cons] at h1 ⊢
    omega
/-- Where no plan can be worth more the search changes nothing. -/
theorem bestTo_cut {rows : List ByteArray} {n m : Nat} {cs : List Cut} : ∀ {done : List (Cut × Int)} {sum : Int} {st : List Int × Int}, (∀ c ∈ cs, 0 ≤ c.v) → sum + worths cs ≤ st.2 → bestTo rows n m cs done sum st = st := by
  induction cs with
  | nil =>
    intro done sum st _ h
    simp only [worths, List.map_nil, List.foldr_nil] at h
    simp only [bestTo]
    rw [if_neg (by omega)]
  | cons c cs ih =>
    intro done sum st h0 h
    have hw : worths (c :: cs) = c.v + worths cs := rfl
    have hc := h0 c (by simp)
    have h1 : ∀ d ∈ cs, 0 ≤ d.v := fun d hd => h0 d (by simp [hd])
    rw [hw] at h
    simp only [bestTo]
    rw [ih (st := st) h1 (by omega)]
    generalize placesL rows n m c = ps
    induction ps with
    | nil => rfl
    | cons p ps ihp =>
      simp only [List.foldl_cons]
      split
      · rw [ih (st := st) h1 (by omega)]; exact ihp
      · exact ihp
theorem bestTo_end {rows : List ByteArray} {n m : Nat} {done : List (Cut × Int)} {sum : Int} {st : List Int × Int} (h : st.2 < sum) : bestTo rows n m [] done sum st = (done.map (·.2), sum) := by
  simp [bestTo, h]
theorem bestTo_more {rows : List ByteArray} {n m : Nat} {c : Cut} {cs : List Cut} {done : List (Cut × Int)} {sum : Int} {st : List Int × Int} : bestTo rows n m (c :: cs) done sum st = bestAt rows n m c cs done sum st (placesL rows n m c).length := by
  simp [bestTo, bestAt]
theorem bestAt_zero (rows : List ByteArray) (n m : Nat) (c : Cut) (cs : List Cut) (done : List (Cut × Int)) (sum : Int) (st : List Int × Int) : bestAt rows n m c cs done sum st 0 = bestTo rows n m cs (done ++ [(c, -1)]) sum st := rfl
theorem bestAt_step {rows : List ByteArray} {n m : Nat} {c : Cut} {cs : List Cut} {done : List (Cut × Int)} {sum : Int} {st : List Int × Int} {k f : Nat} (hf : (placesL rows n m c)[k]? = some f) :
    bestAt rows n m c cs done sum st (k + 1) = if freeB m done c f then bestTo rows n m cs (done ++ [(c, (f : Int))]) (sum + c.v) (bestAt rows n m c cs done sum st k) else bestAt rows n m c cs done sum st k := by
  have hk : k < (placesL rows n m c).length := by
    by_cases h : k < (placesL rows n m c).length
    · exact h
    · rw [List.getElem?_eq_none (by omega)] at hf; cases hf
  have ht : (placesL rows n m c).take (k + 1) = (placesL rows n m c).take k ++ [f] := by
    rw [List.take_add_one, hf]; rfl
  unfold bestAt
  rw [ht, List.foldl_append]
  rfl
theorem places_fit {rows : List ByteArray} {n m : Nat} {c : Cut} {k f : Nat} (hf : (placesL rows n m c)[k]? = some f) : f < n * m ∧ fitsB rows n m c f = true := by
  have h := List.mem_of_getElem? hf
  simp only [placesL, List.mem_filter, List.mem_range] at h
  exact h
theorem fits_lie {rows : List ByteArray} {n m : Nat} {c : Cut} {f : Nat} (h : fitsB rows n m c f = true) : f / m + c.h ≤ n ∧ f % m + c.w ≤ m := by
  simp only [fitsB, Bool.and_eq_true, decide_eq_true_eq] at h
  exact h.1
/-- What the search tells is not less than what it began with. -/
theorem bestTo_up {rows : List ByteArray} {n m : Nat} (cs : List Cut) : ∀ (done : List (Cut × Int)) (sum : Int) (st : List Int × Int), st.2 ≤ (bestTo rows n m cs done sum st).2 := by
  induction cs with
  | nil => intro done sum st; simp only [bestTo]; split; exact Int.le_of_lt (by assumption); exact Int.le_refl _
  | cons c cs ih =>
    intro done sum st
    simp only [bestTo]
    have key : ∀ (ps : List Nat) (s : List Int × Int), s.2 ≤ (ps.foldl (fun s f => if freeB m done c f then bestTo rows n m cs (done ++ [(c, (f : Int))]) (sum + c.v) s else s) s).2 := by
      intro ps
      induction ps with
      | nil => intro s; exact Int.le_refl _
      | cons p ps ihp =>
        intro s
        simp only [List.foldl_cons]
        refine Int.le_trans ?_ (ihp _)
        split
        · exact ih _ _ _
        · exact Int.le_refl _
    exact Int.le_trans (ih _ _ _) (key _ _)
/-- Bounds and the length of what the search tells. -/
theorem bestTo_bd {rows : List ByteArray} {n m : Nat} (cs : List Cut) : ∀ (done : List (Cut × Int)) (sum : Int) (st : List Int × Int) (T : Int), (∀ c ∈ cs, 0 ≤ c.v) → -1 ≤ st.2 → st.2 ≤ T → sum + worths cs ≤ T → 0 ≤ sum →
    -1 ≤ (bestTo rows n m cs done sum st).2 ∧ (bestTo rows n m cs done sum st).2 ≤ T := by
  induction cs with
  | nil =>
    intro done sum st T _ h1 h2 h3 h4
    simp only [worths, List.map_nil, List.foldr_nil] at h3
    simp only [bestTo]
    split
    · exact ⟨show -1 ≤ sum by omega, show sum ≤ T by omega⟩
    · exact ⟨h1, h2⟩
  | cons c cs ih =>
    intro done sum st T h0 h1 h2 h3 h4
    have hw : worths (c :: cs) = c.v + worths cs := rfl
    have hc := h0 c (by simp)
    have hcs : ∀ d ∈ cs, 0 ≤ d.v := fun d hd => h0 d (by simp [hd])
    rw [hw] at h3
    simp only [bestTo]
    have key : ∀ (ps : List Nat) (s : List Int × Int), -1 ≤ s.2 → s.2 ≤ T → -1 ≤ (ps.foldl (fun s f => if freeB m done c f then bestTo rows n m cs (done ++ [(c, (f : Int))]) (sum + c.v) s else s) s).2 ∧ (ps.foldl (fun s f => if freeB m done c f then bestTo rows n m cs (done ++ [(c, (f : Int))]) (sum + c.v) s else s) s).2 ≤ T := by
      intro ps
      induction ps with
      | nil => intro s k1 k2; exact ⟨k1, k2⟩
      | cons p ps ihp =>
        intro s k1 k2
        simp only [List.foldl_cons]
        split
        · have := ih (done ++ [(c, (p : Int))]) (sum + c.v) s T hcs k1 k2 (by omega) (by omega)
          exact ihp _ this.1 this.2
        · exact ihp _ k1 k2
    have h5 := ih (done ++ [(c, -1)]) sum st T hcs h1 h2 (by omega) h4
    exact key _ _ h5.1 h5.2
theorem bestTo_len {rows : List ByteArray} {n m : Nat} (cs : List Cut) : ∀ (done : List (Cut × Int)) (sum : Int) (st : List Int × Int) (T : Nat), done.length + cs.length ≤ T → st.1.length ≤ T → (bestTo rows n m cs done sum st).1.length ≤ T := by
  induction cs with
  | nil =>
    intro done sum st T h1 h2
    simp only [bestTo]
    split
    · simpa using h1
    · exact h2
  | cons c cs ih =>
    intro done sum st T h1 h2
    simp only [bestTo]
    simp only [List.length_cons] at h1
    have key : ∀ (ps : List Nat) (s : List Int × Int), s.1.length ≤ T → (ps.foldl (fun s f => if freeB m done c f then bestTo rows n m cs (done ++ [(c, (f : Int))]) (sum + c.v) s else s) s).1.length ≤ T := by
      intro ps
      induction ps with
      | nil => intro s k; exact k
      | cons p ps ihp =>
        intro s k
        simp only [List.foldl_cons]
        split
        · exact ihp _ (ih _ _ _ T (by simp; omega) k)
        · exact ihp _ k
    exact key _ _ (ih _ _ _ T (by simp; omega) h2)
end Go.Proofs.YthemlamdchcicaaDoor
