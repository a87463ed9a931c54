/-
  Hides, pieces and plans, in plain Lean. The best plan of a hide is sound and not worth less than others; the mirror of a hide; the fields that a plan uses: in plain Lean. Hides and pieces: what the walks over rows and columns keep, in plain Lean. No condition of its own.
-/
import Derived.WalkKit
import Derived.Lib.Strings

namespace Go.Proofs.YthemlamdchcicaaGreatDoor

/-- A piece. -/
structure Cut where
  w : Nat
  h : Nat
  q : Int
  v : Int

/-- The quality of a letter, -1 if it is none. -/
def qualU (b : UInt8) : Int := if b = 97 then 3 else if b = 98 then 2 else if b = 99 then 1 else if b = 120 then 0 else -1
/-- The quality of a field. -/
def fieldQ (rows : List ByteArray) (y x : Nat) : Int := qualU ((rows.getD y ⟨#[]⟩).data.toList.getD x 0)
/-- A piece fits at a field of a hide of n rows and m columns. -/
def fitsB (rows : List ByteArray) (n m : Nat) (c : Cut) (at_ : Nat) : Bool :=
  decide (at_ / m + c.h ≤ n) && decide (at_ % m + c.w ≤ m) && (List.range c.h).all fun y => (List.range c.w).all fun x => decide (c.q ≤ fieldQ rows (at_ / m + y) (at_ % m + x))
/-- A field is under a piece. -/
def inR (m : Nat) (c : Cut) (at_ j : Nat) : Bool := decide (at_ / m ≤ j / m ∧ j / m < at_ / m + c.h ∧ at_ % m ≤ j % m ∧ j % m < at_ % m + c.w)
/-- Two pieces have a field in common. -/
def meetB (m : Nat) (a : Cut) (f : Nat) (b : Cut) (g : Nat) : Bool := decide (f % m < g % m + b.w ∧ g % m < f % m + a.w ∧ f / m < g / m + b.h ∧ g / m < f / m + a.h)
theorem meet_symm {m f g : Nat} {a b : Cut} : meetB m a f b g = meetB m b g a f := by
  unfold meetB
  congr 1
  apply propext
  constructor <;> (rintro ⟨h1, h2, h3, h4⟩; exact ⟨by omega, by omega, by omega, by omega⟩)
theorem inR_meet {m f g j : Nat} {a b : Cut} (h1 : inR m a f j = true) (h2 : inR m b g j = true) : meetB m a f b g = true := by
  simp only [inR, meetB, decide_eq_true_eq] at *
  omega
theorem meet_inR {m f g : Nat} {a b : Cut} (hm : 1 ≤ m) (ha : 1 ≤ a.w ∧ 1 ≤ a.h) (hb : 1 ≤ b.w ∧ 1 ≤ b.h) (_ : f % m + a.w ≤ m) (_ : g % m + b.w ≤ m) (h : meetB m a f b g = true) :
    ∃ j, inR m a f j = true ∧ inR m b g j = true := by
  simp only [inR, meetB, decide_eq_true_eq] at *
  obtain ⟨y, hy⟩ : ∃ y, y = max (f / m) (g / m) := ⟨_, rfl⟩
  obtain ⟨x, hx⟩ : ∃ x, x = max (f % m) (g % m) := ⟨_, rfl⟩
  have hxm : x < m := by omega
  have e1 : (y * m + x) / m = y := by rw [Nat.add_comm, Nat.add_mul_div_right _ _ (by omega), Nat.div_eq_of_lt hxm, Nat.zero_add]
  have e2 : (y * m + x) % m = x := by rw [Nat.add_comm, Nat.add_mul_mod_self_right, Nat.mod_eq_of_lt hxm]
  refine ⟨y * m + x, ?_, ?_⟩
  all_goals
    rw [e1, e2]
    omega
/-- The fields under a piece, as a number of bits. -/
def bitsN (p : Nat → Bool) (k : Nat) : Nat := (List.range k).foldl (fun s j => if p j then s ||| 2 ^ j else s) 0
theorem bitsN_succ (p : Nat → Bool) (k : Nat) : bitsN p (k + 1) = if p k then bitsN p k ||| 2 ^ k else bitsN p k := by
  simp [bitsN, List.range_succ]
theorem bitsN_bit (p : Nat → Bool) (k j : Nat) : (bitsN p k).testBit j = (decide (j < k) && p j) := by
  induction k with
  | zero => simp [bitsN]
  | succ k ih =>
    rw [bitsN_succ]
    by_cases hp : p k
    · rw [if_pos hp, Nat.testBit_or, ih, Nat.testBit_two_pow]
      by_cases hj : j = k
      · subst hj; simp [hp]
      · have h1 : decide (k = j) = false := by simp; omega
        rw [h1, Bool.or_false]
        have h2 : decide (j < k + 1) = decide (j < k) := by congr 1; apply propext; omega
        rw [h2]
    · rw [if_neg hp, ih]
      by_cases hj : j = k
      · subst hj; simp [hp]
      · have h2 : decide (j < k + 1) = decide (j < k) := by congr 1; apply propext; omega
        rw [h2]
theorem bitsN_lt (p : Nat → Bool) (k : Nat) : bitsN p k < 2 ^ k := by
  apply Nat.lt_pow_two_of_testBit
  intro j hj
  rw [bitsN_bit]
  simp; omega
def maskN (m : Nat) (c : Cut) (at_ : Nat) : Nat := bitsN (fun j => inR m c at_ j) 36
/-- All fields at which a piece fits. -/
def placesL (rows : List ByteArray) (n m : Nat) (c : Cut) : List Nat := (List.range (n * m)).filter (fitsB rows n m c)
/-- A piece at a field meets none of the pieces that lie. -/
def freeB (m : Nat) (done : List (Cut × Int)) (c : Cut) (f : Nat) : Bool := done.all fun d => decide (d.2 < 0) || !meetB m c f d.1 d.2.toNat
/-- The fields that are taken. -/
def takenN (m : Nat) (done : List (Cut × Int)) : Nat := done.foldl (fun t d => if d.2 < 0 then t else t ||| maskN m d.1 d.2.toNat) 0
theorem takenN_app (m : Nat) (done : List (Cut × Int)) (c : Cut) (f : Int) : takenN m (done ++ [(c, f)]) = if f < 0 then takenN m done else takenN m done ||| maskN m c f.toNat := by
  simp [takenN]
theorem takenN_bit (m : Nat) (done : List (Cut × Int)) (j : Nat) : (takenN m done).testBit j = (decide (j < 36) && done.any fun d => decide (0 ≤ d.2) && inR m d.1 d.2.toNat j) := by
  have key : ∀ (t : Nat), (done.foldl (fun t d => if d.2 < 0 then t else t ||| maskN m d.1 d.2.toNat) t).testBit j = (t.testBit j || (decide (j < 36) && done.any fun d => decide (0 ≤ d.2) && inR m d.1 d.2.toNat j)) := by
    induction done with
    | nil => intro t; simp
    | cons d ds ih =>
      intro t
      simp only [List.foldl_cons, List.any_cons]
      rw [ih]
      by_cases hd : d.2 < 0
      · rw [if_pos hd, show decide (0 ≤ d.2) = false by simp; omega]; simp
      · rw [if_neg hd, Nat.testBit_or, maskN, bitsN_bit, show decide (0 ≤ d.2) = true by simp; omega]
        cases t.testBit j <;> cases decide (j < 36) <;> simp
  unfold takenN
  rw [key 0]
  simp
/-- A plan's pieces lie within m columns and n rows. -/
def Lie (n m : Nat) (done : List (Cut × Int)) : Prop := ∀ d ∈ done, 0 ≤ d.2 → d.2.toNat / m + d.1.h ≤ n ∧ d.2.toNat % m + d.1.w ≤ m ∧ 1 ≤ d.1.w ∧ 1 ≤ d.1.h
theorem inR_lt {n m f j : Nat} {c : Cut} (hm1 : 1 ≤ m) (h1 : f / m + c.h ≤ n) (h : inR m c f j = true) : j < n * m := by
  simp only [inR, decide_eq_true_eq] at h
  have h2 : j / m < n := by omega
  exact (Nat.div_lt_iff_lt_mul (by omega)).1 h2
/-- A set of fields is apart from those that are taken just if the piece meets none. -/
theorem free_iff {n m f : Nat} {c : Cut} {done : List (Cut × Int)} (hn : n ≤ 6) (hm : m ≤ 6) (hm1 : 1 ≤ m) (hc : 1 ≤ c.w ∧ 1 ≤ c.h) (hf : f / m + c.h ≤ n ∧ f % m + c.w ≤ m) (hl : Lie n m done) :
    (maskN m c f &&& takenN m done = 0) ↔ freeB m done c f = true := by
  have hnm : n * m ≤ 36 := Nat.mul_le_mul hn hm
  constructor
  · intro h
    simp only [freeB, List.all_eq_true, Bool.or_eq_true, decide_eq_true_eq, Bool.not_eq_true']
    intro d hd
    by_cases hneg : d.2 < 0
    · exact .inl hneg
    · right
      cases hmt : meetB m c f d.1 d.2.toNat with
      | false => rfl
      | true =>
        exfalso
        obtain ⟨l1, l2, l3, l4⟩ := hl d hd (by omega)
        obtain ⟨j, j1, j2⟩ := meet_inR hm1 hc ⟨l3, l4⟩ hf.2 l2 hmt
        have hj : j < 36 := Nat.lt_of_lt_of_le (inR_lt hm1 hf.1 j1) hnm
        have hb : (maskN m c f &&& takenN m done).testBit j = true := by
          rw [Nat.testBit_and, maskN, bitsN_bit, takenN_bit]
          simp only [hj, decide_true, Bool.true_and, j1, List.any_eq_true, Bool.and_eq_true, decide_eq_true_eq]
          exact ⟨d, hd, by omega, j2⟩
        rw [h] at hb
        simp at hb
  · intro h
    apply Nat.eq_of_testBit_eq
    intro j
    rw [Nat.testBit_and, maskN, bitsN_bit, takenN_bit, Nat.zero_testBit]
    cases h1 : (decide (j < 36) && inR m c f j) with
    | false => simp
    | true =>
      cases h2 : (decide (j < 36) && done.any fun d => decide (0 ≤ d.2) && inR m d.1 d.2.toNat j) with
      | false => simp
      | true =>
        exfalso
        simp only [Bool.and_eq_true, List.any_eq_true, decide_eq_true_eq] at h1 h2
        obtain ⟨_, d, hd, hd0, hd1⟩ := h2
        simp only [freeB, List.all_eq_true, Bool.or_eq_true, decide_eq_true_eq, Bool.not_eq_true'] at h
        rcases h d hd with hh | hh
        · omega
        · rw [inR_meet h1.2 hd1] at hh; cases hh
/-- The search for the first plan with the greatest worth. -/
def bestTo (rows : List ByteArray) (n m : Nat) : List Cut → List (Cut × Int) → Int → List Int × Int → List Int × Int
  | [], done, sum, st => if st.2 < sum then (done.map (·.2), sum) else st
  | c :: cs, done, sum, st => (placesL rows n m c).foldl (fun s f => if freeB m done c f then bestTo rows n m cs (done ++ [(c, (f : Int))]) (sum + c.v) s else s) (bestTo rows n m cs (done ++ [(c, -1)]) sum st)
/-- The search at one piece, behind the first k places. -/
def bestAt (rows : List ByteArray) (n m : Nat) (c : Cut) (cs : List Cut) (done : List (Cut × Int)) (sum : Int) (st : List Int × Int) (k : Nat) : List Int × Int :=
  ((placesL rows n m c).take k).foldl (fun s f => if freeB m done c f then bestTo rows n m cs (done ++ [(c, (f : Int))]) (sum + c.v) s else s) (bestTo rows n m cs (done ++ [(c, -1)]) sum st)
def worths (cs : List Cut) : Int := (cs.map (·.v)).foldr (· + ·) 0
theorem worths_nonneg {cs : List Cut} (h : ∀ c ∈ cs, 0 ≤ c.v) : 0 ≤ worths cs := by
  induction cs with
  | nil => simp [worths]
  | cons c cs ih =>
    have h1 := ih (fun d hd => h d (by simp [hd]))
    have h2 := h c (by simp)
    simp only [worths, List.map_cons, List.foldr_cons] at h1 ⊢
    omega
/-- Where no plan can be worth more the search changes nothing. -/
theorem bestTo_cut {rows : List ByteArray} {n m : Nat} {cs : List Cut} : ∀ {done : List (Cut × Int)} {sum : Int} {st : List Int × Int}, (∀ c ∈ cs, 0 ≤ c.v) → sum + worths cs ≤ st.2 → bestTo rows n m cs done sum st = st := by
  induction cs with
  | nil =>
    intro done sum st _ h
    simp only [worths, List.map_nil, List.foldr_nil] at h
    simp only [bestTo]
    rw [if_neg (by omega)]
  | cons c cs ih =>
    intro done sum st h0 h
    have hw : worths (c :: cs) = c.v + worths cs := rfl
    have hc := h0 c (by simp)
    have h1 : ∀ d ∈ cs, 0 ≤ d.v := fun d hd => h0 d (by simp [hd])
    rw [hw] at h
    simp only [bestTo]
    rw [ih (st := st) h1 (by omega)]
    generalize placesL rows n m c = ps
    induction ps with
    | nil => rfl
    | cons p ps ihp =>
      simp only [List.foldl_cons]
      split
      · rw [ih (st := st) h1 (by omega)]; exact ihp
      · exact ihp
theorem bestTo_end {rows : List ByteArray} {n m : Nat} {done : List (Cut × Int)} {sum : Int} {st : List Int × Int} (h : st.2 < sum) : bestTo rows n m [] done sum st = (done.map (·.2), sum) := by
  simp [bestTo, h]
theorem bestTo_more {rows : List ByteArray} {n m : Nat} {c : Cut} {cs : List Cut} {done : List (Cut × Int)} {sum : Int} {st : List Int × Int} : bestTo rows n m (c :: cs) done sum st = bestAt rows n m c cs done sum st (placesL rows n m c).length := by
  simp [bestTo, bestAt]
theorem bestAt_zero (rows : List ByteArray) (n m : Nat) (c : Cut) (cs : List Cut) (done : List (Cut × Int)) (sum : Int) (st : List Int × Int) : bestAt rows n m c cs done sum st 0 = bestTo rows n m cs (done ++ [(c, -1)]) sum st := rfl
theorem bestAt_step {rows : List ByteArray} {n m : Nat} {c : Cut} {cs : List Cut} {done : List (Cut × Int)} {sum : Int} {st : List Int × Int} {k f : Nat} (hf : (placesL rows n m c)[k]? = some f) :
    bestAt rows n m c cs done sum st (k + 1) = if freeB m done c f then bestTo rows n m cs (done ++ [(c, (f : Int))]) (sum + c.v) (bestAt rows n m c cs done sum st k) else bestAt rows n m c cs done sum st k := by
  have hk : k < (placesL rows n m c).length := by
    by_cases h : k < (placesL rows n m c).length
    · exact h
    · rw [List.getElem?_eq_none (by omega)] at hf; cases hf
  have ht : (placesL rows n m c).take (k + 1) = (placesL rows n m c).take k ++ [f] := by
    rw [List.take_add_one, hf]; rfl
  unfold bestAt
  rw [ht, List.foldl_append]
  rfl
theorem places_fit {rows : List ByteArray} {n m : Nat} {c : Cut} {k f : Nat} (hf : (placesL rows n m c)[k]? = some f) : f < n * m ∧ fitsB rows n m c f = true := by
  have h := List.mem_of_getElem? hf
  simp only [placesL, List.mem_filter, List.mem_range] at h
  exact h
theorem fits_lie {rows : List ByteArray} {n m : Nat} {c : Cut} {f : Nat} (h : fitsB rows n m c f = true) : f / m + c.h ≤ n ∧ f % m + c.w ≤ m := by
  simp only [fitsB, Bool.and_eq_true, decide_eq_true_eq] at h
  exact h.1
/-- What the search tells is not less than what it began with. -/
theorem bestTo_up {rows : List ByteArray} {n m : Nat} (cs : List Cut) : ∀ (done : List (Cut × Int)) (sum : Int) (st : List Int × Int), st.2 ≤ (bestTo rows n m cs done sum st).2 := by
  induction cs with
  | nil => intro done sum st; simp only [bestTo]; split; exact Int.le_of_lt (by assumption); exact Int.le_refl _
  | cons c cs ih =>
    intro done sum st
    simp only [bestTo]
    have key : ∀ (ps : List Nat) (s : List Int × Int), s.2 ≤ (ps.foldl (fun s f => if freeB m done c f then bestTo rows n m cs (done ++ [(c, (f : Int))]) (sum + c.v) s else s) s).2 := by
      intro ps
      induction ps with
      | nil => intro s; exact Int.le_refl _
      | cons p ps ihp =>
        intro s
        simp only [List.foldl_cons]
        refine Int.le_trans ?_ (ihp _)
        split
        · exact ih _ _ _
        · exact Int.le_refl _
    exact Int.le_trans (ih _ _ _) (key _ _)
/-- Bounds and the length of what the search tells. -/
theorem bestTo_bd {rows : List ByteArray} {n m : Nat} (cs : List Cut) : ∀ (done : List (Cut × Int)) (sum : Int) (st : List Int × Int) (T : Int), (∀ c ∈ cs, 0 ≤ c.v) → -1 ≤ st.2 → st.2 ≤ T → sum + worths cs ≤ T → 0 ≤ sum →
    -1 ≤ (bestTo rows n m cs done sum st).2 ∧ (bestTo rows n m cs done sum st).2 ≤ T := by
  induction cs with
  | nil =>
    intro done sum st T _ h1 h2 h3 h4
    simp only [worths, List.map_nil, List.foldr_nil] at h3
    simp only [bestTo]
    split
    · exact ⟨show -1 ≤ sum by omega, show sum ≤ T by omega⟩
    · exact ⟨h1, h2⟩
  | cons c cs ih =>
    intro done sum st T h0 h1 h2 h3 h4
    have hw : worths (c :: cs) = c.v + worths cs := rfl
    have hc := h0 c (by simp)
    have hcs : ∀ d ∈ cs, 0 ≤ d.v := fun d hd => h0 d (by simp [hd])
    rw [hw] at h3
    simp only [bestTo]
    have key : ∀ (ps : List Nat) (s : List Int × Int), -1 ≤ s.2 → s.2 ≤ T → -1 ≤ (ps.foldl (fun s f => if freeB m done c f then bestTo rows n m cs (done ++ [(c, (f : Int))]) (sum + c.v) s else s) s).2 ∧ (ps.foldl (fun s f => if freeB m done c f then bestTo rows n m cs (done ++ [(c, (f : Int))]) (sum + c.v) s else s) s).2 ≤ T := by
      intro ps
      induction ps with
      | nil => intro s k1 k2; exact ⟨k1, k2⟩
      | cons p ps ihp =>
        intro s k1 k2
        simp only [List.foldl_cons]
        split
        · have := ih (done ++ [(c, (p : Int))]) (sum + c.v) s T hcs k1 k2 (by omega) (by omega)
          exact ihp _ this.1 this.2
        · exact ihp _ k1 k2
    have h5 := ih (done ++ [(c, -1)]) sum st T hcs h1 h2 (by omega) h4
    exact key _ _ h5.1 h5.2
theorem bestTo_len {rows : List ByteArray} {n m : Nat} (cs : List Cut) : ∀ (done : List (Cut × Int)) (sum : Int) (st : List Int × Int) (T : Nat), done.length + cs.length ≤ T → st.1.length ≤ T → (bestTo rows n m cs done sum st).1.length ≤ T := by
  induction cs with
  | nil =>
    intro done sum st T h1 h2
    simp only [bestTo]
    split
    · simpa using h1
    · exact h2
  | cons c cs ih =>
    intro done sum st T h1 h2
    simp only [bestTo]
    simp only [List.length_cons] at h1
    have key : ∀ (ps : List Nat) (s : List Int × Int), s.1.length ≤ T → (ps.foldl (fun s f => if freeB m done c f then bestTo rows n m cs (done ++ [(c, (f : Int))]) (sum + c.v) s else s) s).1.length ≤ T := by
      intro ps
      induction ps with
      | nil => intro s k; exact k
      | cons p ps ihp =>
        intro s k
        simp only [List.foldl_cons]
        split
        · exact ihp _ (ih _ _ _ T (by simp; omega) k)
        · exact ihp _ k
    exact key _ _ (ih _ _ _ T (by simp; omega) h2)
end Go.Proofs.YthemlamdchcicaaGreatDoor

namespace Go.Proofs.YthemlamdchcicaaGreatDoor

/-- The next piece lies well. -/
def okB (rows : List ByteArray) (n m : Nat) (done : List (Cut × Int)) (d : Cut × Int) : Bool := decide (d.2 < 0) || (decide (d.2.toNat < n * m) && fitsB rows n m d.1 d.2.toNat && freeB m done d.1 d.2.toNat)
/-- All pieces lie well. -/
def soundB (rows : List ByteArray) (n m : Nat) : List (Cut × Int) → List (Cut × Int) → Bool
  | _, [] => true
  | done, d :: ds => okB rows n m done d && soundB rows n m (done ++ [d]) ds
/-- The worth of a plan. -/
def worthD (ds : List (Cut × Int)) : Int := (ds.map fun d => if d.2 < 0 then 0 else d.1.v).foldr (· + ·) 0
theorem worthD_cons (d : Cut × Int) (ds : List (Cut × Int)) : worthD (d :: ds) = (if d.2 < 0 then 0 else d.1.v) + worthD ds := rfl
section
variable {rows : List ByteArray} {n m : Nat}
theorem foldl_up {cs : List Cut} {done : List (Cut × Int)} {c : Cut} {sum : Int} (ps : List Nat) : ∀ s : List Int × Int,
    s.2 ≤ (ps.foldl (fun s f => if freeB m done c f then bestTo rows n m cs (done ++ [(c, (f : Int))]) (sum + c.v) s else s) s).2 := by
  induction ps with
  | nil => intro s; exact Int.le_refl _
  | cons p ps ihp =>
    intro s
    simp only [List.foldl_cons]
    refine Int.le_trans ?_ (ihp _)
    split
    · exact bestTo_up _ _ _ _
    · exact Int.le_refl _
/-- No sound plan is worth more than the best one. -/
theorem best_ge (ds : List (Cut × Int)) : ∀ (done : List (Cut × Int)) (sum : Int) (st : List Int × Int), (∀ d ∈ ds, -1 ≤ d.2) → soundB rows n m done ds = true → sum + worthD ds ≤ (bestTo rows n m (ds.map (·.1)) done sum st).2 := by
  induction ds with
  | nil =>
    intro done sum st _ _
    simp only [worthD, List.map_nil, List.foldr_nil, bestTo]
    split
    · show sum + 0 ≤ sum; omega
    · omega
  | cons d ds ih =>
    intro done sum st h1 h2
    obtain ⟨c, f⟩ := d
    have hf := h1 (c, f) (by simp)
    have h1' : ∀ d ∈ ds, -1 ≤ d.2 := fun d hd => h1 d (by simp [hd])
    simp only [soundB, Bool.and_eq_true] at h2
    obtain ⟨ho, hs⟩ := h2
    simp only [List.map_cons, bestTo, worthD_cons]
    by_cases hneg : f < 0
    · obtain rfl : f = -1 := by simp only at hf; omega
      have := ih (done ++ [(c, -1)]) sum st h1' hs
      rw [if_pos (by omega)]
      refine Int.le_trans ?_ (foldl_up _ _)
      omega
    · have ho' : (f.toNat < n * m ∧ fitsB rows n m c f.toNat = true) ∧ freeB m done c f.toNat = true := by
        simpa [okB, hneg] using ho
      have hmem : f.toNat ∈ placesL rows n m c := by
        simp only [placesL, List.mem_filter, List.mem_range]; exact ho'.1
      rw [if_neg hneg]
      have key : ∀ (ps : List Nat) (s : List Int × Int), f.toNat ∈ ps → sum + c.v + worthD ds ≤ (ps.foldl (fun s f => if freeB m done c f then bestTo rows n m (ds.map (·.1)) (done ++ [(c, (f : Int))]) (sum + c.v) s else s) s).2 := by
        intro ps
        induction ps with
        | nil => intro s h; cases h
        | cons p ps ihp =>
          intro s h
          simp only [List.foldl_cons]
          rcases List.mem_cons.1 h with e | e
          · subst e
            refine Int.le_trans ?_ (foldl_up _ _)
            rw [if_pos ho'.2]
            have e2 : ((f.toNat : Nat) : Int) = f := by omega
            rw [e2]
            exact ih _ _ _ h1' hs
          · exact ihp _ e
      have := key _ (bestTo rows n m (ds.map (·.1)) (done ++ [(c, -1)]) sum st) hmem
      omega
/-- The best plan is what the search began with, or a sound plan. -/
theorem best_of (cs : List Cut) : ∀ (done : List (Cut × Int)) (sum : Int) (st : List Int × Int), bestTo rows n m cs done sum st = st ∨
    ∃ ds, ds.map (·.1) = cs ∧ (∀ d ∈ ds, -1 ≤ d.2 ∧ d.2 < ((n * m : Nat) : Int)) ∧ soundB rows n m done ds = true ∧ bestTo rows n m cs done sum st = ((done ++ ds).map (·.2), sum + worthD ds) := by
  induction cs with
  | nil =>
    intro done sum st
    simp only [bestTo]
    split
    · exact .inr ⟨[], rfl, by simp, rfl, by simp [worthD]⟩
    · exact .inl rfl
  | cons c cs ih =>
    intro done sum st
    simp only [bestTo]
    have key : ∀ (ps : List Nat) (s : List Int × Int), (∀ f ∈ ps, f ∈ placesL rows n m c) → (s = st ∨ ∃ ds, ds.map (·.1) = c :: cs ∧ (∀ d ∈ ds, -1 ≤ d.2 ∧ d.2 < ((n * m : Nat) : Int)) ∧ soundB rows n m done ds = true ∧ s = ((done ++ ds).map (·.2), sum + worthD ds)) →
        ((ps.foldl (fun s f => if freeB m done c f then bestTo rows n m cs (done ++ [(c, (f : Int))]) (sum + c.v) s else s) s) = st ∨ ∃ ds, ds.map (·.1) = c :: cs ∧ (∀ d ∈ ds, -1 ≤ d.2 ∧ d.2 < ((n * m : Nat) : Int)) ∧ soundB rows n m done ds = true ∧ (ps.foldl (fun s f => if freeB m done c f then bestTo rows n m cs (done ++ [(c, (f : Int))]) (sum + c.v) s else s) s) = ((done ++ ds).map (·.2), sum + worthD ds)) := by
      intro ps
      induction ps with
      | nil => intro s _ h; exact h
      | cons p ps ihp =>
        intro s hp h
        simp only [List.foldl_cons]
        refine ihp _ (fun f hf => hp f (by simp [hf])) ?_
        split
        · rename_i hfree
          rcases ih (done ++ [(c, (p : Int))]) (sum + c.v) s with e | ⟨ds, d1, d2, d3, d4⟩
          · rw [e]; exact h
          · right
            have hpm := hp p (by simp)
            simp only [placesL, List.mem_filter, List.mem_range] at hpm
            refine ⟨(c, (p : Int)) :: ds, by simp [d1], ?_, ?_, ?_⟩
            · intro d hd
              rcases List.mem_cons.1 hd with rfl | hd
              · exact ⟨by show (-1 : Int) ≤ (p : Int); omega, by show (p : Int) < _; omega⟩
              · exact d2 d hd
            · simp only [soundB, Bool.and_eq_true]
              refine ⟨?_, d3⟩
              simp [okB, hpm.1, hpm.2, hfree]
            · rw [d4, worthD_cons, if_neg (by show ¬ (p : Int) < 0; omega)]
              simp only [List.append_assoc, List.singleton_append, Prod.mk.injEq, true_and]
              omega
        · exact h
    refine key _ _ (fun f hf => hf) ?_
    rcases ih (done ++ [(c, -1)]) sum st with e | ⟨ds, d1, d2, d3, d4⟩
    · exact .inl e
    · right
      refine ⟨(c, -1) :: ds, by simp [d1], ?_, ?_, ?_⟩
      · intro d hd
        rcases List.mem_cons.1 hd with rfl | hd
        · exact ⟨by show (-1 : Int) ≤ -1; omega, by show (-1 : Int) < _; omega⟩
        · exact d2 d hd
      · simp only [soundB, Bool.and_eq_true]
        exact ⟨by simp [okB], d3⟩
      · rw [d4, worthD_cons, if_pos (by show (-1 : Int) < 0; omega)]
        simp only [List.append_assoc, List.singleton_append, Prod.mk.injEq, true_and]
        omega
/-- The best plan of a list of pieces. -/
def best0 (rows : List ByteArray) (n m : Nat) (cs : List Cut) : List Int × Int := bestTo rows n m cs [] 0 ([], -1)
theorem sound_none (cs : List Cut) : ∀ done, soundB rows n m done (cs.map fun c => (c, -1)) = true := by
  induction cs with
  | nil => intro _; rfl
  | cons c cs ih =>
    intro done
    simp only [List.map_cons, soundB, Bool.and_eq_true]
    exact ⟨by simp [okB], ih _⟩
theorem best0_sound (cs : List Cut) : ∃ ds, ds.map (·.1) = cs ∧ (∀ d ∈ ds, -1 ≤ d.2 ∧ d.2 < ((n * m : Nat) : Int)) ∧ soundB rows n m [] ds = true ∧ best0 rows n m cs = (ds.map (·.2), worthD ds) := by
  rcases best_of (rows := rows) (n := n) (m := m) cs [] 0 ([], -1) with h | ⟨ds, d1, d2, d3, d4⟩
  · exfalso
    have h0 := best_ge (rows := rows) (n := n) (m := m) (cs.map fun c => (c, -1)) [] 0 ([], -1) (by intro d hd; obtain ⟨c, _, rfl⟩ := List.mem_map.1 hd; exact Int.le_refl _) (sound_none cs [])
    have h1 : worthD (cs.map fun c => ((c, -1) : Cut × Int)) = 0 := by
      clear h h0
      induction cs with
      | nil => rfl
      | cons c cs ih => rw [List.map_cons, worthD_cons, ih]; rfl
    have h2 : (cs.map fun c => ((c, -1) : Cut × Int)).map (·.1) = cs := by
      clear h h0 h1
      induction cs with
      | nil => rfl
      | cons c cs ih => rw [List.map_cons, List.map_cons, ih]
    rw [h1, h2, h] at h0
    simp at h0
  · exact ⟨ds, d1, d2, d3, by unfold best0; rw [d4]; simp⟩
theorem best0_ge {ds : List (Cut × Int)} (h1 : ∀ d ∈ ds, -1 ≤ d.2) (h : soundB rows n m [] ds = true) : worthD ds ≤ (best0 rows n m (ds.map (·.1))).2 := by
  have := best_ge ds [] 0 ([], -1) h1 h
  unfold best0
  omega
end
/-! ### The mirror -/
def revB (r : ByteArray) : ByteArray := ⟨r.data.reverse⟩
theorem revB_revB (r : ByteArray) : revB (revB r) = r := by cases r; simp [revB]
theorem revB_size (r : ByteArray) : (revB r).size = r.size := by cases r; simp [revB, ByteArray.size]
def mirF (m : Nat) (c : Cut) (f : Nat) : Nat := f / m * m + (m - c.w - f % m)
theorem mir_div {m f : Nat} {c : Cut} (hm : 1 ≤ m) (hw : 1 ≤ c.w) (hf : f % m + c.w ≤ m) : mirF m c f / m = f / m ∧ mirF m c f % m = m - c.w - f % m := by
  have hx : m - c.w - f % m < m := by omega
  unfold mirF
  constructor
  · rw [Nat.add_comm, Nat.add_mul_div_right _ _ (by omega), Nat.div_eq_of_lt hx, Nat.zero_add]
  · rw [Nat.add_comm, Nat.add_mul_mod_self_right, Nat.mod_eq_of_lt hx]
theorem fieldQ_rev {rows : List ByteArray} {m y x : Nat} (hy : y < rows.length) (hs : ∀ r ∈ rows, r.size = m) (hx : x < m) : fieldQ (rows.map revB) y x = fieldQ rows y (m - 1 - x) := by
  unfold fieldQ
  have h1 : (rows.map revB).getD y ⟨#[]⟩ = revB (rows.getD y ⟨#[]⟩) := by simp [List.getElem?_eq_getElem hy]
  have h2 : (rows.getD y ⟨#[]⟩).size = m := by
    have : rows.getD y ⟨#[]⟩ = rows[y] := by simp [List.getElem?_eq_getElem hy]
    rw [this]; exact hs _ (List.getElem_mem hy)
  rw [h1]
  generalize rows.getD y ⟨#[]⟩ = r at h2
  obtain ⟨⟨l⟩⟩ := r
  simp only [ByteArray.size, List.size_toArray] at h2
  congr 1
  simp only [revB, List.reverse_toArray]
  have hx' : x < l.length := by omega
  rw [List.getD_eq_getElem?_getD, List.getElem?_reverse hx', h2, List.getD_eq_getElem?_getD]
theorem fits_rev {rows : List ByteArray} {n m f : Nat} {c : Cut} (hn : rows.length = n) (hs : ∀ r ∈ rows, r.size = m) (hm : 1 ≤ m) (hw : 1 ≤ c.w) (h : fitsB rows n m c f = true) : fitsB (rows.map revB) n m c (mirF m c f) = true := by
  obtain ⟨l1, l2⟩ := fits_lie h
  obtain ⟨e1, e2⟩ := mir_div hm hw l2
  simp only [fitsB, Bool.and_eq_true, decide_eq_true_eq, List.all_eq_true, List.mem_range] at h ⊢
  rw [e1, e2]
  refine ⟨⟨l1, by omega⟩, fun y hy x hx => ?_⟩
  rw [fieldQ_rev (by omega) hs (by omega)]
  have h3 := h.2 y hy (c.w - 1 - x) (by omega)
  have e3 : m - 1 - (m - c.w - f % m + x) = f % m + (c.w - 1 - x) := by omega
  rw [e3]
  exact h3
theorem meet_rev {m f g : Nat} {a b : Cut} (hm : 1 ≤ m) (ha : 1 ≤ a.w) (hb : 1 ≤ b.w) (hf : f % m + a.w ≤ m) (hg : g % m + b.w ≤ m) : meetB m a (mirF m a f) b (mirF m b g) = meetB m a f b g := by
  obtain ⟨e1, e2⟩ := mir_div hm ha hf
  obtain ⟨e3, e4⟩ := mir_div hm hb hg
  unfold meetB
  rw [e1, e2, e3, e4]
  congr 1
  apply propext
  constructor <;> (rintro ⟨h1, h2, h3, h4⟩; exact ⟨by omega, by omega, h3, h4⟩)
def mirD (m : Nat) (d : Cut × Int) : Cut × Int := (d.1, if d.2 < 0 then d.2 else (mirF m d.1 d.2.toNat : Nat))
theorem mirD_neg {m : Nat} {d : Cut × Int} : (mirD m d).2 < 0 ↔ d.2 < 0 := by
  unfold mirD
  split
  · simp only []
  · constructor
    · intro h; simp only at h; omega
    · intro h; omega
def LieW (m : Nat) (done : List (Cut × Int)) : Prop := ∀ d ∈ done, 1 ≤ d.1.w ∧ (0 ≤ d.2 → d.2.toNat % m + d.1.w ≤ m)
theorem free_rev {m f : Nat} {c : Cut} {done : List (Cut × Int)} (hm : 1 ≤ m) (hw : 1 ≤ c.w) (hf : f % m + c.w ≤ m) (hl : LieW m done) : freeB m (done.map (mirD m)) c (mirF m c f) = freeB m done c f := by
  induction done with
  | nil => rfl
  | cons d ds ih =>
    have h1 := ih (fun d hd => hl d (by simp [hd]))
    obtain ⟨w1, l1⟩ := hl d (by simp)
    simp only [freeB, List.map_cons, List.all_cons] at h1 ⊢
    rw [h1]
    congr 1
    by_cases hneg : d.2 < 0
    · rw [show decide ((mirD m d).2 < 0) = true from decide_eq_true (mirD_neg.2 hneg), show decide (d.2 < 0) = true from decide_eq_true hneg]
      rfl
    · rw [show decide ((mirD m d).2 < 0) = false from decide_eq_false (fun h => hneg (mirD_neg.1 h)), show decide (d.2 < 0) = false from decide_eq_false hneg]
      have e : (mirD m d).2.toNat = mirF m d.1 d.2.toNat := by unfold mirD; rw [if_neg hneg]; rfl
      rw [e, show (mirD m d).1 = d.1 from rfl, meet_rev hm hw w1 hf (l1 (by omega))]
theorem mirF_lt {n m f : Nat} {c : Cut} (hm : 1 ≤ m) (hw : 1 ≤ c.w) (hf : f < n * m) (hl : f % m + c.w ≤ m) : mirF m c f < n * m := by
  have h1 : f / m < n := (Nat.div_lt_iff_lt_mul (by omega)).2 hf
  obtain ⟨e1, _⟩ := mir_div hm hw hl
  exact (Nat.div_lt_iff_lt_mul (by omega)).1 (by rw [e1]; exact h1)
theorem sound_rev {rows : List ByteArray} {n m : Nat} (hn : rows.length = n) (hs : ∀ r ∈ rows, r.size = m) (hm : 1 ≤ m) (ds : List (Cut × Int)) : ∀ done, (∀ d ∈ ds, 1 ≤ d.1.w) → LieW m done → soundB rows n m done ds = true →
    soundB (rows.map revB) n m (done.map (mirD m)) (ds.map (mirD m)) = true := by
  induction ds with
  | nil => intro _ _ _ _; rfl
  | cons d ds ih =>
    intro done hw hl h
    obtain ⟨c, f⟩ := d
    simp only [soundB, Bool.and_eq_true, List.map_cons] at h ⊢
    obtain ⟨h1, h2⟩ := h
    have w1 : 1 ≤ c.w := hw (c, f) (by simp)
    have hl2 : LieW m (done ++ [(c, f)]) := by
      intro d hd
      rcases List.mem_append.1 hd with hd | hd
      · exact hl d hd
      · obtain rfl : d = (c, f) := by simpa using hd
        refine ⟨w1, fun hf => ?_⟩
        have hf' : 0 ≤ f := hf
        have : (f.toNat < n * m ∧ fitsB rows n m c f.toNat = true) ∧ freeB m done c f.toNat = true := by simpa [okB, show ¬ f < 0 by omega] using h1
        exact (fits_lie this.1.2).2
    refine ⟨?_, ?_⟩
    · by_cases hneg : f < 0
      · have : (mirD m (c, f)).2 < 0 := mirD_neg.2 hneg
        simp [okB, this]
      · have ho : (f.toNat < n * m ∧ fitsB rows n m c f.toNat = true) ∧ freeB m done c f.toNat = true := by simpa [okB, hneg] using h1
        have hlw := (fits_lie ho.1.2).2
        have e : (mirD m (c, f)).2.toNat = mirF m c f.toNat := by unfold mirD; rw [if_neg hneg]; rfl
        have g1 := mirF_lt hm w1 ho.1.1 hlw
        have g2 := fits_rev hn hs hm w1 ho.1.2
        have g3 := (free_rev hm w1 hlw hl).trans ho.2
        unfold okB
        rw [e, show (mirD m (c, f)).1 = c from rfl, g2, g3]
        simp [g1]
    · have := ih (done ++ [(c, f)]) (fun d hd => hw d (by simp [hd])) hl2 h2
      rw [List.map_append] at this
      exact this
theorem worth_rev (m : Nat) (ds : List (Cut × Int)) : worthD (ds.map (mirD m)) = worthD ds := by
  induction ds with
  | nil => rfl
  | cons d ds ih =>
    rw [List.map_cons, worthD_cons, worthD_cons, ih]
    by_cases h : d.2 < 0
    · rw [if_pos h, if_pos (mirD_neg.2 h)]
    · rw [if_neg h, if_neg (fun e => h (mirD_neg.1 e))]; rfl
theorem best0_le_rev {rows : List ByteArray} {n m : Nat} (hn : rows.length = n) (hs : ∀ r ∈ rows, r.size = m) (hm : 1 ≤ m) {cs : List Cut} (hw : ∀ c ∈ cs, 1 ≤ c.w) : (best0 rows n m cs).2 ≤ (best0 (rows.map revB) n m cs).2 := by
  obtain ⟨ds, d1, d2, d3, d4⟩ := best0_sound (rows := rows) (n := n) (m := m) cs
  have hw' : ∀ d ∈ ds, 1 ≤ d.1.w := fun d hd => hw _ (by rw [← d1]; exact List.mem_map.2 ⟨d, hd, rfl⟩)
  have h := sound_rev hn hs hm ds [] hw' (by intro d hd; cases hd) d3
  have h1 := best0_ge (ds := ds.map (mirD m)) (by
    intro d hd
    obtain ⟨e, he, rfl⟩ := List.mem_map.1 hd
    have := (d2 e he).1
    unfold mirD
    split
    · exact this
    · show (-1 : Int) ≤ ((_ : Nat) : Int); omega) h
  rw [worth_rev, List.map_map, show ((fun x : Cut × Int => x.1) ∘ mirD m) = (fun x => x.1) from rfl, d1] at h1
  rw [d4]
  exact h1
/-- The best plan is as good on the other side. -/
theorem best0_rev {rows : List ByteArray} {n m : Nat} (hn : rows.length = n) (hs : ∀ r ∈ rows, r.size = m) (hm : 1 ≤ m) {cs : List Cut} (hw : ∀ c ∈ cs, 1 ≤ c.w) : (best0 (rows.map revB) n m cs).2 = (best0 rows n m cs).2 := by
  have h1 := best0_le_rev hn hs hm hw
  have h2 := best0_le_rev (rows := rows.map revB) (n := n) (m := m) (by simp [hn]) (by
    intro r hr
    obtain ⟨q, hq, rfl⟩ := List.mem_map.1 hr
    rw [revB_size]; exact hs q hq) hm hw
  rw [List.map_map, show (revB ∘ revB) = id from funext revB_revB, List.map_id] at h2
  omega
/-! ### The fields that a plan uses -/
theorem countP_iv (a b : Nat) (k : Nat) (hab : a ≤ b) : ((List.range k).countP fun x => decide (a ≤ x ∧ x < b)) = min b k - min a k := by
  induction k with
  | zero => simp
  | succ k ih =>
    rw [List.range_succ, List.countP_append, ih, List.countP_singleton]
    split
    · rename_i h; simp only [decide_eq_true_eq] at h; omega
    · rename_i h; simp only [decide_eq_true_eq] at h; omega
theorem countP_cells (p : Nat → Bool) (n m : Nat) : (List.range (n * m)).countP p = ((List.range n).map fun y => (List.range m).countP fun x => p (y * m + x)).sum := by
  induction n with
  | zero => simp
  | succ n ih =>
    rw [Nat.succ_mul, List.range_add, List.countP_append, ih, List.range_succ, List.map_append, List.sum_append, List.countP_map]
    simp
    rfl
theorem sum_iv (a b w : Nat) (k : Nat) (hab : a ≤ b) : ((List.range k).map fun y => if a ≤ y ∧ y < b then w else 0).sum = (min b k - min a k) * w := by
  induction k with
  | zero => simp
  | succ k ih =>
    rw [List.range_succ, List.map_append, List.sum_append, ih]
    simp only [List.map_cons, List.map_nil, List.sum_cons, List.sum_nil, Nat.add_zero]
    split
    · have e : min b (k + 1) - min a (k + 1) = (min b k - min a k) + 1 := by omega
      rw [e, Nat.succ_mul]
    · have e : min b (k + 1) - min a (k + 1) = min b k - min a k := by omega
      rw [e, Nat.add_zero]
theorem count_inR {n m f : Nat} {c : Cut} (hm : 1 ≤ m) (h1 : f / m + c.h ≤ n) (h2 : f % m + c.w ≤ m) : (List.range (n * m)).countP (inR m c f) = c.w * c.h := by
  rw [countP_cells]
  have key : ∀ y ∈ List.range n, (List.range m).countP (fun x => inR m c f (y * m + x)) = if f / m ≤ y ∧ y < f / m + c.h then c.w else 0 := by
    intro y _
    have e : (List.range m).countP (fun x => inR m c f (y * m + x)) = (List.range m).countP (fun x => decide (f / m ≤ y ∧ y < f / m + c.h) && decide (f % m ≤ x ∧ x < f % m + c.w)) := by
      apply List.countP_congr
      intro x hx
      have hx' : x < m := List.mem_range.1 hx
      have e1 : (y * m + x) / m = y := by rw [Nat.add_comm, Nat.add_mul_div_right _ _ (by omega), Nat.div_eq_of_lt hx', Nat.zero_add]
      have e2 : (y * m + x) % m = x := by rw [Nat.add_comm, Nat.add_mul_mod_self_right, Nat.mod_eq_of_lt hx']
      simp only [inR, e1, e2, Bool.and_eq_true, decide_eq_true_eq]
      constructor
      · rintro ⟨a, b, c, d⟩; exact ⟨⟨a, b⟩, c, d⟩
      · rintro ⟨⟨a, b⟩, c, d⟩; exact ⟨a, b, c, d⟩
    rw [e]
    split
    · rename_i h
      simp only [h, and_self, decide_true, Bool.true_and]
      rw [countP_iv _ _ _ (by omega)]
      omega
    · rename_i h
      simp [h]
  rw [List.map_congr_left key, sum_iv _ _ _ _ (by omega), Nat.mul_comm]
  congr 1
  omega
def coverB (m : Nat) (ds : List (Cut × Int)) (j : Nat) : Bool := ds.any fun d => decide (0 ≤ d.2) && inR m d.1 d.2.toNat j
def usedD (ds : List (Cut × Int)) : Nat := (ds.map fun d => if d.2 < 0 then 0 else d.1.w * d.1.h).sum
theorem countP_or {α : Type} (l : List α) (p q : α → Bool) (h : ∀ x ∈ l, ¬ (p x = true ∧ q x = true)) : l.countP (fun x => p x || q x) = l.countP p + l.countP q := by
  induction l with
  | nil => rfl
  | cons a l ih =>
    have h1 := ih (fun x hx => h x (by simp [hx]))
    have h2 := h a (by simp)
    rw [List.countP_cons, List.countP_cons, List.countP_cons, h1]
    cases hp : p a <;> cases hq : q a <;> simp [hp, hq] at h2 ⊢ <;> omega
theorem count_sound {rows : List ByteArray} {n m : Nat} (hm : 1 ≤ m) (ds : List (Cut × Int)) : ∀ done, soundB rows n m done ds = true → (List.range (n * m)).countP (coverB m (done ++ ds)) = (List.range (n * m)).countP (coverB m done) + usedD ds := by
  induction ds with
  | nil => intro done _; simp [usedD]
  | cons d ds ih =>
    intro done h
    simp only [soundB, Bool.and_eq_true] at h
    obtain ⟨h1, h2⟩ := h
    have h3 := ih (done ++ [d]) h2
    rw [List.append_assoc, List.singleton_append] at h3
    rw [h3]
    have e : (List.range (n * m)).countP (coverB m (done ++ [d])) = (List.range (n * m)).countP (coverB m done) + (if d.2 < 0 then 0 else d.1.w * d.1.h) := by
      obtain ⟨c, f⟩ := d
      have e0 : coverB m (done ++ [(c, f)]) = fun j => coverB m done j || (decide (0 ≤ f) && inR m c f.toNat j) := by
        funext j
        simp [coverB]
      rw [e0]
      by_cases hneg : f < 0
      · rw [if_pos hneg, show decide (0 ≤ f) = false from decide_eq_false (by omega)]
        simp
      · have ho : (f.toNat < n * m ∧ fitsB rows n m c f.toNat = true) ∧ freeB m done c f.toNat = true := by simpa [okB, hneg] using h1
        rw [if_neg hneg, show decide (0 ≤ f) = true from decide_eq_true (by omega)]
        simp only [Bool.true_and]
        rw [countP_or _ _ _ ?_]
        · obtain ⟨l1, l2⟩ := fits_lie ho.1.2
          rw [count_inR hm l1 l2]
        · rintro j _ ⟨hj1, hj2⟩
          simp only [coverB, List.any_eq_true, Bool.and_eq_true, decide_eq_true_eq] at hj1
          obtain ⟨d, hd, hd0, hd1⟩ := hj1
          have hfr := ho.2
          simp only [freeB, List.all_eq_true, Bool.or_eq_true, decide_eq_true_eq, Bool.not_eq_true'] at hfr
          rcases hfr d hd with hh | hh
          · omega
          · rw [inR_meet hj2 hd1] at hh; cases hh
    rw [e]
    have e2 : usedD (d :: ds) = (if d.2 < 0 then 0 else d.1.w * d.1.h) + usedD ds := rfl
    rw [e2]
    omega
end Go.Proofs.YthemlamdchcicaaGreatDoor

namespace Go.Proofs.YthemlamdchcicaaGreatDoor

/-! ### Hides -/
def hideB (rows : List ByteArray) : Bool :=
  decide (1 ≤ rows.length) && (decide (rows.length ≤ 6) && rows.all fun r => decide (r.size = (rows.getD 0 ⟨#[]⟩).size) && (decide (1 ≤ r.size) && (decide (r.size ≤ 6) && r.data.toList.all fun b => decide (0 ≤ qualU b))))
/-- A hide of n rows and m columns. -/
structure HideOk (rows : List ByteArray) (n m : Nat) : Prop where
  len : rows.length = n
  n1 : 1 ≤ n
  n6 : n ≤ 6
  m1 : 1 ≤ m
  m6 : m ≤ 6
  size : ∀ r ∈ rows, r.size = m
  good : ∀ r ∈ rows, ∀ b ∈ r.data.toList, 0 ≤ qualU b
theorem hideB_ok {rows : List ByteArray} (h : hideB rows = true) : HideOk rows rows.length (rows.getD 0 ⟨#[]⟩).size := by
  simp only [hideB, Bool.and_eq_true, decide_eq_true_eq, List.all_eq_true] at h
  obtain ⟨h1, h2, h3⟩ := h
  have h0 : rows.getD 0 ⟨#[]⟩ ∈ rows := by
    rw [List.getD_eq_getElem?_getD, List.getElem?_eq_getElem (by omega)]
    exact List.getElem_mem _
  exact ⟨rfl, h1, h2, (h3 _ h0).2.1, (h3 _ h0).2.2.1, fun r hr => (h3 r hr).1, fun r hr b hb => (h3 r hr).2.2.2 b hb⟩
theorem hideB_of {rows : List ByteArray} {n m : Nat} (h : HideOk rows n m) : hideB rows = true := by
  simp only [hideB, Bool.and_eq_true, decide_eq_true_eq, List.all_eq_true]
  have h0 : rows.getD 0 ⟨#[]⟩ ∈ rows := by
    have := h.len; have := h.n1
    rw [List.getD_eq_getElem?_getD, List.getElem?_eq_getElem (by omega)]
    exact List.getElem_mem _
  have e := h.size _ h0
  refine ⟨by rw [h.len]; exact h.n1, by rw [h.len]; exact h.n6, fun r hr => ⟨by rw [e]; exact h.size r hr, by rw [h.size r hr]; exact h.m1, by rw [h.size r hr]; exact h.m6, h.good r hr⟩⟩
theorem hide_row {rows : List ByteArray} {n m y : Nat} (h : HideOk rows n m) (hy : y < n) : ∃ r, rows[y]? = some r ∧ rows.getD y ⟨#[]⟩ = r ∧ r.size = m ∧ r ∈ rows := by
  have hl : y < rows.length := by rw [h.len]; exact hy
  refine ⟨rows[y], List.getElem?_eq_getElem hl, by simp [List.getElem?_eq_getElem hl], h.size _ (List.getElem_mem hl), List.getElem_mem hl⟩
theorem byte_at {r : ByteArray} {x : Nat} (h : x < r.size) : r.data.toList.getD x 0 = r[x] := by
  have h' : x < r.data.toList.length := Lib.size_eq r ▸ h
  rw [List.getD_eq_getElem?_getD, List.getElem?_eq_getElem h']
  rfl
theorem byte_mem {r : ByteArray} {x : Nat} (h : x < r.size) : r[x] ∈ r.data.toList := by
  have h' : x < r.data.toList.length := Lib.size_eq r ▸ h
  have := List.getElem_mem h'
  exact this
theorem fieldQ_at {rows : List ByteArray} {y x : Nat} {r : ByteArray} (hr : rows.getD y ⟨#[]⟩ = r) (hx : x < r.size) : fieldQ rows y x = qualU r[x] := by
  unfold fieldQ
  rw [hr, byte_at hx]
theorem qual_bd (b : UInt8) : -1 ≤ qualU b ∧ qualU b ≤ 3 := by
  unfold qualU
  repeat' split
  all_goals omega
/-! ### A piece at a field -/
section
variable {rows : List ByteArray} {n m f : Nat} {c : Cut}
theorem fits_out (h : ¬ (f / m + c.h ≤ n ∧ f % m + c.w ≤ m)) : fitsB rows n m c f = false := by
  unfold fitsB
  by_cases h1 : f / m + c.h ≤ n
  · have h2 : ¬ f % m + c.w ≤ m := fun e => h ⟨h1, e⟩
    simp [h2]
  · simp [h1]
theorem fits_bad {y x : Nat} (hy : y < c.h) (hx : x < c.w) (h : fieldQ rows (f / m + y) (f % m + x) < c.q) : fitsB rows n m c f = false := by
  cases e : fitsB rows n m c f with
  | false => rfl
  | true =>
    simp only [fitsB, Bool.and_eq_true, decide_eq_true_eq, List.all_eq_true, List.mem_range] at e
    have := e.2 y hy x hx
    omega
theorem fits_all (h1 : f / m + c.h ≤ n) (h2 : f % m + c.w ≤ m) (h : ∀ y, y < c.h → ∀ x, x < c.w → c.q ≤ fieldQ rows (f / m + y) (f % m + x)) : fitsB rows n m c f = true := by
  simp only [fitsB, Bool.and_eq_true, decide_eq_true_eq, List.all_eq_true, List.mem_range]
  exact ⟨⟨h1, h2⟩, h⟩
/-- The fields of the first i rows and of j columns of the next one. -/
def scanN (m : Nat) (c : Cut) (f i j : Nat) : Nat := bitsN (fun k => inR m c f k && decide (k / m < f / m + i ∨ (k / m = f / m + i ∧ k % m < f % m + j))) 36
theorem bits_ext {p q : Nat → Bool} {k : Nat} (h : ∀ j, j < k → p j = q j) : bitsN p k = bitsN q k := by
  apply Nat.eq_of_testBit_eq
  intro j
  rw [bitsN_bit, bitsN_bit]
  by_cases hj : j < k
  · rw [h j hj]
  · simp [hj]
theorem scan_zero : scanN m c f 0 0 = 0 := by
  apply Nat.eq_of_testBit_eq
  intro k
  rw [scanN, bitsN_bit, Nat.zero_testBit]
  cases h : inR m c f k with
  | false => simp
  | true =>
    simp only [inR, decide_eq_true_eq] at h
    rw [show decide (k / m < f / m + 0 ∨ (k / m = f / m + 0 ∧ k % m < f % m + 0)) = false from decide_eq_false (by omega)]
    simp
theorem scan_row {i : Nat} : scanN m c f i c.w = scanN m c f (i + 1) 0 := by
  apply bits_ext
  intro k _
  cases h : inR m c f k with
  | false => simp
  | true =>
    simp only [inR, decide_eq_true_eq] at h
    simp only [Bool.true_and]
    congr 1
    apply propext
    omega
theorem scan_end : scanN m c f c.h 0 = maskN m c f := by
  apply bits_ext
  intro k _
  cases h : inR m c f k with
  | false => simp
  | true =>
    simp only [inR, decide_eq_true_eq] at h
    rw [show decide (k / m < f / m + c.h ∨ (k / m = f / m + c.h ∧ k % m < f % m + 0)) = true from decide_eq_true (.inl (by omega))]
    simp
theorem field_div {y x : Nat} (hx : x < m) : (y * m + x) / m = y ∧ (y * m + x) % m = x := by
  constructor
  · rw [Nat.add_comm, Nat.add_mul_div_right _ _ (by omega), Nat.div_eq_of_lt hx, Nat.zero_add]
  · rw [Nat.add_comm, Nat.add_mul_mod_self_right, Nat.mod_eq_of_lt hx]
theorem field_lt {y x : Nat} (hy : y < n) (hx : x < m) : y * m + x < n * m := by
  have : (y + 1) * m ≤ n * m := Nat.mul_le_mul_right m hy
  rw [Nat.succ_mul] at this
  omega
theorem scan_step {i j : Nat} (hn : n ≤ 6) (hm : m ≤ 6) (h1 : f / m + c.h ≤ n) (h2 : f % m + c.w ≤ m) (hi : i < c.h) (hj : j < c.w) :
    scanN m c f i j ||| 2 ^ ((f / m + i) * m + (f % m + j)) = scanN m c f i (j + 1) := by
  have hx : f % m + j < m := by omega
  obtain ⟨e1, e2⟩ := field_div (y := f / m + i) hx
  have hlt := field_lt (n := n) (m := m) (show f / m + i < n by omega) hx
  have h36 : n * m ≤ 36 := Nat.mul_le_mul hn hm
  apply Nat.eq_of_testBit_eq
  intro k
  rw [Nat.testBit_or, scanN, scanN, bitsN_bit, bitsN_bit, Nat.testBit_two_pow]
  by_cases hk : (f / m + i) * m + (f % m + j) = k
  · subst hk
    have g1 : decide ((f / m + i) * m + (f % m + j) < 36) = true := decide_eq_true (by omega)
    have g2 : inR m c f ((f / m + i) * m + (f % m + j)) = true := by
      simp only [inR, decide_eq_true_eq, e1, e2]
      omega
    rw [e1, e2, g1, g2]
    simp
  · have hne : ¬ (k / m = f / m + i ∧ k % m = f % m + j) := fun e => hk (by
      have := Nat.div_add_mod k m
      rw [e.1, e.2, Nat.mul_comm] at this
      exact this)
    rw [show decide ((f / m + i) * m + (f % m + j) = k) = false from decide_eq_false hk, Bool.or_false]
    congr 2
    congr 1
    apply propext
    omega
theorem scan_lt (i j : Nat) : scanN m c f i j < 2 ^ 36 := bitsN_lt _ _
theorem mask_lt : maskN m c f < 2 ^ 36 := bitsN_lt _ _
theorem or_lt {a b : Nat} (ha : a < 2 ^ 36) (hb : b < 2 ^ 36) : a ||| b < 2 ^ 36 := Nat.or_lt_two_pow ha hb
theorem taken_lt (done : List (Cut × Int)) : takenN m done < 2 ^ 36 := by
  have key : ∀ t, t < 2 ^ 36 → done.foldl (fun t d => if d.2 < 0 then t else t ||| maskN m d.1 d.2.toNat) t < 2 ^ 36 := by
    induction done with
    | nil => intro t h; exact h
    | cons d ds ih =>
      intro t h
      simp only [List.foldl_cons]
      apply ih
      split
      · exact h
      · exact or_lt h mask_lt
  exact key 0 (by decide)
/-! ### The places -/
theorem places_zero : (List.range 0).filter (fitsB rows n m c) = [] := rfl
theorem places_yes {k : Nat} (h : fitsB rows n m c k = true) : (List.range (k + 1)).filter (fitsB rows n m c) = (List.range k).filter (fitsB rows n m c) ++ [k] := by
  rw [List.range_succ, List.filter_append]
  simp [h]
theorem places_no {k : Nat} (h : fitsB rows n m c k = false) : (List.range (k + 1)).filter (fitsB rows n m c) = (List.range k).filter (fitsB rows n m c) := by
  rw [List.range_succ, List.filter_append]
  simp [h]
theorem places_len (k : Nat) : ((List.range k).filter (fitsB rows n m c)).length ≤ k := by
  have := List.length_filter_le (fitsB rows n m c) (List.range k)
  simpa using this
end
/-! ### Pieces in memory -/
def cutAt (zs : List Int) (k : Nat) : Cut := ⟨(zs.getD (k * 4) 0).toNat, (zs.getD (k * 4 + 1) 0).toNat, zs.getD (k * 4 + 2) 0, zs.getD (k * 4 + 3) 0⟩
def cutB (x0 x1 x2 x3 : Int) : Bool := decide (1 ≤ x0 ∧ x0 ≤ 6) && (decide (1 ≤ x1 ∧ x1 ≤ 6) && (decide (1 ≤ x2 ∧ x2 ≤ 3) && decide (0 ≤ x3 ∧ x3 ≤ 1000)))
def cutsB (zs : List Int) (n : Nat) : Bool := decide (n ≤ 4) && (List.range n).all fun k => cutB (zs.getD (k * 4) 0) (zs.getD (k * 4 + 1) 0) (zs.getD (k * 4 + 2) 0) (zs.getD (k * 4 + 3) 0)
def cutsL (zs : List Int) (n : Nat) : List Cut := (List.range n).map (cutAt zs)
theorem cutB_iff {x0 x1 x2 x3 : Int} : cutB x0 x1 x2 x3 = true ↔ (1 ≤ x0 ∧ x0 ≤ 6) ∧ (1 ≤ x1 ∧ x1 ≤ 6) ∧ (1 ≤ x2 ∧ x2 ≤ 3) ∧ 0 ≤ x3 ∧ x3 ≤ 1000 := by
  simp [cutB]
/-- A valid piece. -/
def CutOk (c : Cut) : Prop := (1 ≤ c.w ∧ c.w ≤ 6) ∧ (1 ≤ c.h ∧ c.h ≤ 6) ∧ (1 ≤ c.q ∧ c.q ≤ 3) ∧ 0 ≤ c.v ∧ c.v ≤ 1000
theorem cutsB_at {zs : List Int} {n k : Nat} (h : cutsB zs n = true) (hk : k < n) : n ≤ 4 ∧ CutOk (cutAt zs k) ∧ zs.getD (k * 4) 0 = ((cutAt zs k).w : Int) ∧ zs.getD (k * 4 + 1) 0 = ((cutAt zs k).h : Int) := by
  simp only [cutsB, Bool.and_eq_true, decide_eq_true_eq, List.all_eq_true, List.mem_range] at h
  have h1 := cutB_iff.1 (h.2 k hk)
  unfold CutOk cutAt
  simp only
  omega
theorem cutsB_n {zs : List Int} {n : Nat} (h : cutsB zs n = true) : n ≤ 4 := by
  simp only [cutsB, Bool.and_eq_true, decide_eq_true_eq] at h
  exact h.1
theorem cutsL_at {zs : List Int} {n k : Nat} (hk : k < n) : (cutsL zs n)[k]? = some (cutAt zs k) := by
  simp [cutsL, hk]
theorem cutsL_len (zs : List Int) (n : Nat) : (cutsL zs n).length = n := by simp [cutsL]
theorem cutsL_drop {zs : List Int} {n k : Nat} (hk : k < n) : (cutsL zs n).drop k = cutAt zs k :: (cutsL zs n).drop (k + 1) := by
  rw [List.drop_eq_getElem_cons (by rw [cutsL_len]; exact hk)]
  congr 1
  have := cutsL_at (zs := zs) hk
  rw [List.getElem?_eq_getElem (by rw [cutsL_len]; exact hk)] at this
  simpa using this
theorem cutsL_ok {zs : List Int} {n : Nat} (h : cutsB zs n = true) : ∀ c ∈ cutsL zs n, CutOk c := by
  intro c hc
  obtain ⟨k, hk, rfl⟩ := List.mem_map.1 hc
  exact (cutsB_at h (List.mem_range.1 hk)).2.1
theorem worths_le {cs : List Cut} (h : ∀ c ∈ cs, CutOk c) : 0 ≤ worths cs ∧ worths cs ≤ 1000 * cs.length := by
  induction cs with
  | nil => simp [worths]
  | cons c cs ih =>
    have h1 := ih (fun d hd => h d (by simp [hd]))
    have h2 := (h c (by simp)).2.2.2
    have e : worths (c :: cs) = c.v + worths cs := rfl
    rw [e, List.length_cons]
    omega
theorem mem_drop {α : Type} {l : List α} {k : Nat} {x : α} (h : x ∈ l.drop k) : x ∈ l := List.mem_of_mem_drop h
/-! ### What the law compares -/
def planOk (rows : List ByteArray) (zs : List Int) (n : Nat) : Bool := hideB rows && cutsB zs n
def planL (rows : List ByteArray) (zs : List Int) (n : Nat) : List Int := if planOk rows zs n then (best0 rows rows.length (rows.getD 0 ⟨#[]⟩).size (cutsL zs n)).1 else []
def planW (rows : List ByteArray) (zs : List Int) (n : Nat) : Int := if planOk rows zs n then (best0 rows rows.length (rows.getD 0 ⟨#[]⟩).size (cutsL zs n)).2 else 0
def planC (rows : List ByteArray) (zs : List Int) (n : Nat) : Int := if planOk rows zs n then 0 else 1
theorem best0_len (rows : List ByteArray) (n m : Nat) (cs : List Cut) : (best0 rows n m cs).1.length = cs.length := by
  obtain ⟨ds, d1, _, _, d4⟩ := best0_sound (rows := rows) (n := n) (m := m) cs
  rw [d4, ← d1]
  simp
end Go.Proofs.YthemlamdchcicaaGreatDoor
