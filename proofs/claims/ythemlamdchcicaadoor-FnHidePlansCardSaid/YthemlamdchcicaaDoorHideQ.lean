/-
  The best plan of a hide is sound and not worth less than others; the mirror of a hide; the fields that a plan uses: in plain Lean. No condition of its own.
-/
import Derived.Test.YthemlamdchcicaaDoorHideP
namespace Go.Proofs.YthemlamdchcicaaDoor

/-- The next piece lies well. -/
def okB (rows : List ByteArray) (n m : Nat) (done : List (Cut × Int)) (d : Cut × Int) : Bool := decide (d.2 < 0) || (decide (d.2.toNat < n * m) && fitsB rows n m d.1 d.2.toNat && freeB m done d.1 d.2.toNat)
/-- All pieces lie well. -/
def soundB (rows : List ByteArray) (n m : Nat) : List (Cut × Int) → List (Cut × Int) → Bool
  | _, [] => true
  | done, d :: ds => okB rows n m done d && soundB rows n m (done ++ [d]) ds
/-- The worth of a plan. -/
def worthD (ds : List (Cut × Int)) : Int := (ds.map fun d => if d.2 < 0 then 0 else d.1.v).foldr (· + ·) 0
theorem worthD_cons (d : Cut × Int) (ds : List (Cut × Int)) : worthD (d :: ds) = (if d.2 < 0 then 0 else d.1.v) + worthD ds := rfl
section
variable {rows : List ByteArray} {n m : Nat}
theorem foldl_up {cs : List Cut} {done : List (Cut × Int)} {c : Cut} {sum : Int} (ps : List Nat) : ∀ s : List Int × Int,
    s.2 ≤ (ps.foldl (fun s f => if freeB m done c f then bestTo rows n m cs (done ++ [(c, (f : Int))]) (sum + c.v) s else s) s).2 := by
  induction ps with
  | nil => intro s; exact Int.le_refl _
  | cons p ps ihp =>
    intro s
    simp only [List.foldl_cons]
    refine Int.le_trans ?_ (ihp _)
    split
    · exact bestTo_up _ _ _ _
    · exact Int.le_refl _
/-- No sound plan is worth more than the best one. -/
theorem best_ge (ds : List (Cut × Int)) : ∀ (done : List (Cut × Int)) (sum : Int) (st : List Int × Int), (∀ d ∈ ds, -1 ≤ d.2) → soundB rows n m done ds = true → sum + worthD ds ≤ (bestTo rows n m (ds.map (·.1)) done sum st).2 := by
  induction ds with
  | nil =>
    intro done sum st _ _
    simp only [worthD, List.map_nil, List.foldr_nil, bestTo]
    split
    · show sum + 0 ≤ sum; omega
    · omega
  | cons d ds ih =>
    intro done sum st h1 h2
    obtain ⟨c, f⟩ := d
    have hf := h1 (c, f) (by simp)
    have h1' : ∀ d ∈ ds, -1 ≤ d.2 := fun d hd => h1 d (by simp [hd])
    simp only [soundB, Bool.and_eq_true] at h2
    obtain ⟨ho, hs⟩ := h2
    simp only [List.map_cons, bestTo, worthD_cons]
    by_cases hneg : f < 0
    · obtain rfl : f = -1 := by simp only at hf; omega
      have := ih (done ++ [(c, -1)]) sum st h1' hs
      rw [if_pos (by omega)]
      refine Int.le_trans ?_ (foldl_up _ _)
      omega
    · have ho' : (f.toNat < n * m ∧ fitsB rows n m c f.toNat = true) ∧ freeB m done c f.toNat = true := by
        simpa [okB, hneg] using ho
      have hmem : f.toNat ∈ placesL rows n m c := by
        simp only [placesL, List.mem_filter, List.mem_range]; exact ho'.1
      rw [if_neg hneg]
      have key : ∀ (ps : List Nat) (s : List Int × Int), f.toNat ∈ ps → sum + c.v + worthD ds ≤ (ps.foldl (fun s f => if freeB m done c f then bestTo rows n m (ds.map (·.1)) (done ++ [(c, (f : Int))]) (sum + c.v) s else s) s).2 := by
        intro ps
        induction ps with
        | nil => intro s h; cases h
        | cons p ps ihp =>
          intro s h
          simp only [List.foldl_cons]
          rcases List.mem_cons.1 h with e | e
          · subst e
            refine Int.le_trans ?_ (foldl_up _ _)
            rw [if_pos ho'.2]
            have e2 : ((f.toNat : Nat) : Int) = f := by omega
            rw [e2]
            exact ih _ _ _ h1' hs
          · exact ihp _ e
      have := key _ (bestTo rows n m (ds.map (·.1)) (done ++ [(c, -1)]) sum st) hmem
      omega
/-- The best plan is what the search began with, or a sound plan. -/
theorem best_of (cs : List Cut) : ∀ (done : List (Cut × Int)) (sum : Int) (st : List Int × Int), bestTo rows n m cs done sum st = st ∨
    ∃ ds, ds.map (·.1) = cs ∧ (∀ d ∈ ds, -1 ≤ d.2 ∧ d.2 < ((n * m : Nat) : Int)) ∧ soundB rows n m done ds = true ∧ bestTo rows n m cs done sum st = ((done ++ ds).map (·.2), sum + worthD ds) := by
  induction cs with
  | nil =>
    intro done sum st
    simp only [bestTo]
    split
    · exact .inr ⟨[], rfl, by simp, rfl, by simp [worthD]⟩
    · exact .inl rfl
  | cons c cs ih =>
    intro done sum st
    simp only [bestTo]
    have key : ∀ (ps : List Nat) (s : List Int × Int), (∀ f ∈ ps, f ∈ placesL rows n m c) → (s = st ∨ ∃ ds, ds.map (·.1) = c :: cs ∧ (∀ d ∈ ds, -1 ≤ d.2 ∧ d.2 < ((n * m : Nat) : Int)) ∧ soundB rows n m done ds = true ∧ s = ((done ++ ds).map (·.2), sum + worthD ds)) →
        ((ps.foldl (fun s f => if freeB m done c f then bestTo rows n m cs (done ++ [(c, (f : Int))]) (sum + c.v) s else s) s) = st ∨ ∃ ds, ds.map (·.1) = c :: cs ∧ (∀ d ∈ ds, -1 ≤ d.2 ∧ d.2 < ((n * m : Nat) : Int)) ∧ soundB rows n m done ds = true ∧ (ps.foldl (fun s f => if freeB m done c f then bestTo rows n m cs (done ++ [(c, (f : Int))]) (sum + c.v) s else s) s) = ((done ++ ds).map (·.2), sum + worthD ds)) := by
      intro ps
      induction ps with
      | nil => intro s _ h; exact h
      | cons p ps ihp =>
        intro s hp h
        simp only [List.foldl_cons]
        refine ihp _ (fun f hf => hp f (by simp [hf])) ?_
        split
        · rename_i hfree
          rcases ih (done ++ [(c, (p : Int))]) (sum + c.v) s with e | ⟨ds, d1, d2, d3, d4⟩
          · rw [e]; exact h
          · right
            have hpm := hp p (by simp)
            simp only [placesL, List.mem_filter, List.mem_range] at hpm
            refine ⟨(c, (p : Int)) :: ds, by simp [d1], ?_, ?_, ?_⟩
            · intro d hd
              rcases List.mem_cons.1 hd with rfl | hd
              · exact ⟨by show (-1 : Int) ≤ (p : Int); omega, by show (p : Int) < _; omega⟩
              · exact d2 d hd
            · simp only [soundB, Bool.and_eq_true]
              refine ⟨?_, d3⟩
              simp [okB, hpm.1, hpm.2, hfree]
            · rw [d4, worthD_cons, if_neg (by show ¬ (p : Int) < 0; omega)]
              simp only [List.append_assoc, List.singleton_append, Prod.mk.injEq, true_and]
              omega
        · exact h
    refine key _ _ (fun f hf => hf) ?_
    rcases ih (done ++ [(c, -1)]) sum st with e | ⟨ds, d1, d2, d3, d4⟩
    · exact .inl e
    · right
      refine ⟨(c, -1) :: ds, by simp [d1], ?_, ?_, ?_⟩
      · intro d hd
        rcases List.mem_cons.1 hd with rfl | hd
        · exact ⟨by show (-1 : Int) ≤ -1; omega, by show (-1 : Int) < _; omega⟩
        · exact d2 d hd
      · simp only [soundB, Bool.and_eq_true]
        exact ⟨by simp [okB], d3⟩
      · rw [d4, worthD_cons, if_pos (by show (-1 : Int) < 0; omega)]
        simp only [List.append_assoc, List.singleton_append, Prod.mk.injEq, true_and]
        omega
/-- The best plan of a list of pieces. -/
def best0 (rows : List ByteArray) (n m : Nat) (cs : List Cut) : List Int × Int := bestTo rows n m cs [] 0 ([], -1)
theorem sound_none (cs : List Cut) : ∀ done, soundB rows n m done (cs.map fun c => (c, -1)) = true := by
  induction cs with
  | nil => intro _; rfl
  | cons c cs ih =>
    intro done
    simp only [List.map_cons, soundB, Bool.and_eq_true]
    exact ⟨by simp [okB], ih _⟩
theorem best0_sound (cs : List Cut) : ∃ ds, ds.map (·.1) = cs ∧ (∀ d ∈ ds, -1 ≤ d.2 ∧ d.2 < ((n * m : Nat) : Int)) ∧ soundB rows n m [] ds = true ∧ best0 rows n m cs = (ds.map (·.2), worthD ds) := by
  rcases best_of (rows := rows) (n := n) (m := m) cs [] 0 ([], -1) with h | ⟨ds, d1, d2, d3, d4⟩
  · exfalso
    have h0 := best_ge (rows := rows) (n := n) (m := m) (cs.map fun c => (c, -1)) [] 0 ([], -1) (by intro d hd; obtain ⟨c, _, rfl⟩ := List.mem_map.1 hd; exact Int.le_refl _) (sound_none cs [])
    have h1 : worthD (cs.map fun c => ((c, -1) : Cut × Int)) = 0 := by
      clear h h0
      induction cs with
      | nil => rfl
      | cons c cs ih => rw [List.map_cons, worthD_cons, ih]; rfl
    have h2 : (cs.map fun c => ((c, -1) : Cut × Int)).map (·.1) = cs := by
      clear h h0 h1
      induction cs with
      | nil => rfl
      | cons c cs ih => rw [List.map_cons, List.map_cons, ih]
    rw [h1, h2, h] at h0
    simp at h0
  · exact ⟨ds, d1, d2, d3, by unfold best0; rw [d4]; simp⟩
theorem best0_ge {ds : List (Cut × Int)} (h1 : ∀ d ∈ ds, -1 ≤ d.2) (h : soundB rows n m [] ds = true) : worthD ds ≤ (best0 rows n m (ds.map (·.1))).2 := by
  have := best_ge ds [] 0 ([], -1) h1 h
  unfold best0
  omega
end
/-! ### The mirror -/
def revB (r : ByteArray) : ByteArray := ⟨r.data.reverse⟩
theorem revB_revB (r : ByteArray) : revB (revB r) = r := by cases r; simp [revB]
theorem revB_size (r : ByteArray) : (revB r).size = r.size := by cases r; simp [revB, ByteArray.size]
def mirF (m : Nat) (c : Cut) (f : Nat) : Nat := f / m * m + (m - c.w - f % m)
theorem mir_div {m f : Nat} {c : Cut} (hm : 1 ≤ m) (hw : 1 ≤ c.w) (hf : f % m + c.w ≤ m) : mirF m c f / m = f / m ∧ mirF m c f % m = m - c.w - f % m := by
  have hx : m - c.w - f % m < m := by omega
  unfold mirF
  constructor
  · rw [Nat.add_comm, Nat.add_mul_div_right _ _ (by omega), Nat.div_eq_of_lt hx, Nat.zero_add]
  · rw [Nat.add_comm, Nat.add_mul_mod_self_right, Nat.mod_eq_of_lt hx]
theorem fieldQ_rev {rows : List ByteArray} {m y x : Nat} (hy : y < rows.length) (hs : ∀ r ∈ rows, r.size = m) (hx : x < m) : fieldQ (rows.map revB) y x = fieldQ rows y (m - 1 - x) := by
  unfold fieldQ
  have h1 : (rows.map revB).getD y ⟨#[]⟩ = revB (rows.getD y ⟨#[]⟩) := by simp [List.getElem?_eq_getElem hy]
  have h2 : (rows.getD y ⟨#[]⟩).size = m := by
    have : rows.getD y ⟨#[]⟩ = rows[y] := by simp [List.getElem?_eq_getElem hy]
    rw [this]; exact hs _ (List.getElem_mem hy)
  rw [h1]
  generalize rows.getD y ⟨#[]⟩ = r at h2
  obtain ⟨⟨l⟩⟩ := r
  simp only [ByteArray.size, List.size_toArray] at h2
  congr 1
  simp only [revB, List.reverse_toArray]
  have hx' : x < l.length := by omega
  rw [List.getD_eq_getElem?_getD, List.getElem?_reverse hx', h2, List.getD_eq_getElem?_getD]
theorem fits_rev {rows : List ByteArray} {n m f : Nat} {c : Cut} (hn : rows.length = n) (hs : ∀ r ∈ rows, r.size = m) (hm : 1 ≤ m) (hw : 1 ≤ c.w) (h : fitsB rows n m c f = true) : fitsB (rows.map revB) n m c (mirF m c f) = true := by
  obtain ⟨l1, l2⟩ := fits_lie h
  obtain ⟨e1, e2⟩ := mir_div hm hw l2
  simp only [fitsB, Bool.and_eq_true, decide_eq_true_eq, List.all_eq_true, List.mem_range] at h ⊢
  rw [e1, e2]
  refine ⟨⟨l1, by omega⟩, fun y hy x hx => ?_⟩
  rw [fieldQ_rev (by omega) hs (by omega)]
  have h3 := h.2 y hy (c.w - 1 - x) (by omega)
  have e3 : m - 1 - (m - c.w - f % m + x) = f % m + (c.w - 1 - x) := by omega
  rw [e3]
  exact h3
theorem meet_rev {m f g : Nat} {a b : Cut} (hm : 1 ≤ m) (ha : 1 ≤ a.w) (hb : 1 ≤ b.w) (hf : f % m + a.w ≤ m) (hg : g % m + b.w ≤ m) : meetB m a (mirF m a f) b (mirF m b g) = meetB m a f b g := by
  obtain ⟨e1, e2⟩ := mir_div hm ha hf
  obtain ⟨e3, e4⟩ := mir_div hm hb hg
  unfold meetB
  rw [e1, e2, e3, e4]
  congr 1
  apply propext
  constructor <;> (rintro ⟨h1, h2, h3, h4⟩; exact ⟨by omega, by omega, h3, h4⟩)
def mirD (m : Nat) (d : Cut × Int) : Cut × Int := (d.1, if d.2 < 0 then d.2 else (mirF m d.1 d.2.toNat : Nat))
theorem mirD_neg {m : Nat} {d : Cut × Int} : (mirD m d).2 < 0 ↔ d.2 < 0 := by
  unfold mirD
  split
  · simp only []
  · constructor
    · intro h; simp only at h; omega
    · intro h; omega
def LieW (m : Nat) (done : List (Cut × Int)) : Prop := ∀ d ∈ done, 1 ≤ d.1.w ∧ (0 ≤ d.2 → d.2.toNat % m + d.1.w ≤ m)
theorem free_rev {m f : Nat} {c : Cut} {done : List (Cut × Int)} (hm : 1 ≤ m) (hw : 1 ≤ c.w) (hf : f % m + c.w ≤ m) (hl : LieW m done) : freeB m (done.map (mirD m)) c (mirF m c f) = freeB m done c f := by
  induction done with
  | nil => rfl
  | cons d ds ih =>
    have h1 := ih (fun d hd => hl d (by simp [hd]))
    obtain ⟨w1, l1⟩ := hl d (by simp)
    simp only [freeB, List.map_cons, List.all_cons] at h1 ⊢
    rw [h1]
    congr 1
    by_cases hneg : d.2 < 0
    · rw [show decide ((mirD m d).2 < 0) = true from decide_eq_true (mirD_neg.2 hneg), show decide (d.2 < 0) = true from decide_eq_true hneg]
      rfl
    · rw [show decide ((mirD m d).2 < 0) = false from decide_eq_false (fun h => hneg (mirD_neg.1 h)), show decide (d.2 < 0) = false from decide_eq_false hneg]
      have e : (mirD m d).2.toNat = mirF m d.1 d.2.toNat := by unfold mirD; rw [if_neg hneg]; rfl
      rw [e, show (mirD m d).1 = d.1 from rfl, meet_rev hm hw w1 hf (l1 (by omega))]
theorem mirF_lt {n m f : Nat} {c : Cut} (hm : 1 ≤ m) (hw : 1 ≤ c.w) (hf : f < n * m) (hl : f % m + c.w ≤ m) : mirF m c f < n * m := by
  have h1 : f / m < n := (Nat.div_lt_iff_lt_mul (by omega)).2 hf
  obtain ⟨e1, _⟩ := mir_div hm hw hl
  exact (Nat.div_lt_iff_lt_mul (by omega)).1 (by rw [e1]; exact h1)
theorem sound_rev {rows : List ByteArray} {n m : Nat} (hn : rows.length = n) (hs : ∀ r ∈ rows, r.size = m) (hm : 1 ≤ m) (ds : List (Cut × Int)) : ∀ done, (∀ d ∈ ds, 1 ≤ d.1.w) → LieW m done → soundB rows n m done ds = true →
    soundB (rows.map revB) n m (done.map (mirD m)) (ds.map (mirD m)) = true := by
  induction ds with
  | nil => intro _ _ _ _; rfl
  | cons d ds ih =>
    intro done hw hl h
    obtain ⟨c, f⟩ := d
    simp only [soundB, Bool.and_eq_true, List.map_cons] at h ⊢
    obtain ⟨h1, h2⟩ := h
    have w1 : 1 ≤ c.w := hw (c, f) (by simp)
    have hl2 : LieW m (done ++ [(c, f)]) := by
      intro d hd
      rcases List.mem_append.1 hd with hd | hd
      · exact hl d hd
      · obtain rfl : d = (c, f) := by simpa using hd
        refine ⟨w1, fun hf => ?_⟩
        have hf' : 0 ≤ f := hf
        have : (f.toNat < n * m ∧ fitsB rows n m c f.toNat = true) ∧ freeB m done c f.toNat = true := by simpa [okB, show ¬ f < 0 by omega] using h1
        exact (fits_lie this.1.2).2
    refine ⟨?_, ?_⟩
    · by_cases hneg : f < 0
      · have : (mirD m (c, f)).2 < 0 := mirD_neg.2 hneg
        simp [okB, this]
      · have ho : (f.toNat < n * m ∧ fitsB rows n m c f.toNat = true) ∧ freeB m done c f.toNat = true := by simpa [okB, hneg] using h1
        have hlw := (fits_lie ho.1.2).2
        have e : (mirD m (c, f)).2.toNat = mirF m c f.toNat := by unfold mirD; rw [if_neg hneg]; rfl
        have g1 := mirF_lt hm w1 ho.1.1 hlw
        have g2 := fits_rev hn hs hm w1 ho.1.2
        have g3 := (free_rev hm w1 hlw hl).trans ho.2
        unfold okB
        rw [e, show (mirD m (c, f)).1 = c from rfl, g2, g3]
        simp [g1]
    · have := ih (done ++ [(c, f)]) (fun d hd => hw d (by simp [hd])) hl2 h2
      rw [List.map_append] at this
      exact this
theorem worth_rev (m : Nat) (ds : List (Cut × Int)) : worthD (ds.map (mirD m)) = worthD ds := by
  induction ds with
  | nil => rfl
  | cons d ds ih =>
    rw [List.map_cons, worthD_cons, worthD_cons, ih]
    by_cases h : d.2 < 0
    · rw [if_pos h, if_pos (mirD_neg.2 h)]
    · rw [if_neg h, if_neg (fun e => h (mirD_neg.1 e))]; rfl
theorem best0_le_rev {rows : List ByteArray} {n m : Nat} (hn : rows.length = n) (hs : ∀ r ∈ rows, r.size = m) (hm : 1 ≤ m) {cs : List Cut} (hw : ∀ c ∈ cs, 1 ≤ c.w) : (best0 rows n m cs).2 ≤ (best0 (rows.map revB) n m cs).2 := by
  obtain ⟨ds, d1, d2, d3, d4⟩ := best0_sound (rows := rows) (n := n) (m := m) cs
  have hw' : ∀ d ∈ ds, 1 ≤ d.1.w := fun d hd => hw _ (by rw [← d1]; exact List.mem_map.2 ⟨d, hd, rfl⟩)
  have h := sound_rev hn hs hm ds [] hw' (by intro d hd; cases hd) d3
  have h1 := best0_ge (ds := ds.map (mirD m)) (by
    intro d hd
    obtain ⟨e, he, rfl⟩ := List.mem_map.1 hd
    have := (d2 e he).1
    unfold mirD
    split
    · exact this
    · show (-1 : Int) ≤ ((_ : Nat) : Int); omega) h
  rw [worth_rev, List.map_map, show ((fun x : Cut × Int => x.1) ∘ mirD m) = (fun x => x.1) from rfl, d1] at h1
  rw [d4]
  exact h1
/-- The best plan is as good on the other side. -/
theorem best0_rev {rows : List ByteArray} {n m : Nat} (hn : rows.length = n) (hs : ∀ r ∈ rows, r.size = m) (hm : 1 ≤ m) {cs : List Cut} (hw : ∀ c ∈ cs, 1 ≤ c.w) : (best0 (rows.map revB) n m cs).2 = (best0 rows n m cs).2 := by
  have h1 := best0_le_rev hn hs hm hw
  have h2 := best0_le_rev (rows := rows.map revB) (n := n) (m := m) (by simp [hn]) (by
    intro r hr
    obtain ⟨q, hq, rfl⟩ := List.mem_map.1 hr
    rw [revB_size]; exact hs q hq) hm hw
  rw [List.map_map, show (revB ∘ revB) = id from funext revB_revB, List.map_id] at h2
  omega
/-! ### The fields that a plan uses -/
theorem countP_iv (a b : Nat) (k : Nat) (hab : a ≤ b) : ((List.range k).countP fun x => decide (a ≤ x ∧ x < b)) = min b k - min a k := by
  induction k with
  | zero => simp
  | succ k ih =>
    rw [List.range_succ, List.countP_append, ih, List.countP_singleton]
    split
    · rename_i h; simp only [decide_eq_true_eq] at h; omega
    · rename_i h; simp only [decide_eq_true_eq] at h; omega
theorem countP_cells (p : Nat → Bool) (n m : Nat) : (List.range (n * m)).countP p = ((List.range n).map fun y => (List.range m).countP fun x => p (y * m + x)).sum := by
  induction n with
  | zero => simp
  | succ n ih =>
    rw [Nat.succ_mul, List.range_add, List.countP_append, ih, List.range_succ, List.map_append, List.sum_append, List.countP_map]
    simp
    rfl
theorem sum_iv (a b w : Nat) (k : Nat) (hab : a ≤ b) : ((List.range k).map fun y => if a ≤ y ∧ y < b then w else 0).sum = (min b k - min a k) * w := by
  induction k with
  | zero => simp
  | succ k ih =>
    rw [List.range_succ, List.map_append, List.sum_append, ih]
    simp only [List.map_cons, List.map_nil, List.sum_cons, List.sum_nil, Nat.add_zero]
    split
    · have e : min b (k + 1) - min a (k + 1) = (min b k - min a k) + 1 := by omega
      rw [e, Nat.succ_mul]
    · have e : min b (k + 1) - min a (k + 1) = min b k - min a k := by omega
      rw [e, Nat.add_zero]
theorem count_inR {n m f : Nat} {c : Cut} (hm : 1 ≤ m) (h1 : f / m + c.h ≤ n) (h2 : f % m + c.w ≤ m) : (List.range (n * m)).countP (inR m c f) = c.w * c.h := by
  rw [countP_cells]
  have key : ∀ y ∈ List.range n, (List.range m).countP (fun x => inR m c f (y * m + x)) = if f / m ≤ y ∧ y < f / m + c.h then c.w else 0 := by
    intro y _
    have e : (List.range m).countP (fun x => inR m c f (y * m + x)) = (List.range m).countP (fun x => decide (f / m ≤ y ∧ y < f / m + c.h) && decide (f % m ≤ x ∧ x < f % m + c.w)) := by
      apply List.countP_congr
      intro x hx
      have hx' : x < m := List.mem_range.1 hx
      have e1 : (y * m + x) / m = y := by rw [Nat.add_comm, Nat.add_mul_div_right _ _ (by omega), Nat.div_eq_of_lt hx', Nat.zero_add]
      have e2 : (y * m + x) % m = x := by rw [Nat.add_comm, Nat.add_mul_mod_self_right, Nat.mod_eq_of_lt hx']
      simp only [inR, e1, e2, Bool.and_eq_true, decide_eq_true_eq]
      constructor
      · rintro ⟨a, b, c, d⟩; exact ⟨⟨a, b⟩, c, d⟩
      · rintro ⟨⟨a, b⟩, c, d⟩; exact ⟨a, b, c, d⟩
    rw [e]
    split
    · rename_i h
      simp only [h, and_self, decide_true, Bool.true_and]
      rw [countP_iv _ _ _ (by omega)]
      omega
    · rename_i h
      simp [h]
  rw [List.map_congr_left key, sum_iv _ _ _ _ (by omega), Nat.mul_comm]
  congr 1
  omega
def coverB (m : Nat) (ds : List (Cut × Int)) (j : Nat) : Bool := ds.any fun d => decide (0 ≤ d.2) && inR m d.1 d.2.toNat j
def usedD (ds : List (Cut × Int)) : Nat := (ds.map fun d => if d.2 < 0 then 0 else d.1.w * d.1.h).sum
theorem countP_or {α : Type} (l : List α) (p q : α → Bool) (h : ∀ x ∈ l, ¬ (p x = true ∧ q x = true)) : l.countP (fun x => p x || q x) = l.countP p + l.countP q := by
  induction l with
  | nil => rfl
  | cons a l ih =>
    have h1 := ih (fun x hx => h x (by simp [hx]))
    have h2 := h a (by simp)
    rw [List.countP_cons, List.countP_cons, List.countP_cons, h1]
    cases hp : p a <;> cases hq : q a <;> simp [hp, hq] at h2 ⊢ <;> omega
theorem count_sound {rows : List ByteArray} {n m : Nat} (hm : 1 ≤ m) (ds : List (Cut × Int)) : ∀ done, soundB rows n m done ds = true → (List.range (n * m)).countP (coverB m (done ++ ds)) = (List.range (n * m)).countP (coverB m done) + usedD ds := by
  induction ds with
  | nil => intro done _; simp [usedD]
  | cons d ds ih =>
    intro done h
    simp only [soundB, Bool.and_eq_true] at h
    obtain ⟨h1, h2⟩ := h
    have h3 := ih (done ++ [d]) h2
    rw [List.append_assoc, List.singleton_append] at h3
    rw [h3]
    have e : (List.range (n * m)).countP (coverB m (done ++ [d])) = (List.range (n * m)).countP (coverB m done) + (if d.2 < 0 then 0 else d.1.w * d.1.h) := by
      obtain ⟨c, f⟩ := d
      have e0 : coverB m (done ++ [(c, f)]) = fun j => coverB m done j || (decide (0 ≤ f) && inR m c f.toNat j) := by
        funext j
        simp [coverB]
      rw [e0]
      by_cases hneg : f < 0
      · rw [if_pos hneg, show decide (0 ≤ f) = false from decide_eq_false (by omega)]
        simp
      · have ho : (f.toNat < n * m ∧ fitsB rows n m c f.toNat = true) ∧ freeB m done c f.toNat = true := by simpa [okB, hneg] using h1
        rw [if_neg hneg, show decide (0 ≤ f) = true from decide_eq_true (by omega)]
        simp only [Bool.true_and]
        rw [countP_or _ _ _ ?_]
        · obtain ⟨l1, l2⟩ := fits_lie ho.1.2
          rw [count_inR hm l1 l2]
        · rintro j _ ⟨hj1, hj2⟩
          simp only [coverB, List.any_eq_true, Bool.and_eq_true, decide_eq_true_eq] at hj1
          obtain ⟨d, hd, hd0, hd1⟩ := hj1
          have hfr := ho.2
          simp only [freeB, List.all_eq_true, Bool.or_eq_true, decide_eq_true_eq, Bool.not_eq_true'] at hfr
          rcases hfr d hd with hh | hh
          · omega
          · rw [inR_meet hj2 hd1] at hh; cases hh
    rw [e]
    have e2 : usedD (d :: ds) = (if d.2 < 0 then 0 else d.1.w * d.1.h) + usedD ds := rfl
    rw [e2]
    omega
end Go.Proofs.YthemlamdchcicaaDoor
