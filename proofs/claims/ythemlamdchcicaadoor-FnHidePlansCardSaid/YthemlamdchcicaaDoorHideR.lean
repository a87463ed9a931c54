/-
  Hides and pieces: what the walks over rows and columns keep, in plain Lean. No condition of its own.
-/
import Derived.Test.YthemlamdchcicaaDoorHideQ
import Derived.Lib.Strings
namespace Go.Proofs.YthemlamdchcicaaDoor

/-! ### Hides -/
def hideB (rows : List ByteArray) : Bool :=
  decide (1 ≤ rows.length) && (decide (rows.length ≤ 6) && rows.all fun r => decide (r.size = (rows.getD 0 ⟨#[]⟩).size) && (decide (1 ≤ r.size) && (decide (r.size ≤ 6) && r.data.toList.all fun b => decide (0 ≤ qualU b))))
/-- A hide of n rows and m columns. -/
structure HideOk (rows : List ByteArray) (n m : Nat) : Prop where
  len : rows.length = n
  n1 : 1 ≤ n
  n6 : n ≤ 6
  m1 : 1 ≤ m
  m6 : m ≤ 6
  size : ∀ r ∈ rows, r.size = m
  good : ∀ r ∈ rows, ∀ b ∈ r.data.toList, 0 ≤ qualU b
theorem hideB_ok {rows : List ByteArray} (h : hideB rows = true) : HideOk rows rows.length (rows.getD 0 ⟨#[]⟩).size := by
  simp only [hideB, Bool.and_eq_true, decide_eq_true_eq, List.all_eq_true] at h
  obtain ⟨h1, h2, h3⟩ := h
  have h0 : rows.getD 0 ⟨#[]⟩ ∈ rows := by
    rw [List.getD_eq_getElem?_getD, List.getElem?_eq_getElem (by omega)]
    exact List.getElem_mem _
  exact ⟨rfl, h1, h2, (h3 _ h0).2.1, (h3 _ h0).2.2.1, fun r hr => (h3 r hr).1, fun r hr b hb => (h3 r hr).2.2.2 b hb⟩
theorem hideB_of {rows : List ByteArray} {n m : Nat} (h : HideOk rows n m) : hideB rows = true := by
  simp only [hideB, Bool.and_eq_true, decide_eq_true_eq, List.all_eq_true]
  have h0 : rows.getD 0 ⟨#[]⟩ ∈ rows := by
    have := h.len; have := h.n1
    rw [List.getD_eq_getElem?_getD, List.getElem?_eq_getElem (by omega)]
    exact List.getElem_mem _
  have e := h.size _ h0
  refine ⟨by rw [h.len]; exact h.n1, by rw [h.len]; exact h.n6, fun r hr => ⟨by rw [e]; exact h.size r hr, by rw [h.size r hr]; exact h.m1, by rw [h.size r hr]; exact h.m6, h.good r hr⟩⟩
theorem hide_row {rows : List ByteArray} {n m y : Nat} (h : HideOk rows n m) (hy : y < n) : ∃ r, rows[y]? = some r ∧ rows.getD y ⟨#[]⟩ = r ∧ r.size = m ∧ r ∈ rows := by
  have hl : y < rows.length := by rw [h.len]; exact hy
  refine ⟨rows[y], List.getElem?_eq_getElem hl, by simp [List.getElem?_eq_getElem hl], h.size _ (List.getElem_mem hl), List.getElem_mem hl⟩
theorem byte_at {r : ByteArray} {x : Nat} (h : x < r.size) : r.data.toList.getD x 0 = r[x] := by
  have h' : x < r.data.toList.length := Lib.size_eq r ▸ h
  rw [List.getD_eq_getElem?_getD, List.getElem?_eq_getElem h']
  rfl
theorem byte_mem {r : ByteArray} {x : Nat} (h : x < r.size) : r[x] ∈ r.data.toList := by
  have h' : x < r.data.toList.length := Lib.size_eq r ▸ h
  have := List.getElem_mem h'
  exact this
theorem fieldQ_at {rows : List ByteArray} {y x : Nat} {r : ByteArray} (hr : rows.getD y ⟨#[]⟩ = r) (hx : x < r.size) : fieldQ rows y x = qualU r[x] := by
  unfold fieldQ
  rw [hr, byte_at hx]
theorem qual_bd (b : UInt8) : -1 ≤ qualU b ∧ qualU b ≤ 3 := by
  unfold qualU
  repeat' split
  all_goals omega
/-! ### A piece at a field -/
section
variable {rows : List ByteArray} {n m f : Nat} {c : Cut}
theorem fits_out (h : ¬ (f / m + c.h ≤ n ∧ f % m + c.w ≤ m)) : fitsB rows n m c f = false := by
  unfold fitsB
  by_cases h1 : f / m + c.h ≤ n
  · have h2 : ¬ f % m + c.w ≤ m := fun e => h ⟨h1, e⟩
    simp [h2]
  · simp [h1]
theorem fits_bad {y x : Nat} (hy : y < c.h) (hx : x < c.w) (h : fieldQ rows (f / m + y) (f % m + x) < c.q) : fitsB rows n m c f = false := by
  cases e : fitsB rows n m c f with
  | false => rfl
  | true =>
    simp only [fitsB, Bool.and_eq_true, decide_eq_true_eq, List.all_eq_true, List.mem_range] at e
    have := e.2 y hy x hx
    omega
theorem fits_all (h1 : f / m + c.h ≤ n) (h2 : f % m + c.w ≤ m) (h : ∀ y, y < c.h → ∀ x, x < c.w → c.q ≤ fieldQ rows (f / m + y) (f % m + x)) : fitsB rows n m c f = true := by
  simp only [fitsB, Bool.and_eq_true, decide_eq_true_eq, List.all_eq_true, List.mem_range]
  exact ⟨⟨h1, h2⟩, h⟩
/-- The fields of the first i rows and of j columns of the next one. -/
def scanN (m : Nat) (c : Cut) (f i j : Nat) : Nat := bitsN (fun k => inR m c f k && decide (k / m < f / m + i ∨ (k / m = f / m + i ∧ k % m < f % m + j))) 36
theorem bits_ext {p q : Nat → Bool} {k : Nat} (h : ∀ j, j < k → p j = q j) : bitsN p k = bitsN q k := by
  apply Nat.eq_of_testBit_eq
  intro j
  rw [bitsN_bit, bitsN_bit]
  by_cases hj : j < k
  · rw [h j hj]
  · simp [hj]
theorem scan_zero : scanN m c f 0 0 = 0 := by
  apply Nat.eq_of_testBit_eq
  intro k
  rw [scanN, bitsN_bit, Nat.zero_testBit]
  cases h : inR m c f k with
  | false => simp
  | true =>
    simp only [inR, decide_eq_true_eq] at h
    rw [show decide (k / m < f / m + 0 ∨ (k / m = f / m + 0 ∧ k % m < f % m + 0)) = false from decide_eq_false (by omega)]
    simp
theorem scan_row {i : Nat} : scanN m c f i c.w = scanN m c f (i + 1) 0 := by
  apply bits_ext
  intro k _
  cases h : inR m c f k with
  | false => simp
  | true =>
    simp only [inR, decide_eq_true_eq] at h
    simp only [Bool.true_and]
    congr 1
    apply propext
    omega
theorem scan_end : scanN m c f c.h 0 = maskN m c f := by
  apply bits_ext
  intro k _
  cases h : inR m c f k with
  | false => simp
  | true =>
    simp only [inR, decide_eq_true_eq] at h
    rw [show decide (k / m < f / m + c.h ∨ (k / m = f / m + c.h ∧ k % m < f % m + 0)) = true from decide_eq_true (.inl (by omega))]
    simp
theorem field_div {y x : Nat} (hx : x < m) : (y * m + x) / m = y ∧ (y * m + x) % m = x := by
  constructor
  · rw [Nat.add_comm, Nat.add_mul_div_right _ _ (by omega), Nat.div_eq_of_lt hx, Nat.zero_add]
  · rw [Nat.add_comm, Nat.add_mul_mod_self_right, Nat.mod_eq_of_lt hx]
theorem field_lt {y x : Nat} (hy : y < n) (hx : x < m) : y * m + x < n * m := by
  have : (y + 1) * m ≤ n * m := Nat.mul_le_mul_right m hy
  rw [Nat.succ_mul] at this
  omega
theorem scan_step {i j : Nat} (hn : n ≤ 6) (hm : m ≤ 6) (h1 : f / m + c.h ≤ n) (h2 : f % m + c.w ≤ m) (hi : i < c.h) (hj : j < c.w) :
    scanN m c f i j ||| 2 ^ ((f / m + i) * m + (f % m + j)) = scanN m c f i (j + 1) := by
  have hx : f % m + j < m := by omega
  obtain ⟨e1, e2⟩ := field_div (y := f / m + i) hx
  have hlt := field_lt (n := n) (m := m) (show f / m + i < n by omega) hx
  have h36 : n * m ≤ 36 := Nat.mul_le_mul hn hm
  apply Nat.eq_of_testBit_eq
  intro k
  rw [Nat.testBit_or, scanN, scanN, bitsN_bit, bitsN_bit, Nat.testBit_two_pow]
  by_cases hk : (f / m + i) * m + (f % m + j) = k
  · subst hk
    have g1 : decide ((f / m + i) * m + (f % m + j) < 36) = true := decide_eq_true (by omega)
    have g2 : inR m c f ((f / m + i) * m + (f % m + j)) = true := by
      simp only [inR, decide_eq_true_eq, e1, e2]
      omega
    rw [e1, e2, g1, g2]
    simp
  · have hne : ¬ (k / m = f / m + i ∧ k % m = f % m + j) := fun e => hk (by
      have := Nat.div_add_mod k m
      rw [e.1, e.2, Nat.mul_comm] at this
      exact this)
    rw [show decide ((f / m + i) * m + (f % m + j) = k) = false from decide_eq_false hk, Bool.or_false]
    congr 2
    congr 1
    apply propext
    omega
theorem scan_lt (i j : Nat) : scanN m c f i j < 2 ^ 36 := bitsN_lt _ _
theorem mask_lt : maskN m c f < 2 ^ 36 := bitsN_lt _ _
theorem or_lt {a b : Nat} (ha : a < 2 ^ 36) (hb : b < 2 ^ 36) : a ||| b < 2 ^ 36 := Nat.or_lt_two_pow ha hb
theorem taken_lt (done : List (Cut × Int)) : takenN m done < 2 ^ 36 := by
  have key : ∀ t, t < 2 ^ 36 → done.foldl (fun t d => if d.2 < 0 then t else t ||| maskN m d.1 d.2.toNat) t < 2 ^ 36 := by
    induction done with
    | nil => intro t h; exact h
    | cons d ds ih =>
      intro t h
      simp only [List.foldl_cons]
      apply ih
      split
      · exact h
      · exact or_lt h mask_lt
  exact key 0 (by decide)
/-! ### The places -/
theorem places_zero : (List.range 0).filter (fitsB rows n m c) = [] := rfl
theorem places_yes {k : Nat} (h : fitsB rows n m c k = true) : (List.range (k + 1)).filter (fitsB rows n m c) = (List.range k).filter (fitsB rows n m c) ++ [k] := by
  rw [List.range_succ, List.filter_append]
  simp [h]
theorem places_no {k : Nat} (h : fitsB rows n m c k = false) : (List.range (k + 1)).filter (fitsB rows n m c) = (List.range k).filter (fitsB rows n m c) := by
  rw [List.range_succ, List.filter_append]
  simp [h]
theorem places_len (k : Nat) : ((List.range k).filter (fitsB rows n m c)).length ≤ k := by
  have := List.length_filter_le (fitsB rows n m c) (List.range k)
  simpa using this
end
/-! ### Pieces in memory -/
def cutAt (zs : List Int) (k : Nat) : Cut := ⟨(zs.getD (k * 4) 0).toNat, (zs.getD (k * 4 + 1) 0).toNat, zs.getD (k * 4 + 2) 0, zs.getD (k * 4 + 3) 0⟩
def cutB (x0 x1 x2 x3 : Int) : Bool := decide (1 ≤ x0 ∧ x0 ≤ 6) && (decide (1 ≤ x1 ∧ x1 ≤ 6) && (decide (1 ≤ x2 ∧ x2 ≤ 3) && decide (0 ≤ x3 ∧ x3 ≤ 1000)))
def cutsB (zs : List Int) (n : Nat) : Bool := decide (n ≤ 4) && (List.range n).all fun k => cutB (zs.getD (k * 4) 0) (zs.getD (k * 4 + 1) 0) (zs.getD (k * 4 + 2) 0) (zs.getD (k * 4 + 3) 0)
def cutsL (zs : List Int) (n : Nat) : List Cut := (List.range n).map (cutAt zs)
theorem cutB_iff {x0 x1 x2 x3 : Int} : cutB x0 x1 x2 x3 = true ↔ (1 ≤ x0 ∧ x0 ≤ 6) ∧ (1 ≤ x1 ∧ x1 ≤ 6) ∧ (1 ≤ x2 ∧ x2 ≤ 3) ∧ 0 ≤ x3 ∧ x3 ≤ 1000 := by
  simp [cutB]
/-- A valid piece. -/
def CutOk (c : Cut) : Prop := (1 ≤ c.w ∧ c.w ≤ 6) ∧ (1 ≤ c.h ∧ c.h ≤ 6) ∧ (1 ≤ c.q ∧ c.q ≤ 3) ∧ 0 ≤ c.v ∧ c.v ≤ 1000
theorem cutsB_at {zs : List Int} {n k : Nat} (h : cutsB zs n = true) (hk : k < n) : n ≤ 4 ∧ CutOk (cutAt zs k) ∧ zs.getD (k * 4) 0 = ((cutAt zs k).w : Int) ∧ zs.getD (k * 4 + 1) 0 = ((cutAt zs k).h : Int) := by
  simp only [cutsB, Bool.and_eq_true, decide_eq_true_eq, List.all_eq_true, List.mem_range] at h
  have h1 := cutB_iff.1 (h.2 k hk)
  unfold CutOk cutAt
  simp only
  omega
theorem cutsB_n {zs : List Int} {n : Nat} (h : cutsB zs n = true) : n ≤ 4 := by
  simp only [cutsB, Bool.and_eq_true, decide_eq_true_eq] at h
  exact h.1
theorem cutsL_at {zs : List Int} {n k : Nat} (hk : k < n) : (cutsL zs n)[k]? = some (cutAt zs k) := by
  simp [cutsL, hk]
theorem cutsL_len (zs : List Int) (n : Nat) : (cutsL zs n).length = n := by simp [cutsL]
theorem cutsL_drop {zs : List Int} {n k : Nat} (hk : k < n) : (cutsL zs n).drop k = cutAt zs k :: (cutsL zs n).drop (k + 1) := by
  rw [List.drop_eq_getElem_cons (by rw [cutsL_len]; exact hk)]
  congr 1
  have := cutsL_at (zs := zs) hk
  rw [List.getElem?_eq_getElem (by rw [cutsL_len]; exact hk)] at this
  simpa using this
theorem cutsL_ok {zs : List Int} {n : Nat} (h : cutsB zs n = true) : ∀ c ∈ cutsL zs n, CutOk c := by
  intro c hc
  obtain ⟨k, hk, rfl⟩ := List.mem_map.1 hc
  exact (cutsB_at h (List.mem_range.1 hk)).2.1
theorem worths_le {cs : List Cut} (h : ∀ c ∈ cs, CutOk c) : 0 ≤ worths cs ∧ worths cs ≤ 1000 * cs.length := by
  induction cs with
  | nil => simp [worths]
  | cons c cs ih =>
    have h1 := ih (fun d hd => h d (by simp [hd]))
    have h2 := (h c (by simp)).2.2.2
    have e : worths (c :: cs) = c.v + worths cs := rfl
    rw [e, List.length_cons]
    omega
theorem mem_drop {α : Type} {l : List α} {k : Nat} {x : α} (h : x ∈ l.drop k) : x ∈ l := List.mem_of_mem_drop h
/-! ### What the law compares -/
def planOk (rows : List ByteArray) (zs : List Int) (n : Nat) : Bool := hideB rows && cutsB zs n
def planL (rows : List ByteArray) (zs : List Int) (n : Nat) : List Int := if planOk rows zs n then (best0 rows rows.length (rows.getD 0 ⟨#[]⟩).size (cutsL zs n)).1 else []
def planW (rows : List ByteArray) (zs : List Int) (n : Nat) : Int := if planOk rows zs n then (best0 rows rows.length (rows.getD 0 ⟨#[]⟩).size (cutsL zs n)).2 else 0
def planC (rows : List ByteArray) (zs : List Int) (n : Nat) : Int := if planOk rows zs n then 0 else 1
theorem best0_len (rows : List ByteArray) (n m : Nat) (cs : List Cut) : (best0 rows n m cs).1.length = cs.length := by
  obtain ⟨ds, d1, _, _, d4⟩ := best0_sound (rows := rows) (n := n) (m := m) cs
  rw [d4, ← d1]
  simp
end Go.Proofs.YthemlamdchcicaaDoor
