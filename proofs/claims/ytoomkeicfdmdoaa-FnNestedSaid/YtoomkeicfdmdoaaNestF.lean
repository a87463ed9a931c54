/-
  Blocks that are put into the first rows with room, in an order, in plain Lean: rows without fault. No condition of its own.
-/
import Derived.Test.YtoomkeicfdmdoaaNestL
namespace Go.Proofs.Ytoomkeicfdmdoaa
open Go.Deep

/-- The first row with room for a width. -/
def roomAt (W : List Int) (roll bw : Int) : Int := idxI (fun x => decide (x + bw ≤ roll)) W
/-- Blocks go, in an order, into the first rows with room. -/
def firstFit (zs : List Int) (roll : Int) : List Nat → List Int → List Int → List Int
  | i :: os, W, out => firstFit zs roll os (W.set (roomAt W roll (zs.getD (i * 2) 0)).toNat (W.getD (roomAt W roll (zs.getD (i * 2) 0)).toNat 0 + zs.getD (i * 2) 0)) (out.set i (roomAt W roll (zs.getD (i * 2) 0)))
  | [], _, out => out
theorem idxI_spec {α : Type} {p : α → Bool} {zs : List α} {k : Nat} {x : α} (hk : zs[k]? = some x) (hx : p x = true) : ∃ j y, idxI p zs = ((j : Nat) : Int) ∧ j ≤ k ∧ zs[j]? = some y ∧ p y = true ∧ ∀ i z, i < j → zs[i]? = some z → p z = false := by
  induction zs generalizing k with
  | nil => simp at hk
  | cons z zs ih =>
    cases hz : p z with
    | true => exact ⟨0, z, by simp [idxI, hz], by omega, by simp, hz, fun i _ h => absurd h (by omega)⟩
    | false =>
      cases k with
      | zero => simp at hk; subst hk; rw [hz] at hx; cases hx
      | succ k =>
        obtain ⟨j, y, h1, h2, h3, h4, h5⟩ := ih (k := k) (by simpa using hk)
        refine ⟨j + 1, y, ?_, by omega, by simpa using h3, h4, fun i u hi hu => ?_⟩
        · simp only [idxI, hz, h1, Bool.false_eq_true, if_false]
          rw [if_neg (by omega)]
          omega
        · cases i with
          | zero => simp at hu; rw [← hu]; exact hz
          | succ i => exact h5 i u (by omega) (by simpa using hu)
/-- Where c rows at most have blocks, there is room in row c at the latest. -/
theorem roomAt_spec {W : List Int} {roll bw : Int} {c : Nat} (h9 : W.length = 9) (hc : c < 9) (h0 : ∀ j, c ≤ j → W.getD j 0 = 0) (hb : bw ≤ roll) :
    ∃ j : Nat, roomAt W roll bw = (j : Int) ∧ j ≤ c ∧ W.getD j 0 + bw ≤ roll ∧ ∀ i, i < j → ¬ W.getD i 0 + bw ≤ roll := by
  have hk : W[c]? = some 0 := by
    have := h0 c (Nat.le_refl _)
    simp only [List.getD_eq_getElem?_getD, List.getElem?_eq_getElem (show c < W.length by omega)] at this ⊢
    simpa using this
  obtain ⟨j, y, h1, h2, h3, h4, h5⟩ := idxI_spec (p := fun x => decide (x + bw ≤ roll)) hk (by simpa using hb)
  have h4' : y + bw ≤ roll := by simpa using h4
  refine ⟨j, h1, h2, by simpa [h3] using h4', fun i hi => ?_⟩
  have hil : i < W.length := by omega
  have := h5 i W[i] hi (List.getElem?_eq_getElem hil)
  simpa [List.getElem?_eq_getElem hil] using this

/-! ### Sums over numbers -/
def sumN (f : Nat → Int) : Nat → Int
  | 0 => 0
  | n + 1 => sumN f n + f n
theorem sumN_congr {f g : Nat → Int} {n : Nat} (h : ∀ i, i < n → f i = g i) : sumN f n = sumN g n := by
  induction n with
  | zero => rfl
  | succ n ih => simp only [sumN]; rw [ih (fun i hi => h i (by omega)), h n (by omega)]
theorem sumN_cons (f : Nat → Int) (n : Nat) : sumN f (n + 1) = f 0 + sumN (fun i => f (i + 1)) n := by
  induction n with
  | zero => simp [sumN]
  | succ n ih => rw [sumN, ih, sumN]; omega
theorem sumN_one {f g : Nat → Int} {n k : Nat} (hk : k < n) (h : ∀ i, i ≠ k → f i = g i) : sumN f n = sumN g n + (f k - g k) := by
  induction n with
  | zero => omega
  | succ n ih =>
    simp only [sumN]
    by_cases e : k = n
    · subst e
      rw [sumN_congr (f := f) (g := g) (fun i hi => h i (by omega))]
      omega
    · rw [ih (by omega), h n (by omega)]
      omega
/-- What the rows hold, row by row. -/
theorem rowsW_sum (n : Nat) : ∀ (zs rs W : List Int) (j : Nat), zs.length = n * 2 → rs.length = n → W.length = 9 → RowsIn rs → (rowsW zs rs W).getD j 0 = W.getD j 0 + sumN (fun i => if rs.getD i 0 = (j : Int) then zs.getD (i * 2) 0 else 0) n := by
  induction n with
  | zero =>
    intro zs rs W j hl _ _ _
    rw [List.eq_nil_of_length_eq_zero (by omega : zs.length = 0)]
    simp [rowsW, sumN]
  | succ n ih =>
    intro zs rs W j hl hrl h9 hr
    obtain ⟨bw, bh, bs, rfl⟩ := two_of hl
    obtain ⟨r, rs, rfl⟩ : ∃ r t, rs = r :: t := by
      cases rs with
      | nil => simp at hrl
      | cons r t => exact ⟨r, t, rfl⟩
    have hr0 := hr r (by simp)
    simp only [rowsW]
    rw [ih bs rs _ j (by simp at hl; omega) (by simpa using hrl) (by simp [h9]) (fun x hx => hr x (by simp [hx])), getD_set W _ _ _ (by omega), sumN_cons]
    have e : sumN (fun i => if (r :: rs).getD (i + 1) 0 = (j : Int) then (bw :: bh :: bs).getD ((i + 1) * 2) 0 else 0) n = sumN (fun i => if rs.getD i 0 = (j : Int) then bs.getD (i * 2) 0 else 0) n :=
      sumN_congr (fun i _ => by simp [show (i + 1) * 2 = i * 2 + 1 + 1 by omega])
    rw [e]
    simp only [List.getD_cons_zero, Nat.zero_mul]
    by_cases e2 : r.toNat = j
    · have e3 : r = (j : Int) := by omega
      rw [if_pos e2, if_pos e3, e2]; omega
    · have e3 : ¬ r = (j : Int) := by omega
      rw [if_neg e2, if_neg e3]; omega

/-! ### The first rows have no fault -/
/-- What holds behind some of the blocks of an order. -/
structure FitAt (zs : List Int) (roll : Int) (n : Nat) (done : List Nat) (W out : List Int) : Prop where
  lenW : W.length = 9
  lenO : out.length = n
  inO : RowsIn out
  zero : ∀ j, done.length ≤ j → W.getD j 0 = 0
  nn : ∀ j, 0 ≤ W.getD j 0
  fit : ∀ j, W.getD j 0 ≤ roll
  eq : ∀ j, W.getD j 0 = sumN (fun i => if i ∈ done ∧ out.getD i 0 = (j : Int) then zs.getD (i * 2) 0 else 0) n
theorem FitAt.begin (zs : List Int) {roll : Int} (n : Nat) (hr : 0 ≤ roll) : FitAt zs roll n [] (List.replicate 9 0) (List.replicate n 0) := by
  refine ⟨by simp, by simp, ?_, fun j _ => getD_zeros _ _, fun j => by rw [getD_zeros]; omega, fun j => by rw [getD_zeros]; exact hr, fun j => ?_⟩
  · intro r h
    rw [List.eq_of_mem_replicate h]; omega
  · rw [getD_zeros]
    have : ∀ m, sumN (fun i => if i ∈ ([] : List Nat) ∧ (List.replicate n (0 : Int)).getD i 0 = (j : Int) then zs.getD (i * 2) 0 else 0) m = 0 := by
      intro m
      induction m with
      | zero => rfl
      | succ m ih => simp only [sumN, ih]; simp
    rw [this]
theorem FitAt.step {zs : List Int} {roll : Int} {n : Nat} {done : List Nat} {W out : List Int} (h : FitAt zs roll n done W out) {i : Nat} (hi : i < n) (hn : n ≤ 9) (hd : done.length < n) (hnew : i ∉ done) (hb0 : 0 ≤ zs.getD (i * 2) 0) (hb : zs.getD (i * 2) 0 ≤ roll) :
    ∃ k : Nat, roomAt W roll (zs.getD (i * 2) 0) = (k : Int) ∧ k ≤ done.length ∧ k < 9 ∧ W.getD k 0 + zs.getD (i * 2) 0 ≤ roll ∧ (∀ j, j < k → ¬ W.getD j 0 + zs.getD (i * 2) 0 ≤ roll) ∧ FitAt zs roll n (done ++ [i]) (W.set k (W.getD k 0 + zs.getD (i * 2) 0)) (out.set i (k : Int)) := by
  obtain ⟨k, h1, h2, h3, h4⟩ := roomAt_spec h.lenW (c := done.length) (by omega) h.zero hb
  have h9 := h.lenW
  have hO := h.lenO
  refine ⟨k, h1, h2, by omega, h3, h4, ⟨by simp [h9], by simp [hO], ?_, ?_, ?_, ?_, ?_⟩⟩
  · intro r hr
    rcases List.mem_or_eq_of_mem_set hr with hr | hr
    · exact h.inO r hr
    · omega
  · intro j hj
    rw [List.length_append, List.length_singleton] at hj
    rw [getD_set W _ _ _ (by omega), if_neg (by omega)]
    exact h.zero j (by omega)
  · intro j
    rw [getD_set W _ _ _ (by omega)]
    have := h.nn k
    split
    · omega
    · exact h.nn j
  · intro j
    rw [getD_set W _ _ _ (by omega)]
    split
    · exact h3
    · exact h.fit j
  · intro j
    have e := h.eq j
    have hone := sumN_one (f := fun x => if x ∈ done ++ [i] ∧ (out.set i (k : Int)).getD x 0 = (j : Int) then zs.getD (x * 2) 0 else 0) (g := fun x => if x ∈ done ∧ out.getD x 0 = (j : Int) then zs.getD (x * 2) 0 else 0) (n := n) (k := i) hi (fun x hx => by
      have e1 : (x ∈ done ++ [i]) = (x ∈ done) := by simp [hx]
      have e2 : (out.set i (k : Int)).getD x 0 = out.getD x 0 := by simp [List.getElem?_set_ne (Ne.symm hx)]
      simp only [e1, e2])
    rw [hone, ← e, getD_set W _ _ _ (by omega)]
    have e1 : (out.set i (k : Int)).getD i 0 = (k : Int) := by simp [hO, hi]
    simp only [e1, hnew, false_and, if_false, List.mem_append, List.mem_singleton, or_true, true_and]
    by_cases e2 : k = j
    · subst e2; simp
    · rw [if_neg e2, if_neg (by omega)]; omega
/-- Rows without fault, in the numbering of nine rows. -/
def Fine (zs : List Int) (roll : Int) (n : Nat) (rs : List Int) : Prop := rs.length = n ∧ RowsIn rs ∧ ∀ j, (rowsW zs rs (List.replicate 9 0)).getD j 0 ≤ roll
theorem FitAt.fine {zs : List Int} {roll : Int} {n : Nat} {done : List Nat} {W out : List Int} (h : FitAt zs roll n done W out) (hl : zs.length = n * 2) (hall : ∀ i, i < n → i ∈ done) : Fine zs roll n out := by
  refine ⟨h.lenO, h.inO, fun j => ?_⟩
  rw [rowsW_sum n zs out _ j hl h.lenO (by simp) h.inO, getD_zeros, Int.zero_add]
  have := h.fit j
  rw [h.eq j] at this
  refine Int.le_trans (Int.le_of_eq (sumN_congr (fun i hi => ?_))) this
  simp [hall i hi]
theorem firstFit_fine {zs : List Int} {roll : Int} {n : Nat} (hl : zs.length = n * 2) (hn : n ≤ 9) (hb : ∀ i, i < n → 0 ≤ zs.getD (i * 2) 0 ∧ zs.getD (i * 2) 0 ≤ roll) : ∀ (os done : List Nat) (W out : List Int), FitAt zs roll n done W out → (done ++ os).Nodup → (∀ i ∈ os, i < n) → (done ++ os).length = n → (∀ i, i < n → i ∈ done ++ os) → Fine zs roll n (firstFit zs roll os W out) := by
  intro os
  induction os with
  | nil =>
    intro done W out h _ _ _ hall
    simp only [firstFit]
    exact h.fine hl (fun i hi => by simpa using hall i hi)
  | cons i os ih =>
    intro done W out h hnd hlt hlen hall
    have hi := hlt i (by simp)
    have hnew : i ∉ done := fun hm => by
      rw [List.nodup_append] at hnd
      exact hnd.2.2 i hm i (by simp) rfl
    obtain ⟨k, h1, _, _, _, _, h6⟩ := h.step hi hn (by simp at hlen; omega) hnew (hb i hi).1 (hb i hi).2
    simp only [firstFit, h1, Int.toNat_natCast]
    exact ih (done ++ [i]) _ _ h6 (by simpa using hnd) (fun x hx => hlt x (by simp [hx])) (by simpa using hlen) (by simpa using hall)

/-! ### The order by heights -/
def hOf (zs : List Int) (i : Nat) : Int := zs.getD (i * 2 + 1) 0
/-- Where block i goes among the first k of an order. -/
def tallK (zs : List Int) (L : List Nat) (i : Nat) : Nat → Nat
  | 0 => 0
  | k + 1 => if hOf zs (L.getD k 0) < hOf zs i then tallK zs L i k else k + 1
def tallPut (zs : List Int) (L : List Nat) (i : Nat) : List Nat := L.take (tallK zs L i L.length) ++ i :: L.drop (tallK zs L i L.length)
def tallTo (zs : List Int) : Nat → List Nat
  | 0 => []
  | i + 1 => tallPut zs (tallTo zs i) i
theorem tallK_le (zs : List Int) (L : List Nat) (i k : Nat) : tallK zs L i k ≤ k := by
  induction k with
  | zero => simp [tallK]
  | succ k ih =>
    simp only [tallK]
    split
    · omega
    · omega
theorem tallPut_perm (zs : List Int) (L : List Nat) (i : Nat) : (tallPut zs L i).Perm (L ++ [i]) := by
  unfold tallPut
  generalize tallK zs L i L.length = k
  refine (List.perm_middle).trans ?_
  rw [List.take_append_drop]
  exact (List.perm_append_comm (l₁ := [i]) (l₂ := L))
theorem tallTo_perm (zs : List Int) (n : Nat) : (tallTo zs n).Perm (List.range n) := by
  induction n with
  | zero => exact .nil
  | succ n ih =>
    simp only [tallTo]
    rw [List.range_succ]
    exact (tallPut_perm zs _ n).trans (ih.append_right [n])
theorem order_fine {zs : List Int} {roll : Int} {n : Nat} (hok : blocksB zs roll n = true) (hl : zs.length = n * 2) {os : List Nat} (hp : os.Perm (List.range n)) : Fine zs roll n (firstFit zs roll os (List.replicate 9 0) (List.replicate n 0)) := by
  obtain ⟨⟨r0, r1⟩, n9, hall⟩ := blocksB_parts hok
  refine firstFit_fine hl n9 (fun i hi => ?_) os [] _ _ (FitAt.begin zs n (by omega)) ?_ ?_ ?_ ?_
  · have := hall i hi
    simp only [blockAt, Bool.and_eq_true, inB_true] at this
    omega
  · simpa using hp.nodup_iff.2 List.nodup_range
  · intro i hi
    simpa using hp.mem_iff.1 hi
  · simpa using hp.length_eq
  · intro i hi
    simpa using hp.mem_iff.2 (by simpa using hi)

/-! ### The law's numbers -/
def heightOf (zs rs : List Int) : Int := hsum (rowsH zs rs (List.replicate 9 0))
theorem blocks_nn {zs : List Int} {roll : Int} {n : Nat} (hl : zs.length = n * 2) (hok : blocksB zs roll n = true) : ∀ j, 0 ≤ zs.getD j 0 := fun j => by
  obtain ⟨⟨r0, r1⟩, n9, hall⟩ := blocksB_parts hok
  exact (blocks_between hl r1 hall j).1
theorem same9_nil : Same9 [] [] (List.replicate 9 0) (List.replicate 9 0) [] :=
  ⟨rfl, rfl, by simp, by simp, fun k h => absurd h (by simp), fun j _ => ⟨getD_zeros _ _, getD_zeros _ _⟩⟩
/-- Rows without fault are not shorter than the least length. -/
theorem least_le {zs : List Int} {roll : Int} {n : Nat} (hl : zs.length = n * 2) (hok : blocksB zs roll n = true) {rs : List Int} (hf : Fine zs roll n rs) : 0 ≤ (nest0 zs roll).2 ∧ (nest0 zs roll).2 ≤ heightOf zs rs := by
  have h := nest_least roll n zs [] [] [] 0 ([], -1) (List.replicate 9 0) (List.replicate 9 0) rs [] hl hf.1 (by simp) (by simp) hf.2.1 (blocks_nn hl hok) (Int.le_refl _) same9_nil hf.2.2
  rw [hsum_zeros] at h
  unfold nest0 heightOf
  omega
/-- The best rows have no fault, and the least length. -/
theorem best_fine {zs : List Int} {roll : Int} {n : Nat} (hl : zs.length = n * 2) (hok : blocksB zs roll n = true) : Fine zs roll n (nest0 zs roll).1 ∧ heightOf zs (nest0 zs roll).1 = (nest0 zs roll).2 := by
  obtain ⟨⟨r0, r1⟩, n9, hall⟩ := blocksB_parts hok
  have hge := (least_le hl hok (order_fine hok hl (List.Perm.refl _))).1
  rcases nest_fine roll n zs [] [] [] 0 ([], -1) hl (by simp; omega) rfl (fun j => by simp; omega) with h | ⟨rs, h1, h2, h3, h4⟩
  · rw [show nest0 zs roll = ([], -1) from h] at hge
    simp at hge
  · rw [show nest0 zs roll = _ from h3]
    rw [pad9_nil] at h4 ⊢
    refine ⟨⟨by simpa using h1, by simpa using h2, by simpa using h4⟩, ?_⟩
    simp only [heightOf, hsum_zeros, List.nil_append]
    omega
/-- The bound is not above the least length. -/
theorem bound_le {zs : List Int} {roll : Int} {n : Nat} (hl : zs.length = n * 2) (hok : blocksB zs roll n = true) : max (tallest zs) ((areaTo zs + roll - 1) / roll) ≤ (nest0 zs roll).2 := by
  obtain ⟨⟨r0, r1⟩, n9, hall⟩ := blocksB_parts hok
  obtain ⟨⟨f1, f2, f3⟩, he⟩ := best_fine hl hok
  have hge := (least_le hl hok ⟨f1, f2, f3⟩).1
  rw [← he] at hge ⊢
  have hz := blocks_nn hl hok
  have hHn : ∀ j, 0 ≤ (rowsH zs (nest0 zs roll).1 (List.replicate 9 0)).getD j 0 := fun j => by
    have := (rowsH_mono n zs (nest0 zs roll).1 (List.replicate 9 0) hl (by simp) f2).2 j
    rwa [getD_zeros] at this
  have h1 := tallest_le n zs (nest0 zs roll).1 (List.replicate 9 0) (heightOf zs (nest0 zs roll).1) hl f1 (by simp) f2 (fun j => getD_le_hsum hHn j) hge
  have h2 := area_dot n zs (nest0 zs roll).1 (List.replicate 9 0) (List.replicate 9 0) hl f1 (by simp) (by simp) f2 hz (fun j => by rw [getD_zeros]; omega)
  rw [dotI_zeros] at h2
  have h3 := dotI_le (roll := roll) _ _ hHn (by omega) f3
  have h4 : (areaTo zs + roll - 1) / roll < heightOf zs (nest0 zs roll).1 + 1 := by
    refine Int.ediv_lt_of_lt_mul (by omega) ?_
    rw [Int.add_mul, Int.mul_comm]
    unfold heightOf
    omega
  omega
end Go.Proofs.Ytoomkeicfdmdoaa
