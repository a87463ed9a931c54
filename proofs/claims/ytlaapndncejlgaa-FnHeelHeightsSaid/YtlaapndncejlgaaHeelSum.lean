/-
  Sums over heels: plain laws. No condition of its own.
-/
import Derived.Test.YtlaapndncejlgaaBuild
namespace Go.Proofs.Ytlaapndncejlgaa
open Go.ChangeShapes Go.WideShapes Go.ChangeAt Go.RowKit Go.Deep Go.Shelf

def sumTo (cs : List Int) : Nat → Int
  | 0 => 0
  | i + 1 => sumTo cs i + cs.getD i 0
/-- The height of the first i kinds. -/
def dotTo (zs cs : List Int) : Nat → Int
  | 0 => 0
  | i + 1 => dotTo zs cs i + cs.getD i 0 * zs.getD (i * 2) 0
/-- Counts of a stock, of which each lift is there t times. -/
def IsHeel (zs cs : List Int) (n : Nat) (t : Int) : Prop := ∀ j, j < n → 0 ≤ cs.getD j 0 ∧ cs.getD j 0 ≤ zs.getD (j * 2 + 1) 0 / t
theorem scan_le {f : Nat → Int} {T h c M : Nat} (hc : c < M) (hf : 0 ≤ f (h - c * T)) : 0 ≤ scanZ f T h M ∧ scanZ f T h M ≤ f (h - c * T) + (c : Int) := by
  induction M with
  | zero => omega
  | succ M ih =>
    simp only [scanZ]
    by_cases e : c = M
    · subst e
      split
      · omega
      · rename_i k
        have : ¬ (scanZ f T h c < 0 ∨ f (h - c * T) + (c : Int) < scanZ f T h c) := fun hh => k ⟨hf, hh⟩
        omega
    · have := ih (by omega)
      split
      · rename_i k
        have k2 := k.2
        omega
      · exact this
theorem stock_T {zs : List Int} {n k : Nat} (hok : stockB zs n = true) (hk : k < n) : zs.getD (k * 2) 0 = ((thN zs k : Nat) : Int) ∧ 1 ≤ thN zs k ∧ thN zs k ≤ 100 := by
  have := stockB_at hok hk
  unfold thN
  omega
theorem dot_mono {zs cs : List Int} {n k : Nat} {t : Int} (hok : stockB zs n = true) (hc : IsHeel zs cs n t) (hk : k < n) : 0 ≤ cs.getD k 0 * zs.getD (k * 2) 0 := by
  have h1 := hc k hk
  have h2 := stockB_at hok hk
  exact Int.mul_nonneg h1.1 (by omega)
/-- No heel with a height has fewer lifts than the table tells. -/
theorem few_le {zs cs : List Int} {n : Nat} {t : Int} (hok : stockB zs n = true) (hc : IsHeel zs cs n t) : ∀ (d k S : Nat), n - k = d → k ≤ n → (S : Int) = dotTo zs cs n - dotTo zs cs k →
    0 ≤ fewT zs n t k S ∧ fewT zs n t k S ≤ sumTo cs n - sumTo cs k := by
  intro d
  induction d with
  | zero =>
    intro k S hd hk hS
    obtain rfl : k = n := by omega
    obtain rfl : S = 0 := by omega
    rw [fewT_end]
    simp
  | succ d ih =>
    intro k S hd hk hS
    have hkn : k < n := by omega
    have h1 := hc k hkn
    obtain ⟨e1, e2, e3⟩ := stock_T hok hkn
    obtain ⟨c, hcc⟩ : ∃ c : Nat, cs.getD k 0 = (c : Int) := ⟨(cs.getD k 0).toNat, by omega⟩
    have hC : ctN zs t k = (zs.getD (k * 2 + 1) 0 / t).toNat := rfl
    have hcC : c ≤ ctN zs t k := by rw [hC]; omega
    have hd1 : dotTo zs cs (k + 1) = dotTo zs cs k + ((c * thN zs k : Nat) : Int) := by simp only [dotTo, hcc, e1]; simp
    have hs1 : sumTo cs (k + 1) = sumTo cs k + (c : Int) := by simp only [sumTo, hcc]
    -- what is left is not negative
    have hmono : ∀ m, k + 1 + m ≤ n → dotTo zs cs (k + 1) ≤ dotTo zs cs (k + 1 + m) := by
      intro m
      induction m with
      | zero => intro _; exact Int.le_refl _
      | succ m ihm =>
        intro hm
        have h2 := ihm (by omega)
        have h3 := dot_mono hok hc (show k + 1 + m < n by omega)
        have : dotTo zs cs (k + 1 + (m + 1)) = dotTo zs cs (k + 1 + m) + cs.getD (k + 1 + m) 0 * zs.getD ((k + 1 + m) * 2) 0 := rfl
        omega
    have h4 := hmono (n - (k + 1)) (by omega)
    rw [show k + 1 + (n - (k + 1)) = n by omega] at h4
    have hcT : c * thN zs k ≤ S := by omega
    have h5 := ih (k + 1) (S - c * thN zs k) (by omega) (by omega) (by omega)
    have h6 := fewT_step (zs := zs) (t := t) (T := thN zs k) (C := ctN zs t k) hkn rfl rfl S
    have h7 := scan_le (f := fewT zs n t (k + 1)) (T := thN zs k) (h := S) (c := c) (M := min (ctN zs t k) (S / thN zs k) + 1) ((many_iff e2).2 ⟨hcC, hcT⟩) h5.1
    rw [← h6] at h7
    omega
/-- What the first heel is made of. -/
theorem heelSt_sums {zs : List Int} {n H : Nat} {t : Int} (hok : stockB zs n = true) (t1 : 1 ≤ t) (hv : 0 ≤ fewT zs n t 0 H) : ∀ {k : Nat}, k ≤ n → ∃ ds h, heelSt zs n t H k = (ds, h) ∧ ds.length = k ∧
    0 ≤ fewT zs n t k h ∧ (∀ j, j < k → 0 ≤ ds.getD j 0 ∧ ds.getD j 0 ≤ zs.getD (j * 2 + 1) 0 / t) ∧ dotTo zs ds k + (h : Int) = (H : Int) ∧ sumTo ds k + fewT zs n t k h = fewT zs n t 0 H := by
  intro k
  induction k with
  | zero => intro _; exact ⟨[], H, rfl, rfl, hv, fun j hj => by omega, by simp [dotTo], by simp [sumTo]⟩
  | succ k ih =>
    intro hk
    obtain ⟨ds, h, h1, h2, h3, h4, h5, h6⟩ := ih (by omega)
    obtain ⟨e1, e2, e3⟩ := stock_T hok (show k < n by omega)
    obtain ⟨c, p1, p2, p3, p4, p5, _⟩ := pick_facts (t := t) (show k < n by omega) rfl rfl e2 h3
    have hsame : ∀ (l : List Int) (x : Int) (i : Nat), i ≤ l.length → sumTo (l ++ [x]) i = sumTo l i ∧ dotTo zs (l ++ [x]) i = dotTo zs l i := by
      intro l x i
      induction i with
      | zero => intro _; exact ⟨rfl, rfl⟩
      | succ i ihi =>
        intro hi
        have h7 := ihi (by omega)
        simp only [sumTo, dotTo, h7.1, h7.2, getD_app_left (l := l) (m := [x]) (show i < l.length by omega)]
        exact ⟨trivial, trivial⟩
    have hs := hsame ds (c : Int) k (by omega)
    have hlast : (ds ++ [(c : Int)]).getD k 0 = (c : Int) := by rw [getD_app_right (by omega), h2, Nat.sub_self]; rfl
    have hC : ctN zs t k = (zs.getD (k * 2 + 1) 0 / t).toNat := rfl
    have hat := stockB_at hok (show k < n by omega)
    have hq := Int.ediv_nonneg hat.2.2.1 (show 0 ≤ t by omega)
    refine ⟨ds ++ [(c : Int)], h - c * thN zs k, heelSt_step h1 p1, by simp [h2], p4, fun j hj => ?_, ?_, ?_⟩
    · by_cases e : j = k
      · subst e
        rw [hlast]
        omega
      · rw [getD_app_left (by omega)]
        exact h4 j (by omega)
    · simp only [dotTo, hs.2, hlast, e1]
      have : (c : Int) * ((thN zs k : Nat) : Int) = ((c * thN zs k : Nat) : Int) := by simp
      rw [this]
      omega
    · simp only [sumTo, hs.1, hlast]
      omega
theorem heel_facts {zs : List Int} {n H : Nat} {t : Int} (hok : stockB zs n = true) (t1 : 1 ≤ t) (hv : 0 ≤ fewT zs n t 0 H) :
    heelC zs n t H = 0 ∧ (heelF zs n t H).length = n ∧ IsHeel zs (heelF zs n t H) n t ∧ dotTo zs (heelF zs n t H) n = (H : Int) ∧ sumTo (heelF zs n t H) n = fewT zs n t 0 H := by
  obtain ⟨ds, h, h1, h2, h3, h4, h5, h6⟩ := heelSt_sums hok t1 hv (Nat.le_refl n)
  have hcan : canP zs n t H = true := by simp [canP, hv]
  have hF : heelF zs n t H = ds := by simp only [heelF, Int.toNat_natCast, hcan, if_true, h1]
  have hh : h = 0 := by
    rw [fewT_end] at h3
    by_cases e : h = 0
    · exact e
    · rw [if_neg e] at h3; omega
  subst hh
  rw [fewT_end] at h6
  refine ⟨by simp only [heelC, Int.toNat_natCast, hcan, if_true], by rw [hF, h2], by rw [hF]; exact h4, by rw [hF]; omega, by rw [hF]; simp at h6; omega⟩
theorem heel_weak {zs cs : List Int} {n : Nat} (hok : stockB zs n = true) (h : IsHeel zs cs n 2) : IsHeel zs cs n 1 := fun j hj => by
  have h1 := h j hj
  have h2 := stockB_at hok hj
  rw [Int.ediv_one]
  omega
theorem useL_at (zs cs : List Int) {n : Nat} : ∀ {k : Nat}, k < n → (useL zs cs n).getD (k * 2) 0 = zs.getD (k * 2) 0 ∧ (useL zs cs n).getD (k * 2 + 1) 0 = zs.getD (k * 2 + 1) 0 - cs.getD k 0 := by
  induction n with
  | zero => intro k hk; omega
  | succ n ih =>
    intro k hk
    simp only [useL]
    by_cases e : k = n
    · subst e
      constructor
      · rw [getD_app_right (by rw [length_useL]; omega), length_useL, Nat.sub_self]; rfl
      · rw [getD_app_right (by rw [length_useL]; omega), length_useL, show k * 2 + 1 - k * 2 = 1 by omega]; rfl
    · have := ih (k := k) (by omega)
      constructor
      · rw [getD_app_left (by rw [length_useL]; omega)]; exact this.1
      · rw [getD_app_left (by rw [length_useL]; omega)]; exact this.2
theorem use_fine {zs cs : List Int} {n : Nat} (hok : stockB zs n = true) (hl : cs.length = n) (h : IsHeel zs cs n 1) : useF zs cs n n = useL zs cs n ∧ useC zs cs n n = 0 := by
  refine use_ok hok ?_ ?_
  · simp only [askB, decide_true, Bool.true_and, Bool.not_eq_true']
    refine outB_good (k := n) (by omega) (fun j hj => ?_)
    have h1 := h j hj
    have h2 := stockB_at hok hj
    rw [Int.ediv_one] at h1
    exact inB_true.2 (by omega)
  · rintro ⟨k, hk, ht⟩
    have h1 := h k hk
    rw [Int.ediv_one] at h1
    omega
end Go.Proofs.Ytlaapndncejlgaa
