/-
  What the law on holes leans on: plain facts on lists. No condition of its own.
-/
import Derived.Test.YtgdndmpnnocgiaaHoles
import Derived.Test.YtgdndmpnnocgiaaClash
import Derived.Test.YtgdndmpnnocgiaaLock
import Derived.Test.YtgdndmpnnocgiaaSix
namespace Go.Proofs.Ytgdndmpnnocgiaa
open Go.ChangeShapes Go.WideShapes Go.ChangeAt Go.RowKit Go.Deep Go.Shelf

theorem idxI_at {p : Int → Bool} {zs : List Int} {k : Nat} (h : idxI p zs = (k : Int)) : p (zs.getD k 0) = true := by
  induction zs generalizing k with
  | nil => simp [idxI] at h
  | cons z zs ih =>
    simp only [idxI] at h
    split at h
    · rename_i hz
      obtain rfl : k = 0 := by omega
      simpa using hz
    · split at h
      · omega
      · have hg := idxI_ge p zs
        obtain ⟨k', rfl⟩ : ∃ k', k = k' + 1 := ⟨k - 1, by omega⟩
        have := ih (k := k') (by omega)
        simpa using this
/-- A clash lies at two places, and the holes there are near. -/
theorem clash_near {xs ys : List Int} {n m : Nat} {l : Int} (hx : xs.length = n) (hy : ys.length = m) (h : clashC xs ys n m l = 0) :
    ∃ I K : Nat, clashI xs ys n m l = (I : Int) ∧ clashK xs ys n m l = (K : Int) ∧ I < n ∧ K < m ∧ 0 ≤ xs.getD I 0 ∧ xs.getD I 0 ≤ 100000 ∧ 0 ≤ ys.getD K 0 ∧ ys.getD K 0 ≤ 100000 ∧ max (xs.getD I 0 - ys.getD K 0) (ys.getD K 0 - xs.getD I 0) < l := by
  cases hB : clashB xs ys n m l with
  | false => simp [clashC, hB] at h
  | true =>
    obtain ⟨_, _, r1, r2, _⟩ := clash_parts hB
    simp only [clashC, hB, if_true] at h
    by_cases hneg : clI xs ys l < 0
    · rw [if_pos hneg] at h; omega
    · have hge := idxI_ge (fun x => ys.any (nearB l x)) xs
      have e1 : clI xs ys l = idxI (fun x => ys.any (nearB l x)) xs := rfl
      obtain ⟨I, hI⟩ : ∃ I : Nat, clI xs ys l = (I : Int) := ⟨(clI xs ys l).toNat, by omega⟩
      have hIn : I < xs.length := by omega
      have hany : ys.any (nearB l (xs.getD I 0)) = true := by
        exact idxI_at (p := fun x => ys.any (nearB l x)) (zs := xs) (k := I) (by rw [← e1, hI])
      have hk0 : 0 ≤ idxI (nearB l (xs.getD I 0)) ys := by
        have := idxI_neg (nearB l (xs.getD I 0)) ys
        rw [hany] at this
        exact of_decide_eq_true this
      have hkg := idxI_ge (nearB l (xs.getD I 0)) ys
      obtain ⟨K, hK⟩ : ∃ K : Nat, idxI (nearB l (xs.getD I 0)) ys = (K : Int) := ⟨(idxI (nearB l (xs.getD I 0)) ys).toNat, by omega⟩
      have hKm : K < ys.length := by omega
      have hnear : nearB l (xs.getD I 0) (ys.getD K 0) = true := by
        exact idxI_at (p := nearB l (xs.getD I 0)) (zs := ys) (k := K) hK
      have hb1 := rises_at r1 (k := I) (by omega)
      have hb2 := rises_at r2 (k := K) (by omega)
      have hnear' := of_decide_eq_true hnear
      refine ⟨I, K, ?_, ?_, by omega, by omega, hb1.1, hb1.2, hb2.1, hb2.2, by omega⟩
      · simp only [clashI, hB, if_true]; rw [if_neg hneg, hI]
      · simp only [clashK, hB, if_true]; rw [if_neg hneg, hI, Int.toNat_natCast, hK]

theorem segI_mem {p : Nat → Bool} {a d : Nat} {j : Nat} : (j : Int) ∈ segI p a d ↔ a ≤ j ∧ j < a + d ∧ p j = true := by
  induction d generalizing a with
  | zero => simp [segI]; omega
  | succ d ih =>
    simp only [segI, List.mem_append, ih]
    constructor
    · rintro (h | h)
      · split at h
        · rename_i hp
          simp at h
          obtain rfl : j = a := by omega
          exact ⟨by omega, by omega, hp⟩
        · simp at h
      · exact ⟨by omega, by omega, h.2.2⟩
    · rintro ⟨h1, h2, h3⟩
      by_cases e : j = a
      · subst e; left; rw [if_pos h3]; simp
      · right; exact ⟨by omega, by omega, h3⟩
/-- A lock is where it is told. -/
theorem lock_has {h e b : Int} {j : Nat} (hB : lockB h e b = true) (hj : (j : Int) < h) : decide ((j : Int) ∈ lockF h e b) = lockP h e b j := by
  rw [lockF, hB, if_pos rfl]
  cases hp : lockP h e b j with
  | true => exact decide_eq_true (segI_mem.2 ⟨by omega, by omega, hp⟩)
  | false =>
    apply decide_eq_false
    intro hm
    rw [(segI_mem.1 hm).2.2] at hp
    cases hp
theorem lock_ok {h e b : Int} (hC : lockC h e b = 0) : lockB h e b = true ∧ 1 ≤ h ∧ h ≤ 1000 ∧ 1 ≤ e ∧ e ≤ 1000 ∧ 0 ≤ b ∧ b ≤ 10 ∧ (lockF h e b).length ≤ 1000 := by
  cases hB : lockB h e b with
  | false => simp [lockC, hB] at hC
  | true =>
    have hB' := hB
    simp only [lockB, Bool.and_eq_true, inB_true] at hB'
    have := segI_length (lockP h e b) 0 h.toNat
    refine ⟨rfl, by omega, by omega, by omega, by omega, by omega, by omega, ?_⟩
    simp only [lockF, hB, if_true]
    omega

theorem rndI_all {z c : Int} (hc : 1 ≤ c) : rndI (z * c) c = z := by
  unfold rndI
  have h : 2 * (z * c) + c = c + z * (2 * c) := by rw [← Int.mul_assoc, Int.mul_comm 2 z, Int.mul_assoc]; omega
  rw [h, Int.add_mul_ediv_right _ _ (by omega), Int.ediv_eq_zero_of_lt (by omega) (by omega)]
  omega
theorem rndI_mono {a b c : Int} (hc : 1 ≤ c) (h : a ≤ b) : rndI a c ≤ rndI b c := Int.ediv_le_ediv (by omega) (by omega)
/-- Numbers that do not fall, between two bounds. -/
def Up (lo hi : Int) (zs : List Int) : Prop := zs.Pairwise (· ≤ ·) ∧ ∀ z ∈ zs, lo ≤ z ∧ z ≤ hi
theorem Up.append {a b c : Int} {xs ys : List Int} (h : Up a b xs) (k : Up b c ys) (hab : a ≤ b) (hbc : b ≤ c) : Up a c (xs ++ ys) := by
  refine ⟨List.pairwise_append.2 ⟨h.1, k.1, fun x hx y hy => by have := h.2 x hx; have := k.2 y hy; omega⟩, fun z hz => ?_⟩
  rcases List.mem_append.1 hz with hz | hz
  · have := h.2 z hz; omega
  · have := k.2 z hz; omega
theorem sideH_up {b z c : Int} (hz : 0 ≤ z) (hc : 1 ≤ c) : ∀ k : Nat, (k : Int) ≤ c → Up b (b + rndI (z * k) c) (sideH b z c k) := by
  intro k
  induction k with
  | zero => intro _; exact ⟨List.Pairwise.nil, fun x hx => by simp [sideH] at hx⟩
  | succ k ih =>
    intro hk
    have h1 := ih (by omega)
    have hm : z * (k : Int) ≤ z * ((k : Int) + 1) := Int.mul_le_mul_of_nonneg_left (by omega) hz
    have h2 := rndI_mono (c := c) hc hm
    have h0 := (rndI_bd (a := z * (k : Int)) (b := c) (Int.mul_nonneg hz (by omega)) hc).1
    simp only [sideH]
    rw [show ((k + 1 : Nat) : Int) = (k : Int) + 1 by omega]
    refine h1.append (b := b + rndI (z * k) c) ⟨List.pairwise_singleton _ _, fun x hx => by simp at hx; omega⟩ (by omega) (by omega)
theorem holes_up {zs : List Int} {n : Nat} {s : Int} (h : sidesB zs n = true) (hl : zs.length = n) (hs : 10 ≤ s) : ∀ {i : Nat}, i ≤ n →
    Up 0 (begI zs i) (holesI zs s i) ∧ ((holesI zs s i).length : Int) = totI zs s i + 1 ∧ (holesI zs s i).getD 0 0 = 0 ∧ (holesI zs s i).getD ((holesI zs s i).length - 1) 0 = begI zs i := by
  intro i
  induction i with
  | zero => intro _; simp [holesI, begI, totI, Up]
  | succ i ih =>
    intro hi
    obtain ⟨h1, h2, h3, h4⟩ := ih (by omega)
    have h5 := sides_at h hl (k := i) (by omega)
    have h6 := cntI_bd (a := zs.getD i 0) (s := s) (by omega) (by omega)
    have h7 := totI_bd h hl hs (i := i) (by omega)
    have h8 := begI_bd h hl (i := i) (by omega)
    obtain ⟨c, hc⟩ : ∃ c, cntI (zs.getD i 0) s = c := ⟨_, rfl⟩
    rw [hc] at h6
    obtain ⟨C, rfl⟩ : ∃ C : Nat, c = ((C + 1 : Nat) : Int) := ⟨(c - 1).toNat, by omega⟩
    have hup := sideH_up (b := begI zs i) (z := zs.getD i 0) (c := ((C + 1 : Nat) : Int)) (by omega) (by omega) (C + 1) (Int.le_refl _)
    rw [rndI_all (by omega)] at hup
    have hlast : sideH (begI zs i) (zs.getD i 0) ((C + 1 : Nat) : Int) (C + 1) = sideH (begI zs i) (zs.getD i 0) ((C + 1 : Nat) : Int) C ++ [begI zs i + zs.getD i 0] := by
      rw [sideH, show (C : Int) + 1 = ((C + 1 : Nat) : Int) by omega, rndI_all (by omega)]
    have hls := length_sideH (begI zs i) (zs.getD i 0) ((C + 1 : Nat) : Int) C
    simp only [holesI, begI, totI, hc, Int.toNat_natCast]
    refine ⟨h1.append hup h8.1 (by omega), ?_, ?_, ?_⟩
    · rw [List.length_append, length_sideH]; omega
    · rw [List.getD_eq_getElem?_getD, List.getElem?_append_left (by omega), ← List.getD_eq_getElem?_getD]; exact h3
    · rw [hlast, ← List.append_assoc]
      rw [List.getD_eq_getElem?_getD, List.getElem?_append_right (by simp)]
      simp
theorem Up.at_ {lo hi : Int} {zs : List Int} (h : Up lo hi zs) {j : Nat} (hj : j + 1 < zs.length) : zs.getD j 0 ≤ zs.getD (j + 1) 0 := by
  have := List.pairwise_iff_getElem.1 h.1 j (j + 1) (by omega) hj (by omega)
  simpa [List.getElem?_eq_getElem hj, List.getElem?_eq_getElem (show j < zs.length by omega)] using this
theorem Up.bd {lo hi : Int} {zs : List Int} (h : Up lo hi zs) {j : Nat} (hj : j < zs.length) : lo ≤ zs.getD j 0 ∧ zs.getD j 0 ≤ hi := by
  have := h.2 zs[j] (List.getElem_mem hj)
  simpa [List.getElem?_eq_getElem hj] using this
theorem sum_beg (zs : List Int) : ∀ i : Nat, sumTo zs i = begI zs i := by
  intro i
  induction i with
  | zero => rfl
  | succ i ih => simp only [sumTo, begI, ih]
end Go.Proofs.Ytgdndmpnnocgiaa
