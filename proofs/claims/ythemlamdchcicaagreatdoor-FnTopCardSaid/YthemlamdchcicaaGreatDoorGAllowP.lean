/-
  Drawn lasts are valid: the plain part. slices.Min and slices.Index over numbers, at a row that is not empty. The allowed places and the first of the least cost: the plain part. No condition of its own.
-/
import Derived.Test.YthemlamdchcicaaGreatDoorTopLasts

namespace Go.Proofs.YthemlamdchcicaaGreatDoor
open Go.ChangeShapes Go.WideShapes Go.ChangeAt Go.RowKit Go.Deep Go.Shelf

theorem lsC_length : ∀ xs : List Lst, (lsC xs).length = xs.length * 6
  | [] => rfl
  | x :: xs => by
    have h : lsC (x :: xs) = [.string x.name, .int .i64 x.l, .int .i64 x.b, .int .i64 x.i, .int .i64 x.h, .int .i64 x.q] ++ lsC xs := rfl
    rw [h, List.length_append, lsC_length xs, List.length_cons]
    simp
    omega
theorem lsC_at : ∀ (xs : List Lst) (i : Nat) (hi : i < xs.length), (lsC xs)[i * 6]? = some (.string xs[i].name) ∧ (lsC xs)[i * 6 + 1]? = some (.int .i64 xs[i].l) ∧ (lsC xs)[i * 6 + 2]? = some (.int .i64 xs[i].b) ∧ (lsC xs)[i * 6 + 3]? = some (.int .i64 xs[i].i) ∧ (lsC xs)[i * 6 + 4]? = some (.int .i64 xs[i].h) ∧ (lsC xs)[i * 6 + 5]? = some (.int .i64 xs[i].q)
  | [], i, hi => absurd hi (Nat.not_lt_zero _)
  | x :: xs, 0, _ => ⟨rfl, rfl, rfl, rfl, rfl, rfl⟩
  | x :: xs, i + 1, hi => by
    have h : lsC (x :: xs) = [.string x.name, .int .i64 x.l, .int .i64 x.b, .int .i64 x.i, .int .i64 x.h, .int .i64 x.q] ++ lsC xs := rfl
    have ih := lsC_at xs i (by simpa using hi)
    have e : ∀ j, (lsC (x :: xs))[(i + 1) * 6 + j]? = (lsC xs)[i * 6 + j]? := fun j => by
      rw [h, List.getElem?_append_right (by simp; omega)]
      congr 1
      simp
      omega
    exact ⟨(e 0).trans ih.1, (e 1).trans ih.2.1, (e 2).trans ih.2.2.1, (e 3).trans ih.2.2.2.1, (e 4).trans ih.2.2.2.2.1, (e 5).trans ih.2.2.2.2.2⟩
theorem names7_sorted : names7.Pairwise fun a b => Op.bytesLess a.toList b.toList = true := by decide +kernel
theorem names7_ok : ∀ s ∈ names7, okName s = true := by decide +kernel
theorem names_rise {xs : List Lst} (h : (xs.map Lst.name).Sublist names7) {i : Nat} (hi : i + 1 < xs.length) : Op.bytesLess xs[i].name.toList xs[i + 1].name.toList = true := by
  have h1 := names7_sorted.sublist h
  rw [List.pairwise_iff_getElem] at h1
  have h2 := h1 i (i + 1) (by simp; omega) (by simp; omega) (by omega)
  simpa using h2
theorem lst_valid {xs : List Lst} (h : (xs.map Lst.name).Sublist names7) (hx : ∀ x ∈ xs, x.Ok) {i : Nat} (hi : i < xs.length) : lastB xs[i].name xs[i].l xs[i].b xs[i].i xs[i].h xs[i].q = true := by
  have hm := List.getElem_mem hi
  have hn := names7_ok _ (h.subset (List.mem_map_of_mem hm))
  obtain ⟨a1, a2, a3, a4, a5, a6, a7, a8, a9, a10⟩ := hx _ hm
  simp only [lastB, hn, footB, Bool.true_and, Bool.and_eq_true]
  refine ⟨?_, inB_true.2 ⟨by omega, by omega⟩⟩
  exact ⟨inB_true.2 ⟨a1, a2⟩, inB_true.2 ⟨a3, a4⟩, inB_true.2 ⟨a5, a6⟩, inB_true.2 ⟨a7, a8⟩⟩
theorem names_len {xs : List Lst} (h : (xs.map Lst.name).Sublist names7) : xs.length ≤ 7 := by
  have := h.length_le
  simpa [names7] using this
end Go.Proofs.YthemlamdchcicaaGreatDoor

namespace Go.Proofs.YthemlamdchcicaaGreatDoor
open Go.ChangeShapes Go.WideShapes Go.ChangeAt Go.RowKit Go.Deep Go.Shelf

/-- The least of the first k + 1. -/
def minTo (z : Nat → Int) : Nat → Int
  | 0 => z 0
  | k + 1 => min (minTo z k) (z (k + 1))
theorem minTo_le (z : Nat → Int) : ∀ k j, j ≤ k → minTo z k ≤ z j
  | 0, j, h => by
    obtain rfl : j = 0 := by omega
    exact Int.le_refl _
  | k + 1, j, h => by
    unfold minTo
    by_cases e : j = k + 1
    · subst e; omega
    · have := minTo_le z k j (by omega); omega
theorem minTo_at (z : Nat → Int) : ∀ k, ∃ j, j ≤ k ∧ minTo z k = z j
  | 0 => ⟨0, by omega, rfl⟩
  | k + 1 => by
    obtain ⟨j, h1, h2⟩ := minTo_at z k
    by_cases h : minTo z k ≤ z (k + 1)
    · exact ⟨j, by omega, by unfold minTo; omega⟩
    · exact ⟨k + 1, by omega, by unfold minTo; omega⟩
set_option maxHeartbeats 3200000 in
theorem min_any (b n c : Nat) (z : Nat → Int) (w : World) (hn : 1 ≤ n ∧ n ≤ 1000) (hc : ∀ j, j < n → w.cell? ⟨b, j, none⟩ = some (.int .i64 (z j))) :
    Calls Tryz.prog 56 #[.slice (some ⟨b, 0, none⟩) n c] w fun e w' => e = .returned (.int .i64 (minTo z (n - 1))) ∧ w = w' := by
  have HC := Lib.hid hc
  have c0 := hc 0 (by omega)
  obtain ⟨n1, n2⟩ := hn
  have h1 : ¬ (n : Int) < 1 := by omega
  have h0 : (0 : Int) < (n : Int) := by omega
  clear hc
  go_enter Tryz.func56, Tryz.ntmps56
  go_wp2_with fail
  go_loopw [3, 4] (fun m i wr => ∃ k : Nat, k + 1 ≤ n ∧ i = .int .i64 ((k + 1 : Nat) : Int) ∧ m = .int .i64 (minTo z k) ∧ w = wr) (fun _ i _ => n - (intOf i).toNat)
  case atStart => exact ⟨0, by omega, rfl, rfl, by first | rfl | trivial⟩
  case round =>
    obtain ⟨k, hk, rfl, rfl, rfl⟩ := hrel
    by_cases hlt : k + 1 < n
    · have hlt' : ((k + 1 : Nat) : Int) < (n : Int) := by omega
      have ck := HC.out (k + 1) hlt
      obtain ⟨u, hu⟩ : ∃ u, z (k + 1) = u := ⟨_, rfl⟩
      obtain ⟨v, hv⟩ : ∃ v, minTo z k = v := ⟨_, rfl⟩
      have HU := Lib.hid (show minTo z (k + 1) = min v u by rw [← hu, ← hv]; rfl)
      rw [hu] at ck
      rw [hv]
      clear hu hv
      go_wp2_with fail
      all_goals
        go_roundw
        case rel => exact ⟨k + 1, by omega, by go_num, by (rw [HU.out]; first | rfl | (congr 1; omega)), by first | rfl | trivial⟩
        case measure => simp [intOf]; omega
    · obtain rfl : n = k + 1 := by omega
      go_wp2_with fail
      go_ret
      exact ⟨rfl, rfl⟩
set_option maxHeartbeats 3200000 in
theorem index_any (b n c J : Nat) (z : Nat → Int) (v : Int) (w : World) (hn : n ≤ 1000) (hJ : J < n) (hv : z J = v) (hne : ∀ i, i < J → z i ≠ v) (hc : ∀ j, j < n → w.cell? ⟨b, j, none⟩ = some (.int .i64 (z j))) :
    Calls Tryz.prog 55 #[.slice (some ⟨b, 0, none⟩) n c, .int .i64 v] w fun e w' => e = .returned (.int .i64 (J : Int)) ∧ w = w' := by
  have HC := Lib.hid hc
  have HV := Lib.hid hv
  have HNe := Lib.hid hne
  clear hc hv hne
  go_enter Tryz.func55, Tryz.ntmps55
  go_wp2_with fail
  go_loopw [8] (fun i wr => ∃ k : Nat, k ≤ J ∧ i = .int .i64 (k : Int) ∧ w = wr) (fun i _ => n - (intOf i).toNat)
  case atStart => exact ⟨0, Nat.zero_le _, rfl, by first | rfl | trivial⟩
  case round =>
    obtain ⟨k, hk, rfl, rfl⟩ := hrel
    have hlt' : (k : Int) < (n : Int) := by omega
    have ck := HC.out k (by omega)
    by_cases h : k < J
    · have hz : ¬ v = z k := fun e => HNe.out k h e.symm
      go_wp2_with fail
      go_roundw
      case rel => exact ⟨k + 1, by omega, by go_num, by first | rfl | trivial⟩
      case measure => simp [intOf]; omega
    · obtain rfl : k = J := by omega
      rw [HV.out] at ck
      go_wp2_with fail
      go_ret
      exact ⟨rfl, rfl⟩
end Go.Proofs.YthemlamdchcicaaGreatDoor

namespace Go.Proofs.YthemlamdchcicaaGreatDoor

/-- The places below k that are allowed. -/
def allowTo (ok : Nat → Bool) : Nat → List Nat
  | 0 => []
  | k + 1 => allowTo ok k ++ if ok k = true then [k] else []
theorem allowTo_len (ok : Nat → Bool) : ∀ k, (allowTo ok k).length ≤ k
  | 0 => Nat.le_refl _
  | k + 1 => by
    have := allowTo_len ok k
    unfold allowTo
    rw [List.length_append]
    split <;> simp <;> omega
theorem mem_allowTo (ok : Nat → Bool) (j : Nat) : ∀ k, j ∈ allowTo ok k ↔ j < k ∧ ok j = true
  | 0 => by simp [allowTo]
  | k + 1 => by
    unfold allowTo
    rw [List.mem_append, mem_allowTo ok j k]
    by_cases h : ok k = true
    · rw [if_pos h, List.mem_singleton]
      constructor
      · rintro (⟨h1, h2⟩ | rfl)
        · exact ⟨by omega, h2⟩
        · exact ⟨by omega, h⟩
      · rintro ⟨h1, h2⟩
        by_cases e : j = k
        · exact .inr e
        · exact .inl ⟨by omega, h2⟩
    · rw [if_neg h]
      constructor
      · rintro (⟨h1, h2⟩ | h1)
        · exact ⟨by omega, h2⟩
        · cases h1
      · rintro ⟨h1, h2⟩
        by_cases e : j = k
        · subst e
          exact absurd h2 h
        · exact .inl ⟨by omega, h2⟩
/-- The first place of the least value. -/
theorem first_least (z : Nat → Int) (n : Nat) (hn : 1 ≤ n) : ∃ J, J < n ∧ z J = minTo z (n - 1) ∧ ∀ i, i < J → z i ≠ minTo z (n - 1) := by
  obtain ⟨j, hj, he⟩ := minTo_at z (n - 1)
  have : ∀ k, (∃ i, i < k ∧ z i = minTo z (n - 1)) → ∃ J, J < k ∧ z J = minTo z (n - 1) ∧ ∀ i, i < J → z i ≠ minTo z (n - 1) := fun k => by
    induction k with
    | zero => rintro ⟨i, hi, _⟩; omega
    | succ k ih =>
      rintro ⟨i, hi, h1⟩
      by_cases h : ∃ i, i < k ∧ z i = minTo z (n - 1)
      · obtain ⟨J, a1, a2, a3⟩ := ih h
        exact ⟨J, by omega, a2, a3⟩
      · have e : i = k := by
          by_cases e : i = k
          · exact e
          · exact absurd ⟨i, by omega, h1⟩ h
        subst e
        exact ⟨i, by omega, h1, fun i' hi' h2 => h ⟨i', hi', h2⟩⟩
  exact this n ⟨j, by omega, he.symm⟩
/-- The first of the allowed places with the least cost. -/
theorem best_allowed (ok : Nat → Bool) (cost : Nat → Int) (n J : Nat) (hJ : J < (allowTo ok n).length) (hc : cost (allowTo ok n)[J] = minTo (fun i => cost ((allowTo ok n).getD i 0)) ((allowTo ok n).length - 1)) :
    (allowTo ok n)[J] < n ∧ ok (allowTo ok n)[J] = true ∧ ∀ j, j < n → ok j = true → cost (allowTo ok n)[J] ≤ cost j := by
  obtain ⟨h1, h2⟩ := (mem_allowTo ok _ n).1 (List.getElem_mem hJ)
  refine ⟨h1, h2, fun j hj h3 => ?_⟩
  obtain ⟨i, hi, he⟩ := List.getElem_of_mem ((mem_allowTo ok j n).2 ⟨hj, h3⟩)
  have h4 := minTo_le (fun i => cost ((allowTo ok n).getD i 0)) ((allowTo ok n).length - 1) i (by omega)
  rw [hc]
  have h5 : (allowTo ok n).getD i 0 = j := by rw [List.getD_eq_getElem?_getD, List.getElem?_eq_getElem hi]; exact he
  simp only [h5] at h4
  exact h4
end Go.Proofs.YthemlamdchcicaaGreatDoor
