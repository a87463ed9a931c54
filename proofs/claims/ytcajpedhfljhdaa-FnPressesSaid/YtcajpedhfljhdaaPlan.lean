/-
  Contracts for PressPlan: the plan in plain terms, the first least number of a list. No condition of its own.
-/
import Derived.Test.YtcajpedhfljhdaaBad
import Derived.Test.YtcajpedhfljhdaaStep
import Derived.Test.YtcajpedhfljhdaaSlices
namespace Go.Proofs.Ytcajpedhfljhdaa
open Go.ChangeShapes Go.WideShapes Go.ChangeAt Go.RowKit Go.Deep Go.Shelf

theorem outB_bad {zs : List Int} {lo hi x : Int} {k : Nat} (hk : k < zs.length) (hx : zs.getD k 0 = x) (h : inB x lo hi = false) : outB zs lo hi = true := by
  have : zs[k] = x := by rw [← hx]; simp [List.getElem?_eq_getElem hk]
  simp only [outB, List.any_eq_true]
  exact ⟨x, by rw [← this]; exact List.getElem_mem hk, by simp [h]⟩
theorem outB_good {zs : List Int} {lo hi : Int} {k : Nat} (hk : zs.length ≤ k) (h : ∀ j, j < k → inB (zs.getD j 0) lo hi = true) : outB zs lo hi = false := by
  rw [outB_false]
  intro z hz
  obtain ⟨j, hj, rfl⟩ := List.mem_iff_getElem.1 hz
  have := h j (by omega)
  rw [inB_true] at this
  simpa [List.getElem?_eq_getElem hj] using this
theorem inB_more {zs : List Int} {lo hi x : Int} {k : Nat} (h : ∀ j, j < k → inB (zs.getD j 0) lo hi = true) (hx : zs.getD k 0 = x) (hk : inB x lo hi = true) : ∀ j, j < k + 1 → inB (zs.getD j 0) lo hi = true := fun j hj => by
  by_cases e : j = k
  · subst e; rw [hx]; exact hk
  · exact h j (by omega)
theorem cell_int {w W : World} {b o j : Nat} {zs : List Int} {x : Int} (hb : b < w.heap.size) (hbw : Below w.heap.size w W) (hc : ∀ i, i < (zs.map (Value.int .i64)).length → w.cell? ⟨b, o + i, none⟩ = (zs.map (Value.int .i64))[i]?) (hj : j < zs.length) (hx : zs.getD j 0 = x) :
    W.cell? ⟨b, o + j, none⟩ = some (.int .i64 x) := by
  rw [(hbw.cell (p := ⟨b, o + j, none⟩) hb).trans (hc j (by simpa using hj)), ← hx]
  simp [List.getElem?_eq_getElem hj]
theorem outB_at {ys : List Int} {lo hi : Int} {j : Nat} (h : outB ys lo hi = false) (hj : j < ys.length) : lo ≤ ys.getD j 0 ∧ ys.getD j 0 ≤ hi := by
  have := outB_false.1 h ys[j] (List.getElem_mem hj)
  simpa [List.getElem?_eq_getElem hj] using this
theorem cell_at0 {w W : World} {g j : Nat} {zs : List Int} {x : Int} (hc : CellsAt w (some ⟨g, 0, none⟩) (zs.map (Value.int .i64))) (hbw : Below w.heap.size w W) (hj : j < zs.length) (hx : zs.getD j 0 = x) :
    W.cell? ⟨g, j, none⟩ = some (.int .i64 x) := by
  obtain ⟨b, off, hae, hb, hcc⟩ := hc.at_ (by simp; omega)
  obtain ⟨rfl, rfl⟩ : g = b ∧ 0 = off := by simpa using hae
  have h := cell_int hb hbw hcc hj hx
  rw [Nat.zero_add] at h
  exact h

/-- Where the first least of the first k numbers stands. -/
def bst (fs : List Int) : Nat → Nat
  | 0 => 0
  | k + 1 => if fs.getD k 0 < fs.getD (bst fs k) 0 then k else bst fs k
theorem bst_one (fs : List Int) : bst fs 1 = 0 := by simp [bst]
theorem bst_lt (fs : List Int) {k : Nat} (h : 1 ≤ k) : bst fs k < k := by
  induction k with
  | zero => omega
  | succ k ih =>
    simp only [bst]
    split
    · omega
    · by_cases e : k = 0
      · subst e; simp [bst]
      · have := ih (by omega); omega
theorem bst_le (fs : List Int) {k : Nat} : ∀ {j : Nat}, j < k → fs.getD (bst fs k) 0 ≤ fs.getD j 0 := by
  induction k with
  | zero => intro j hj; omega
  | succ k ih =>
    intro j hj
    simp only [bst]
    by_cases e : j = k
    · subst e
      split <;> omega
    · have := ih (j := j) (by omega)
      split <;> omega
theorem bst_first (fs : List Int) {k : Nat} : ∀ {j : Nat}, j < bst fs k → fs.getD (bst fs k) 0 < fs.getD j 0 := by
  induction k with
  | zero => intro j hj; simp [bst] at hj
  | succ k ih =>
    intro j hj
    simp only [bst] at hj ⊢
    split at hj
    · rename_i h
      rw [if_pos h]
      have := bst_le fs (k := k) (j := j) hj
      omega
    · rename_i h
      rw [if_neg h]
      exact ih hj
theorem bst_min (fs : List Int) (k : Nat) : min (fs.getD (bst fs k) 0) (fs.getD k 0) = fs.getD (bst fs (k + 1)) 0 := by
  simp only [bst]
  split <;> omega

/-- The presses' times and the joins behind k joins; none: it does not go. -/
def planTo (d o p : Int) (xs ys : List Int) (P : Nat) : Nat → Option (List Int × List Int)
  | 0 => some (List.replicate P 0, [])
  | i + 1 => (planTo d o p xs ys P i).bind fun q =>
      if min (xs.getD i 0) (ys.getD i 0) + o < max (max (xs.getD i 0) (ys.getD i 0) + d) (q.1.getD (bst q.1 P) 0) then none
      else some (q.1.set (bst q.1 P) (max (max (xs.getD i 0) (ys.getD i 0) + d) (q.1.getD (bst q.1 P) 0) + p), q.2 ++ [xs.getD i 0, ys.getD i 0, max (max (xs.getD i 0) (ys.getD i 0) + d) (q.1.getD (bst q.1 P) 0), max (max (xs.getD i 0) (ys.getD i 0) + d) (q.1.getD (bst q.1 P) 0) + p])
theorem plan_none {d o p x y v J : Int} {xs ys fs out : List Int} {P i : Nat} (h : planTo d o p xs ys P i = some (fs, out)) (hx : xs.getD i 0 = x) (hy : ys.getD i 0 = y) (hv : fs.getD (bst fs P) 0 = v) (hJ : max (max x y + d) v = J) (k : min x y + o < J) :
    planTo d o p xs ys P (i + 1) = none := by
  simp only [planTo, h, hx, hy, hv, hJ, Option.bind_some, if_pos k]
theorem plan_some {d o p x y v J : Int} {xs ys fs out : List Int} {P i b : Nat} (h : planTo d o p xs ys P i = some (fs, out)) (hx : xs.getD i 0 = x) (hy : ys.getD i 0 = y) (hb : bst fs P = b) (hv : fs.getD b 0 = v) (hJ : max (max x y + d) v = J) (k : ¬ min x y + o < J) :
    planTo d o p xs ys P (i + 1) = some (fs.set b (J + p), out ++ [x, y, J, J + p]) := by
  simp only [planTo, h, hx, hy, hb, hv, hJ, Option.bind_some, if_neg k]
theorem plan_stays {d o p : Int} {xs ys : List Int} {P i j : Nat} (h : planTo d o p xs ys P i = none) (hij : i ≤ j) : planTo d o p xs ys P j = none := by
  induction j with
  | zero => obtain rfl : i = 0 := by omega
            exact h
  | succ j ih =>
    by_cases e : i = j + 1
    · subst e; exact h
    · simp only [planTo, ih (by omega), Option.bind_none]
/-- How long the lists are and how great the times. -/
theorem plan_bd {d o p : Int} {xs ys : List Int} {P : Nat} (h2 : o ≤ 1440) (h3 : 1 ≤ p) (h4 : p ≤ 1440) : ∀ {i : Nat} {fs out : List Int}, (∀ j, j < i → 0 ≤ xs.getD j 0 ∧ xs.getD j 0 ≤ 50000) → planTo d o p xs ys P i = some (fs, out) → fs.length = P ∧ out.length = i * 4 ∧ ∀ j, 0 ≤ fs.getD j 0 ∧ fs.getD j 0 ≤ 60000 := by
  intro i
  induction i with
  | zero =>
    intro fs out _ h
    simp only [planTo, Option.some.injEq, Prod.mk.injEq] at h
    obtain ⟨rfl, rfl⟩ := h
    refine ⟨by simp, rfl, fun j => ?_⟩
    by_cases e : j < P <;> simp [List.getD_eq_getElem?_getD, e]
  | succ i ih =>
    intro fs out hb h
    cases hq : planTo d o p xs ys P i with
    | none => simp [planTo, hq] at h
    | some q =>
      obtain ⟨f0, o0⟩ := q
      obtain ⟨a1, a2, a3⟩ := ih (fun j hj => hb j (by omega)) hq
      simp only [planTo, hq, Option.bind_some] at h
      split at h
      · cases h
      · rename_i hk
        simp only [Option.some.injEq, Prod.mk.injEq] at h
        obtain ⟨rfl, rfl⟩ := h
        have b1 := hb i (by omega)
        have b2 := a3 (bst f0 P)
        refine ⟨by simp [a1], by simp [a2]; omega, fun j => ?_⟩
        have b3 := a3 j
        rw [List.getD_eq_getElem?_getD] at b3 ⊢
        rw [List.getElem?_set]
        split
        · split
          · rw [Option.getD_some]; omega
          · rw [Option.getD_none]; omega
        · exact b3
def askP (xs ys : List Int) (n m : Nat) (pr : Int) : Prop := n = m ∧ n ≤ 20 ∧ outB xs 0 50000 = false ∧ outB ys 0 50000 = false ∧ inB pr 1 5 = true
instance (xs ys : List Int) (n m : Nat) (pr : Int) : Decidable (askP xs ys n m pr) := by unfold askP; infer_instance
def planF (d o p : Int) (xs : List Int) (n : Nat) (ys : List Int) (m : Nat) (pr : Int) : List Int :=
  if glueB d o p = true ∧ askP xs ys n m pr then ((planTo d o p xs ys pr.toNat n).map Prod.snd).getD [] else []
def planC (d o p : Int) (xs : List Int) (n : Nat) (ys : List Int) (m : Nat) (pr : Int) : Int :=
  if glueB d o p = true then (if askP xs ys n m pr then (if (planTo d o p xs ys pr.toNat n).isNone then 3 else 0) else 2) else 1
theorem plan_glue {d o p pr : Int} {xs ys : List Int} {n m : Nat} (h : glueB d o p = false) : planF d o p xs n ys m pr = [] ∧ planC d o p xs n ys m pr = 1 := by simp [planF, planC, h]
theorem plan_ask {d o p pr : Int} {xs ys : List Int} {n m : Nat} (h : glueB d o p = true) (k : ¬ askP xs ys n m pr) : planF d o p xs n ys m pr = [] ∧ planC d o p xs n ys m pr = 2 := by simp [planF, planC, h, k]
theorem plan_no {d o p : Int} {xs ys : List Int} {n m P : Nat} (h : glueB d o p = true) (k : askP xs ys n m (P : Int)) (t : planTo d o p xs ys P n = none) : planF d o p xs n ys m (P : Int) = [] ∧ planC d o p xs n ys m (P : Int) = 3 := by simp [planF, planC, h, k, t]
theorem plan_yes {d o p : Int} {xs ys fs out : List Int} {n m P : Nat} (h : glueB d o p = true) (k : askP xs ys n m (P : Int)) (t : planTo d o p xs ys P n = some (fs, out)) : planF d o p xs n ys m (P : Int) = out ∧ planC d o p xs n ys m (P : Int) = 0 := by simp [planF, planC, h, k, t]

set_option maxHeartbeats 1600000 in
theorem minI_any (a : Option Addr) (n c : Nat) (fs : List Int) (w : World) (hl : fs.length = n) (h1 : 1 ≤ n) (hn : n ≤ 1048576) (hc : CellsAt w a (fs.map (Value.int .i64))) :
    Calls Try.prog 75 #[.slice a n c] w fun e w' => e = .returned (.int .i64 (fs.getD (bst fs n) 0)) ∧ Below w.heap.size w w' := by
  obtain ⟨r, hr⟩ : ∃ r, fs.getD (bst fs n) 0 = r := ⟨_, rfl⟩
  rw [hr]
  obtain ⟨b, o, rfl, hb, hcc⟩ := hc.at_ (by simp; omega)
  have HC := Lib.hid (fun (j : Nat) (hj : j < n) (x : Int) (hx : fs.getD j 0 = x) => cell_int hb (Below.refl _ _) hcc (by rw [hl]; exact hj) hx)
  have HR := Lib.hid hr
  have c0 := HC.out 0 (by omega) _ rfl
  obtain ⟨x, hx⟩ : ∃ x, fs.getD 0 0 = x := ⟨_, rfl⟩
  rw [hx, Nat.add_zero] at c0
  have HX := Lib.hid (show x = fs.getD (bst fs 1) 0 by rw [bst_one, hx])
  have g1 : ¬ (n : Int) < 1 := by omega
  have g2 : (0 : Int) < (n : Int) := by omega
  clear hr hcc hc hl hx hb
  go_enter Try.func75, Try.ntmps75
  go_wp2
  go_loopw [3, 4] (fun v u wr => ∃ i : Nat, 1 ≤ i ∧ i ≤ n ∧ u = .int .i64 i ∧ ∃ x : Int, v = .int .i64 x ∧ Hid (x = fs.getD (bst fs i) 0) ∧ Hid (wr = w)) (fun _ u _ => n - (intOf u).toNat)
  case atStart => exact ⟨1, Nat.le_refl _, h1, rfl, x, rfl, HX, Lib.hid rfl⟩
  case round =>
    obtain ⟨i, hi1, hi, rfl, x2, rfl, hx2, hw⟩ := hrel
    have hw' := hw.out
    subst hw'
    by_cases hlt : i < n
    · obtain ⟨y, hy⟩ : ∃ y, fs.getD i 0 = y := ⟨_, rfl⟩
      have cy := HC.out i hlt y hy
      have HN := Lib.hid (show min x2 y = fs.getD (bst fs (i + 1)) 0 by rw [← bst_min, hx2.out, hy])
      have hlt' : (i : Int) < (n : Int) := by omega
      clear hy
      by_cases hxy : x2 ≤ y
      · have hm : min x2 y = x2 := by omega
        go_wp2
        go_roundw
        case rel => exact ⟨i + 1, by omega, by omega, by go_num, _, rfl, Lib.hid (by rw [← HN.out]; first | omega | (split <;> omega)), Lib.hid trivial⟩
        case measure => simp [intOf]; omega
      · have hm : min x2 y = y := by omega
        go_wp2
        go_roundw
        case rel => exact ⟨i + 1, by omega, by omega, by go_num, _, rfl, Lib.hid (by rw [← HN.out]; first | omega | (split <;> omega)), Lib.hid trivial⟩
        case measure => simp [intOf]; omega
    · obtain rfl : i = n := by omega
      obtain rfl : x2 = r := by rw [hx2.out, HR.out]
      go_wp2
      go_ret
      exact ⟨rfl, Below.refl _ _⟩
set_option maxHeartbeats 1600000 in
theorem indexI_any (a : Option Addr) (n c k : Nat) (fs : List Int) (v : Int) (w : World) (hl : fs.length = n) (hn : n ≤ 1048576) (hk : k < n) (hv : fs.getD k 0 = v) (hno : ∀ j, j < k → v < fs.getD j 0) (hc : CellsAt w a (fs.map (Value.int .i64))) :
    Calls Try.prog 74 #[.slice a n c, .int .i64 v] w fun e w' => e = .returned (.int .i64 (k : Int)) ∧ Below w.heap.size w w' := by
  obtain ⟨b, o, rfl, hb, hcc⟩ := hc.at_ (by simp; omega)
  have HC := Lib.hid (fun (j : Nat) (hj : j < n) (x : Int) (hx : fs.getD j 0 = x) => cell_int hb (Below.refl _ _) hcc (by rw [hl]; exact hj) hx)
  have HV := Lib.hid hv
  have HNo := Lib.hid hno
  clear hv hno hcc hc hl hb
  go_enter Try.func74, Try.ntmps74
  go_wp2
  go_loopw [5, 8] (fun _ u wr => ∃ i : Nat, i ≤ k ∧ u = .int .i64 i ∧ Hid (wr = w)) (fun _ u _ => n - (intOf u).toNat)
  case atStart => exact ⟨0, Nat.zero_le _, rfl, Lib.hid rfl⟩
  case round =>
    obtain ⟨i, hi, rfl, hw⟩ := hrel
    have hw' := hw.out
    subst hw'
    have hlt : (i : Int) < (n : Int) := by omega
    by_cases e : i = k
    · subst e
      have cy := HC.out i hk v HV.out
      have hvv : (v == v) = true := by simp
      go_wp2
      go_ret
      exact ⟨rfl, Below.refl _ _⟩
    · obtain ⟨y, hy⟩ : ∃ y, fs.getD i 0 = y := ⟨_, rfl⟩
      have cy := HC.out i (by omega) y hy
      have hlt2 := HNo.out i (by omega)
      rw [hy] at hlt2
      have hvy : (v == y) = false := by simp; omega
      clear hy hlt2
      go_wp2
      go_roundw
      case rel => exact ⟨i + 1, by omega, by go_num, Lib.hid trivial⟩
      case measure => simp [intOf]; omega
end Go.Proofs.Ytcajpedhfljhdaa
