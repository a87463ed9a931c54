/-
  Contracts of the small functions of glues. No condition of its own.
-/
import Derived.Test.YtfkojbkgpbpjhaaGreatDoorBase
import Derived.WalkLawsBesides
import Derived.Outline
namespace Go.Proofs.YtfkojbkgpbpjhaaGreatDoor
open Go.ChangeShapes Go.WideShapes Go.ChangeAt Go.RowKit Go.Deep


/-- A glue is valid. -/
def glueB (d o p : Int) : Bool := decide (0 ≤ d) && decide (d ≤ o) && decide (o ≤ 1440) && inB p 1 1440
theorem glueB_true {d o p : Int} : glueB d o p = true ↔ 0 ≤ d ∧ d ≤ o ∧ o ≤ 1440 ∧ 1 ≤ p ∧ p ≤ 1440 := by simp [glueB, inB_true, and_assoc]
theorem glueB_false {d o p : Int} : glueB d o p = false ↔ ¬ (0 ≤ d ∧ d ≤ o ∧ o ≤ 1440 ∧ 1 ≤ p ∧ p ≤ 1440) := by rw [← glueB_true]; simp

set_option maxHeartbeats 800000 in
theorem validGlue_any (d o p : Int) (w : World) : Calls Tryz.prog 23 #[.agg #[.int .i64 d, .int .i64 o, .int .i64 p]] w fun e w' => e = .returned (.bool (glueB d o p)) ∧ w.alloc (.cells #[.int .i64 d, .int .i64 o, .int .i64 p] 25) = w' := by
  go_enter Tryz.func23, Tryz.ntmps23
  go_wp2_with (go_at_call 42; refine (within_any _ _ _ _).mono ?_; rintro e w1 ⟨rfl, rfl⟩)
  all_goals
    go_ret
    refine ⟨ret_bool ?_, rfl⟩
    try simp only [inB_true] at *
    first | exact (glueB_false.2 (by omega)).symm | exact (glueB_true.2 (by omega)).symm | (rw [Bool.eq_iff_iff, glueB_true, inB_true]; omega)

set_option maxHeartbeats 800000 in
theorem l19Ok_any (d o p : Int) (w : World) : Calls Tryz.prog 32 #[.agg #[.int .i64 d, .int .i64 o, .int .i64 p]] w fun e w' => e = .returned (.bool (glueB d o p)) ∧ w.alloc (.cells #[.int .i64 d, .int .i64 o, .int .i64 p] 25) = w' := by
  go_enter Tryz.func32, Tryz.ntmps32
  go_wp2_with (go_at_call 43; refine (l00In_any _ _ _ _).mono ?_; rintro e w1 ⟨rfl, rfl⟩)
  all_goals
    go_ret
    refine ⟨ret_bool ?_, rfl⟩
    try simp only [inB_true] at *
    first | exact (glueB_false.2 (by omega)).symm | exact (glueB_true.2 (by omega)).symm | (rw [Bool.eq_iff_iff, glueB_true, inB_true]; omega)

theorem window_any (d o p x y : Int) (w : World) (h1 : 0 ≤ d) (h2 : d ≤ o) (h3 : o ≤ 1440) (h4 : 0 ≤ x) (h5 : x ≤ 100000) (h6 : 0 ≤ y) (h7 : y ≤ 100000) :
    Calls Tryz.prog 31 #[.agg #[.int .i64 d, .int .i64 o, .int .i64 p], .int .i64 x, .int .i64 y] w fun e w' => e = .returned (.tuple #[.int .i64 (max x y + d), .int .i64 (min x y + o)]) ∧ (w.alloc (.cells #[.int .i64 d, .int .i64 o, .int .i64 p] 25)).drew = w' := by
  go_enter Tryz.func31, Tryz.ntmps31
  go_wp2
  go_region
  go_wp2
  all_goals
    go_ret2
    exact ⟨ret_two (by omega) (by omega), rfl⟩

theorem isMinute_any (x : Int) (w : World) : Calls Tryz.prog 30 #[.int .i64 x] w fun e w' => e = .returned (.bool (inB x 0 100000)) ∧ w = w' := by
  go_enter Tryz.func30, Tryz.ntmps30
  go_wp2_with (go_at_call 42; refine (within_any _ _ _ _).mono ?_; rintro e w1 ⟨rfl, rfl⟩)
  go_ret
  exact ⟨rfl, rfl⟩

theorem l19Minute_any (x : Int) (w : World) : Calls Tryz.prog 33 #[.int .i64 x] w fun e w' => e = .returned (.bool (inB x 0 100000)) ∧ w = w' := by
  go_enter Tryz.func33, Tryz.ntmps33
  go_wp2_with (go_at_call 43; refine (l00In_any _ _ _ _).mono ?_; rintro e w1 ⟨rfl, rfl⟩)
  go_ret
  exact ⟨rfl, rfl⟩

theorem l00Max_any (x y : Int) (w : World) : Calls Tryz.prog 34 #[.int .i64 x, .int .i64 y] w fun e w' => e = .returned (.int .i64 (max x y)) ∧ w = w' := by
  go_enter Tryz.func34, Tryz.ntmps34
  go_wp2
  all_goals
    go_ret
    exact ⟨ret_int (by omega), rfl⟩

theorem l00Min_any (x y : Int) (w : World) : Calls Tryz.prog 35 #[.int .i64 x, .int .i64 y] w fun e w' => e = .returned (.int .i64 (min x y)) ∧ w = w' := by
  go_enter Tryz.func35, Tryz.ntmps35
  go_wp2
  all_goals
    go_ret
    exact ⟨ret_int (by omega), rfl⟩

/-- The window of two minutes: from, to and the code. -/
def windowF (d o p x y : Int) : Int × Int × Int :=
  if glueB d o p = false then (0, 0, 1) else if (inB x 0 100000 && inB y 0 100000) = false then (0, 0, 2) else if max x y + d > min x y + o then (0, 0, 3) else (max x y + d, min x y + o, 0)

theorem windowF_bad {d o p x y : Int} (h : glueB d o p = false) : windowF d o p x y = (0, 0, 1) := by simp [windowF, h]
theorem windowF_range {d o p x y : Int} (h : glueB d o p = true) (k : (inB x 0 100000 && inB y 0 100000) = false) : windowF d o p x y = (0, 0, 2) := by simp only [windowF, h, k]; simp
theorem windowF_none {d o p x y : Int} (h : glueB d o p = true) (hx : inB x 0 100000 = true) (hy : inB y 0 100000 = true) (hm : min x y + o < max x y + d) : windowF d o p x y = (0, 0, 3) := by
  simp only [windowF, h, hx, hy, gt_iff_lt, hm]; simp
theorem windowF_ok {d o p x y : Int} (h : glueB d o p = true) (hx : inB x 0 100000 = true) (hy : inB y 0 100000 = true) (hm : max x y + d ≤ min x y + o) : windowF d o p x y = (max x y + d, min x y + o, 0) := by
  have : ¬ min x y + o < max x y + d := by omega
  simp only [windowF, h, hx, hy, gt_iff_lt, this]; simp

set_option maxHeartbeats 800000 in
theorem joinWindow_any (d o p x y : Int) (w : World) :
    Calls Tryz.prog 6 #[.agg #[.int .i64 d, .int .i64 o, .int .i64 p], .int .i64 x, .int .i64 y] w fun e w' => e = .returned (.tuple #[.int .i64 (windowF d o p x y).1, .int .i64 (windowF d o p x y).2.1, .int .i64 (windowF d o p x y).2.2]) ∧ Below w.heap.size w w' := by
  cases hg : glueB d o p with
  | false =>
    go_enter Tryz.func6, Tryz.ntmps6
    go_wp2_with (go_at_call 23; refine (validGlue_any _ _ _ _).mono ?_; rintro e w1 ⟨rfl, rfl⟩)
    go_ret3
    exact ⟨by rw [windowF_bad hg]; rfl, (by repeat (first | exact Below.refl _ _ | assumption | refine Below.drew ?_ | refine below_drewN ?_ _ | refine Below.alloc ?_ (by simp; try omega) _ | refine Below.setCell ?_ (by simp; try omega) _))⟩
  | true =>
    obtain ⟨h1, h2, h3, h4, h5⟩ := glueB_true.1 hg
    cases hx : inB x 0 100000 with
    | false =>
      go_enter Tryz.func6, Tryz.ntmps6
      go_wp2_with (first | (go_at_call 23; refine (validGlue_any _ _ _ _).mono ?_; rintro e w1 ⟨rfl, rfl⟩) | (go_at_call 30; refine (isMinute_any _ _).mono ?_; rintro e w1 ⟨rfl, rfl⟩))
      go_ret3
      exact ⟨by rw [windowF_range hg (by rw [hx]; rfl)]; rfl, (by repeat (first | exact Below.refl _ _ | assumption | refine Below.drew ?_ | refine below_drewN ?_ _ | refine Below.alloc ?_ (by simp; try omega) _ | refine Below.setCell ?_ (by simp; try omega) _))⟩
    | true =>
      cases hy : inB y 0 100000 with
      | false =>
        go_enter Tryz.func6, Tryz.ntmps6
        go_wp2_with (first | (go_at_call 23; refine (validGlue_any _ _ _ _).mono ?_; rintro e w1 ⟨rfl, rfl⟩) | (go_at_call 30; refine (isMinute_any _ _).mono ?_; rintro e w1 ⟨rfl, rfl⟩))
        go_ret3
        exact ⟨by rw [windowF_range hg (by rw [hx, hy]; rfl)]; rfl, (by repeat (first | exact Below.refl _ _ | assumption | refine Below.drew ?_ | refine below_drewN ?_ _ | refine Below.alloc ?_ (by simp; try omega) _ | refine Below.setCell ?_ (by simp; try omega) _))⟩
      | true =>
        obtain ⟨h6, h7⟩ := inB_true.1 hx
        obtain ⟨h8, h9⟩ := inB_true.1 hy
        go_enter Tryz.func6, Tryz.ntmps6
        go_wp2_with (first | (go_at_call 23; refine (validGlue_any _ _ _ _).mono ?_; rintro e w1 ⟨rfl, rfl⟩) | (go_at_call 30; refine (isMinute_any _ _).mono ?_; rintro e w1 ⟨rfl, rfl⟩) | (go_at_call 31; refine (window_any _ _ _ _ _ _ h1 h2 h3 h6 h7 h8 h9).mono ?_; rintro e w1 ⟨rfl, rfl⟩))
        all_goals
          go_ret3
          first | exact ⟨by rw [windowF_none hg hx hy (by omega)]; rfl, (by repeat (first | exact Below.refl _ _ | assumption | refine Below.drew ?_ | refine below_drewN ?_ _ | refine Below.alloc ?_ (by simp; try omega) _ | refine Below.setCell ?_ (by simp; try omega) _))⟩ | exact ⟨by rw [windowF_ok hg hx hy (by omega)]; rfl, (by repeat (first | exact Below.refl _ _ | assumption | refine Below.drew ?_ | refine below_drewN ?_ _ | refine Below.alloc ?_ (by simp; try omega) _ | refine Below.setCell ?_ (by simp; try omega) _))⟩

set_option maxHeartbeats 800000 in
theorem specWindow_any (d o p x y : Int) (w : World) :
    Calls Tryz.prog 7 #[.agg #[.int .i64 d, .int .i64 o, .int .i64 p], .int .i64 x, .int .i64 y] w fun e w' => e = .returned (.tuple #[.int .i64 (windowF d o p x y).1, .int .i64 (windowF d o p x y).2.1, .int .i64 (windowF d o p x y).2.2]) ∧ Below w.heap.size w w' := by
  cases hg : glueB d o p with
  | false =>
    go_enter Tryz.func7, Tryz.ntmps7
    go_wp2_with (go_at_call 32; refine (l19Ok_any _ _ _ _).mono ?_; rintro e w1 ⟨rfl, rfl⟩)
    go_ret3
    exact ⟨by rw [windowF_bad hg]; rfl, (by repeat (first | exact Below.refl _ _ | assumption | refine Below.drew ?_ | refine below_drewN ?_ _ | refine Below.alloc ?_ (by simp; try omega) _ | refine Below.setCell ?_ (by simp; try omega) _))⟩
  | true =>
    obtain ⟨h1, h2, h3, h4, h5⟩ := glueB_true.1 hg
    cases hx : inB x 0 100000 with
    | false =>
      go_enter Tryz.func7, Tryz.ntmps7
      go_wp2_with (first | (go_at_call 32; refine (l19Ok_any _ _ _ _).mono ?_; rintro e w1 ⟨rfl, rfl⟩) | (go_at_call 33; refine (l19Minute_any _ _).mono ?_; rintro e w1 ⟨rfl, rfl⟩))
      go_ret3
      exact ⟨by rw [windowF_range hg (by rw [hx]; rfl)]; rfl, (by repeat (first | exact Below.refl _ _ | assumption | refine Below.drew ?_ | refine below_drewN ?_ _ | refine Below.alloc ?_ (by simp; try omega) _ | refine Below.setCell ?_ (by simp; try omega) _))⟩
    | true =>
      cases hy : inB y 0 100000 with
      | false =>
        go_enter Tryz.func7, Tryz.ntmps7
        go_wp2_with (first | (go_at_call 32; refine (l19Ok_any _ _ _ _).mono ?_; rintro e w1 ⟨rfl, rfl⟩) | (go_at_call 33; refine (l19Minute_any _ _).mono ?_; rintro e w1 ⟨rfl, rfl⟩))
        go_ret3
        exact ⟨by rw [windowF_range hg (by rw [hx, hy]; rfl)]; rfl, (by repeat (first | exact Below.refl _ _ | assumption | refine Below.drew ?_ | refine below_drewN ?_ _ | refine Below.alloc ?_ (by simp; try omega) _ | refine Below.setCell ?_ (by simp; try omega) _))⟩
      | true =>
        obtain ⟨h6, h7⟩ := inB_true.1 hx
        obtain ⟨h8, h9⟩ := inB_true.1 hy
        have e1 : IntKind.i64.wrap (max x y + d) = max x y + d := IntWalk.i64_in _ (by omega)
        have e2 : IntKind.i64.wrap (min x y + o) = min x y + o := IntWalk.i64_in _ (by omega)
        go_enter Tryz.func7, Tryz.ntmps7
        go_wp2_with (first | (go_at_call 32; refine (l19Ok_any _ _ _ _).mono ?_; rintro e w1 ⟨rfl, rfl⟩) | (go_at_call 33; refine (l19Minute_any _ _).mono ?_; rintro e w1 ⟨rfl, rfl⟩))
        go_big_quiet ((go_at_call 34; first | exact quiet_left (callsB (l00Max_any _ _ _) (by assumption)) | exact quiet_left (l00Max_any _ _ _) | exact quiet_add_left (callsB (l00Max_any _ _ _) (by assumption)) | exact quiet_add_left (l00Max_any _ _ _)))
        go_wp2_with fail
        go_big_quiet ((go_at_call 35; first | exact quiet_left (callsB (l00Min_any _ _ _) (by assumption)) | exact quiet_left (l00Min_any _ _ _) | exact quiet_add_left (callsB (l00Min_any _ _ _) (by assumption)) | exact quiet_add_left (l00Min_any _ _ _)))
        clear e1 e2
        go_wp2_with fail
        all_goals
          go_ret3
          first | exact ⟨by rw [windowF_none hg hx hy (by omega)]; rfl, (by repeat (first | exact Below.refl _ _ | assumption | refine Below.drew ?_ | refine below_drewN ?_ _ | refine Below.alloc ?_ (by simp; try omega) _ | refine Below.setCell ?_ (by simp; try omega) _))⟩ | exact ⟨by rw [windowF_ok hg hx hy (by omega)]; rfl, (by repeat (first | exact Below.refl _ _ | assumption | refine Below.drew ?_ | refine below_drewN ?_ _ | refine Below.alloc ?_ (by simp; try omega) _ | refine Below.setCell ?_ (by simp; try omega) _))⟩

end Go.Proofs.YtfkojbkgpbpjhaaGreatDoor
