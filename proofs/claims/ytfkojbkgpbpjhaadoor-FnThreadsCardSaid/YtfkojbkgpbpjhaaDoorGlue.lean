/-
  Contracts of the small functions of glues. No condition of its own.
-/
import Derived.Test.YtfkojbkgpbpjhaaDoorBase
import Derived.WalkLawsBesides
import Derived.Outline
namespace Go.Proofs.YtfkojbkgpbpjhaaDoor
open Go.ChangeShapes Go.WideShapes Go.ChangeAt Go.RowKit Go.Deep

theorem toGlue_any (x0 : Int) (x1 : Int) (x2 : Int) (w : World) : Calls Tryd.prog 24 #[.agg #[.int .i64 x0, .int .i64 x1, .int .i64 x2]] w fun e w' => e = .returned (.agg #[.int .i64 x0, .int .i64 x1, .int .i64 x2]) ∧ ((w.alloc (.cells #[.int .i64 x0, .int .i64 x1, .int .i64 x2] 42)).alloc (.cells #[.int .i64 x0, .int .i64 x1, .int .i64 x2] 44)).alloc (.cells #[.int .i64 x0, .int .i64 x1, .int .i64 x2] 44) = w' := by
  go_enter Tryd.func24, Tryd.ntmps24
  go_wp2
  exact bodyPost_ret (v := .agg #[.int .i64 x0, .int .i64 x1, .int .i64 x2]) (by simp [results, Tryd.results24, go_sem]) rfl ⟨rfl, rfl⟩


/-- A glue is valid. -/
def glueB (d o p : Int) : Bool := decide (0 ≤ d) && decide (d ≤ o) && decide (o ≤ 1440) && inB p 1 1440
theorem glueB_true {d o p : Int} : glueB d o p = true ↔ 0 ≤ d ∧ d ≤ o ∧ o ≤ 1440 ∧ 1 ≤ p ∧ p ≤ 1440 := by simp [glueB, inB_true, and_assoc]
theorem glueB_false {d o p : Int} : glueB d o p = false ↔ ¬ (0 ≤ d ∧ d ≤ o ∧ o ≤ 1440 ∧ 1 ≤ p ∧ p ≤ 1440) := by rw [← glueB_true]; simp

set_option maxHeartbeats 800000 in
theorem validGlue_any (d o p : Int) (w : World) : Calls Tryd.prog 66 #[.agg #[.int .i64 d, .int .i64 o, .int .i64 p]] w fun e w' => e = .returned (.bool (glueB d o p)) ∧ w.alloc (.cells #[.int .i64 d, .int .i64 o, .int .i64 p] 44) = w' := by
  go_enter Tryd.func66, Tryd.ntmps66
  go_wp2_with (go_at_call 63; refine (within_any _ _ _ _).mono ?_; rintro e w1 ⟨rfl, rfl⟩)
  all_goals
    go_ret
    refine ⟨ret_bool ?_, rfl⟩
    try simp only [inB_true] at *
    first | exact (glueB_false.2 (by omega)).symm | exact (glueB_true.2 (by omega)).symm | (rw [Bool.eq_iff_iff, glueB_true, inB_true]; omega)

set_option maxHeartbeats 800000 in
theorem l19Ok_any (d o p : Int) (w : World) : Calls Tryd.prog 64 #[.agg #[.int .i64 d, .int .i64 o, .int .i64 p]] w fun e w' => e = .returned (.bool (glueB d o p)) ∧ w.alloc (.cells #[.int .i64 d, .int .i64 o, .int .i64 p] 44) = w' := by
  go_enter Tryd.func64, Tryd.ntmps64
  go_wp2_with (go_at_call 86; refine (l00In_any _ _ _ _).mono ?_; rintro e w1 ⟨rfl, rfl⟩)
  all_goals
    go_ret
    refine ⟨ret_bool ?_, rfl⟩
    try simp only [inB_true] at *
    first | exact (glueB_false.2 (by omega)).symm | exact (glueB_true.2 (by omega)).symm | (rw [Bool.eq_iff_iff, glueB_true, inB_true]; omega)

theorem l00Max_any (x y : Int) (w : World) : Calls Tryd.prog 89 #[.int .i64 x, .int .i64 y] w fun e w' => e = .returned (.int .i64 (max x y)) ∧ w = w' := by
  go_enter Tryd.func89, Tryd.ntmps89
  go_wp2
  all_goals
    go_ret
    exact ⟨ret_int (by omega), rfl⟩

theorem l00Min_any (x y : Int) (w : World) : Calls Tryd.prog 88 #[.int .i64 x, .int .i64 y] w fun e w' => e = .returned (.int .i64 (min x y)) ∧ w = w' := by
  go_enter Tryd.func88, Tryd.ntmps88
  go_wp2
  all_goals
    go_ret
    exact ⟨ret_int (by omega), rfl⟩

end Go.Proofs.YtfkojbkgpbpjhaaDoor
