/-
  The law FnExactValidThread returns true for all arguments. No condition.
-/
import Derived.Test.YtdogdjbkglkodaaRows
import Derived.Test.YtdogdjbkglkodaaBase
namespace Go.Proofs.Ytdogdjbkglkodaa
open Go.ChangeShapes Go.WideShapes Go.ChangeAt Go.RowKit Go.Deep
open Go.ChangeMaps (open_string shut_string)
open Go.Joins


theorem toThread_any (x0 : Int) (x1 : Int) (x2 : Bool) (w : World) : Calls Try.prog 9 #[.agg #[.int .i64 x0, .int .i64 x1, .bool x2]] w fun e w' => e = .returned (.agg #[.int .i64 x0, .int .i64 x1, .bool x2]) ∧ ((w.alloc (.cells #[.int .i64 x0, .int .i64 x1, .bool x2] 23)).alloc (.cells #[.int .i64 x0, .int .i64 x1, .bool x2] 25)).alloc (.cells #[.int .i64 x0, .int .i64 x1, .bool x2] 25) = w' := by
  go_enter Try.func9, Try.ntmps9
  go_wp2
  exact bodyPost_ret (v := .agg #[.int .i64 x0, .int .i64 x1, .bool x2]) (by simp [results, Try.results9, go_sem]) rfl ⟨rfl, rfl⟩

set_option maxHeartbeats 1600000 in
theorem FnExactValidThread_walk (p : Int) (_ : (Lit.int .i64 p).wf = true) (q : Int) (_ : (Lit.int .i64 q).wf = true) (b : Bool) (w : World) :
    Calls Try.prog 3 #[.agg #[.int .i64 p, .int .i64 q, .bool b]] w (LawEnd w) := by
  cases b
  all_goals
    go_enter Try.func3, Try.ntmps3
    go_wp2_with (first | (go_at_call 9; refine (toThread_any _ _ _ _).mono ?_; rintro e w1 ⟨rfl, rfl⟩) | go_in)
    all_goals
      go_ret
      exact lawEnd_of (by repeat (first | assumption | exact Bel.refl _ | refine Bel.drew ?_ | refine Bel.drewN ?_ _ | refine Bel.alloc ?_ _ | refine Bel.setCell ?_ (by simp; try omega) _))

/-! ### From the walk to the statement -/
set_option maxRecDepth 100000 in
theorem FnExactValidThread_lifted (os : Os) (started : os.Started) (H : Type) (enc : TypeId × Value → H) :
    ReturnsInHanded {} Try.checked os 3 .any (Rows.fnExactValidThreadSpec.pre6 enc Try.prog Try.f3 Rows.fnExactValidThreadRow.domain false) (Rows.fnExactValidThreadSpec.post enc Try.prog Try.f3 false true false false) := by
  refine lifted_law (C := Try.checked) (tb := 4) own started (by kernel_rfl) Try.func3
    (ChangeSpec.witness6 (enc := enc) (C := Try.checked) false ⟨#[], #[.agg #[.int .i64 0, .int .i64 0, .bool false]], []⟩ 8 (by kernel_rfl) (by kernel_rfl) (by kernel_rfl) (by kernel_rfl))
    laidOut (by kernel_rfl) rfl rfl Try.underlying4 (fun ds h => by match ds, h with | [_], _ => rfl) ?_
  intro W base args ds p hval hA
  rw [Try.params3] at hA hval
  obtain ⟨v0, vs0, d0, ds0, p0, q0, hargs, rfl, rfl, h0, r0⟩ := trodAll_cons hA
  obtain ⟨rfl, rfl, rfl⟩ := trodAll_nil r0
  obtain rfl : args = #[v0] := by cases args; simp_all
  obtain ⟨u0_0, u0_1, u0_2, y0_0, y0_1, y0_2, m0, rfl, rfl, _, t0_0, t0_1, t0_2⟩ := open_agg3 Try.underlying23 (by kernel_rfl) (by kernel_rfl) (hval 0 23 v0 rfl rfl) h0
  obtain ⟨a0_0, e0_0, _, w0_0⟩ := DataW.trod_int Try.underlying2 t0_0
  simp only [List.cons.injEq, and_true] at e0_0
  subst e0_0
  obtain ⟨a0_1, e0_1, _, w0_1⟩ := DataW.trod_int Try.underlying2 t0_1
  simp only [List.cons.injEq, and_true] at e0_1
  subst e0_1
  obtain ⟨a0_2, e0_2, _⟩ := DataW.trod_bool Try.underlying4 t0_2
  simp only [List.cons.injEq, and_true] at e0_2
  subst e0_2
  exact FnExactValidThread_walk a0_0 w0_0 a0_1 w0_1 a0_2 W

theorem FnExactValidThread_over : Rows.fnExactValidThreadRow.holds Try.pinned (OpenSpec.ofChange Rows.fnExactValidThreadSpec) :=
  OpenClaim.holds_of_wide 3 Try.f3 rfl rfl rfl rfl rfl rfl rfl ⟨rfl, rfl, rfl, rfl, rfl⟩ rfl rfl rfl rfl rfl (by kernel_rfl) Try.func3 (by kernel_rfl)
    (of_decide_eq_true (by kernel_rfl)) (by unfold Func.isWrapper; first | (rw [if_pos (by decide +kernel)]; kernel_rfl) | (rw [if_neg (by decide +kernel)]; exact ⟨rfl, rfl⟩))
    (fun os started H enc _ => FnExactValidThread_lifted os started H enc)

/-- The statement. -/
theorem FnExactValidThread_holds : Rows.FnExactValidThreadSaid := FnExactValidThread_over
#print axioms FnExactValidThread_holds

end Go.Proofs.Ytdogdjbkglkodaa
