/-
  The law FnExactValidGlue returns true for all arguments. No condition.
-/
import Derived.Test.YtcajpedhfljhdaaGlue
import Derived.Test.YtcajpedhfljhdaaRows
import Derived.Test.YtcajpedhfljhdaaBase
import Derived.Outline
namespace Go.Proofs.Ytcajpedhfljhdaa
open Go.ChangeShapes Go.WideShapes Go.ChangeAt Go.RowKit Go.Deep
open Go.ChangeMaps (open_string shut_string)
open Go.Joins


set_option maxHeartbeats 1600000 in
theorem FnExactValidGlue_walk (d : Int) (_ : (Lit.int .i64 d).wf = true) (o : Int) (_ : (Lit.int .i64 o).wf = true) (p : Int) (_ : (Lit.int .i64 p).wf = true) (w : World) :
    Calls Try.prog 3 #[.agg #[.int .i64 d, .int .i64 o, .int .i64 p]] w (LawEnd w) := by
  go_enter Try.func3, Try.ntmps3
  go_wp2_with (first | (go_at_call 15; refine (toGlue_any _ _ _ _).mono ?_; rintro e w1 ⟨rfl, rfl⟩) | (go_at_call 16; refine (validGlue_any _ _ _ _).mono ?_; rintro e w1 ⟨rfl, rfl⟩) | (go_at_call 54; refine (l19Ok_any _ _ _ _).mono ?_; rintro e w1 ⟨rfl, rfl⟩) | go_in)
  go_ret
  exact lawEnd_of (by repeat (first | assumption | exact Bel.refl _ | refine Bel.drew ?_ | refine Bel.drewN ?_ _ | refine Bel.alloc ?_ _ | refine Bel.setCell ?_ (by simp; try omega) _))

/-! ### From the walk to the statement -/
set_option maxRecDepth 100000 in
theorem FnExactValidGlue_lifted (os : Os) (started : os.Started) (H : Type) (enc : TypeId × Value → H) :
    ReturnsInHanded {} Try.checked os 3 .any (Rows.fnExactValidGlueSpec.pre6 enc Try.prog Try.f3 Rows.fnExactValidGlueRow.domain false) (Rows.fnExactValidGlueSpec.post enc Try.prog Try.f3 false true false false) := by
  refine lifted_law (C := Try.checked) (tb := 4) own started (by kernel_rfl) Try.func3
    (ChangeSpec.witness6 (enc := enc) (C := Try.checked) false ⟨#[], #[.agg #[.int .i64 0, .int .i64 0, .int .i64 0]], []⟩ 8 (by kernel_rfl) (by kernel_rfl) (by kernel_rfl) (by kernel_rfl))
    laidOut (by kernel_rfl) rfl rfl Try.underlying4 (fun ds h => by match ds, h with | [_], _ => rfl) ?_
  intro W base args ds p hval hA
  rw [Try.params3] at hA hval
  obtain ⟨v0, vs0, d0, ds0, p0, q0, hargs, rfl, rfl, h0, r0⟩ := trodAll_cons hA
  obtain ⟨rfl, rfl, rfl⟩ := trodAll_nil r0
  obtain rfl : args = #[v0] := by cases args; simp_all
  obtain ⟨u0_0, u0_1, u0_2, y0_0, y0_1, y0_2, m0, rfl, rfl, _, t0_0, t0_1, t0_2⟩ := open_agg3 Try.underlying23 (by kernel_rfl) (by kernel_rfl) (hval 0 23 v0 rfl rfl) h0
  obtain ⟨a0_0, e0_0, _, w0_0⟩ := DataW.trod_int Try.underlying2 t0_0
  simp only [List.cons.injEq, and_true] at e0_0
  subst e0_0
  obtain ⟨a0_1, e0_1, _, w0_1⟩ := DataW.trod_int Try.underlying2 t0_1
  simp only [List.cons.injEq, and_true] at e0_1
  subst e0_1
  obtain ⟨a0_2, e0_2, _, w0_2⟩ := DataW.trod_int Try.underlying2 t0_2
  simp only [List.cons.injEq, and_true] at e0_2
  subst e0_2
  exact FnExactValidGlue_walk a0_0 w0_0 a0_1 w0_1 a0_2 w0_2 W

theorem FnExactValidGlue_over : Rows.fnExactValidGlueRow.holds Try.pinned (OpenSpec.ofChange Rows.fnExactValidGlueSpec) :=
  OpenClaim.holds_of_wide 3 Try.f3 rfl rfl rfl rfl rfl rfl rfl ⟨rfl, rfl, rfl, rfl, rfl⟩ rfl rfl rfl rfl rfl (by kernel_rfl) Try.func3 (by kernel_rfl)
    (of_decide_eq_true (by kernel_rfl)) (by unfold Func.isWrapper; first | (rw [if_pos (by decide +kernel)]; kernel_rfl) | (rw [if_neg (by decide +kernel)]; exact ⟨rfl, rfl⟩))
    (fun os started H enc _ => FnExactValidGlue_lifted os started H enc)

/-- The statement. -/
theorem FnExactValidGlue_holds : Rows.FnExactValidGlueSaid := FnExactValidGlue_over
#print axioms FnExactValidGlue_holds

end Go.Proofs.Ytcajpedhfljhdaa
