/-
  The law FnExactJoinWindow returns true for all arguments. No condition.
-/
import Derived.Test.YtcajpedhfljhdaaGlue
import Derived.Test.YtcajpedhfljhdaaRows
import Derived.Test.YtcajpedhfljhdaaBase
import Derived.Outline
namespace Go.Proofs.Ytcajpedhfljhdaa
open Go.ChangeShapes Go.WideShapes Go.ChangeAt Go.RowKit Go.Deep
open Go.ChangeMaps (open_string shut_string)
open Go.Joins


set_option maxHeartbeats 1600000 in
theorem FnExactJoinWindow_walk (d : Int) (_ : (Lit.int .i64 d).wf = true) (o : Int) (_ : (Lit.int .i64 o).wf = true) (p : Int) (_ : (Lit.int .i64 p).wf = true) (x : Int) (_ : (Lit.int .i64 x).wf = true) (y : Int) (_ : (Lit.int .i64 y).wf = true) (w : World) :
    Calls Try.prog 5 #[.agg #[.int .i64 d, .int .i64 o, .int .i64 p], .int .i64 x, .int .i64 y] w (LawEnd w) := by
  go_enter Try.func5, Try.ntmps5
  go_wp2_with (first | (go_at_call 15; refine (toGlue_any _ _ _ _).mono ?_; rintro e w1 ⟨rfl, rfl⟩) | (go_at_call 21; refine (joinWindow_any _ _ _ _ _ _).mono ?_; rintro e w2 ⟨rfl, hb2⟩; obtain ⟨hc2, hf2, hl2⟩ := bcell hb2; (try have hs3 := hl2 w.heap.size (by have := hs1; first | (simp; omega) | (go_simp; done) | (go_simp; omega))); (try have hs4 := hl2 w1.heap.size (by first | (simp; done) | (simp; omega) | (go_simp; done))); have hB2 := Bel.step (B := w.heap.size) (a := w) (by repeat (first | assumption | exact Bel.refl _ | refine Bel.drew ?_ | refine Bel.drewN ?_ _ | refine Bel.alloc ?_ _ | refine Bel.setCell ?_ (by simp; try omega) _)) hb2; clear hb2) | (go_at_call 20; refine (specWindow_any _ _ _ _ _ _).mono ?_; rintro e w1 ⟨rfl, hb1⟩; obtain ⟨hc1, hf1, hl1⟩ := bcell hb1; (try have hs1 := hl1 w.heap.size (by first | (simp; done) | (simp; omega) | (go_simp; done))); have hB1 := Bel.step (B := w.heap.size) (a := w) (by repeat (first | assumption | exact Bel.refl _ | refine Bel.drew ?_ | refine Bel.drewN ?_ _ | refine Bel.alloc ?_ _ | refine Bel.setCell ?_ (by simp; try omega) _)) hb1; clear hb1))
  go_ret
  exact lawEnd_of (by repeat (first | assumption | exact Bel.refl _ | refine Bel.drew ?_ | refine Bel.drewN ?_ _ | refine Bel.alloc ?_ _ | refine Bel.setCell ?_ (by simp; try omega) _))

/-! ### From the walk to the statement -/
set_option maxRecDepth 100000 in
theorem FnExactJoinWindow_lifted (os : Os) (started : os.Started) (H : Type) (enc : TypeId × Value → H) :
    ReturnsInHanded {} Try.checked os 5 .any (Rows.fnExactJoinWindowSpec.pre6 enc Try.prog Try.f5 Rows.fnExactJoinWindowRow.domain false) (Rows.fnExactJoinWindowSpec.post enc Try.prog Try.f5 false true false false) := by
  refine lifted_law (C := Try.checked) (tb := 4) own started (by kernel_rfl) Try.func5
    (ChangeSpec.witness6 (enc := enc) (C := Try.checked) false ⟨#[], #[.agg #[.int .i64 0, .int .i64 0, .int .i64 0], .int .i64 0, .int .i64 0], []⟩ 8 (by kernel_rfl) (by kernel_rfl) (by kernel_rfl) (by kernel_rfl))
    laidOut (by kernel_rfl) rfl rfl Try.underlying4 (fun ds h => by match ds, h with | [_, _, _], _ => rfl) ?_
  intro W base args ds p hval hA
  rw [Try.params5] at hA hval
  obtain ⟨v0, vs0, d0, ds0, p0, q0, hargs, rfl, rfl, h0, r0⟩ := trodAll_cons hA
  obtain ⟨v1, vs1, d1, ds1, p1, q1, rfl, rfl, rfl, h1, r1⟩ := trodAll_cons r0
  obtain ⟨v2, vs2, d2, ds2, p2, q2, rfl, rfl, rfl, h2, r2⟩ := trodAll_cons r1
  obtain ⟨rfl, rfl, rfl⟩ := trodAll_nil r2
  obtain rfl : args = #[v0, v1, v2] := by cases args; simp_all
  obtain ⟨u0_0, u0_1, u0_2, y0_0, y0_1, y0_2, m0, rfl, rfl, _, t0_0, t0_1, t0_2⟩ := open_agg3 Try.underlying23 (by kernel_rfl) (by kernel_rfl) (hval 0 23 v0 rfl rfl) h0
  obtain ⟨a0_0, e0_0, _, w0_0⟩ := DataW.trod_int Try.underlying2 t0_0
  simp only [List.cons.injEq, and_true] at e0_0
  subst e0_0
  obtain ⟨a0_1, e0_1, _, w0_1⟩ := DataW.trod_int Try.underlying2 t0_1
  simp only [List.cons.injEq, and_true] at e0_1
  subst e0_1
  obtain ⟨a0_2, e0_2, _, w0_2⟩ := DataW.trod_int Try.underlying2 t0_2
  simp only [List.cons.injEq, and_true] at e0_2
  subst e0_2
  obtain ⟨a1, rfl, rfl, rfl, w1⟩ := open_int Try.underlying2 (hval 1 2 v1 rfl rfl) h1
  obtain ⟨a2, rfl, rfl, rfl, w2⟩ := open_int Try.underlying2 (hval 2 2 v2 rfl rfl) h2
  exact FnExactJoinWindow_walk a0_0 w0_0 a0_1 w0_1 a0_2 w0_2 a1 w1 a2 w2 W

theorem FnExactJoinWindow_over : Rows.fnExactJoinWindowRow.holds Try.pinned (OpenSpec.ofChange Rows.fnExactJoinWindowSpec) :=
  OpenClaim.holds_of_wide 5 Try.f5 rfl rfl rfl rfl rfl rfl rfl ⟨rfl, rfl, rfl, rfl, rfl⟩ rfl rfl rfl rfl rfl (by kernel_rfl) Try.func5 (by kernel_rfl)
    (of_decide_eq_true (by kernel_rfl)) (by unfold Func.isWrapper; first | (rw [if_pos (by decide +kernel)]; kernel_rfl) | (rw [if_neg (by decide +kernel)]; exact ⟨rfl, rfl⟩))
    (fun os started H enc _ => FnExactJoinWindow_lifted os started H enc)

/-- The statement. -/
theorem FnExactJoinWindow_holds : Rows.FnExactJoinWindowSaid := FnExactJoinWindow_over
#print axioms FnExactJoinWindow_holds

end Go.Proofs.Ytcajpedhfljhdaa
