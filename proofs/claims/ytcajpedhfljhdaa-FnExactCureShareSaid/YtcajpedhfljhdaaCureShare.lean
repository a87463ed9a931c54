/-
  The law FnExactCureShare returns true for all arguments. No condition.
-/
import Derived.Test.YtcajpedhfljhdaaGlue3
import Derived.Test.YtcajpedhfljhdaaRows
import Derived.Test.YtcajpedhfljhdaaBase
import Derived.Outline
namespace Go.Proofs.Ytcajpedhfljhdaa
open Go.ChangeShapes Go.WideShapes Go.ChangeAt Go.RowKit Go.Deep
open Go.ChangeMaps (open_string shut_string)
open Go.Joins


theorem eqFraction_any (a b : Int) (w : World) : Calls Try.prog 34 #[.agg #[.int .i64 a, .int .i64 b], .agg #[.int .i64 a, .int .i64 b]] w fun e w' => e = .returned (.bool true) ∧ (w.alloc (.cells #[.int .i64 a, .int .i64 b] 51)).alloc (.cells #[.int .i64 a, .int .i64 b] 51) = w' := by
  go_enter Try.func34, Try.ntmps34
  go_wp2
  go_ret
  exact ⟨rfl, rfl⟩
set_option maxHeartbeats 1600000 in
theorem FnExactCureShare_walk (a : Int) (_ : (Lit.int .i64 a).wf = true) (b : Int) (_ : (Lit.int .i64 b).wf = true) (j : Int) (_ : (Lit.int .i64 j).wf = true) (t : Int) (_ : (Lit.int .i64 t).wf = true) (c : Int) (_ : (Lit.int .i64 c).wf = true) (m : Int) (_ : (Lit.int .i64 m).wf = true) (w : World) :
    Calls Try.prog 9 #[.agg #[.int .i64 a, .int .i64 b, .int .i64 j, .int .i64 t], .int .i64 c, .int .i64 m] w (LawEnd w) := by
  go_enter Try.func9, Try.ntmps9
  go_wp2_with (first | (go_at_call 28; refine (toJoin_any _ _ _ _ _).mono ?_; rintro e w1 ⟨rfl, rfl⟩) | (go_at_call 33; refine (cureShare_any _ _ _ _ _ _ _).mono ?_; rintro e w2 ⟨rfl, hb2⟩; obtain ⟨hc2, hf2, hl2⟩ := bcell hb2; (try have hs3 := hl2 w.heap.size (by have := hs1; first | (simp; omega) | (go_simp; done) | (go_simp; omega))); (try have hs4 := hl2 w1.heap.size (by first | (simp; done) | (simp; omega) | (go_simp; done))); have hB2 := Bel.step (B := w.heap.size) (a := w) (by repeat (first | assumption | exact Bel.refl _ | refine Bel.drew ?_ | refine Bel.drewN ?_ _ | refine Bel.alloc ?_ _ | refine Bel.setCell ?_ (by simp; try omega) _)) hb2; clear hb2) | (go_at_call 32; refine (specCure_any _ _ _ _ _ _ _).mono ?_; rintro e w1 ⟨rfl, hb1⟩; obtain ⟨hc1, hf1, hl1⟩ := bcell hb1; (try have hs1 := hl1 w.heap.size (by first | (simp; done) | (simp; omega) | (go_simp; done))); have hB1 := Bel.step (B := w.heap.size) (a := w) (by repeat (first | assumption | exact Bel.refl _ | refine Bel.drew ?_ | refine Bel.drewN ?_ _ | refine Bel.alloc ?_ _ | refine Bel.setCell ?_ (by simp; try omega) _)) hb1; clear hb1) | (go_at_call 34; refine (eqFraction_any _ _ _).mono ?_; rintro e w1 ⟨rfl, rfl⟩))
  go_ret
  exact lawEnd_of (by repeat (first | assumption | exact Bel.refl _ | refine Bel.drew ?_ | refine Bel.drewN ?_ _ | refine Bel.alloc ?_ _ | refine Bel.setCell ?_ (by simp; try omega) _))

/-! ### From the walk to the statement -/
set_option maxRecDepth 100000 in
theorem FnExactCureShare_lifted (os : Os) (started : os.Started) (H : Type) (enc : TypeId × Value → H) :
    ReturnsInHanded {} Try.checked os 9 .any (Rows.fnExactCureShareSpec.pre6 enc Try.prog Try.f9 Rows.fnExactCureShareRow.domain false) (Rows.fnExactCureShareSpec.post enc Try.prog Try.f9 false true false false) := by
  refine lifted_law (C := Try.checked) (tb := 4) own started (by kernel_rfl) Try.func9
    (ChangeSpec.witness6 (enc := enc) (C := Try.checked) false ⟨#[], #[.agg #[.int .i64 0, .int .i64 0, .int .i64 0, .int .i64 0], .int .i64 0, .int .i64 0], []⟩ 8 (by kernel_rfl) (by kernel_rfl) (by kernel_rfl) (by kernel_rfl))
    laidOut (by kernel_rfl) rfl rfl Try.underlying4 (fun ds h => by match ds, h with | [_, _, _], _ => rfl) ?_
  intro W base args ds p hval hA
  rw [Try.params9] at hA hval
  obtain ⟨v0, vs0, d0, ds0, p0, q0, hargs, rfl, rfl, h0, r0⟩ := trodAll_cons hA
  obtain ⟨v1, vs1, d1, ds1, p1, q1, rfl, rfl, rfl, h1, r1⟩ := trodAll_cons r0
  obtain ⟨v2, vs2, d2, ds2, p2, q2, rfl, rfl, rfl, h2, r2⟩ := trodAll_cons r1
  obtain ⟨rfl, rfl, rfl⟩ := trodAll_nil r2
  obtain rfl : args = #[v0, v1, v2] := by cases args; simp_all
  obtain ⟨u0_0, u0_1, u0_2, u0_3, y0_0, y0_1, y0_2, y0_3, m0, rfl, rfl, _, t0_0, t0_1, t0_2, t0_3⟩ := open_agg4 Try.underlying42 (by kernel_rfl) (by kernel_rfl) (hval 0 42 v0 rfl rfl) h0
  obtain ⟨a0_0, e0_0, _, w0_0⟩ := DataW.trod_int Try.underlying2 t0_0
  simp only [List.cons.injEq, and_true] at e0_0
  subst e0_0
  obtain ⟨a0_1, e0_1, _, w0_1⟩ := DataW.trod_int Try.underlying2 t0_1
  simp only [List.cons.injEq, and_true] at e0_1
  subst e0_1
  obtain ⟨a0_2, e0_2, _, w0_2⟩ := DataW.trod_int Try.underlying2 t0_2
  simp only [List.cons.injEq, and_true] at e0_2
  subst e0_2
  obtain ⟨a0_3, e0_3, _, w0_3⟩ := DataW.trod_int Try.underlying2 t0_3
  simp only [List.cons.injEq, and_true] at e0_3
  subst e0_3
  obtain ⟨a1, rfl, rfl, rfl, w1⟩ := open_int Try.underlying2 (hval 1 2 v1 rfl rfl) h1
  obtain ⟨a2, rfl, rfl, rfl, w2⟩ := open_int Try.underlying2 (hval 2 2 v2 rfl rfl) h2
  exact FnExactCureShare_walk a0_0 w0_0 a0_1 w0_1 a0_2 w0_2 a0_3 w0_3 a1 w1 a2 w2 W

theorem FnExactCureShare_over : Rows.fnExactCureShareRow.holds Try.pinned (OpenSpec.ofChange Rows.fnExactCureShareSpec) :=
  OpenClaim.holds_of_wide 9 Try.f9 rfl rfl rfl rfl rfl rfl rfl ⟨rfl, rfl, rfl, rfl, rfl⟩ rfl rfl rfl rfl rfl (by kernel_rfl) Try.func9 (by kernel_rfl)
    (of_decide_eq_true (by kernel_rfl)) (by unfold Func.isWrapper; first | (rw [if_pos (by decide +kernel)]; kernel_rfl) | (rw [if_neg (by decide +kernel)]; exact ⟨rfl, rfl⟩))
    (fun os started H enc _ => FnExactCureShare_lifted os started H enc)

/-- The statement. -/
theorem FnExactCureShare_holds : Rows.FnExactCureShareSaid := FnExactCureShare_over
#print axioms FnExactCureShare_holds

end Go.Proofs.Ytcajpedhfljhdaa
