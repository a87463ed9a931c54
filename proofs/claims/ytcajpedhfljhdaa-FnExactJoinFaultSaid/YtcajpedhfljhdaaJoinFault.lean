/-
  The law FnExactJoinFault returns true for all arguments. No condition.
-/
import Derived.Test.YtcajpedhfljhdaaGlue3
import Derived.Deep.DeepCutAuto
import Derived.Deep.RegionWith
import Derived.Test.YtcajpedhfljhdaaRows
import Derived.Test.YtcajpedhfljhdaaBase
import Derived.Outline
namespace Go.Proofs.Ytcajpedhfljhdaa
open Go.ChangeShapes Go.WideShapes Go.ChangeAt Go.RowKit Go.Deep
open Go.ChangeMaps (open_string shut_string)
open Go.Joins


/-- A block of one's own holds just these cells, in this world. -/
def Boxed (w : World) (g : Nat) (cs : Array Value) : Prop := g < w.heap.size ∧ ∀ i v, cs[i]? = some v → w.cell? ⟨g, i, none⟩ = some v
theorem Boxed.below {w w' : World} {g : Nat} {cs : Array Value} (h : Boxed w g cs) (hb : Below w.heap.size w w') : Boxed w' g cs :=
  ⟨Nat.lt_of_lt_of_le h.1 hb.size, fun i v hv => (hb.cell (p := ⟨g, i, none⟩) h.1).trans (h.2 i v hv)⟩

theorem boxed3 {w : World} {g : Nat} {a b c : Value} (hg : g < w.heap.size) (h0 : w.cell? ⟨g, 0, none⟩ = some a) (h1 : w.cell? ⟨g, 1, none⟩ = some b) (h2 : w.cell? ⟨g, 2, none⟩ = some c) : Boxed w g #[a, b, c] :=
  ⟨hg, fun i v hv => match i, hv with
    | 0, hv => by simp at hv; rw [← hv]; exact h0
    | 1, hv => by simp at hv; rw [← hv]; exact h1
    | 2, hv => by simp at hv; rw [← hv]; exact h2⟩
theorem boxed4 {w : World} {g : Nat} {a b c d : Value} (hg : g < w.heap.size) (h0 : w.cell? ⟨g, 0, none⟩ = some a) (h1 : w.cell? ⟨g, 1, none⟩ = some b) (h2 : w.cell? ⟨g, 2, none⟩ = some c) (h3 : w.cell? ⟨g, 3, none⟩ = some d) : Boxed w g #[a, b, c, d] :=
  ⟨hg, fun i v hv => match i, hv with
    | 0, hv => by simp at hv; rw [← hv]; exact h0
    | 1, hv => by simp at hv; rw [← hv]; exact h1
    | 2, hv => by simp at hv; rw [← hv]; exact h2
    | 3, hv => by simp at hv; rw [← hv]; exact h3⟩

set_option maxHeartbeats 3200000 in
theorem FnExactJoinFault_walk (d : Int) (_ : (Lit.int .i64 d).wf = true) (o : Int) (_ : (Lit.int .i64 o).wf = true) (p : Int) (_ : (Lit.int .i64 p).wf = true) (a : Int) (_ : (Lit.int .i64 a).wf = true) (b : Int) (_ : (Lit.int .i64 b).wf = true) (j : Int) (_ : (Lit.int .i64 j).wf = true) (t : Int) (_ : (Lit.int .i64 t).wf = true) (w : World) :
    Calls Try.prog 7 #[.agg #[.int .i64 d, .int .i64 o, .int .i64 p], .agg #[.int .i64 a, .int .i64 b, .int .i64 j, .int .i64 t]] w (LawEnd w) := by
  go_enter Try.func7, Try.ntmps7
  go_upto_region 1 with fail
  go_cut [5, 6] (fun s5 s6 wx => s5 = .string (joinFaultF d o p a b j t).1 ∧ s6 = .int .i64 (joinFaultF d o p a b j t).2 ∧ Boxed wx w.heap.size #[.int .i64 d, .int .i64 o, .int .i64 p] ∧ Boxed wx (w.heap.size + 1) #[.int .i64 a, .int .i64 b, .int .i64 j, .int .i64 t] ∧ Bel w.heap.size w wx)
  case first =>
    go_region_with (first | (go_at_call 15; refine (toGlue_any _ _ _ _).mono ?_; rintro e w1 ⟨rfl, rfl⟩) | (go_at_call 28; refine (toJoin_any _ _ _ _ _).mono ?_; rintro e w1 ⟨rfl, rfl⟩) | (go_at_call 27; refine (specFault_any _ _ _ _ _ _ _ _).mono ?_; rintro e w1 ⟨rfl, hb1⟩; have hB1 := Bel.step (B := w.heap.size) (a := w) (by repeat (first | assumption | exact Bel.refl _ | refine Bel.drew ?_ | refine Bel.drewN ?_ _ | refine Bel.alloc ?_ _ | refine Bel.setCell ?_ (by simp; try omega) _)) hb1))
    all_goals
      go_wp2_with fail
      go_meet
      exact ⟨rfl, rfl, Boxed.below (boxed3 (by go_simp) (by go_simp) (by go_simp) (by go_simp)) hb1, Boxed.below (boxed4 (by go_simp) (by go_simp) (by go_simp) (by go_simp) (by go_simp)) hb1, hB1⟩
  case rest =>
    obtain ⟨rfl, rfl, hx, hy, hB⟩ := hcut
    have x0 : wc.cell? ⟨w.heap.size, 0, none⟩ = some (.int .i64 d) := hx.2 0 _ rfl
    have x1 : wc.cell? ⟨w.heap.size, 1, none⟩ = some (.int .i64 o) := hx.2 1 _ rfl
    have x2 : wc.cell? ⟨w.heap.size, 2, none⟩ = some (.int .i64 p) := hx.2 2 _ rfl
    have y0 : wc.cell? ⟨w.heap.size + 1, 0, none⟩ = some (.int .i64 a) := hy.2 0 _ rfl
    have y1 : wc.cell? ⟨w.heap.size + 1, 1, none⟩ = some (.int .i64 b) := hy.2 1 _ rfl
    have y2 : wc.cell? ⟨w.heap.size + 1, 2, none⟩ = some (.int .i64 j) := hy.2 2 _ rfl
    have y3 : wc.cell? ⟨w.heap.size + 1, 3, none⟩ = some (.int .i64 t) := hy.2 3 _ rfl
    have z0 := hx.1
    have z1 := hy.1
    have z2 : w.heap.size + 1 ≤ wc.heap.size := by omega
    have z3 : w.heap.size + 1 < wc.heap.size + 1 + 1 := by omega
    have z4 : w.heap.size < wc.heap.size + 1 := by omega
    have z5 : w.heap.size < wc.heap.size + 1 + 1 := by omega
    clear hx hy
    go_wp2_with fail
    go_region_with (first | (go_at_call 15; refine (toGlue_any _ _ _ _).mono ?_; rintro e w1 ⟨rfl, rfl⟩) | (go_at_call 28; refine (toJoin_any _ _ _ _ _).mono ?_; rintro e w1 ⟨rfl, rfl⟩) | (go_at_call 29; refine (joinFault_any _ _ _ _ _ _ _ _).mono ?_; rintro e w1 ⟨rfl, hb1⟩; have hB1 := Bel.step (B := w.heap.size) (a := w) (by repeat (first | assumption | exact Bel.refl _ | refine Bel.drew ?_ | refine Bel.drewN ?_ _ | refine Bel.alloc ?_ _ | refine Bel.setCell ?_ (by simp; try omega) _)) hb1))
    all_goals
      go_wp2
      go_ret
      exact lawEnd_of (by repeat (first | assumption | exact Bel.refl _ | refine Bel.drew ?_ | refine Bel.drewN ?_ _ | refine Bel.alloc ?_ _ | refine Bel.setCell ?_ (by simp; try omega) _))

/-! ### From the walk to the statement -/
set_option maxRecDepth 100000 in
theorem FnExactJoinFault_lifted (os : Os) (started : os.Started) (H : Type) (enc : TypeId × Value → H) :
    ReturnsInHanded {} Try.checked os 7 .any (Rows.fnExactJoinFaultSpec.pre6 enc Try.prog Try.f7 Rows.fnExactJoinFaultRow.domain false) (Rows.fnExactJoinFaultSpec.post enc Try.prog Try.f7 false true false false) := by
  refine lifted_law (C := Try.checked) (tb := 4) own started (by kernel_rfl) Try.func7
    (ChangeSpec.witness6 (enc := enc) (C := Try.checked) false ⟨#[], #[.agg #[.int .i64 0, .int .i64 0, .int .i64 0], .agg #[.int .i64 0, .int .i64 0, .int .i64 0, .int .i64 0]], []⟩ 8 (by kernel_rfl) (by kernel_rfl) (by kernel_rfl) (by kernel_rfl))
    laidOut (by kernel_rfl) rfl rfl Try.underlying4 (fun ds h => by match ds, h with | [_, _], _ => rfl) ?_
  intro W base args ds p hval hA
  rw [Try.params7] at hA hval
  obtain ⟨v0, vs0, d0, ds0, p0, q0, hargs, rfl, rfl, h0, r0⟩ := trodAll_cons hA
  obtain ⟨v1, vs1, d1, ds1, p1, q1, rfl, rfl, rfl, h1, r1⟩ := trodAll_cons r0
  obtain ⟨rfl, rfl, rfl⟩ := trodAll_nil r1
  obtain rfl : args = #[v0, v1] := by cases args; simp_all
  obtain ⟨u0_0, u0_1, u0_2, y0_0, y0_1, y0_2, m0, rfl, rfl, _, t0_0, t0_1, t0_2⟩ := open_agg3 Try.underlying23 (by kernel_rfl) (by kernel_rfl) (hval 0 23 v0 rfl rfl) h0
  obtain ⟨a0_0, e0_0, _, w0_0⟩ := DataW.trod_int Try.underlying2 t0_0
  simp only [List.cons.injEq, and_true] at e0_0
  subst e0_0
  obtain ⟨a0_1, e0_1, _, w0_1⟩ := DataW.trod_int Try.underlying2 t0_1
  simp only [List.cons.injEq, and_true] at e0_1
  subst e0_1
  obtain ⟨a0_2, e0_2, _, w0_2⟩ := DataW.trod_int Try.underlying2 t0_2
  simp only [List.cons.injEq, and_true] at e0_2
  subst e0_2
  obtain ⟨u1_0, u1_1, u1_2, u1_3, y1_0, y1_1, y1_2, y1_3, m1, rfl, rfl, _, t1_0, t1_1, t1_2, t1_3⟩ := open_agg4 Try.underlying42 (by kernel_rfl) (by kernel_rfl) (hval 1 42 v1 rfl rfl) h1
  obtain ⟨a1_0, e1_0, _, w1_0⟩ := DataW.trod_int Try.underlying2 t1_0
  simp only [List.cons.injEq, and_true] at e1_0
  subst e1_0
  obtain ⟨a1_1, e1_1, _, w1_1⟩ := DataW.trod_int Try.underlying2 t1_1
  simp only [List.cons.injEq, and_true] at e1_1
  subst e1_1
  obtain ⟨a1_2, e1_2, _, w1_2⟩ := DataW.trod_int Try.underlying2 t1_2
  simp only [List.cons.injEq, and_true] at e1_2
  subst e1_2
  obtain ⟨a1_3, e1_3, _, w1_3⟩ := DataW.trod_int Try.underlying2 t1_3
  simp only [List.cons.injEq, and_true] at e1_3
  subst e1_3
  exact FnExactJoinFault_walk a0_0 w0_0 a0_1 w0_1 a0_2 w0_2 a1_0 w1_0 a1_1 w1_1 a1_2 w1_2 a1_3 w1_3 W

theorem FnExactJoinFault_over : Rows.fnExactJoinFaultRow.holds Try.pinned (OpenSpec.ofChange Rows.fnExactJoinFaultSpec) :=
  OpenClaim.holds_of_wide 7 Try.f7 rfl rfl rfl rfl rfl rfl rfl ⟨rfl, rfl, rfl, rfl, rfl⟩ rfl rfl rfl rfl rfl (by kernel_rfl) Try.func7 (by kernel_rfl)
    (of_decide_eq_true (by kernel_rfl)) (by unfold Func.isWrapper; first | (rw [if_pos (by decide +kernel)]; kernel_rfl) | (rw [if_neg (by decide +kernel)]; exact ⟨rfl, rfl⟩))
    (fun os started H enc _ => FnExactJoinFault_lifted os started H enc)

/-- The statement. -/
theorem FnExactJoinFault_holds : Rows.FnExactJoinFaultSaid := FnExactJoinFault_over
#print axioms FnExactJoinFault_holds

end Go.Proofs.Ytcajpedhfljhdaa
