/-
  The law FnExactHeelFor returns true for all arguments. No condition.
-/
import Derived.Test.YtlaapndncejlgaaLastLaw
import Derived.Test.YtlaapndncejlgaaRow
import Derived.Test.YtlaapndncejlgaaRows
import Derived.Test.YtlaapndncejlgaaBase
import Derived.Outline
namespace Go.Proofs.Ytlaapndncejlgaa
open Go.ChangeShapes Go.WideShapes Go.ChangeAt Go.RowKit Go.Deep
open Go.ChangeMaps (open_string shut_string)
open Go.Joins


set_option maxRecDepth 100000 in
set_option maxHeartbeats 6400000 in
theorem FnExactHeelFor_walk (w : World) (a0_0 : ByteArray) (wa0_0 : a0_0.size ≤ maxLen) (a0_1 : Int) (wa0_1 : (Lit.int .i64 a0_1).wf = true) (a0_2 : Int) (wa0_2 : (Lit.int .i64 a0_2).wf = true) (a0_3 : Int) (wa0_3 : (Lit.int .i64 a0_3).wf = true) (a0_4 : Int) (wa0_4 : (Lit.int .i64 a0_4).wf = true) (a0_5 : Int) (wa0_5 : (Lit.int .i64 a0_5).wf = true) (a1 : Int) (wa1 : (Lit.int .i64 a1).wf = true) (a2 : Int) (wa2 : (Lit.int .i64 a2).wf = true) :
    Calls Try.prog 14 #[.agg #[.string a0_0, .int .i64 a0_1, .int .i64 a0_2, .int .i64 a0_3, .int .i64 a0_4, .int .i64 a0_5], .int .i64 a1, .int .i64 a2] w (LawEnd w) := by
  obtain ⟨r0, er0⟩ : ∃ q, heelF a0_0 a0_1 a0_2 a0_3 a0_4 a0_5 a1 a2 = q := ⟨_, rfl⟩
  have Er0 := Lib.hid er0
  clear er0
  obtain ⟨r1, er1⟩ : ∃ q, heelC a0_0 a0_1 a0_2 a0_3 a0_4 a0_5 a1 a2 = q := ⟨_, rfl⟩
  have Er1 := Lib.hid er1
  clear er1
  have Wa0_0 := Lib.hid wa0_0
  have Wa0_1 := Lib.hid wa0_1
  have Wa0_2 := Lib.hid wa0_2
  have Wa0_3 := Lib.hid wa0_3
  have Wa0_4 := Lib.hid wa0_4
  have Wa0_5 := Lib.hid wa0_5
  have WA1 := Lib.hid wa1
  have WA2 := Lib.hid wa2
  clear wa2 wa1 wa0_5 wa0_4 wa0_3 wa0_2 wa0_1 wa0_0
  by_cases g0 : 1048576 < (a0_0.size : Int)
  · go_enter Try.func14, Try.ntmps14
    go_wp2_with fail
    refine (szLast_any a0_0 a0_1 a0_2 a0_3 a0_4 a0_5 (1048576) _ (by omega) (by omega) Wa0_0.out).mono ?_
    rw [if_pos (by omega)]
    rintro d w1 ⟨rfl, hb⟩
    have HZ := Lib.hid hb
    clear hb
    go_wp2_with fail
    go_ret
    exact ⟨rfl, (((Bel.refl w).alloc _).step HZ.out).1⟩
  have b0 : a0_0.size ≤ 1048576 := by omega
  go_enter Try.func14, Try.ntmps14
  go_wp2_with fail
  refine (szLast_any a0_0 a0_1 a0_2 a0_3 a0_4 a0_5 (1048576) _ (by omega) (by omega) Wa0_0.out).mono ?_
  rw [if_neg (by omega)]
  rintro d w_0 ⟨rfl, hbz⟩
  have HB0 := Lib.hid (((Bel.refl w).alloc _).step hbz)
  have HC0 := Lib.hid ((Bel.refl (w.alloc (.cells #[.string a0_0, .int .i64 a0_1, .int .i64 a0_2, .int .i64 a0_3, .int .i64 a0_4, .int .i64 a0_5] 63))).step hbz)
  have SZ0 := Lib.hid (show w.heap.size ≤ w_0.heap.size from by have := hbz.size; simp at this; omega)
  clear hbz
  have bx0_0 : w_0.cell? ⟨w.heap.size, 0, none⟩ = some (.string a0_0) := (HC0.out.1.cell (p := ⟨w.heap.size, 0, none⟩) (by simp; try omega)).trans (by simp)
  have bx0_1 : w_0.cell? ⟨w.heap.size, 1, none⟩ = some (.int .i64 a0_1) := (HC0.out.1.cell (p := ⟨w.heap.size, 1, none⟩) (by simp; try omega)).trans (by simp)
  have bx0_2 : w_0.cell? ⟨w.heap.size, 2, none⟩ = some (.int .i64 a0_2) := (HC0.out.1.cell (p := ⟨w.heap.size, 2, none⟩) (by simp; try omega)).trans (by simp)
  have bx0_3 : w_0.cell? ⟨w.heap.size, 3, none⟩ = some (.int .i64 a0_3) := (HC0.out.1.cell (p := ⟨w.heap.size, 3, none⟩) (by simp; try omega)).trans (by simp)
  have bx0_4 : w_0.cell? ⟨w.heap.size, 4, none⟩ = some (.int .i64 a0_4) := (HC0.out.1.cell (p := ⟨w.heap.size, 4, none⟩) (by simp; try omega)).trans (by simp)
  have bx0_5 : w_0.cell? ⟨w.heap.size, 5, none⟩ = some (.int .i64 a0_5) := (HC0.out.1.cell (p := ⟨w.heap.size, 5, none⟩) (by simp; try omega)).trans (by simp)
  have hzb : w.heap.size < w_0.heap.size := by have h := HC0.out.2; simp at h; omega
  go_wp2_with fail
  clear hzb bx0_0 bx0_1 bx0_2 bx0_3 bx0_4 bx0_5
  refine (toLast_any a0_0 a0_1 a0_2 a0_3 a0_4 a0_5 w_0).mono ?_
  rintro d w_1 ⟨rfl, hw⟩
  have hb : Below w_0.heap.size w_0 w_1 := by rw [← hw]; exact ((((Bel.refl _).alloc _).alloc _).alloc _).1
  have HB1 := Lib.hid (HB0.out.step hb)
  have SZ1 := Lib.hid (show w_0.heap.size ≤ w_1.heap.size from hb.size)
  have HC1 := Lib.hid (HC0.out.step hb)
  clear hw hb
  go_wp2_with fail
  refine (spec_HeelFor w_1 a0_0 Wa0_0.out a0_1 Wa0_1.out a0_2 Wa0_2.out a0_3 Wa0_3.out a0_4 Wa0_4.out a0_5 Wa0_5.out a1 WA1.out a2 WA2.out).mono ?_
  rw [Er0.out, Er1.out]
  rintro d w_2 ⟨rfl, hb⟩
  have HB2 := Lib.hid (HB1.out.step hb)
  have SZ2 := Lib.hid (show w_1.heap.size ≤ w_2.heap.size from hb.size)
  have HC2 := Lib.hid (HC1.out.step hb)
  clear hb
  have bx0_0 : w_2.cell? ⟨w.heap.size, 0, none⟩ = some (.string a0_0) := (HC2.out.1.cell (p := ⟨w.heap.size, 0, none⟩) (by simp; try omega)).trans (by simp)
  have bx0_1 : w_2.cell? ⟨w.heap.size, 1, none⟩ = some (.int .i64 a0_1) := (HC2.out.1.cell (p := ⟨w.heap.size, 1, none⟩) (by simp; try omega)).trans (by simp)
  have bx0_2 : w_2.cell? ⟨w.heap.size, 2, none⟩ = some (.int .i64 a0_2) := (HC2.out.1.cell (p := ⟨w.heap.size, 2, none⟩) (by simp; try omega)).trans (by simp)
  have bx0_3 : w_2.cell? ⟨w.heap.size, 3, none⟩ = some (.int .i64 a0_3) := (HC2.out.1.cell (p := ⟨w.heap.size, 3, none⟩) (by simp; try omega)).trans (by simp)
  have bx0_4 : w_2.cell? ⟨w.heap.size, 4, none⟩ = some (.int .i64 a0_4) := (HC2.out.1.cell (p := ⟨w.heap.size, 4, none⟩) (by simp; try omega)).trans (by simp)
  have bx0_5 : w_2.cell? ⟨w.heap.size, 5, none⟩ = some (.int .i64 a0_5) := (HC2.out.1.cell (p := ⟨w.heap.size, 5, none⟩) (by simp; try omega)).trans (by simp)
  have hzb : w.heap.size < w_2.heap.size := by have h := HC2.out.2; simp at h; omega
  go_wp2_with fail
  clear hzb bx0_0 bx0_1 bx0_2 bx0_3 bx0_4 bx0_5
  refine (toLast_any a0_0 a0_1 a0_2 a0_3 a0_4 a0_5 w_2).mono ?_
  rintro d w_3 ⟨rfl, hw⟩
  have hb : Below w_2.heap.size w_2 w_3 := by rw [← hw]; exact ((((Bel.refl _).alloc _).alloc _).alloc _).1
  have HB3 := Lib.hid (HB2.out.step hb)
  have SZ3 := Lib.hid (show w_2.heap.size ≤ w_3.heap.size from hb.size)
  have HC3 := Lib.hid (HC2.out.step hb)
  clear hw hb
  go_wp2_with fail
  refine (impl_HeelFor w_3 a0_0 Wa0_0.out a0_1 Wa0_1.out a0_2 Wa0_2.out a0_3 Wa0_3.out a0_4 Wa0_4.out a0_5 Wa0_5.out a1 WA1.out a2 WA2.out).mono ?_
  rw [Er0.out, Er1.out]
  rintro d w_4 ⟨rfl, hb⟩
  have HB4 := Lib.hid (HB3.out.step hb)
  have SZ4 := Lib.hid (show w_3.heap.size ≤ w_4.heap.size from hb.size)
  have HC4 := Lib.hid (HC3.out.step hb)
  clear hb
  go_wp2_with fail
  go_ret
  exact lawEnd_of HB4.out

/-! ### From the walk to the statement -/
set_option maxRecDepth 100000 in
theorem FnExactHeelFor_lifted (os : Os) (started : os.Started) (H : Type) (enc : TypeId × Value → H) :
    ReturnsInHanded {} Try.checked os 14 .any (Rows.fnExactHeelForSpec.pre6 enc Try.prog Try.f14 Rows.fnExactHeelForRow.domain false) (Rows.fnExactHeelForSpec.post enc Try.prog Try.f14 false true false false) := by
  refine lifted_law (C := Try.checked) (tb := 4) own started (by kernel_rfl) Try.func14
    (ChangeSpec.witness6 (enc := enc) (C := Try.checked) false ⟨#[], #[.agg #[.string ByteArray.empty, .int .i64 0, .int .i64 0, .int .i64 0, .int .i64 0, .int .i64 0], .int .i64 0, .int .i64 0], []⟩ 8 (by kernel_rfl) (by kernel_rfl) (by kernel_rfl) (by kernel_rfl))
    laidOut (by kernel_rfl) rfl rfl Try.underlying4 (fun ds h => by match ds, h with | [_, _, _], _ => rfl) ?_
  intro W base args ds p hval hA
  rw [Try.params14] at hA hval
  obtain ⟨v0, vs0, d0, ds0, p0, q0, hargs, rfl, rfl, h0, r0⟩ := trodAll_cons hA
  obtain ⟨v1, vs1, d1, ds1, p1, q1, rfl, rfl, rfl, h1, r1⟩ := trodAll_cons r0
  obtain ⟨v2, vs2, d2, ds2, p2, q2, rfl, rfl, rfl, h2, r2⟩ := trodAll_cons r1
  obtain ⟨rfl, rfl, rfl⟩ := trodAll_nil r2
  obtain rfl : args = #[v0, v1, v2] := by cases args; simp_all
  obtain ⟨u0_0, u0_1, u0_2, u0_3, u0_4, u0_5, y0_0, y0_1, y0_2, y0_3, y0_4, y0_5, m0, rfl, rfl, _, t0_0, t0_1, t0_2, t0_3, t0_4, t0_5⟩ := open_agg6 Try.underlying63 (by kernel_rfl) (by kernel_rfl) (hval 0 63 v0 rfl rfl) h0
  obtain ⟨a0_0, e0_0, _, w0_0⟩ := DataW.trod_string Try.underlying9 t0_0
  simp only [List.cons.injEq, and_true] at e0_0
  subst e0_0
  obtain ⟨a0_1, e0_1, _, w0_1⟩ := DataW.trod_int Try.underlying2 t0_1
  simp only [List.cons.injEq, and_true] at e0_1
  subst e0_1
  obtain ⟨a0_2, e0_2, _, w0_2⟩ := DataW.trod_int Try.underlying2 t0_2
  simp only [List.cons.injEq, and_true] at e0_2
  subst e0_2
  obtain ⟨a0_3, e0_3, _, w0_3⟩ := DataW.trod_int Try.underlying2 t0_3
  simp only [List.cons.injEq, and_true] at e0_3
  subst e0_3
  obtain ⟨a0_4, e0_4, _, w0_4⟩ := DataW.trod_int Try.underlying2 t0_4
  simp only [List.cons.injEq, and_true] at e0_4
  subst e0_4
  obtain ⟨a0_5, e0_5, _, w0_5⟩ := DataW.trod_int Try.underlying2 t0_5
  simp only [List.cons.injEq, and_true] at e0_5
  subst e0_5
  obtain ⟨a1, rfl, rfl, rfl, w1⟩ := open_int Try.underlying2 (hval 1 2 v1 rfl rfl) h1
  obtain ⟨a2, rfl, rfl, rfl, w2⟩ := open_int Try.underlying2 (hval 2 2 v2 rfl rfl) h2
  first | exact FnExactHeelFor_walk a0_0 w0_0 a0_1 w0_1 a0_2 w0_2 a0_3 w0_3 a0_4 w0_4 a0_5 w0_5 a1 w1 a2 w2 W | exact FnExactHeelFor_walk W a0_0 w0_0 a0_1 w0_1 a0_2 w0_2 a0_3 w0_3 a0_4 w0_4 a0_5 w0_5 a1 w1 a2 w2

theorem FnExactHeelFor_over : Rows.fnExactHeelForRow.holds Try.pinned (OpenSpec.ofChange Rows.fnExactHeelForSpec) :=
  OpenClaim.holds_of_wide 14 Try.f14 rfl rfl rfl rfl rfl rfl rfl ⟨rfl, rfl, rfl, rfl, rfl⟩ rfl rfl rfl rfl rfl (by kernel_rfl) Try.func14 (by kernel_rfl)
    (of_decide_eq_true (by kernel_rfl)) (by unfold Func.isWrapper; first | (rw [if_pos (by decide +kernel)]; kernel_rfl) | (rw [if_neg (by decide +kernel)]; exact ⟨rfl, rfl⟩))
    (fun os started H enc _ => FnExactHeelFor_lifted os started H enc)

/-- The statement. -/
theorem FnExactHeelFor_holds : Rows.FnExactHeelForSaid := FnExactHeelFor_over
#print axioms FnExactHeelFor_holds


end Go.Proofs.Ytlaapndncejlgaa
