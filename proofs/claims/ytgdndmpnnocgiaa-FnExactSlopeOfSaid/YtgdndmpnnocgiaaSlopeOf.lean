/-
  The law FnExactSlopeOf returns true for all arguments. No condition.
-/
import Derived.Test.YtgdndmpnnocgiaaLastLaw
import Derived.Test.YtgdndmpnnocgiaaRow
import Derived.Test.YtgdndmpnnocgiaaRows
import Derived.Test.YtgdndmpnnocgiaaBase
import Derived.Outline
namespace Go.Proofs.Ytgdndmpnnocgiaa
open Go.ChangeShapes Go.WideShapes Go.ChangeAt Go.RowKit Go.Deep
open Go.ChangeMaps (open_string shut_string)
open Go.Joins


theorem box_cells {w W : World} {s : ByteArray} {l b i h p : Int} {T : Nat} (k : Bel (w.alloc (.cells #[.string s, .int .i64 l, .int .i64 b, .int .i64 i, .int .i64 h, .int .i64 p] T)).heap.size (w.alloc (.cells #[.string s, .int .i64 l, .int .i64 b, .int .i64 i, .int .i64 h, .int .i64 p] T)) W) :
    W.cell? ⟨w.heap.size, 0, none⟩ = some (.string s) ∧ W.cell? ⟨w.heap.size, 1, none⟩ = some (.int .i64 l) ∧ W.cell? ⟨w.heap.size, 2, none⟩ = some (.int .i64 b) ∧ W.cell? ⟨w.heap.size, 3, none⟩ = some (.int .i64 i) ∧ W.cell? ⟨w.heap.size, 4, none⟩ = some (.int .i64 h) ∧ W.cell? ⟨w.heap.size, 5, none⟩ = some (.int .i64 p) ∧ w.heap.size < W.heap.size := by
  have f : ∀ o, W.cell? ⟨w.heap.size, o, none⟩ = (w.alloc (.cells #[.string s, .int .i64 l, .int .i64 b, .int .i64 i, .int .i64 h, .int .i64 p] T)).cell? ⟨w.heap.size, o, none⟩ := fun o => k.1.cell (p := ⟨w.heap.size, o, none⟩) (by simp)
  refine ⟨(f 0).trans (by simp), (f 1).trans (by simp), (f 2).trans (by simp), (f 3).trans (by simp), (f 4).trans (by simp), (f 5).trans (by simp), ?_⟩
  have := k.2
  simp at this
  omega
theorem frac_cells {w W : World} {n d : Int} {T : Nat} (k : Bel (w.alloc (.cells #[.int .i64 n, .int .i64 d] T)).heap.size (w.alloc (.cells #[.int .i64 n, .int .i64 d] T)) W) :
    W.cell? ⟨w.heap.size, 0, none⟩ = some (.int .i64 n) ∧ W.cell? ⟨w.heap.size, 1, none⟩ = some (.int .i64 d) ∧ w.heap.size < W.heap.size := by
  have f : ∀ o, W.cell? ⟨w.heap.size, o, none⟩ = (w.alloc (.cells #[.int .i64 n, .int .i64 d] T)).cell? ⟨w.heap.size, o, none⟩ := fun o => k.1.cell (p := ⟨w.heap.size, o, none⟩) (by simp)
  refine ⟨(f 0).trans (by simp), (f 1).trans (by simp), ?_⟩
  have := k.2
  simp at this
  omega

set_option maxRecDepth 100000 in
set_option maxHeartbeats 6400000 in
theorem FnExactSlopeOf_walk (w : World) (s : ByteArray) (ws : s.size ≤ maxLen) (l : Int) (wl : (Lit.int .i64 l).wf = true) (b : Int) (wb : (Lit.int .i64 b).wf = true) (i : Int) (wi : (Lit.int .i64 i).wf = true) (h : Int) (wh : (Lit.int .i64 h).wf = true) (p : Int) (wp : (Lit.int .i64 p).wf = true) (d : Int) (wd : (Lit.int .i64 d).wf = true) :
    Calls Try.prog 11 #[.agg #[.string s, .int .i64 l, .int .i64 b, .int .i64 i, .int .i64 h, .int .i64 p], .int .i64 d] w (LawEnd w) := by
  have h1 := fun W => spec_SlopeOf W s ws l wl b wb i wi h wh p wp d wd
  have h2 := fun W => impl_SlopeOf W s ws l wl b wb i wi h wh p wp d wd
  generalize slopeN s l b i h p d = n0 at h1 h2
  generalize slopeD s l b i h p d = d0 at h1 h2
  generalize slopeC s l b i h p d = c0 at h1 h2
  have H1 := Lib.hid h1
  have H2 := Lib.hid h2
  have HT := Lib.hid (fun W => toLast_any s l b i h p W)
  have HS := Lib.hid (fun W => szLast_any s l b i h p 1048576 W (by omega) (by omega) ws)
  have HC := Lib.hid (Bel.refl (w.alloc (.cells #[.string s, .int .i64 l, .int .i64 b, .int .i64 i, .int .i64 h, .int .i64 p] 46)))
  have HW := Lib.hid ((Bel.refl w).alloc (.cells #[.string s, .int .i64 l, .int .i64 b, .int .i64 i, .int .i64 h, .int .i64 p] 46))
  clear h1 h2 wl wb wi wh wp wd
  by_cases hs : (1048576 : Int) - (s.size : Int) < 0
  · go_enter Try.func11, Try.ntmps11
    go_wp2_with fail
    refine (HS.out _).mono ?_
    rw [if_pos hs]
    rintro e w1 ⟨rfl, hb1⟩
    have HW1 := Lib.hid (HW.out.step hb1)
    clear hb1
    go_wp2_with fail
    go_ret
    exact ⟨rfl, HW1.out.1⟩
  · go_enter Try.func11, Try.ntmps11
    go_wp2_with fail
    refine (HS.out _).mono ?_
    rw [if_neg (by omega)]
    rintro e w1 ⟨rfl, hb1⟩
    have HC1 := Lib.hid (HC.out.step hb1)
    have HW1 := Lib.hid (HW.out.step hb1)
    clear hb1
    obtain ⟨b0, b1, b2, b3, b4, b5, bz⟩ := box_cells HC1.out
    go_wp2_with fail
    clear b0 b1 b2 b3 b4 b5 bz
    refine (HT.out w1).mono ?_
    rintro e w2 ⟨rfl, hw2⟩
    have hb2 : Below w1.heap.size w1 w2 := by rw [← hw2]; exact ((((Bel.refl _).alloc _).alloc _).alloc _).1
    have HC2 := Lib.hid (HC1.out.step hb2)
    have HW2 := Lib.hid (HW1.out.step hb2)
    clear hw2 hb2
    go_wp2_with fail
    refine (H1.out w2).mono ?_
    rintro e w3 ⟨rfl, hb3⟩
    have HC3 := Lib.hid (HC2.out.step hb3)
    have HW3 := Lib.hid (HW2.out.step hb3)
    clear hb3
    obtain ⟨b0, b1, b2, b3, b4, b5, bz⟩ := box_cells HC3.out
    go_wp2_with fail
    clear b0 b1 b2 b3 b4 b5 bz
    refine (HT.out _).mono ?_
    rintro e w4 ⟨rfl, hw4⟩
    have hb4 : Below (w3.alloc (.cells #[.int .i64 n0, .int .i64 d0] 49)).heap.size (w3.alloc (.cells #[.int .i64 n0, .int .i64 d0] 49)) w4 := by rw [← hw4]; exact ((((Bel.refl _).alloc _).alloc _).alloc _).1
    have HW4 := Lib.hid ((HW3.out.alloc _).step hb4)
    have HF4 := Lib.hid (Bel.of hb4)
    clear hw4 hb4
    go_wp2_with fail
    refine (H2.out w4).mono ?_
    rintro e w5 ⟨rfl, hb5⟩
    have HW5 := Lib.hid (HW4.out.step hb5)
    obtain ⟨f0, f1, fz⟩ := frac_cells (HF4.out.step hb5)
    clear hb5
    go_wp2_with (go_at_call 40; refine (eqFraction_any _ _ _).mono ?_; rintro e w6 ⟨rfl, rfl⟩)
    go_ret
    exact lawEnd_of (((HW5.out.alloc _).alloc _).alloc _)

/-! ### From the walk to the statement -/
set_option maxRecDepth 100000 in
theorem FnExactSlopeOf_lifted (os : Os) (started : os.Started) (H : Type) (enc : TypeId × Value → H) :
    ReturnsInHanded {} Try.checked os 11 .any (Rows.fnExactSlopeOfSpec.pre6 enc Try.prog Try.f11 Rows.fnExactSlopeOfRow.domain false) (Rows.fnExactSlopeOfSpec.post enc Try.prog Try.f11 false true false false) := by
  refine lifted_law (C := Try.checked) (tb := 4) own started (by kernel_rfl) Try.func11
    (ChangeSpec.witness6 (enc := enc) (C := Try.checked) false ⟨#[], #[.agg #[.string ByteArray.empty, .int .i64 0, .int .i64 0, .int .i64 0, .int .i64 0, .int .i64 0], .int .i64 0], []⟩ 8 (by kernel_rfl) (by kernel_rfl) (by kernel_rfl) (by kernel_rfl))
    laidOut (by kernel_rfl) rfl rfl Try.underlying4 (fun ds h => by match ds, h with | [_, _], _ => rfl) ?_
  intro W base args ds p hval hA
  rw [Try.params11] at hA hval
  obtain ⟨v0, vs0, d0, ds0, p0, q0, hargs, rfl, rfl, h0, r0⟩ := trodAll_cons hA
  obtain ⟨v1, vs1, d1, ds1, p1, q1, rfl, rfl, rfl, h1, r1⟩ := trodAll_cons r0
  obtain ⟨rfl, rfl, rfl⟩ := trodAll_nil r1
  obtain rfl : args = #[v0, v1] := by cases args; simp_all
  obtain ⟨u0_0, u0_1, u0_2, u0_3, u0_4, u0_5, y0_0, y0_1, y0_2, y0_3, y0_4, y0_5, m0, rfl, rfl, _, t0_0, t0_1, t0_2, t0_3, t0_4, t0_5⟩ := open_agg6 Try.underlying46 (by kernel_rfl) (by kernel_rfl) (hval 0 46 v0 rfl rfl) h0
  obtain ⟨a0_0, e0_0, _, w0_0⟩ := DataW.trod_string Try.underlying9 t0_0
  simp only [List.cons.injEq, and_true] at e0_0
  subst e0_0
  obtain ⟨a0_1, e0_1, _, w0_1⟩ := DataW.trod_int Try.underlying2 t0_1
  simp only [List.cons.injEq, and_true] at e0_1
  subst e0_1
  obtain ⟨a0_2, e0_2, _, w0_2⟩ := DataW.trod_int Try.underlying2 t0_2
  simp only [List.cons.injEq, and_true] at e0_2
  subst e0_2
  obtain ⟨a0_3, e0_3, _, w0_3⟩ := DataW.trod_int Try.underlying2 t0_3
  simp only [List.cons.injEq, and_true] at e0_3
  subst e0_3
  obtain ⟨a0_4, e0_4, _, w0_4⟩ := DataW.trod_int Try.underlying2 t0_4
  simp only [List.cons.injEq, and_true] at e0_4
  subst e0_4
  obtain ⟨a0_5, e0_5, _, w0_5⟩ := DataW.trod_int Try.underlying2 t0_5
  simp only [List.cons.injEq, and_true] at e0_5
  subst e0_5
  obtain ⟨a1, rfl, rfl, rfl, w1⟩ := open_int Try.underlying2 (hval 1 2 v1 rfl rfl) h1
  first | exact FnExactSlopeOf_walk a0_0 w0_0 a0_1 w0_1 a0_2 w0_2 a0_3 w0_3 a0_4 w0_4 a0_5 w0_5 a1 w1 W | exact FnExactSlopeOf_walk W a0_0 w0_0 a0_1 w0_1 a0_2 w0_2 a0_3 w0_3 a0_4 w0_4 a0_5 w0_5 a1 w1

theorem FnExactSlopeOf_over : Rows.fnExactSlopeOfRow.holds Try.pinned (OpenSpec.ofChange Rows.fnExactSlopeOfSpec) :=
  OpenClaim.holds_of_wide 11 Try.f11 rfl rfl rfl rfl rfl rfl rfl ⟨rfl, rfl, rfl, rfl, rfl⟩ rfl rfl rfl rfl rfl (by kernel_rfl) Try.func11 (by kernel_rfl)
    (of_decide_eq_true (by kernel_rfl)) (by unfold Func.isWrapper; first | (rw [if_pos (by decide +kernel)]; kernel_rfl) | (rw [if_neg (by decide +kernel)]; exact ⟨rfl, rfl⟩))
    (fun os started H enc _ => FnExactSlopeOf_lifted os started H enc)

/-- The statement. -/
theorem FnExactSlopeOf_holds : Rows.FnExactSlopeOfSaid := FnExactSlopeOf_over
#print axioms FnExactSlopeOf_holds

end Go.Proofs.Ytgdndmpnnocgiaa
