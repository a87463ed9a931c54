/-
  The law FnExactEvenestStitch returns true for all arguments. No condition.
-/
import Derived.Test.YtgdndmpnnocgiaaEvenI
import Derived.Test.YtgdndmpnnocgiaaRow
import Derived.Test.YtgdndmpnnocgiaaRows
import Derived.Test.YtgdndmpnnocgiaaBase
import Derived.Outline
namespace Go.Proofs.Ytgdndmpnnocgiaa
open Go.ChangeShapes Go.WideShapes Go.ChangeAt Go.RowKit Go.Deep
open Go.ChangeMaps (open_string shut_string)
open Go.Joins


set_option maxRecDepth 100000 in
set_option maxHeartbeats 6400000 in
theorem FnExactEvenestStitch_walk (w : World) (a0 : Option Addr) (n0 c0 : Nat) (z0 : List Int) (l0 : z0.length = n0) (_ : n0 ≤ maxLen) (s0 : CellsAt w a0 (z0.map (Value.int .i64))) (w0 : ∀ z ∈ z0, (Lit.int .i64 z).wf = true) (a1 : Int) (wa1 : (Lit.int .i64 a1).wf = true) (a2 : Int) (wa2 : (Lit.int .i64 a2).wf = true) :
    Calls Try.prog 9 #[.slice a0 n0 c0, .int .i64 a1, .int .i64 a2] w (LawEnd w) := by
  obtain ⟨r0, er0⟩ : ∃ q, evF z0 n0 a1 a2 = q := ⟨_, rfl⟩
  have Er0 := Lib.hid er0
  clear er0
  obtain ⟨r1, er1⟩ : ∃ q, evC z0 n0 a1 a2 = q := ⟨_, rfl⟩
  have Er1 := Lib.hid er1
  clear er1
  have L0 := Lib.hid l0
  have S0 := Lib.hid s0
  have W0 := Lib.hid w0
  have WA1 := Lib.hid wa1
  have WA2 := Lib.hid wa2
  clear wa2 wa1 w0 s0 l0
  by_cases g0 : 1048576 < (n0 : Int)
  · go_enter Try.func9, Try.ntmps9
    go_wp2_with fail
    go_ret
    exact ⟨rfl, Below.refl _ _⟩
  have b0 : n0 ≤ 1048576 := by omega
  go_enter Try.func9, Try.ntmps9
  have HB0 := Lib.hid (Bel.refl w)
  go_wp2_with fail
  refine (toInt64S_any a0 n0 c0 z0 w L0.out b0 (S0.out.below HB0.out.1)).mono ?_
  rintro d w_1 ⟨g1000, rfl, ho, hb⟩
  have RW0 := Lib.hid (Row.mk_ ho)
  have HB1 := Lib.hid (HB0.out.step hb)
  have SZ1 := Lib.hid (show w.heap.size ≤ w_1.heap.size from hb.size)
  clear ho hb
  go_wp2_with fail
  refine (spec_EvenestStitch w_1 (some ⟨g1000, 0, none⟩) n0 n0 z0 L0.out b0 (RW0.out.cells) W0.out a1 WA1.out a2 WA2.out).mono ?_
  rw [Er0.out, Er1.out]
  rintro d w_2 ⟨rfl, hb⟩
  have HB2 := Lib.hid (HB1.out.step hb)
  have SZ2 := Lib.hid (show w_1.heap.size ≤ w_2.heap.size from hb.size)
  replace RW0 := Lib.hid (RW0.out.below hb)
  clear hb
  go_wp2_with fail
  refine (toInt64S_any a0 n0 c0 z0 w_2 L0.out b0 (S0.out.below HB2.out.1)).mono ?_
  rintro d w_3 ⟨g1001, rfl, ho, hb⟩
  have RW1 := Lib.hid (Row.mk_ ho)
  have HB3 := Lib.hid (HB2.out.step hb)
  have SZ3 := Lib.hid (show w_2.heap.size ≤ w_3.heap.size from hb.size)
  replace RW0 := Lib.hid (RW0.out.below hb)
  clear ho hb
  go_wp2_with fail
  refine (impl_EvenestStitch w_3 (some ⟨g1001, 0, none⟩) n0 n0 z0 L0.out b0 (RW1.out.cells) W0.out a1 WA1.out a2 WA2.out).mono ?_
  rw [Er0.out, Er1.out]
  rintro d w_4 ⟨rfl, hb⟩
  have HB4 := Lib.hid (HB3.out.step hb)
  have SZ4 := Lib.hid (show w_3.heap.size ≤ w_4.heap.size from hb.size)
  replace RW0 := Lib.hid (RW0.out.below hb)
  replace RW1 := Lib.hid (RW1.out.below hb)
  clear hb
  go_wp2_with fail
  refine (toInt64S_any a0 n0 c0 z0 w_4 L0.out b0 (S0.out.below HB4.out.1)).mono ?_
  rintro d w_5 ⟨g1002, rfl, ho, hb⟩
  have RW2 := Lib.hid (Row.mk_ ho)
  have HB5 := Lib.hid (HB4.out.step hb)
  have SZ5 := Lib.hid (show w_4.heap.size ≤ w_5.heap.size from hb.size)
  replace RW0 := Lib.hid (RW0.out.below hb)
  replace RW1 := Lib.hid (RW1.out.below hb)
  clear ho hb
  go_wp2_with fail
  refine (eqInt64S_any (some ⟨g1001, 0, none⟩) (some ⟨g1002, 0, none⟩) n0 n0 n0 z0 w_5 L0.out (by omega) (RW1.out.cells) (RW2.out.cells)).mono ?_
  rintro d w_6 ⟨rfl, hb⟩
  have HB6 := Lib.hid (HB5.out.step hb)
  have SZ6 := Lib.hid (show w_5.heap.size ≤ w_6.heap.size from hb.size)
  replace RW0 := Lib.hid (RW0.out.below hb)
  replace RW1 := Lib.hid (RW1.out.below hb)
  replace RW2 := Lib.hid (RW2.out.below hb)
  clear hb
  go_wp2_with fail
  go_ret
  exact lawEnd_of HB6.out

/-! ### From the walk to the statement -/
set_option maxRecDepth 100000 in
theorem FnExactEvenestStitch_lifted (os : Os) (started : os.Started) (H : Type) (enc : TypeId × Value → H) :
    ReturnsInHanded {} Try.checked os 9 .any (Rows.fnExactEvenestStitchSpec.pre6 enc Try.prog Try.f9 Rows.fnExactEvenestStitchRow.domain false) (Rows.fnExactEvenestStitchSpec.post enc Try.prog Try.f9 false true false false) := by
  refine lifted_law (C := Try.checked) (tb := 4) own started (by kernel_rfl) Try.func9
    (ChangeSpec.witness6 (enc := enc) (C := Try.checked) false ⟨#[], #[.slice none 0 0, .int .i64 0, .int .i64 0], []⟩ 8 (by kernel_rfl) (by kernel_rfl) (by kernel_rfl) (by kernel_rfl))
    laidOut (by kernel_rfl) rfl rfl Try.underlying4 (fun ds h => by match ds, h with | [_, _, _], _ => rfl) ?_
  intro W base args ds p hval hA
  rw [Try.params9] at hA hval
  obtain ⟨v0, vs0, d0, ds0, p0, q0, hargs, rfl, rfl, h0, r0⟩ := trodAll_cons hA
  obtain ⟨v1, vs1, d1, ds1, p1, q1, rfl, rfl, rfl, h1, r1⟩ := trodAll_cons r0
  obtain ⟨v2, vs2, d2, ds2, p2, q2, rfl, rfl, rfl, h2, r2⟩ := trodAll_cons r1
  obtain ⟨rfl, rfl, rfl⟩ := trodAll_nil r2
  obtain rfl : args = #[v0, v1, v2] := by cases args; simp_all
  obtain ⟨a0, n0, c0, z0, rfl, l0, m0, s0, w0⟩ := open_ints_at Try.underlying22 Try.underlying2 (by kernel_rfl) (hval 0 22 v0 rfl rfl) h0
  obtain ⟨a1, rfl, rfl, rfl, w1⟩ := open_int Try.underlying2 (hval 1 2 v1 rfl rfl) h1
  obtain ⟨a2, rfl, rfl, rfl, w2⟩ := open_int Try.underlying2 (hval 2 2 v2 rfl rfl) h2
  first | exact FnExactEvenestStitch_walk a0 n0 c0 z0 l0 m0 s0 w0 a1 w1 a2 w2 W | exact FnExactEvenestStitch_walk W a0 n0 c0 z0 l0 m0 s0 w0 a1 w1 a2 w2

theorem FnExactEvenestStitch_over : Rows.fnExactEvenestStitchRow.holds Try.pinned (OpenSpec.ofChange Rows.fnExactEvenestStitchSpec) :=
  OpenClaim.holds_of_wide 9 Try.f9 rfl rfl rfl rfl rfl rfl rfl ⟨rfl, rfl, rfl, rfl, rfl⟩ rfl rfl rfl rfl rfl (by kernel_rfl) Try.func9 (by kernel_rfl)
    (of_decide_eq_true (by kernel_rfl)) (by unfold Func.isWrapper; first | (rw [if_pos (by decide +kernel)]; kernel_rfl) | (rw [if_neg (by decide +kernel)]; exact ⟨rfl, rfl⟩))
    (fun os started H enc _ => FnExactEvenestStitch_lifted os started H enc)

/-- The statement. -/
theorem FnExactEvenestStitch_holds : Rows.FnExactEvenestStitchSaid := FnExactEvenestStitch_over
#print axioms FnExactEvenestStitch_holds


end Go.Proofs.Ytgdndmpnnocgiaa
