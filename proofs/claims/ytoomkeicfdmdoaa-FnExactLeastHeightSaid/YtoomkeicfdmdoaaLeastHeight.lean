/-
  The law FnExactLeastHeight returns true for all arguments. No condition.
-/
import Derived.Test.YtoomkeicfdmdoaaNestD
import Derived.Test.YtoomkeicfdmdoaaRow
import Derived.Test.YtoomkeicfdmdoaaRows
import Derived.Test.YtoomkeicfdmdoaaBase
import Derived.Outline
namespace Go.Proofs.Ytoomkeicfdmdoaa
open Go.ChangeShapes Go.WideShapes Go.ChangeAt Go.RowKit Go.Deep
open Go.ChangeMaps (open_string shut_string)
open Go.Joins


set_option maxRecDepth 100000 in
set_option maxHeartbeats 6400000 in
theorem FnExactLeastHeight_walk (w : World) (a0 : Option Addr) (n0 c0 : Nat) (z0 : List Int) (l0 : z0.length = n0 * 2) (m0 : n0 ≤ maxLen) (s0 : CellsAt w a0 (z0.map (Value.int .i64))) (w0 : ∀ z ∈ z0, (Lit.int .i64 z).wf = true) (a1 : Int) (wa1 : (Lit.int .i64 a1).wf = true) :
    Calls Try.prog 8 #[.slice a0 n0 c0, .int .i64 a1] w (LawEnd w) := by
  obtain ⟨r0, er0⟩ : ∃ q, nestH z0 a1 n0 = q := ⟨_, rfl⟩
  have Er0 := Lib.hid er0
  clear er0
  obtain ⟨r1, er1⟩ : ∃ q, nestC z0 a1 n0 = q := ⟨_, rfl⟩
  have Er1 := Lib.hid er1
  clear er1
  have L0 := Lib.hid l0
  have S0 := Lib.hid s0
  have W0 := Lib.hid w0
  have WA1 := Lib.hid wa1
  clear wa1 w0 s0 l0
  by_cases g0 : 1048576 < (n0 : Int)
  · go_enter Try.func8, Try.ntmps8
    go_wp2_with fail
    refine (szBlockS_any a0 n0 c0 (1048576) _ (by omega) (by omega) m0).mono ?_
    rw [if_pos (by omega)]
    rintro d w1 ⟨rfl, rfl⟩
    go_wp2_with fail
    go_ret
    exact ⟨rfl, Below.refl _ _⟩
  have b0 : n0 ≤ 1048576 := by omega
  go_enter Try.func8, Try.ntmps8
  go_wp2_with fail
  refine (szBlockS_any a0 n0 c0 (1048576) _ (by omega) (by omega) m0).mono ?_
  rw [if_neg (by omega)]
  rintro d w1 ⟨rfl, rfl⟩
  have HB0 := Lib.hid (Bel.refl w)
  go_wp2_with fail
  refine (toBlockS_any a0 n0 c0 z0 w L0.out b0 (S0.out.below HB0.out.1)).mono ?_
  rintro d w_1 ⟨g1000, rfl, ho, hb⟩
  have RW0 := Lib.hid (Row.mk_ ho)
  have HB1 := Lib.hid (HB0.out.step hb)
  have SZ1 := Lib.hid (show w.heap.size ≤ w_1.heap.size from hb.size)
  clear ho hb
  go_wp2_with fail
  refine (spec_LeastHeight w_1 (some ⟨g1000, 0, none⟩) n0 n0 z0 L0.out b0 (RW0.out.cells) W0.out a1 WA1.out).mono ?_
  rw [Er0.out, Er1.out]
  rintro d w_2 ⟨rfl, hb⟩
  have HB2 := Lib.hid (HB1.out.step hb)
  have SZ2 := Lib.hid (show w_1.heap.size ≤ w_2.heap.size from hb.size)
  replace RW0 := Lib.hid (RW0.out.below hb)
  clear hb
  go_wp2_with fail
  refine (toBlockS_any a0 n0 c0 z0 w_2 L0.out b0 (S0.out.below HB2.out.1)).mono ?_
  rintro d w_3 ⟨g1001, rfl, ho, hb⟩
  have RW1 := Lib.hid (Row.mk_ ho)
  have HB3 := Lib.hid (HB2.out.step hb)
  have SZ3 := Lib.hid (show w_2.heap.size ≤ w_3.heap.size from hb.size)
  replace RW0 := Lib.hid (RW0.out.below hb)
  clear ho hb
  go_wp2_with fail
  refine (impl_LeastHeight w_3 (some ⟨g1001, 0, none⟩) n0 n0 z0 L0.out b0 (RW1.out.cells) W0.out a1 WA1.out).mono ?_
  rw [Er0.out, Er1.out]
  rintro d w_4 ⟨rfl, hb⟩
  have HB4 := Lib.hid (HB3.out.step hb)
  have SZ4 := Lib.hid (show w_3.heap.size ≤ w_4.heap.size from hb.size)
  replace RW0 := Lib.hid (RW0.out.below hb)
  replace RW1 := Lib.hid (RW1.out.below hb)
  clear hb
  go_wp2_with fail
  refine (toBlockS_any a0 n0 c0 z0 w_4 L0.out b0 (S0.out.below HB4.out.1)).mono ?_
  rintro d w_5 ⟨g1002, rfl, ho, hb⟩
  have RW2 := Lib.hid (Row.mk_ ho)
  have HB5 := Lib.hid (HB4.out.step hb)
  have SZ5 := Lib.hid (show w_4.heap.size ≤ w_5.heap.size from hb.size)
  replace RW0 := Lib.hid (RW0.out.below hb)
  replace RW1 := Lib.hid (RW1.out.below hb)
  clear ho hb
  go_wp2_with fail
  refine (eqBlockS_any (some ⟨g1001, 0, none⟩) (some ⟨g1002, 0, none⟩) n0 n0 n0 z0 w_5 L0.out (by omega) (RW1.out.cells) (RW2.out.cells)).mono ?_
  rintro d w_6 ⟨rfl, hb⟩
  have HB6 := Lib.hid (HB5.out.step hb)
  have SZ6 := Lib.hid (show w_5.heap.size ≤ w_6.heap.size from hb.size)
  replace RW0 := Lib.hid (RW0.out.below hb)
  replace RW1 := Lib.hid (RW1.out.below hb)
  replace RW2 := Lib.hid (RW2.out.below hb)
  clear hb
  go_wp2_with fail
  go_ret
  exact lawEnd_of HB6.out

/-! ### From the walk to the statement -/
set_option maxRecDepth 100000 in
theorem FnExactLeastHeight_lifted (os : Os) (started : os.Started) (H : Type) (enc : TypeId × Value → H) :
    ReturnsInHanded {} Try.checked os 8 .any (Rows.fnExactLeastHeightSpec.pre6 enc Try.prog Try.f8 Rows.fnExactLeastHeightRow.domain false) (Rows.fnExactLeastHeightSpec.post enc Try.prog Try.f8 false true false false) := by
  refine lifted_law (C := Try.checked) (tb := 4) own started (by kernel_rfl) Try.func8
    (ChangeSpec.witness6 (enc := enc) (C := Try.checked) false ⟨#[], #[.slice none 0 0, .int .i64 0], []⟩ 8 (by kernel_rfl) (by kernel_rfl) (by kernel_rfl) (by kernel_rfl))
    laidOut (by kernel_rfl) rfl rfl Try.underlying4 (fun ds h => by match ds, h with | [_, _], _ => rfl) ?_
  intro W base args ds p hval hA
  rw [Try.params8] at hA hval
  obtain ⟨v0, vs0, d0, ds0, p0, q0, hargs, rfl, rfl, h0, r0⟩ := trodAll_cons hA
  obtain ⟨v1, vs1, d1, ds1, p1, q1, rfl, rfl, rfl, h1, r1⟩ := trodAll_cons r0
  obtain ⟨rfl, rfl, rfl⟩ := trodAll_nil r1
  obtain rfl : args = #[v0, v1] := by cases args; simp_all
  obtain ⟨a0, n0, c0, z0, rfl, l0, m0, s0, w0⟩ := open_rows_at (k := 2) Try.underlying40 Try.underlying74 (by kernel_rfl) (by kernel_rfl) Try.underlying2 (by kernel_rfl) (hval 0 40 v0 rfl rfl) h0
  obtain ⟨a1, rfl, rfl, rfl, w1⟩ := open_int Try.underlying2 (hval 1 2 v1 rfl rfl) h1
  first | exact FnExactLeastHeight_walk a0 n0 c0 z0 l0 m0 s0 w0 a1 w1 W | exact FnExactLeastHeight_walk W a0 n0 c0 z0 l0 m0 s0 w0 a1 w1

theorem FnExactLeastHeight_over : Rows.fnExactLeastHeightRow.holds Try.pinned (OpenSpec.ofChange Rows.fnExactLeastHeightSpec) :=
  OpenClaim.holds_of_wide 8 Try.f8 rfl rfl rfl rfl rfl rfl rfl ⟨rfl, rfl, rfl, rfl, rfl⟩ rfl rfl rfl rfl rfl (by kernel_rfl) Try.func8 (by kernel_rfl)
    (of_decide_eq_true (by kernel_rfl)) (by unfold Func.isWrapper; first | (rw [if_pos (by decide +kernel)]; kernel_rfl) | (rw [if_neg (by decide +kernel)]; exact ⟨rfl, rfl⟩))
    (fun os started H enc _ => FnExactLeastHeight_lifted os started H enc)

/-- The statement. -/
theorem FnExactLeastHeight_holds : Rows.FnExactLeastHeightSaid := FnExactLeastHeight_over
#print axioms FnExactLeastHeight_holds


end Go.Proofs.Ytoomkeicfdmdoaa
