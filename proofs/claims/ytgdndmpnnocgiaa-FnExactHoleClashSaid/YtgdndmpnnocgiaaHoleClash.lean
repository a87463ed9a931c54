/-
  The law FnExactHoleClash returns true for all arguments. No condition.
-/
import Derived.Test.YtgdndmpnnocgiaaClash
import Derived.Test.YtgdndmpnnocgiaaRow
import Derived.Test.YtgdndmpnnocgiaaRows
import Derived.Test.YtgdndmpnnocgiaaBase
import Derived.Outline
namespace Go.Proofs.Ytgdndmpnnocgiaa
open Go.ChangeShapes Go.WideShapes Go.ChangeAt Go.RowKit Go.Deep
open Go.ChangeMaps (open_string shut_string)
open Go.Joins


set_option maxRecDepth 100000 in
set_option maxHeartbeats 6400000 in
theorem FnExactHoleClash_walk (w : World) (a0 : Option Addr) (n0 c0 : Nat) (z0 : List Int) (l0 : z0.length = n0) (_ : n0 ≤ maxLen) (s0 : CellsAt w a0 (z0.map (Value.int .i64))) (w0 : ∀ z ∈ z0, (Lit.int .i64 z).wf = true) (a1 : Option Addr) (n1 c1 : Nat) (z1 : List Int) (l1 : z1.length = n1) (_ : n1 ≤ maxLen) (s1 : CellsAt w a1 (z1.map (Value.int .i64))) (w1 : ∀ z ∈ z1, (Lit.int .i64 z).wf = true) (a2 : Int) (wa2 : (Lit.int .i64 a2).wf = true) :
    Calls Try.prog 3 #[.slice a0 n0 c0, .slice a1 n1 c1, .int .i64 a2] w (LawEnd w) := by
  obtain ⟨r0, er0⟩ : ∃ q, clashI z0 z1 n0 n1 a2 = q := ⟨_, rfl⟩
  have Er0 := Lib.hid er0
  clear er0
  obtain ⟨r1, er1⟩ : ∃ q, clashK z0 z1 n0 n1 a2 = q := ⟨_, rfl⟩
  have Er1 := Lib.hid er1
  clear er1
  obtain ⟨r2, er2⟩ : ∃ q, clashC z0 z1 n0 n1 a2 = q := ⟨_, rfl⟩
  have Er2 := Lib.hid er2
  clear er2
  have L0 := Lib.hid l0
  have S0 := Lib.hid s0
  have W0 := Lib.hid w0
  have L1 := Lib.hid l1
  have S1 := Lib.hid s1
  have W1 := Lib.hid w1
  have WA2 := Lib.hid wa2
  clear wa2 w1 s1 l1 w0 s0 l0
  by_cases g0 : 1048576 < (n0 : Int)
  · go_enter Try.func3, Try.ntmps3
    go_wp2_with fail
    go_ret
    exact ⟨rfl, Below.refl _ _⟩
  by_cases g1 : 1048576 < (n1 : Int)
  · go_enter Try.func3, Try.ntmps3
    go_wp2_with fail
    go_ret
    exact ⟨rfl, Below.refl _ _⟩
  have b0 : n0 ≤ 1048576 := by omega
  have b1 : n1 ≤ 1048576 := by omega
  go_enter Try.func3, Try.ntmps3
  have HB0 := Lib.hid (Bel.refl w)
  go_wp2_with fail
  refine (toInt64S_any a0 n0 c0 z0 w L0.out b0 (S0.out.below HB0.out.1)).mono ?_
  rintro d w_1 ⟨g1000, rfl, ho, hb⟩
  have RW0 := Lib.hid (Row.mk_ ho)
  have HB1 := Lib.hid (HB0.out.step hb)
  have SZ1 := Lib.hid (show w.heap.size ≤ w_1.heap.size from hb.size)
  clear ho hb
  go_wp2_with fail
  refine (toInt64S_any a1 n1 c1 z1 w_1 L1.out b1 (S1.out.below HB1.out.1)).mono ?_
  rintro d w_2 ⟨g1001, rfl, ho, hb⟩
  have RW1 := Lib.hid (Row.mk_ ho)
  have HB2 := Lib.hid (HB1.out.step hb)
  have SZ2 := Lib.hid (show w_1.heap.size ≤ w_2.heap.size from hb.size)
  replace RW0 := Lib.hid (RW0.out.below hb)
  clear ho hb
  go_wp2_with fail
  refine (spec_HoleClash w_2 (some ⟨g1000, 0, none⟩) n0 n0 z0 L0.out b0 (RW0.out.cells) W0.out (some ⟨g1001, 0, none⟩) n1 n1 z1 L1.out b1 (RW1.out.cells) W1.out a2 WA2.out).mono ?_
  rw [Er0.out, Er1.out, Er2.out]
  rintro d w_3 ⟨rfl, hb⟩
  have HB3 := Lib.hid (HB2.out.step hb)
  have SZ3 := Lib.hid (show w_2.heap.size ≤ w_3.heap.size from hb.size)
  replace RW0 := Lib.hid (RW0.out.below hb)
  replace RW1 := Lib.hid (RW1.out.below hb)
  clear hb
  go_wp2_with fail
  refine (toInt64S_any a0 n0 c0 z0 w_3 L0.out b0 (S0.out.below HB3.out.1)).mono ?_
  rintro d w_4 ⟨g1002, rfl, ho, hb⟩
  have RW2 := Lib.hid (Row.mk_ ho)
  have HB4 := Lib.hid (HB3.out.step hb)
  have SZ4 := Lib.hid (show w_3.heap.size ≤ w_4.heap.size from hb.size)
  replace RW0 := Lib.hid (RW0.out.below hb)
  replace RW1 := Lib.hid (RW1.out.below hb)
  clear ho hb
  go_wp2_with fail
  refine (toInt64S_any a1 n1 c1 z1 w_4 L1.out b1 (S1.out.below HB4.out.1)).mono ?_
  rintro d w_5 ⟨g1003, rfl, ho, hb⟩
  have RW3 := Lib.hid (Row.mk_ ho)
  have HB5 := Lib.hid (HB4.out.step hb)
  have SZ5 := Lib.hid (show w_4.heap.size ≤ w_5.heap.size from hb.size)
  replace RW0 := Lib.hid (RW0.out.below hb)
  replace RW1 := Lib.hid (RW1.out.below hb)
  replace RW2 := Lib.hid (RW2.out.below hb)
  clear ho hb
  go_wp2_with fail
  refine (impl_HoleClash w_5 (some ⟨g1002, 0, none⟩) n0 n0 z0 L0.out b0 (RW2.out.cells) W0.out (some ⟨g1003, 0, none⟩) n1 n1 z1 L1.out b1 (RW3.out.cells) W1.out a2 WA2.out).mono ?_
  rw [Er0.out, Er1.out, Er2.out]
  rintro d w_6 ⟨rfl, hb⟩
  have HB6 := Lib.hid (HB5.out.step hb)
  have SZ6 := Lib.hid (show w_5.heap.size ≤ w_6.heap.size from hb.size)
  replace RW0 := Lib.hid (RW0.out.below hb)
  replace RW1 := Lib.hid (RW1.out.below hb)
  replace RW2 := Lib.hid (RW2.out.below hb)
  replace RW3 := Lib.hid (RW3.out.below hb)
  clear hb
  go_wp2_with fail
  refine (toInt64S_any a0 n0 c0 z0 w_6 L0.out b0 (S0.out.below HB6.out.1)).mono ?_
  rintro d w_7 ⟨g1004, rfl, ho, hb⟩
  have RW4 := Lib.hid (Row.mk_ ho)
  have HB7 := Lib.hid (HB6.out.step hb)
  have SZ7 := Lib.hid (show w_6.heap.size ≤ w_7.heap.size from hb.size)
  replace RW0 := Lib.hid (RW0.out.below hb)
  replace RW1 := Lib.hid (RW1.out.below hb)
  replace RW2 := Lib.hid (RW2.out.below hb)
  replace RW3 := Lib.hid (RW3.out.below hb)
  clear ho hb
  go_wp2_with fail
  refine (eqInt64S_any (some ⟨g1002, 0, none⟩) (some ⟨g1004, 0, none⟩) n0 n0 n0 z0 w_7 L0.out (by omega) (RW2.out.cells) (RW4.out.cells)).mono ?_
  rintro d w_8 ⟨rfl, hb⟩
  have HB8 := Lib.hid (HB7.out.step hb)
  have SZ8 := Lib.hid (show w_7.heap.size ≤ w_8.heap.size from hb.size)
  replace RW0 := Lib.hid (RW0.out.below hb)
  replace RW1 := Lib.hid (RW1.out.below hb)
  replace RW2 := Lib.hid (RW2.out.below hb)
  replace RW3 := Lib.hid (RW3.out.below hb)
  replace RW4 := Lib.hid (RW4.out.below hb)
  clear hb
  go_wp2_with fail
  refine (toInt64S_any a1 n1 c1 z1 w_8 L1.out b1 (S1.out.below HB8.out.1)).mono ?_
  rintro d w_9 ⟨g1005, rfl, ho, hb⟩
  have RW5 := Lib.hid (Row.mk_ ho)
  have HB9 := Lib.hid (HB8.out.step hb)
  have SZ9 := Lib.hid (show w_8.heap.size ≤ w_9.heap.size from hb.size)
  replace RW0 := Lib.hid (RW0.out.below hb)
  replace RW1 := Lib.hid (RW1.out.below hb)
  replace RW2 := Lib.hid (RW2.out.below hb)
  replace RW3 := Lib.hid (RW3.out.below hb)
  replace RW4 := Lib.hid (RW4.out.below hb)
  clear ho hb
  go_wp2_with fail
  refine (eqInt64S_any (some ⟨g1003, 0, none⟩) (some ⟨g1005, 0, none⟩) n1 n1 n1 z1 w_9 L1.out (by omega) (RW3.out.cells) (RW5.out.cells)).mono ?_
  rintro d w_10 ⟨rfl, hb⟩
  have HB10 := Lib.hid (HB9.out.step hb)
  have SZ10 := Lib.hid (show w_9.heap.size ≤ w_10.heap.size from hb.size)
  replace RW0 := Lib.hid (RW0.out.below hb)
  replace RW1 := Lib.hid (RW1.out.below hb)
  replace RW2 := Lib.hid (RW2.out.below hb)
  replace RW3 := Lib.hid (RW3.out.below hb)
  replace RW4 := Lib.hid (RW4.out.below hb)
  replace RW5 := Lib.hid (RW5.out.below hb)
  clear hb
  go_wp2_with fail
  go_ret
  exact lawEnd_of HB10.out

/-! ### From the walk to the statement -/
set_option maxRecDepth 100000 in
theorem FnExactHoleClash_lifted (os : Os) (started : os.Started) (H : Type) (enc : TypeId × Value → H) :
    ReturnsInHanded {} Try.checked os 3 .any (Rows.fnExactHoleClashSpec.pre6 enc Try.prog Try.f3 Rows.fnExactHoleClashRow.domain false) (Rows.fnExactHoleClashSpec.post enc Try.prog Try.f3 false true false false) := by
  refine lifted_law (C := Try.checked) (tb := 4) own started (by kernel_rfl) Try.func3
    (ChangeSpec.witness6 (enc := enc) (C := Try.checked) false ⟨#[], #[.slice none 0 0, .slice none 0 0, .int .i64 0], []⟩ 8 (by kernel_rfl) (by kernel_rfl) (by kernel_rfl) (by kernel_rfl))
    laidOut (by kernel_rfl) rfl rfl Try.underlying4 (fun ds h => by match ds, h with | [_, _, _], _ => rfl) ?_
  intro W base args ds p hval hA
  rw [Try.params3] at hA hval
  obtain ⟨v0, vs0, d0, ds0, p0, q0, hargs, rfl, rfl, h0, r0⟩ := trodAll_cons hA
  obtain ⟨v1, vs1, d1, ds1, p1, q1, rfl, rfl, rfl, h1, r1⟩ := trodAll_cons r0
  obtain ⟨v2, vs2, d2, ds2, p2, q2, rfl, rfl, rfl, h2, r2⟩ := trodAll_cons r1
  obtain ⟨rfl, rfl, rfl⟩ := trodAll_nil r2
  obtain rfl : args = #[v0, v1, v2] := by cases args; simp_all
  obtain ⟨a0, n0, c0, z0, rfl, l0, m0, s0, w0⟩ := open_ints_at Try.underlying22 Try.underlying2 (by kernel_rfl) (hval 0 22 v0 rfl rfl) h0
  obtain ⟨a1, n1, c1, z1, rfl, l1, m1, s1, w1⟩ := open_ints_at Try.underlying22 Try.underlying2 (by kernel_rfl) (hval 1 22 v1 rfl rfl) h1
  obtain ⟨a2, rfl, rfl, rfl, w2⟩ := open_int Try.underlying2 (hval 2 2 v2 rfl rfl) h2
  first | exact FnExactHoleClash_walk a0 n0 c0 z0 l0 m0 s0 w0 a1 n1 c1 z1 l1 m1 s1 w1 a2 w2 W | exact FnExactHoleClash_walk W a0 n0 c0 z0 l0 m0 s0 w0 a1 n1 c1 z1 l1 m1 s1 w1 a2 w2

theorem FnExactHoleClash_over : Rows.fnExactHoleClashRow.holds Try.pinned (OpenSpec.ofChange Rows.fnExactHoleClashSpec) :=
  OpenClaim.holds_of_wide 3 Try.f3 rfl rfl rfl rfl rfl rfl rfl ⟨rfl, rfl, rfl, rfl, rfl⟩ rfl rfl rfl rfl rfl (by kernel_rfl) Try.func3 (by kernel_rfl)
    (of_decide_eq_true (by kernel_rfl)) (by unfold Func.isWrapper; first | (rw [if_pos (by decide +kernel)]; kernel_rfl) | (rw [if_neg (by decide +kernel)]; exact ⟨rfl, rfl⟩))
    (fun os started H enc _ => FnExactHoleClash_lifted os started H enc)

/-- The statement. -/
theorem FnExactHoleClash_holds : Rows.FnExactHoleClashSaid := FnExactHoleClash_over
#print axioms FnExactHoleClash_holds


end Go.Proofs.Ytgdndmpnnocgiaa
