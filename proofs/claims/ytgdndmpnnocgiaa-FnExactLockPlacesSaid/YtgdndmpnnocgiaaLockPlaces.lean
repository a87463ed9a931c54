/-
  The law FnExactLockPlaces returns true for all arguments. No condition.
-/
import Derived.Test.YtgdndmpnnocgiaaLock
import Derived.Test.YtgdndmpnnocgiaaRow
import Derived.Test.YtgdndmpnnocgiaaRows
import Derived.Test.YtgdndmpnnocgiaaBase
import Derived.Outline
namespace Go.Proofs.Ytgdndmpnnocgiaa
open Go.ChangeShapes Go.WideShapes Go.ChangeAt Go.RowKit Go.Deep
open Go.ChangeMaps (open_string shut_string)
open Go.Joins


set_option maxRecDepth 100000 in
set_option maxHeartbeats 6400000 in
theorem FnExactLockPlaces_walk (w : World) (a0 : Int) (wa0 : (Lit.int .i64 a0).wf = true) (a1 : Int) (wa1 : (Lit.int .i64 a1).wf = true) (a2 : Int) (wa2 : (Lit.int .i64 a2).wf = true) :
    Calls Try.prog 4 #[.int .i64 a0, .int .i64 a1, .int .i64 a2] w (LawEnd w) := by
  obtain ⟨r0, er0⟩ : ∃ q, lockF a0 a1 a2 = q := ⟨_, rfl⟩
  have Er0 := Lib.hid er0
  clear er0
  obtain ⟨r1, er1⟩ : ∃ q, lockC a0 a1 a2 = q := ⟨_, rfl⟩
  have Er1 := Lib.hid er1
  clear er1
  have WA0 := Lib.hid wa0
  have WA1 := Lib.hid wa1
  have WA2 := Lib.hid wa2
  clear wa2 wa1 wa0
  go_enter Try.func4, Try.ntmps4
  have HB0 := Lib.hid (Bel.refl w)
  go_wp2_with fail
  refine (spec_LockPlaces w a0 WA0.out a1 WA1.out a2 WA2.out).mono ?_
  rw [Er0.out, Er1.out]
  rintro d w_1 ⟨aa0, nn0, cc0, rfl, ll0, bb0, ho, hb⟩
  have RW0 := Lib.hid (Row.mk_ ho)
  have HB1 := Lib.hid (HB0.out.step hb)
  have SZ1 := Lib.hid (show w.heap.size ≤ w_1.heap.size from hb.size)
  have LL0 := Lib.hid ll0
  clear ho hb ll0
  go_wp2_with fail
  refine (impl_LockPlaces w_1 a0 WA0.out a1 WA1.out a2 WA2.out).mono ?_
  rw [Er0.out, Er1.out]
  rintro d w_2 ⟨aa1, nn1, cc1, rfl, ll1, bb1, ho, hb⟩
  have RW1 := Lib.hid (Row.mk_ ho)
  have HB2 := Lib.hid (HB1.out.step hb)
  have SZ2 := Lib.hid (show w_1.heap.size ≤ w_2.heap.size from hb.size)
  replace RW0 := Lib.hid (RW0.out.below hb)
  have LL1 := Lib.hid ll1
  clear ho hb ll1
  obtain rfl : nn0 = nn1 := by have h1 := LL1.out; have h2 := LL0.out; omega
  go_wp2_with fail
  refine (eqInt64S_any aa1 aa0 nn0 cc1 cc0 r0 w_2 (by have h := LL1.out; omega) (by omega) (RW1.out.cells) (RW0.out.cells)).mono ?_
  rintro d w_3 ⟨rfl, hb⟩
  have HB3 := Lib.hid (HB2.out.step hb)
  have SZ3 := Lib.hid (show w_2.heap.size ≤ w_3.heap.size from hb.size)
  replace RW0 := Lib.hid (RW0.out.below hb)
  replace RW1 := Lib.hid (RW1.out.below hb)
  clear hb
  go_wp2_with fail
  obtain ⟨k_1, hk_1⟩ : ∃ q : Int, q = 1 + ((nn0 : Nat) : Int) := ⟨_, rfl⟩
  refine (marked_as (markInt64S_any aa1 nn0 cc1 w_1.heap.size 1 _ w_3 (by omega) (by omega) (by omega) RW1.out.1) hk_1).mono ?_
  rintro d w_4 ⟨rfl, ho, hg⟩
  have pk_1 : 0 ≤ k_1 := by omega
  have qk_1 : k_1 ≤ 4294967296 * 1 := by omega
  have Hk_1 := Lib.hid hk_1
  clear hk_1
  have HB4 := Lib.hid (HB3.out.grown hg (fun b h => by have h1 := RW1.out.2 b h; have z1 := SZ1.out; have z2 := SZ2.out; have z3 := SZ3.out; omega))
  have SZ4 := Lib.hid (show w_3.heap.size ≤ w_4.heap.size from hg.size)
  replace RW0 := Lib.hid (RW0.out.grown hg (fun b h => by have h1 := RW1.out.2 b h; have z1 := SZ1.out; have z2 := SZ2.out; have z3 := SZ3.out; omega))
  replace RW1 := Lib.hid (RW1.out.turn ho)
  clear ho hg
  go_wp2_with fail
  refine (held_as (heldInt64S_any aa1 nn0 cc1 1 w_4 (by omega) (by omega) (by omega) (RW1.out.cells)) Hk_1.out).mono ?_
  rintro d w_5 ⟨rfl, hb⟩
  have HB5 := Lib.hid (HB4.out.step hb)
  have SZ5 := Lib.hid (show w_4.heap.size ≤ w_5.heap.size from hb.size)
  replace RW0 := Lib.hid (RW0.out.below hb)
  replace RW1 := Lib.hid (RW1.out.below hb)
  clear hb
  go_wp2_with fail
  refine (impl_LockPlaces w_5 a0 WA0.out a1 WA1.out a2 WA2.out).mono ?_
  rw [Er0.out, Er1.out]
  rintro d w_6 ⟨aa2, nn2, cc2, rfl, ll2, bb2, ho, hb⟩
  have RW2 := Lib.hid (Row.mk_ ho)
  have HB6 := Lib.hid (HB5.out.step hb)
  have SZ6 := Lib.hid (show w_5.heap.size ≤ w_6.heap.size from hb.size)
  replace RW0 := Lib.hid (RW0.out.below hb)
  replace RW1 := Lib.hid (RW1.out.below hb)
  have LL2 := Lib.hid ll2
  clear ho hb ll2
  obtain rfl : nn0 = nn2 := by have h1 := LL2.out; have h2 := LL0.out; omega
  go_wp2_with fail
  refine (eqInt64S_any aa2 aa0 nn0 cc2 cc0 r0 w_6 (by have h := LL2.out; omega) (by omega) (RW2.out.cells) (RW0.out.cells)).mono ?_
  rintro d w_7 ⟨rfl, hb⟩
  have HB7 := Lib.hid (HB6.out.step hb)
  have SZ7 := Lib.hid (show w_6.heap.size ≤ w_7.heap.size from hb.size)
  replace RW0 := Lib.hid (RW0.out.below hb)
  replace RW1 := Lib.hid (RW1.out.below hb)
  replace RW2 := Lib.hid (RW2.out.below hb)
  clear hb
  go_wp2_with fail
  refine (held_as (heldInt64S_any aa1 nn0 cc1 1 w_7 (by omega) (by omega) (by omega) (RW1.out.cells)) Hk_1.out).mono ?_
  rintro d w_8 ⟨rfl, hb⟩
  have HB8 := Lib.hid (HB7.out.step hb)
  have SZ8 := Lib.hid (show w_7.heap.size ≤ w_8.heap.size from hb.size)
  replace RW0 := Lib.hid (RW0.out.below hb)
  replace RW1 := Lib.hid (RW1.out.below hb)
  replace RW2 := Lib.hid (RW2.out.below hb)
  clear hb
  go_wp2_with fail
  go_ret
  exact lawEnd_of HB8.out

/-! ### From the walk to the statement -/
set_option maxRecDepth 100000 in
theorem FnExactLockPlaces_lifted (os : Os) (started : os.Started) (H : Type) (enc : TypeId × Value → H) :
    ReturnsInHanded {} Try.checked os 4 .any (Rows.fnExactLockPlacesSpec.pre6 enc Try.prog Try.f4 Rows.fnExactLockPlacesRow.domain false) (Rows.fnExactLockPlacesSpec.post enc Try.prog Try.f4 false true false false) := by
  refine lifted_law (C := Try.checked) (tb := 4) own started (by kernel_rfl) Try.func4
    (ChangeSpec.witness6 (enc := enc) (C := Try.checked) false ⟨#[], #[.int .i64 0, .int .i64 0, .int .i64 0], []⟩ 8 (by kernel_rfl) (by kernel_rfl) (by kernel_rfl) (by kernel_rfl))
    laidOut (by kernel_rfl) rfl rfl Try.underlying4 (fun ds h => by match ds, h with | [_, _, _], _ => rfl) ?_
  intro W base args ds p hval hA
  rw [Try.params4] at hA hval
  obtain ⟨v0, vs0, d0, ds0, p0, q0, hargs, rfl, rfl, h0, r0⟩ := trodAll_cons hA
  obtain ⟨v1, vs1, d1, ds1, p1, q1, rfl, rfl, rfl, h1, r1⟩ := trodAll_cons r0
  obtain ⟨v2, vs2, d2, ds2, p2, q2, rfl, rfl, rfl, h2, r2⟩ := trodAll_cons r1
  obtain ⟨rfl, rfl, rfl⟩ := trodAll_nil r2
  obtain rfl : args = #[v0, v1, v2] := by cases args; simp_all
  obtain ⟨a0, rfl, rfl, rfl, w0⟩ := open_int Try.underlying2 (hval 0 2 v0 rfl rfl) h0
  obtain ⟨a1, rfl, rfl, rfl, w1⟩ := open_int Try.underlying2 (hval 1 2 v1 rfl rfl) h1
  obtain ⟨a2, rfl, rfl, rfl, w2⟩ := open_int Try.underlying2 (hval 2 2 v2 rfl rfl) h2
  first | exact FnExactLockPlaces_walk a0 w0 a1 w1 a2 w2 W | exact FnExactLockPlaces_walk W a0 w0 a1 w1 a2 w2

theorem FnExactLockPlaces_over : Rows.fnExactLockPlacesRow.holds Try.pinned (OpenSpec.ofChange Rows.fnExactLockPlacesSpec) :=
  OpenClaim.holds_of_wide 4 Try.f4 rfl rfl rfl rfl rfl rfl rfl ⟨rfl, rfl, rfl, rfl, rfl⟩ rfl rfl rfl rfl rfl (by kernel_rfl) Try.func4 (by kernel_rfl)
    (of_decide_eq_true (by kernel_rfl)) (by unfold Func.isWrapper; first | (rw [if_pos (by decide +kernel)]; kernel_rfl) | (rw [if_neg (by decide +kernel)]; exact ⟨rfl, rfl⟩))
    (fun os started H enc _ => FnExactLockPlaces_lifted os started H enc)

/-- The statement. -/
theorem FnExactLockPlaces_holds : Rows.FnExactLockPlacesSaid := FnExactLockPlaces_over
#print axioms FnExactLockPlaces_holds


end Go.Proofs.Ytgdndmpnnocgiaa
