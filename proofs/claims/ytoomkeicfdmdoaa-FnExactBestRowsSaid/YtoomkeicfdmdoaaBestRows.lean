/-
  The law FnExactBestRows returns true for all arguments. No condition.
-/
import Derived.Test.YtoomkeicfdmdoaaNestD
import Derived.Test.YtoomkeicfdmdoaaRow
import Derived.Test.YtoomkeicfdmdoaaRows
import Derived.Test.YtoomkeicfdmdoaaBase
import Derived.Outline
namespace Go.Proofs.Ytoomkeicfdmdoaa
open Go.ChangeShapes Go.WideShapes Go.ChangeAt Go.RowKit Go.Deep
open Go.ChangeMaps (open_string shut_string)
open Go.Joins


set_option maxRecDepth 100000 in
set_option maxHeartbeats 6400000 in
theorem FnExactBestRows_walk (w : World) (a0 : Option Addr) (n0 c0 : Nat) (z0 : List Int) (l0 : z0.length = n0 * 2) (m0 : n0 ≤ maxLen) (s0 : CellsAt w a0 (z0.map (Value.int .i64))) (w0 : ∀ z ∈ z0, (Lit.int .i64 z).wf = true) (a1 : Int) (wa1 : (Lit.int .i64 a1).wf = true) :
    Calls Try.prog 9 #[.slice a0 n0 c0, .int .i64 a1] w (LawEnd w) := by
  obtain ⟨r0, er0⟩ : ∃ q, nestL z0 a1 n0 = q := ⟨_, rfl⟩
  have Er0 := Lib.hid er0
  clear er0
  obtain ⟨r1, er1⟩ : ∃ q, nestC z0 a1 n0 = q := ⟨_, rfl⟩
  have Er1 := Lib.hid er1
  clear er1
  have L0 := Lib.hid l0
  have S0 := Lib.hid s0
  have W0 := Lib.hid w0
  have WA1 := Lib.hid wa1
  clear wa1 w0 s0 l0
  by_cases g0 : 1048576 < (n0 : Int)
  · go_enter Try.func9, Try.ntmps9
    go_wp2_with fail
    refine (szBlockS_any a0 n0 c0 (1048576) _ (by omega) (by omega) m0).mono ?_
    rw [if_pos (by omega)]
    rintro d w1 ⟨rfl, rfl⟩
    go_wp2_with fail
    go_ret
    exact ⟨rfl, Below.refl _ _⟩
  have b0 : n0 ≤ 1048576 := by omega
  go_enter Try.func9, Try.ntmps9
  go_wp2_with fail
  refine (szBlockS_any a0 n0 c0 (1048576) _ (by omega) (by omega) m0).mono ?_
  rw [if_neg (by omega)]
  rintro d w1 ⟨rfl, rfl⟩
  have HB0 := Lib.hid (Bel.refl w)
  go_wp2_with fail
  refine (toBlockS_any a0 n0 c0 z0 w L0.out b0 (S0.out.below HB0.out.1)).mono ?_
  rintro d w_1 ⟨g1000, rfl, ho, hb⟩
  have RW0 := Lib.hid (Row.mk_ ho)
  have HB1 := Lib.hid (HB0.out.step hb)
  have SZ1 := Lib.hid (show w.heap.size ≤ w_1.heap.size from hb.size)
  clear ho hb
  go_wp2_with fail
  refine (spec_BestRows w_1 (some ⟨g1000, 0, none⟩) n0 n0 z0 L0.out b0 (RW0.out.cells) W0.out a1 WA1.out).mono ?_
  rw [Er0.out, Er1.out]
  rintro d w_2 ⟨aa1, nn1, cc1, rfl, ll1, bb1, ho, hb⟩
  have RW1 := Lib.hid (Row.mk_ ho)
  have HB2 := Lib.hid (HB1.out.step hb)
  have SZ2 := Lib.hid (show w_1.heap.size ≤ w_2.heap.size from hb.size)
  replace RW0 := Lib.hid (RW0.out.below hb)
  have LL1 := Lib.hid ll1
  clear ho hb ll1
  go_wp2_with fail
  refine (toBlockS_any a0 n0 c0 z0 w_2 L0.out b0 (S0.out.below HB2.out.1)).mono ?_
  rintro d w_3 ⟨g1002, rfl, ho, hb⟩
  have RW2 := Lib.hid (Row.mk_ ho)
  have HB3 := Lib.hid (HB2.out.step hb)
  have SZ3 := Lib.hid (show w_2.heap.size ≤ w_3.heap.size from hb.size)
  replace RW0 := Lib.hid (RW0.out.below hb)
  replace RW1 := Lib.hid (RW1.out.below hb)
  clear ho hb
  go_wp2_with fail
  refine (impl_BestRows w_3 (some ⟨g1002, 0, none⟩) n0 n0 z0 L0.out b0 (RW2.out.cells) W0.out a1 WA1.out).mono ?_
  rw [Er0.out, Er1.out]
  rintro d w_4 ⟨aa3, nn3, cc3, rfl, ll3, bb3, ho, hb⟩
  have RW3 := Lib.hid (Row.mk_ ho)
  have HB4 := Lib.hid (HB3.out.step hb)
  have SZ4 := Lib.hid (show w_3.heap.size ≤ w_4.heap.size from hb.size)
  replace RW0 := Lib.hid (RW0.out.below hb)
  replace RW1 := Lib.hid (RW1.out.below hb)
  replace RW2 := Lib.hid (RW2.out.below hb)
  have LL3 := Lib.hid ll3
  clear ho hb ll3
  obtain rfl : nn1 = nn3 := by have h1 := LL3.out; have h2 := LL1.out; omega
  go_wp2_with fail
  refine (eqInt64S_any aa3 aa1 nn1 cc3 cc1 r0 w_4 (by have h := LL3.out; omega) (by omega) (RW3.out.cells) (RW1.out.cells)).mono ?_
  rintro d w_5 ⟨rfl, hb⟩
  have HB5 := Lib.hid (HB4.out.step hb)
  have SZ5 := Lib.hid (show w_4.heap.size ≤ w_5.heap.size from hb.size)
  replace RW0 := Lib.hid (RW0.out.below hb)
  replace RW1 := Lib.hid (RW1.out.below hb)
  replace RW2 := Lib.hid (RW2.out.below hb)
  replace RW3 := Lib.hid (RW3.out.below hb)
  clear hb
  go_wp2_with fail
  refine (toBlockS_any a0 n0 c0 z0 w_5 L0.out b0 (S0.out.below HB5.out.1)).mono ?_
  rintro d w_6 ⟨g1004, rfl, ho, hb⟩
  have RW4 := Lib.hid (Row.mk_ ho)
  have HB6 := Lib.hid (HB5.out.step hb)
  have SZ6 := Lib.hid (show w_5.heap.size ≤ w_6.heap.size from hb.size)
  replace RW0 := Lib.hid (RW0.out.below hb)
  replace RW1 := Lib.hid (RW1.out.below hb)
  replace RW2 := Lib.hid (RW2.out.below hb)
  replace RW3 := Lib.hid (RW3.out.below hb)
  clear ho hb
  go_wp2_with fail
  refine (eqBlockS_any (some ⟨g1002, 0, none⟩) (some ⟨g1004, 0, none⟩) n0 n0 n0 z0 w_6 L0.out (by omega) (RW2.out.cells) (RW4.out.cells)).mono ?_
  rintro d w_7 ⟨rfl, hb⟩
  have HB7 := Lib.hid (HB6.out.step hb)
  have SZ7 := Lib.hid (show w_6.heap.size ≤ w_7.heap.size from hb.size)
  replace RW0 := Lib.hid (RW0.out.below hb)
  replace RW1 := Lib.hid (RW1.out.below hb)
  replace RW2 := Lib.hid (RW2.out.below hb)
  replace RW3 := Lib.hid (RW3.out.below hb)
  replace RW4 := Lib.hid (RW4.out.below hb)
  clear hb
  go_wp2_with fail
  obtain ⟨k_1, hk_1⟩ : ∃ q : Int, q = 1 + ((n0 * 2 : Nat) : Int) := ⟨_, rfl⟩
  refine (marked_as (markBlockS_any (some ⟨g1002, 0, none⟩) n0 n0 w_2.heap.size 1 _ w_7 (by omega) (by omega) (by omega) RW2.out.1) hk_1).mono ?_
  rintro d w_8 ⟨rfl, ho, hg⟩
  have pk_1 : 0 ≤ k_1 := by omega
  have qk_1 : k_1 ≤ 4294967296 * 1 := by omega
  have Hk_1 := Lib.hid hk_1
  clear hk_1
  have HB8 := Lib.hid (HB7.out.grown hg (fun b h => by have h1 := RW2.out.2 b h; have z1 := SZ1.out; have z2 := SZ2.out; have z3 := SZ3.out; have z4 := SZ4.out; have z5 := SZ5.out; have z6 := SZ6.out; have z7 := SZ7.out; omega))
  have SZ8 := Lib.hid (show w_7.heap.size ≤ w_8.heap.size from hg.size)
  replace RW0 := Lib.hid (RW0.out.grown hg (fun b h => by have h1 := RW2.out.2 b h; have z1 := SZ1.out; have z2 := SZ2.out; have z3 := SZ3.out; have z4 := SZ4.out; have z5 := SZ5.out; have z6 := SZ6.out; have z7 := SZ7.out; omega))
  replace RW1 := Lib.hid (RW1.out.grown hg (fun b h => by have h1 := RW2.out.2 b h; have z1 := SZ1.out; have z2 := SZ2.out; have z3 := SZ3.out; have z4 := SZ4.out; have z5 := SZ5.out; have z6 := SZ6.out; have z7 := SZ7.out; omega))
  replace RW3 := Lib.hid (RW3.out.grown hg (fun b h => by have h1 := RW2.out.2 b h; have z1 := SZ1.out; have z2 := SZ2.out; have z3 := SZ3.out; have z4 := SZ4.out; have z5 := SZ5.out; have z6 := SZ6.out; have z7 := SZ7.out; omega))
  replace RW4 := Lib.hid (RW4.out.grown hg (fun b h => by have h1 := RW2.out.2 b h; have z1 := SZ1.out; have z2 := SZ2.out; have z3 := SZ3.out; have z4 := SZ4.out; have z5 := SZ5.out; have z6 := SZ6.out; have z7 := SZ7.out; omega))
  replace RW2 := Lib.hid (RW2.out.turn ho)
  clear ho hg
  go_wp2_with fail
  refine (eqInt64S_any aa3 aa1 nn1 cc3 cc1 r0 w_8 (by have h := LL3.out; omega) (by omega) (RW3.out.cells) (RW1.out.cells)).mono ?_
  rintro d w_9 ⟨rfl, hb⟩
  have HB9 := Lib.hid (HB8.out.step hb)
  have SZ9 := Lib.hid (show w_8.heap.size ≤ w_9.heap.size from hb.size)
  replace RW0 := Lib.hid (RW0.out.below hb)
  replace RW1 := Lib.hid (RW1.out.below hb)
  replace RW2 := Lib.hid (RW2.out.below hb)
  replace RW3 := Lib.hid (RW3.out.below hb)
  replace RW4 := Lib.hid (RW4.out.below hb)
  clear hb
  go_wp2_with fail
  obtain ⟨k_2, hk_2⟩ : ∃ q : Int, q = 1 + ((nn1 : Nat) : Int) := ⟨_, rfl⟩
  refine (marked_as (markInt64S_any aa3 nn1 cc3 w_3.heap.size 1 _ w_9 (by omega) (by omega) (by omega) RW3.out.1) hk_2).mono ?_
  rintro d w_10 ⟨rfl, ho, hg⟩
  have pk_2 : 0 ≤ k_2 := by omega
  have qk_2 : k_2 ≤ 4294967296 * 2 := by omega
  have Hk_2 := Lib.hid hk_2
  clear hk_2
  have HB10 := Lib.hid (HB9.out.grown hg (fun b h => by have h1 := RW3.out.2 b h; have z1 := SZ1.out; have z2 := SZ2.out; have z3 := SZ3.out; have z4 := SZ4.out; have z5 := SZ5.out; have z6 := SZ6.out; have z7 := SZ7.out; have z8 := SZ8.out; have z9 := SZ9.out; omega))
  have SZ10 := Lib.hid (show w_9.heap.size ≤ w_10.heap.size from hg.size)
  replace RW0 := Lib.hid (RW0.out.grown hg (fun b h => by have h1 := RW3.out.2 b h; have z1 := SZ1.out; have z2 := SZ2.out; have z3 := SZ3.out; have z4 := SZ4.out; have z5 := SZ5.out; have z6 := SZ6.out; have z7 := SZ7.out; have z8 := SZ8.out; have z9 := SZ9.out; omega))
  replace RW1 := Lib.hid (RW1.out.grown hg (fun b h => by have h1 := RW3.out.2 b h; have z1 := SZ1.out; have z2 := SZ2.out; have z3 := SZ3.out; have z4 := SZ4.out; have z5 := SZ5.out; have z6 := SZ6.out; have z7 := SZ7.out; have z8 := SZ8.out; have z9 := SZ9.out; omega))
  replace RW2 := Lib.hid (RW2.out.grown hg (fun b h => by have h1 := RW3.out.2 b h; have z1 := SZ1.out; have z2 := SZ2.out; have z3 := SZ3.out; have z4 := SZ4.out; have z5 := SZ5.out; have z6 := SZ6.out; have z7 := SZ7.out; have z8 := SZ8.out; have z9 := SZ9.out; omega))
  replace RW4 := Lib.hid (RW4.out.grown hg (fun b h => by have h1 := RW3.out.2 b h; have z1 := SZ1.out; have z2 := SZ2.out; have z3 := SZ3.out; have z4 := SZ4.out; have z5 := SZ5.out; have z6 := SZ6.out; have z7 := SZ7.out; have z8 := SZ8.out; have z9 := SZ9.out; omega))
  replace RW3 := Lib.hid (RW3.out.turn ho)
  clear ho hg
  go_wp2_with fail
  refine (held_as (heldInt64S_any aa3 nn1 cc3 1 w_10 (by omega) (by omega) (by omega) (RW3.out.cells)) Hk_2.out).mono ?_
  rintro d w_11 ⟨rfl, hb⟩
  have HB11 := Lib.hid (HB10.out.step hb)
  have SZ11 := Lib.hid (show w_10.heap.size ≤ w_11.heap.size from hb.size)
  replace RW0 := Lib.hid (RW0.out.below hb)
  replace RW1 := Lib.hid (RW1.out.below hb)
  replace RW2 := Lib.hid (RW2.out.below hb)
  replace RW3 := Lib.hid (RW3.out.below hb)
  replace RW4 := Lib.hid (RW4.out.below hb)
  clear hb
  go_wp2_with fail
  refine (toBlockS_any a0 n0 c0 z0 w_11 L0.out b0 (S0.out.below HB11.out.1)).mono ?_
  rintro d w_12 ⟨g1005, rfl, ho, hb⟩
  have RW5 := Lib.hid (Row.mk_ ho)
  have HB12 := Lib.hid (HB11.out.step hb)
  have SZ12 := Lib.hid (show w_11.heap.size ≤ w_12.heap.size from hb.size)
  replace RW0 := Lib.hid (RW0.out.below hb)
  replace RW1 := Lib.hid (RW1.out.below hb)
  replace RW2 := Lib.hid (RW2.out.below hb)
  replace RW3 := Lib.hid (RW3.out.below hb)
  replace RW4 := Lib.hid (RW4.out.below hb)
  clear ho hb
  go_wp2_with fail
  refine (impl_BestRows w_12 (some ⟨g1005, 0, none⟩) n0 n0 z0 L0.out b0 (RW5.out.cells) W0.out a1 WA1.out).mono ?_
  rw [Er0.out, Er1.out]
  rintro d w_13 ⟨aa6, nn6, cc6, rfl, ll6, bb6, ho, hb⟩
  have RW6 := Lib.hid (Row.mk_ ho)
  have HB13 := Lib.hid (HB12.out.step hb)
  have SZ13 := Lib.hid (show w_12.heap.size ≤ w_13.heap.size from hb.size)
  replace RW0 := Lib.hid (RW0.out.below hb)
  replace RW1 := Lib.hid (RW1.out.below hb)
  replace RW2 := Lib.hid (RW2.out.below hb)
  replace RW3 := Lib.hid (RW3.out.below hb)
  replace RW4 := Lib.hid (RW4.out.below hb)
  replace RW5 := Lib.hid (RW5.out.below hb)
  have LL6 := Lib.hid ll6
  clear ho hb ll6
  obtain rfl : nn1 = nn6 := by have h1 := LL6.out; have h2 := LL1.out; omega
  go_wp2_with fail
  refine (eqInt64S_any aa6 aa1 nn1 cc6 cc1 r0 w_13 (by have h := LL6.out; omega) (by omega) (RW6.out.cells) (RW1.out.cells)).mono ?_
  rintro d w_14 ⟨rfl, hb⟩
  have HB14 := Lib.hid (HB13.out.step hb)
  have SZ14 := Lib.hid (show w_13.heap.size ≤ w_14.heap.size from hb.size)
  replace RW0 := Lib.hid (RW0.out.below hb)
  replace RW1 := Lib.hid (RW1.out.below hb)
  replace RW2 := Lib.hid (RW2.out.below hb)
  replace RW3 := Lib.hid (RW3.out.below hb)
  replace RW4 := Lib.hid (RW4.out.below hb)
  replace RW5 := Lib.hid (RW5.out.below hb)
  replace RW6 := Lib.hid (RW6.out.below hb)
  clear hb
  go_wp2_with fail
  refine (held_as (heldInt64S_any aa3 nn1 cc3 1 w_14 (by omega) (by omega) (by omega) (RW3.out.cells)) Hk_2.out).mono ?_
  rintro d w_15 ⟨rfl, hb⟩
  have HB15 := Lib.hid (HB14.out.step hb)
  have SZ15 := Lib.hid (show w_14.heap.size ≤ w_15.heap.size from hb.size)
  replace RW0 := Lib.hid (RW0.out.below hb)
  replace RW1 := Lib.hid (RW1.out.below hb)
  replace RW2 := Lib.hid (RW2.out.below hb)
  replace RW3 := Lib.hid (RW3.out.below hb)
  replace RW4 := Lib.hid (RW4.out.below hb)
  replace RW5 := Lib.hid (RW5.out.below hb)
  replace RW6 := Lib.hid (RW6.out.below hb)
  clear hb
  go_wp2_with fail
  go_ret
  exact lawEnd_of HB15.out

/-! ### From the walk to the statement -/
set_option maxRecDepth 100000 in
theorem FnExactBestRows_lifted (os : Os) (started : os.Started) (H : Type) (enc : TypeId × Value → H) :
    ReturnsInHanded {} Try.checked os 9 .any (Rows.fnExactBestRowsSpec.pre6 enc Try.prog Try.f9 Rows.fnExactBestRowsRow.domain false) (Rows.fnExactBestRowsSpec.post enc Try.prog Try.f9 false true false false) := by
  refine lifted_law (C := Try.checked) (tb := 4) own started (by kernel_rfl) Try.func9
    (ChangeSpec.witness6 (enc := enc) (C := Try.checked) false ⟨#[], #[.slice none 0 0, .int .i64 0], []⟩ 8 (by kernel_rfl) (by kernel_rfl) (by kernel_rfl) (by kernel_rfl))
    laidOut (by kernel_rfl) rfl rfl Try.underlying4 (fun ds h => by match ds, h with | [_, _], _ => rfl) ?_
  intro W base args ds p hval hA
  rw [Try.params9] at hA hval
  obtain ⟨v0, vs0, d0, ds0, p0, q0, hargs, rfl, rfl, h0, r0⟩ := trodAll_cons hA
  obtain ⟨v1, vs1, d1, ds1, p1, q1, rfl, rfl, rfl, h1, r1⟩ := trodAll_cons r0
  obtain ⟨rfl, rfl, rfl⟩ := trodAll_nil r1
  obtain rfl : args = #[v0, v1] := by cases args; simp_all
  obtain ⟨a0, n0, c0, z0, rfl, l0, m0, s0, w0⟩ := open_rows_at (k := 2) Try.underlying40 Try.underlying74 (by kernel_rfl) (by kernel_rfl) Try.underlying2 (by kernel_rfl) (hval 0 40 v0 rfl rfl) h0
  obtain ⟨a1, rfl, rfl, rfl, w1⟩ := open_int Try.underlying2 (hval 1 2 v1 rfl rfl) h1
  first | exact FnExactBestRows_walk a0 n0 c0 z0 l0 m0 s0 w0 a1 w1 W | exact FnExactBestRows_walk W a0 n0 c0 z0 l0 m0 s0 w0 a1 w1

theorem FnExactBestRows_over : Rows.fnExactBestRowsRow.holds Try.pinned (OpenSpec.ofChange Rows.fnExactBestRowsSpec) :=
  OpenClaim.holds_of_wide 9 Try.f9 rfl rfl rfl rfl rfl rfl rfl ⟨rfl, rfl, rfl, rfl, rfl⟩ rfl rfl rfl rfl rfl (by kernel_rfl) Try.func9 (by kernel_rfl)
    (of_decide_eq_true (by kernel_rfl)) (by unfold Func.isWrapper; first | (rw [if_pos (by decide +kernel)]; kernel_rfl) | (rw [if_neg (by decide +kernel)]; exact ⟨rfl, rfl⟩))
    (fun os started H enc _ => FnExactBestRows_lifted os started H enc)

/-- The statement. -/
theorem FnExactBestRows_holds : Rows.FnExactBestRowsSaid := FnExactBestRows_over
#print axioms FnExactBestRows_holds


end Go.Proofs.Ytoomkeicfdmdoaa
