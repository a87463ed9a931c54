/-
  The law FnExactBadJoins returns true for all arguments. No condition.
-/
import Derived.Test.YtcajpedhfljhdaaBad
import Derived.Test.YtcajpedhfljhdaaRow
import Derived.Test.YtcajpedhfljhdaaRows
import Derived.Test.YtcajpedhfljhdaaBase
import Derived.Outline
namespace Go.Proofs.Ytcajpedhfljhdaa
open Go.ChangeShapes Go.WideShapes Go.ChangeAt Go.RowKit Go.Deep
open Go.ChangeMaps (open_string shut_string)
open Go.Joins


set_option maxRecDepth 100000 in
set_option maxHeartbeats 6400000 in
theorem FnExactBadJoins_walk (w : World) (a0_0 : Int) (wa0_0 : (Lit.int .i64 a0_0).wf = true) (a0_1 : Int) (wa0_1 : (Lit.int .i64 a0_1).wf = true) (a0_2 : Int) (wa0_2 : (Lit.int .i64 a0_2).wf = true) (a1 : Option Addr) (n1 c1 : Nat) (z1 : List Int) (l1 : z1.length = n1 * 4) (m1 : n1 ≤ maxLen) (s1 : CellsAt w a1 (z1.map (Value.int .i64))) (w1 : ∀ z ∈ z1, (Lit.int .i64 z).wf = true) :
    Calls Try.prog 11 #[.agg #[.int .i64 a0_0, .int .i64 a0_1, .int .i64 a0_2], .slice a1 n1 c1] w (LawEnd w) := by
  obtain ⟨r0, er0⟩ : ∃ q, badF a0_0 a0_1 a0_2 z1 n1 = q := ⟨_, rfl⟩
  have Er0 := Lib.hid er0
  clear er0
  obtain ⟨r1, er1⟩ : ∃ q, badC a0_0 a0_1 a0_2 z1 n1 = q := ⟨_, rfl⟩
  have Er1 := Lib.hid er1
  clear er1
  have Wa0_0 := Lib.hid wa0_0
  have Wa0_1 := Lib.hid wa0_1
  have Wa0_2 := Lib.hid wa0_2
  have L1 := Lib.hid l1
  have S1 := Lib.hid s1
  have W1 := Lib.hid w1
  clear w1 s1 l1 wa0_2 wa0_1 wa0_0
  by_cases g0 : 1048576 < (n1 : Int)
  · go_enter Try.func11, Try.ntmps11
    go_wp2_with fail
    refine (szJoinS_any a1 n1 c1 (1048576) _ (by omega) (by omega) m1).mono ?_
    rw [if_pos (by omega)]
    rintro d w1 ⟨rfl, rfl⟩
    go_wp2_with fail
    go_ret
    exact ⟨rfl, (by repeat (first | exact Below.refl _ _ | assumption | refine Below.drew ?_ | refine below_drewN ?_ _ | refine Below.alloc ?_ (by simp; try omega) _ | refine Below.setCell ?_ (by simp; try omega) _))⟩
  have b1 : n1 ≤ 1048576 := by omega
  go_enter Try.func11, Try.ntmps11
  go_wp2_with fail
  refine (szJoinS_any a1 n1 c1 (1048576) _ (by omega) (by omega) m1).mono ?_
  rw [if_neg (by omega)]
  rintro d w1 ⟨rfl, rfl⟩
  have HB0 := Lib.hid (show Bel w.heap.size w (w.alloc (.cells #[.int .i64 a0_0, .int .i64 a0_1, .int .i64 a0_2] 23)) from (Bel.refl w).alloc _)
  have HC0 := Lib.hid (Bel.refl (w.alloc (.cells #[.int .i64 a0_0, .int .i64 a0_1, .int .i64 a0_2] 23)))
  have SZ0 := Lib.hid (show w.heap.size ≤ (w.alloc (.cells #[.int .i64 a0_0, .int .i64 a0_1, .int .i64 a0_2] 23)).heap.size from by simp; try omega)
  go_wp2_with fail
  refine (toGlue_any a0_0 a0_1 a0_2 (w.alloc (.cells #[.int .i64 a0_0, .int .i64 a0_1, .int .i64 a0_2] 23))).mono ?_
  rintro d w_1 ⟨rfl, hw⟩
  have hb : Below (w.alloc (.cells #[.int .i64 a0_0, .int .i64 a0_1, .int .i64 a0_2] 23)).heap.size (w.alloc (.cells #[.int .i64 a0_0, .int .i64 a0_1, .int .i64 a0_2] 23)) w_1 := by rw [← hw]; exact ((((Bel.refl _).alloc _).alloc _).alloc _).1
  have HB1 := Lib.hid (HB0.out.step hb)
  have SZ1 := Lib.hid (show (w.alloc (.cells #[.int .i64 a0_0, .int .i64 a0_1, .int .i64 a0_2] 23)).heap.size ≤ w_1.heap.size from hb.size)
  have HC1 := Lib.hid (HC0.out.step hb)
  clear hw hb
  go_wp2_with fail
  refine (toJoinS_any a1 n1 c1 z1 w_1 L1.out b1 (S1.out.below HB1.out.1)).mono ?_
  rintro d w_2 ⟨g1000, rfl, ho, hb⟩
  have RW0 := Lib.hid (Row.mk_ ho)
  have HB2 := Lib.hid (HB1.out.step hb)
  have SZ2 := Lib.hid (show w_1.heap.size ≤ w_2.heap.size from hb.size)
  have HC2 := Lib.hid (HC1.out.step hb)
  clear ho hb
  go_wp2_with fail
  refine (spec_BadJoins w_2 a0_0 Wa0_0.out a0_1 Wa0_1.out a0_2 Wa0_2.out (some ⟨g1000, 0, none⟩) n1 n1 z1 L1.out b1 (RW0.out.cells) W1.out).mono ?_
  rw [Er0.out, Er1.out]
  rintro d w_3 ⟨aa1, nn1, cc1, rfl, ll1, bb1, ho, hb⟩
  have RW1 := Lib.hid (Row.mk_ ho)
  have HB3 := Lib.hid (HB2.out.step hb)
  have SZ3 := Lib.hid (show w_2.heap.size ≤ w_3.heap.size from hb.size)
  replace RW0 := Lib.hid (RW0.out.below hb)
  have HC3 := Lib.hid (HC2.out.step hb)
  have LL1 := Lib.hid ll1
  clear ho hb ll1
  go_wp2_with fail
  refine (toJoinS_any a1 n1 c1 z1 w_3 L1.out b1 (S1.out.below HB3.out.1)).mono ?_
  rintro d w_4 ⟨g1002, rfl, ho, hb⟩
  have RW2 := Lib.hid (Row.mk_ ho)
  have HB4 := Lib.hid (HB3.out.step hb)
  have SZ4 := Lib.hid (show w_3.heap.size ≤ w_4.heap.size from hb.size)
  replace RW0 := Lib.hid (RW0.out.below hb)
  replace RW1 := Lib.hid (RW1.out.below hb)
  have HC4 := Lib.hid (HC3.out.step hb)
  clear ho hb
  have bx0_0 : w_4.cell? ⟨w.heap.size, 0, none⟩ = some (.int .i64 a0_0) := (HC4.out.1.cell (p := ⟨w.heap.size, 0, none⟩) (by simp; try omega)).trans (by simp)
  have bx0_1 : w_4.cell? ⟨w.heap.size, 1, none⟩ = some (.int .i64 a0_1) := (HC4.out.1.cell (p := ⟨w.heap.size, 1, none⟩) (by simp; try omega)).trans (by simp)
  have bx0_2 : w_4.cell? ⟨w.heap.size, 2, none⟩ = some (.int .i64 a0_2) := (HC4.out.1.cell (p := ⟨w.heap.size, 2, none⟩) (by simp; try omega)).trans (by simp)
  go_wp2_with fail
  clear bx0_0 bx0_1 bx0_2
  refine (toGlue_any a0_0 a0_1 a0_2 w_4).mono ?_
  rintro d w_5 ⟨rfl, hw⟩
  have hb : Below w_4.heap.size w_4 w_5 := by rw [← hw]; exact ((((Bel.refl _).alloc _).alloc _).alloc _).1
  have HB5 := Lib.hid (HB4.out.step hb)
  have SZ5 := Lib.hid (show w_4.heap.size ≤ w_5.heap.size from hb.size)
  replace RW0 := Lib.hid (RW0.out.below hb)
  replace RW1 := Lib.hid (RW1.out.below hb)
  replace RW2 := Lib.hid (RW2.out.below hb)
  have HC5 := Lib.hid (HC4.out.step hb)
  clear hw hb
  go_wp2_with fail
  refine (impl_BadJoins w_5 a0_0 Wa0_0.out a0_1 Wa0_1.out a0_2 Wa0_2.out (some ⟨g1002, 0, none⟩) n1 n1 z1 L1.out b1 (RW2.out.cells) W1.out).mono ?_
  rw [Er0.out, Er1.out]
  rintro d w_6 ⟨aa3, nn3, cc3, rfl, ll3, bb3, ho, hb⟩
  have RW3 := Lib.hid (Row.mk_ ho)
  have HB6 := Lib.hid (HB5.out.step hb)
  have SZ6 := Lib.hid (show w_5.heap.size ≤ w_6.heap.size from hb.size)
  replace RW0 := Lib.hid (RW0.out.below hb)
  replace RW1 := Lib.hid (RW1.out.below hb)
  replace RW2 := Lib.hid (RW2.out.below hb)
  have HC6 := Lib.hid (HC5.out.step hb)
  have LL3 := Lib.hid ll3
  clear ho hb ll3
  obtain rfl : nn1 = nn3 := by have h1 := LL3.out; have h2 := LL1.out; omega
  go_wp2_with fail
  refine (eqInt64S_any aa3 aa1 nn1 cc3 cc1 r0 w_6 (by have h := LL3.out; omega) (by omega) (RW3.out.cells) (RW1.out.cells)).mono ?_
  rintro d w_7 ⟨rfl, hb⟩
  have HB7 := Lib.hid (HB6.out.step hb)
  have SZ7 := Lib.hid (show w_6.heap.size ≤ w_7.heap.size from hb.size)
  replace RW0 := Lib.hid (RW0.out.below hb)
  replace RW1 := Lib.hid (RW1.out.below hb)
  replace RW2 := Lib.hid (RW2.out.below hb)
  replace RW3 := Lib.hid (RW3.out.below hb)
  have HC7 := Lib.hid (HC6.out.step hb)
  clear hb
  go_wp2_with fail
  refine (toJoinS_any a1 n1 c1 z1 w_7 L1.out b1 (S1.out.below HB7.out.1)).mono ?_
  rintro d w_8 ⟨g1004, rfl, ho, hb⟩
  have RW4 := Lib.hid (Row.mk_ ho)
  have HB8 := Lib.hid (HB7.out.step hb)
  have SZ8 := Lib.hid (show w_7.heap.size ≤ w_8.heap.size from hb.size)
  replace RW0 := Lib.hid (RW0.out.below hb)
  replace RW1 := Lib.hid (RW1.out.below hb)
  replace RW2 := Lib.hid (RW2.out.below hb)
  replace RW3 := Lib.hid (RW3.out.below hb)
  have HC8 := Lib.hid (HC7.out.step hb)
  clear ho hb
  go_wp2_with fail
  refine (eqJoinS_any (some ⟨g1002, 0, none⟩) (some ⟨g1004, 0, none⟩) n1 n1 n1 z1 w_8 L1.out (by omega) (RW2.out.cells) (RW4.out.cells)).mono ?_
  rintro d w_9 ⟨rfl, hb⟩
  have HB9 := Lib.hid (HB8.out.step hb)
  have SZ9 := Lib.hid (show w_8.heap.size ≤ w_9.heap.size from hb.size)
  replace RW0 := Lib.hid (RW0.out.below hb)
  replace RW1 := Lib.hid (RW1.out.below hb)
  replace RW2 := Lib.hid (RW2.out.below hb)
  replace RW3 := Lib.hid (RW3.out.below hb)
  replace RW4 := Lib.hid (RW4.out.below hb)
  have HC9 := Lib.hid (HC8.out.step hb)
  clear hb
  go_wp2_with fail
  obtain ⟨k_1, hk_1⟩ : ∃ q : Int, q = 1 + ((n1 * 4 : Nat) : Int) := ⟨_, rfl⟩
  refine (marked_as (markJoinS_any (some ⟨g1002, 0, none⟩) n1 n1 w_3.heap.size 1 _ w_9 (by omega) (by omega) (by omega) RW2.out.1) hk_1).mono ?_
  rintro d w_10 ⟨rfl, ho, hg⟩
  have pk_1 : 0 ≤ k_1 := by omega
  have qk_1 : k_1 ≤ 4294967296 * 1 := by omega
  have Hk_1 := Lib.hid hk_1
  clear hk_1
  have HB10 := Lib.hid (HB9.out.grown hg (fun b h => by have h1 := RW2.out.2 b h; have z0 := SZ0.out; have z1 := SZ1.out; have z2 := SZ2.out; have z3 := SZ3.out; have z4 := SZ4.out; have z5 := SZ5.out; have z6 := SZ6.out; have z7 := SZ7.out; have z8 := SZ8.out; have z9 := SZ9.out; omega))
  have SZ10 := Lib.hid (show w_9.heap.size ≤ w_10.heap.size from hg.size)
  have HC10 := Lib.hid (HC9.out.grown hg (fun b h => by have h1 := RW2.out.2 b h; have z0 := SZ0.out; have z1 := SZ1.out; have z2 := SZ2.out; have z3 := SZ3.out; have z4 := SZ4.out; have z5 := SZ5.out; have z6 := SZ6.out; have z7 := SZ7.out; have z8 := SZ8.out; have z9 := SZ9.out; omega))
  replace RW0 := Lib.hid (RW0.out.grown hg (fun b h => by have h1 := RW2.out.2 b h; have z0 := SZ0.out; have z1 := SZ1.out; have z2 := SZ2.out; have z3 := SZ3.out; have z4 := SZ4.out; have z5 := SZ5.out; have z6 := SZ6.out; have z7 := SZ7.out; have z8 := SZ8.out; have z9 := SZ9.out; omega))
  replace RW1 := Lib.hid (RW1.out.grown hg (fun b h => by have h1 := RW2.out.2 b h; have z0 := SZ0.out; have z1 := SZ1.out; have z2 := SZ2.out; have z3 := SZ3.out; have z4 := SZ4.out; have z5 := SZ5.out; have z6 := SZ6.out; have z7 := SZ7.out; have z8 := SZ8.out; have z9 := SZ9.out; omega))
  replace RW3 := Lib.hid (RW3.out.grown hg (fun b h => by have h1 := RW2.out.2 b h; have z0 := SZ0.out; have z1 := SZ1.out; have z2 := SZ2.out; have z3 := SZ3.out; have z4 := SZ4.out; have z5 := SZ5.out; have z6 := SZ6.out; have z7 := SZ7.out; have z8 := SZ8.out; have z9 := SZ9.out; omega))
  replace RW4 := Lib.hid (RW4.out.grown hg (fun b h => by have h1 := RW2.out.2 b h; have z0 := SZ0.out; have z1 := SZ1.out; have z2 := SZ2.out; have z3 := SZ3.out; have z4 := SZ4.out; have z5 := SZ5.out; have z6 := SZ6.out; have z7 := SZ7.out; have z8 := SZ8.out; have z9 := SZ9.out; omega))
  replace RW2 := Lib.hid (RW2.out.turn ho)
  clear ho hg
  go_wp2_with fail
  refine (eqInt64S_any aa3 aa1 nn1 cc3 cc1 r0 w_10 (by have h := LL3.out; omega) (by omega) (RW3.out.cells) (RW1.out.cells)).mono ?_
  rintro d w_11 ⟨rfl, hb⟩
  have HB11 := Lib.hid (HB10.out.step hb)
  have SZ11 := Lib.hid (show w_10.heap.size ≤ w_11.heap.size from hb.size)
  replace RW0 := Lib.hid (RW0.out.below hb)
  replace RW1 := Lib.hid (RW1.out.below hb)
  replace RW2 := Lib.hid (RW2.out.below hb)
  replace RW3 := Lib.hid (RW3.out.below hb)
  replace RW4 := Lib.hid (RW4.out.below hb)
  have HC11 := Lib.hid (HC10.out.step hb)
  clear hb
  go_wp2_with fail
  obtain ⟨k_2, hk_2⟩ : ∃ q : Int, q = 1 + ((nn1 : Nat) : Int) := ⟨_, rfl⟩
  refine (marked_as (markInt64S_any aa3 nn1 cc3 w_5.heap.size 1 _ w_11 (by omega) (by omega) (by omega) RW3.out.1) hk_2).mono ?_
  rintro d w_12 ⟨rfl, ho, hg⟩
  have pk_2 : 0 ≤ k_2 := by omega
  have qk_2 : k_2 ≤ 4294967296 * 2 := by omega
  have Hk_2 := Lib.hid hk_2
  clear hk_2
  have HB12 := Lib.hid (HB11.out.grown hg (fun b h => by have h1 := RW3.out.2 b h; have z0 := SZ0.out; have z1 := SZ1.out; have z2 := SZ2.out; have z3 := SZ3.out; have z4 := SZ4.out; have z5 := SZ5.out; have z6 := SZ6.out; have z7 := SZ7.out; have z8 := SZ8.out; have z9 := SZ9.out; have z10 := SZ10.out; have z11 := SZ11.out; omega))
  have SZ12 := Lib.hid (show w_11.heap.size ≤ w_12.heap.size from hg.size)
  have HC12 := Lib.hid (HC11.out.grown hg (fun b h => by have h1 := RW3.out.2 b h; have z0 := SZ0.out; have z1 := SZ1.out; have z2 := SZ2.out; have z3 := SZ3.out; have z4 := SZ4.out; have z5 := SZ5.out; have z6 := SZ6.out; have z7 := SZ7.out; have z8 := SZ8.out; have z9 := SZ9.out; have z10 := SZ10.out; have z11 := SZ11.out; omega))
  replace RW0 := Lib.hid (RW0.out.grown hg (fun b h => by have h1 := RW3.out.2 b h; have z0 := SZ0.out; have z1 := SZ1.out; have z2 := SZ2.out; have z3 := SZ3.out; have z4 := SZ4.out; have z5 := SZ5.out; have z6 := SZ6.out; have z7 := SZ7.out; have z8 := SZ8.out; have z9 := SZ9.out; have z10 := SZ10.out; have z11 := SZ11.out; omega))
  replace RW1 := Lib.hid (RW1.out.grown hg (fun b h => by have h1 := RW3.out.2 b h; have z0 := SZ0.out; have z1 := SZ1.out; have z2 := SZ2.out; have z3 := SZ3.out; have z4 := SZ4.out; have z5 := SZ5.out; have z6 := SZ6.out; have z7 := SZ7.out; have z8 := SZ8.out; have z9 := SZ9.out; have z10 := SZ10.out; have z11 := SZ11.out; omega))
  replace RW2 := Lib.hid (RW2.out.grown hg (fun b h => by have h1 := RW3.out.2 b h; have z0 := SZ0.out; have z1 := SZ1.out; have z2 := SZ2.out; have z3 := SZ3.out; have z4 := SZ4.out; have z5 := SZ5.out; have z6 := SZ6.out; have z7 := SZ7.out; have z8 := SZ8.out; have z9 := SZ9.out; have z10 := SZ10.out; have z11 := SZ11.out; omega))
  replace RW4 := Lib.hid (RW4.out.grown hg (fun b h => by have h1 := RW3.out.2 b h; have z0 := SZ0.out; have z1 := SZ1.out; have z2 := SZ2.out; have z3 := SZ3.out; have z4 := SZ4.out; have z5 := SZ5.out; have z6 := SZ6.out; have z7 := SZ7.out; have z8 := SZ8.out; have z9 := SZ9.out; have z10 := SZ10.out; have z11 := SZ11.out; omega))
  replace RW3 := Lib.hid (RW3.out.turn ho)
  clear ho hg
  go_wp2_with fail
  refine (held_as (heldInt64S_any aa3 nn1 cc3 1 w_12 (by omega) (by omega) (by omega) (RW3.out.cells)) Hk_2.out).mono ?_
  rintro d w_13 ⟨rfl, hb⟩
  have HB13 := Lib.hid (HB12.out.step hb)
  have SZ13 := Lib.hid (show w_12.heap.size ≤ w_13.heap.size from hb.size)
  replace RW0 := Lib.hid (RW0.out.below hb)
  replace RW1 := Lib.hid (RW1.out.below hb)
  replace RW2 := Lib.hid (RW2.out.below hb)
  replace RW3 := Lib.hid (RW3.out.below hb)
  replace RW4 := Lib.hid (RW4.out.below hb)
  have HC13 := Lib.hid (HC12.out.step hb)
  clear hb
  have bx0_0 : w_13.cell? ⟨w.heap.size, 0, none⟩ = some (.int .i64 a0_0) := (HC13.out.1.cell (p := ⟨w.heap.size, 0, none⟩) (by simp; try omega)).trans (by simp)
  have bx0_1 : w_13.cell? ⟨w.heap.size, 1, none⟩ = some (.int .i64 a0_1) := (HC13.out.1.cell (p := ⟨w.heap.size, 1, none⟩) (by simp; try omega)).trans (by simp)
  have bx0_2 : w_13.cell? ⟨w.heap.size, 2, none⟩ = some (.int .i64 a0_2) := (HC13.out.1.cell (p := ⟨w.heap.size, 2, none⟩) (by simp; try omega)).trans (by simp)
  go_wp2_with fail
  clear bx0_0 bx0_1 bx0_2
  refine (toGlue_any a0_0 a0_1 a0_2 w_13).mono ?_
  rintro d w_14 ⟨rfl, hw⟩
  have hb : Below w_13.heap.size w_13 w_14 := by rw [← hw]; exact ((((Bel.refl _).alloc _).alloc _).alloc _).1
  have HB14 := Lib.hid (HB13.out.step hb)
  have SZ14 := Lib.hid (show w_13.heap.size ≤ w_14.heap.size from hb.size)
  replace RW0 := Lib.hid (RW0.out.below hb)
  replace RW1 := Lib.hid (RW1.out.below hb)
  replace RW2 := Lib.hid (RW2.out.below hb)
  replace RW3 := Lib.hid (RW3.out.below hb)
  replace RW4 := Lib.hid (RW4.out.below hb)
  have HC14 := Lib.hid (HC13.out.step hb)
  clear hw hb
  go_wp2_with fail
  refine (toJoinS_any a1 n1 c1 z1 w_14 L1.out b1 (S1.out.below HB14.out.1)).mono ?_
  rintro d w_15 ⟨g1005, rfl, ho, hb⟩
  have RW5 := Lib.hid (Row.mk_ ho)
  have HB15 := Lib.hid (HB14.out.step hb)
  have SZ15 := Lib.hid (show w_14.heap.size ≤ w_15.heap.size from hb.size)
  replace RW0 := Lib.hid (RW0.out.below hb)
  replace RW1 := Lib.hid (RW1.out.below hb)
  replace RW2 := Lib.hid (RW2.out.below hb)
  replace RW3 := Lib.hid (RW3.out.below hb)
  replace RW4 := Lib.hid (RW4.out.below hb)
  have HC15 := Lib.hid (HC14.out.step hb)
  clear ho hb
  go_wp2_with fail
  refine (impl_BadJoins w_15 a0_0 Wa0_0.out a0_1 Wa0_1.out a0_2 Wa0_2.out (some ⟨g1005, 0, none⟩) n1 n1 z1 L1.out b1 (RW5.out.cells) W1.out).mono ?_
  rw [Er0.out, Er1.out]
  rintro d w_16 ⟨aa6, nn6, cc6, rfl, ll6, bb6, ho, hb⟩
  have RW6 := Lib.hid (Row.mk_ ho)
  have HB16 := Lib.hid (HB15.out.step hb)
  have SZ16 := Lib.hid (show w_15.heap.size ≤ w_16.heap.size from hb.size)
  replace RW0 := Lib.hid (RW0.out.below hb)
  replace RW1 := Lib.hid (RW1.out.below hb)
  replace RW2 := Lib.hid (RW2.out.below hb)
  replace RW3 := Lib.hid (RW3.out.below hb)
  replace RW4 := Lib.hid (RW4.out.below hb)
  replace RW5 := Lib.hid (RW5.out.below hb)
  have HC16 := Lib.hid (HC15.out.step hb)
  have LL6 := Lib.hid ll6
  clear ho hb ll6
  obtain rfl : nn1 = nn6 := by have h1 := LL6.out; have h2 := LL1.out; omega
  go_wp2_with fail
  refine (eqInt64S_any aa6 aa1 nn1 cc6 cc1 r0 w_16 (by have h := LL6.out; omega) (by omega) (RW6.out.cells) (RW1.out.cells)).mono ?_
  rintro d w_17 ⟨rfl, hb⟩
  have HB17 := Lib.hid (HB16.out.step hb)
  have SZ17 := Lib.hid (show w_16.heap.size ≤ w_17.heap.size from hb.size)
  replace RW0 := Lib.hid (RW0.out.below hb)
  replace RW1 := Lib.hid (RW1.out.below hb)
  replace RW2 := Lib.hid (RW2.out.below hb)
  replace RW3 := Lib.hid (RW3.out.below hb)
  replace RW4 := Lib.hid (RW4.out.below hb)
  replace RW5 := Lib.hid (RW5.out.below hb)
  replace RW6 := Lib.hid (RW6.out.below hb)
  have HC17 := Lib.hid (HC16.out.step hb)
  clear hb
  go_wp2_with fail
  refine (held_as (heldInt64S_any aa3 nn1 cc3 1 w_17 (by omega) (by omega) (by omega) (RW3.out.cells)) Hk_2.out).mono ?_
  rintro d w_18 ⟨rfl, hb⟩
  have HB18 := Lib.hid (HB17.out.step hb)
  have SZ18 := Lib.hid (show w_17.heap.size ≤ w_18.heap.size from hb.size)
  replace RW0 := Lib.hid (RW0.out.below hb)
  replace RW1 := Lib.hid (RW1.out.below hb)
  replace RW2 := Lib.hid (RW2.out.below hb)
  replace RW3 := Lib.hid (RW3.out.below hb)
  replace RW4 := Lib.hid (RW4.out.below hb)
  replace RW5 := Lib.hid (RW5.out.below hb)
  replace RW6 := Lib.hid (RW6.out.below hb)
  have HC18 := Lib.hid (HC17.out.step hb)
  clear hb
  go_wp2_with fail
  go_ret
  exact lawEnd_of HB18.out

/-! ### From the walk to the statement -/
set_option maxRecDepth 100000 in
theorem FnExactBadJoins_lifted (os : Os) (started : os.Started) (H : Type) (enc : TypeId × Value → H) :
    ReturnsInHanded {} Try.checked os 11 .any (Rows.fnExactBadJoinsSpec.pre6 enc Try.prog Try.f11 Rows.fnExactBadJoinsRow.domain false) (Rows.fnExactBadJoinsSpec.post enc Try.prog Try.f11 false true false false) := by
  refine lifted_law (C := Try.checked) (tb := 4) own started (by kernel_rfl) Try.func11
    (ChangeSpec.witness6 (enc := enc) (C := Try.checked) false ⟨#[], #[.agg #[.int .i64 0, .int .i64 0, .int .i64 0], .slice none 0 0], []⟩ 8 (by kernel_rfl) (by kernel_rfl) (by kernel_rfl) (by kernel_rfl))
    laidOut (by kernel_rfl) rfl rfl Try.underlying4 (fun ds h => by match ds, h with | [_, _], _ => rfl) ?_
  intro W base args ds p hval hA
  rw [Try.params11] at hA hval
  obtain ⟨v0, vs0, d0, ds0, p0, q0, hargs, rfl, rfl, h0, r0⟩ := trodAll_cons hA
  obtain ⟨v1, vs1, d1, ds1, p1, q1, rfl, rfl, rfl, h1, r1⟩ := trodAll_cons r0
  obtain ⟨rfl, rfl, rfl⟩ := trodAll_nil r1
  obtain rfl : args = #[v0, v1] := by cases args; simp_all
  obtain ⟨u0_0, u0_1, u0_2, y0_0, y0_1, y0_2, m0, rfl, rfl, _, t0_0, t0_1, t0_2⟩ := open_agg3 Try.underlying23 (by kernel_rfl) (by kernel_rfl) (hval 0 23 v0 rfl rfl) h0
  obtain ⟨a0_0, e0_0, _, w0_0⟩ := DataW.trod_int Try.underlying2 t0_0
  simp only [List.cons.injEq, and_true] at e0_0
  subst e0_0
  obtain ⟨a0_1, e0_1, _, w0_1⟩ := DataW.trod_int Try.underlying2 t0_1
  simp only [List.cons.injEq, and_true] at e0_1
  subst e0_1
  obtain ⟨a0_2, e0_2, _, w0_2⟩ := DataW.trod_int Try.underlying2 t0_2
  simp only [List.cons.injEq, and_true] at e0_2
  subst e0_2
  obtain ⟨a1, n1, c1, z1, rfl, l1, m1, s1, w1⟩ := open_rows_at (k := 4) Try.underlying35 Try.underlying42 (by kernel_rfl) (by kernel_rfl) Try.underlying2 (by kernel_rfl) (hval 1 35 v1 rfl rfl) h1
  first | exact FnExactBadJoins_walk a0_0 w0_0 a0_1 w0_1 a0_2 w0_2 a1 n1 c1 z1 l1 m1 s1 w1 W | exact FnExactBadJoins_walk W a0_0 w0_0 a0_1 w0_1 a0_2 w0_2 a1 n1 c1 z1 l1 m1 s1 w1

theorem FnExactBadJoins_over : Rows.fnExactBadJoinsRow.holds Try.pinned (OpenSpec.ofChange Rows.fnExactBadJoinsSpec) :=
  OpenClaim.holds_of_wide 11 Try.f11 rfl rfl rfl rfl rfl rfl rfl ⟨rfl, rfl, rfl, rfl, rfl⟩ rfl rfl rfl rfl rfl (by kernel_rfl) Try.func11 (by kernel_rfl)
    (of_decide_eq_true (by kernel_rfl)) (by unfold Func.isWrapper; first | (rw [if_pos (by decide +kernel)]; kernel_rfl) | (rw [if_neg (by decide +kernel)]; exact ⟨rfl, rfl⟩))
    (fun os started H enc _ => FnExactBadJoins_lifted os started H enc)

/-- The statement. -/
theorem FnExactBadJoins_holds : Rows.FnExactBadJoinsSaid := FnExactBadJoins_over
#print axioms FnExactBadJoins_holds


end Go.Proofs.Ytcajpedhfljhdaa
