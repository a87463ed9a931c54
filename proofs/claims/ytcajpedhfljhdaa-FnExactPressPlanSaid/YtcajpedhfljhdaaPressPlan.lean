/-
  The law FnExactPressPlan returns true for all arguments. No condition.
-/
import Derived.Test.YtcajpedhfljhdaaPlanI
import Derived.Test.YtcajpedhfljhdaaPlanS
import Derived.Test.YtcajpedhfljhdaaRow
import Derived.Test.YtcajpedhfljhdaaRows
import Derived.Test.YtcajpedhfljhdaaBase
import Derived.Outline
namespace Go.Proofs.Ytcajpedhfljhdaa
open Go.ChangeShapes Go.WideShapes Go.ChangeAt Go.RowKit Go.Deep
open Go.ChangeMaps (open_string shut_string)
open Go.Joins


set_option maxRecDepth 100000 in
set_option maxHeartbeats 6400000 in
theorem FnExactPressPlan_walk (w : World) (a0_0 : Int) (wa0_0 : (Lit.int .i64 a0_0).wf = true) (a0_1 : Int) (wa0_1 : (Lit.int .i64 a0_1).wf = true) (a0_2 : Int) (wa0_2 : (Lit.int .i64 a0_2).wf = true) (a1 : Option Addr) (n1 c1 : Nat) (z1 : List Int) (l1 : z1.length = n1) (_ : n1 ≤ maxLen) (s1 : CellsAt w a1 (z1.map (Value.int .i64))) (w1 : ∀ z ∈ z1, (Lit.int .i64 z).wf = true) (a2 : Option Addr) (n2 c2 : Nat) (z2 : List Int) (l2 : z2.length = n2) (_ : n2 ≤ maxLen) (s2 : CellsAt w a2 (z2.map (Value.int .i64))) (w2 : ∀ z ∈ z2, (Lit.int .i64 z).wf = true) (a3 : Int) (wa3 : (Lit.int .i64 a3).wf = true) :
    Calls Try.prog 12 #[.agg #[.int .i64 a0_0, .int .i64 a0_1, .int .i64 a0_2], .slice a1 n1 c1, .slice a2 n2 c2, .int .i64 a3] w (LawEnd w) := by
  obtain ⟨r0, er0⟩ : ∃ q, planF a0_0 a0_1 a0_2 z1 n1 z2 n2 a3 = q := ⟨_, rfl⟩
  have Er0 := Lib.hid er0
  clear er0
  obtain ⟨r1, er1⟩ : ∃ q, planC a0_0 a0_1 a0_2 z1 n1 z2 n2 a3 = q := ⟨_, rfl⟩
  have Er1 := Lib.hid er1
  clear er1
  have Wa0_0 := Lib.hid wa0_0
  have Wa0_1 := Lib.hid wa0_1
  have Wa0_2 := Lib.hid wa0_2
  have L1 := Lib.hid l1
  have S1 := Lib.hid s1
  have W1 := Lib.hid w1
  have L2 := Lib.hid l2
  have S2 := Lib.hid s2
  have W2 := Lib.hid w2
  have WA3 := Lib.hid wa3
  clear wa3 w2 s2 l2 w1 s1 l1 wa0_2 wa0_1 wa0_0
  by_cases g0 : 1048576 < (n1 : Int)
  · go_enter Try.func12, Try.ntmps12
    go_wp2_with fail
    go_ret
    exact ⟨rfl, (by repeat (first | exact Below.refl _ _ | assumption | refine Below.drew ?_ | refine below_drewN ?_ _ | refine Below.alloc ?_ (by simp; try omega) _ | refine Below.setCell ?_ (by simp; try omega) _))⟩
  by_cases g1 : 1048576 < (n2 : Int)
  · go_enter Try.func12, Try.ntmps12
    go_wp2_with fail
    go_ret
    exact ⟨rfl, (by repeat (first | exact Below.refl _ _ | assumption | refine Below.drew ?_ | refine below_drewN ?_ _ | refine Below.alloc ?_ (by simp; try omega) _ | refine Below.setCell ?_ (by simp; try omega) _))⟩
  have b1 : n1 ≤ 1048576 := by omega
  have b2 : n2 ≤ 1048576 := by omega
  go_enter Try.func12, Try.ntmps12
  have HB0 := Lib.hid (show Bel w.heap.size w (w.alloc (.cells #[.int .i64 a0_0, .int .i64 a0_1, .int .i64 a0_2] 23)) from (Bel.refl w).alloc _)
  have HC0 := Lib.hid (Bel.refl (w.alloc (.cells #[.int .i64 a0_0, .int .i64 a0_1, .int .i64 a0_2] 23)))
  have SZ0 := Lib.hid (show w.heap.size ≤ (w.alloc (.cells #[.int .i64 a0_0, .int .i64 a0_1, .int .i64 a0_2] 23)).heap.size from by simp; try omega)
  go_wp2_with fail
  refine (toGlue_any a0_0 a0_1 a0_2 (w.alloc (.cells #[.int .i64 a0_0, .int .i64 a0_1, .int .i64 a0_2] 23))).mono ?_
  rintro d w_1 ⟨rfl, hw⟩
  have hb : Below (w.alloc (.cells #[.int .i64 a0_0, .int .i64 a0_1, .int .i64 a0_2] 23)).heap.size (w.alloc (.cells #[.int .i64 a0_0, .int .i64 a0_1, .int .i64 a0_2] 23)) w_1 := by rw [← hw]; exact ((((Bel.refl _).alloc _).alloc _).alloc _).1
  have HB1 := Lib.hid (HB0.out.step hb)
  have SZ1 := Lib.hid (show (w.alloc (.cells #[.int .i64 a0_0, .int .i64 a0_1, .int .i64 a0_2] 23)).heap.size ≤ w_1.heap.size from hb.size)
  have HC1 := Lib.hid (HC0.out.step hb)
  clear hw hb
  go_wp2_with fail
  refine (toInt64S_any a1 n1 c1 z1 w_1 L1.out b1 (S1.out.below HB1.out.1)).mono ?_
  rintro d w_2 ⟨g1000, rfl, ho, hb⟩
  have RW0 := Lib.hid (Row.mk_ ho)
  have HB2 := Lib.hid (HB1.out.step hb)
  have SZ2 := Lib.hid (show w_1.heap.size ≤ w_2.heap.size from hb.size)
  have HC2 := Lib.hid (HC1.out.step hb)
  clear ho hb
  go_wp2_with fail
  refine (toInt64S_any a2 n2 c2 z2 w_2 L2.out b2 (S2.out.below HB2.out.1)).mono ?_
  rintro d w_3 ⟨g1001, rfl, ho, hb⟩
  have RW1 := Lib.hid (Row.mk_ ho)
  have HB3 := Lib.hid (HB2.out.step hb)
  have SZ3 := Lib.hid (show w_2.heap.size ≤ w_3.heap.size from hb.size)
  replace RW0 := Lib.hid (RW0.out.below hb)
  have HC3 := Lib.hid (HC2.out.step hb)
  clear ho hb
  go_wp2_with fail
  refine (spec_PressPlan w_3 a0_0 Wa0_0.out a0_1 Wa0_1.out a0_2 Wa0_2.out (some ⟨g1000, 0, none⟩) n1 n1 z1 L1.out b1 (RW0.out.cells) W1.out (some ⟨g1001, 0, none⟩) n2 n2 z2 L2.out b2 (RW1.out.cells) W2.out a3 WA3.out).mono ?_
  rw [Er0.out, Er1.out]
  rintro d w_4 ⟨aa2, nn2, cc2, rfl, ll2, bb2, ho, hb⟩
  have RW2 := Lib.hid (Row.mk_ ho)
  have HB4 := Lib.hid (HB3.out.step hb)
  have SZ4 := Lib.hid (show w_3.heap.size ≤ w_4.heap.size from hb.size)
  replace RW0 := Lib.hid (RW0.out.below hb)
  replace RW1 := Lib.hid (RW1.out.below hb)
  have HC4 := Lib.hid (HC3.out.step hb)
  have LL2 := Lib.hid ll2
  clear ho hb ll2
  go_wp2_with fail
  refine (toInt64S_any a1 n1 c1 z1 w_4 L1.out b1 (S1.out.below HB4.out.1)).mono ?_
  rintro d w_5 ⟨g1003, rfl, ho, hb⟩
  have RW3 := Lib.hid (Row.mk_ ho)
  have HB5 := Lib.hid (HB4.out.step hb)
  have SZ5 := Lib.hid (show w_4.heap.size ≤ w_5.heap.size from hb.size)
  replace RW0 := Lib.hid (RW0.out.below hb)
  replace RW1 := Lib.hid (RW1.out.below hb)
  replace RW2 := Lib.hid (RW2.out.below hb)
  have HC5 := Lib.hid (HC4.out.step hb)
  clear ho hb
  go_wp2_with fail
  refine (toInt64S_any a2 n2 c2 z2 w_5 L2.out b2 (S2.out.below HB5.out.1)).mono ?_
  rintro d w_6 ⟨g1004, rfl, ho, hb⟩
  have RW4 := Lib.hid (Row.mk_ ho)
  have HB6 := Lib.hid (HB5.out.step hb)
  have SZ6 := Lib.hid (show w_5.heap.size ≤ w_6.heap.size from hb.size)
  replace RW0 := Lib.hid (RW0.out.below hb)
  replace RW1 := Lib.hid (RW1.out.below hb)
  replace RW2 := Lib.hid (RW2.out.below hb)
  replace RW3 := Lib.hid (RW3.out.below hb)
  have HC6 := Lib.hid (HC5.out.step hb)
  clear ho hb
  have bx0_0 : w_6.cell? ⟨w.heap.size, 0, none⟩ = some (.int .i64 a0_0) := (HC6.out.1.cell (p := ⟨w.heap.size, 0, none⟩) (by simp; try omega)).trans (by simp)
  have bx0_1 : w_6.cell? ⟨w.heap.size, 1, none⟩ = some (.int .i64 a0_1) := (HC6.out.1.cell (p := ⟨w.heap.size, 1, none⟩) (by simp; try omega)).trans (by simp)
  have bx0_2 : w_6.cell? ⟨w.heap.size, 2, none⟩ = some (.int .i64 a0_2) := (HC6.out.1.cell (p := ⟨w.heap.size, 2, none⟩) (by simp; try omega)).trans (by simp)
  have hzb : w.heap.size < w_6.heap.size := by have h := HC6.out.2; simp at h; omega
  go_wp2_with fail
  clear hzb bx0_0 bx0_1 bx0_2
  refine (toGlue_any a0_0 a0_1 a0_2 w_6).mono ?_
  rintro d w_7 ⟨rfl, hw⟩
  have hb : Below w_6.heap.size w_6 w_7 := by rw [← hw]; exact ((((Bel.refl _).alloc _).alloc _).alloc _).1
  have HB7 := Lib.hid (HB6.out.step hb)
  have SZ7 := Lib.hid (show w_6.heap.size ≤ w_7.heap.size from hb.size)
  replace RW0 := Lib.hid (RW0.out.below hb)
  replace RW1 := Lib.hid (RW1.out.below hb)
  replace RW2 := Lib.hid (RW2.out.below hb)
  replace RW3 := Lib.hid (RW3.out.below hb)
  replace RW4 := Lib.hid (RW4.out.below hb)
  have HC7 := Lib.hid (HC6.out.step hb)
  clear hw hb
  go_wp2_with fail
  refine (impl_PressPlan w_7 a0_0 Wa0_0.out a0_1 Wa0_1.out a0_2 Wa0_2.out (some ⟨g1003, 0, none⟩) n1 n1 z1 L1.out b1 (RW3.out.cells) W1.out (some ⟨g1004, 0, none⟩) n2 n2 z2 L2.out b2 (RW4.out.cells) W2.out a3 WA3.out).mono ?_
  rw [Er0.out, Er1.out]
  rintro d w_8 ⟨aa5, nn5, cc5, rfl, ll5, bb5, ho, hb⟩
  have RW5 := Lib.hid (Row.mk_ ho)
  have HB8 := Lib.hid (HB7.out.step hb)
  have SZ8 := Lib.hid (show w_7.heap.size ≤ w_8.heap.size from hb.size)
  replace RW0 := Lib.hid (RW0.out.below hb)
  replace RW1 := Lib.hid (RW1.out.below hb)
  replace RW2 := Lib.hid (RW2.out.below hb)
  replace RW3 := Lib.hid (RW3.out.below hb)
  replace RW4 := Lib.hid (RW4.out.below hb)
  have HC8 := Lib.hid (HC7.out.step hb)
  have LL5 := Lib.hid ll5
  clear ho hb ll5
  obtain rfl : nn2 = nn5 := by have h1 := LL5.out; have h2 := LL2.out; omega
  go_wp2_with fail
  refine (eqJoinS_any aa5 aa2 nn2 cc5 cc2 r0 w_8 LL5.out (by omega) (RW5.out.cells) (RW2.out.cells)).mono ?_
  rintro d w_9 ⟨rfl, hb⟩
  have HB9 := Lib.hid (HB8.out.step hb)
  have SZ9 := Lib.hid (show w_8.heap.size ≤ w_9.heap.size from hb.size)
  replace RW0 := Lib.hid (RW0.out.below hb)
  replace RW1 := Lib.hid (RW1.out.below hb)
  replace RW2 := Lib.hid (RW2.out.below hb)
  replace RW3 := Lib.hid (RW3.out.below hb)
  replace RW4 := Lib.hid (RW4.out.below hb)
  replace RW5 := Lib.hid (RW5.out.below hb)
  have HC9 := Lib.hid (HC8.out.step hb)
  clear hb
  go_wp2_with fail
  refine (toInt64S_any a1 n1 c1 z1 w_9 L1.out b1 (S1.out.below HB9.out.1)).mono ?_
  rintro d w_10 ⟨g1006, rfl, ho, hb⟩
  have RW6 := Lib.hid (Row.mk_ ho)
  have HB10 := Lib.hid (HB9.out.step hb)
  have SZ10 := Lib.hid (show w_9.heap.size ≤ w_10.heap.size from hb.size)
  replace RW0 := Lib.hid (RW0.out.below hb)
  replace RW1 := Lib.hid (RW1.out.below hb)
  replace RW2 := Lib.hid (RW2.out.below hb)
  replace RW3 := Lib.hid (RW3.out.below hb)
  replace RW4 := Lib.hid (RW4.out.below hb)
  replace RW5 := Lib.hid (RW5.out.below hb)
  have HC10 := Lib.hid (HC9.out.step hb)
  clear ho hb
  go_wp2_with fail
  refine (eqInt64S_any (some ⟨g1003, 0, none⟩) (some ⟨g1006, 0, none⟩) n1 n1 n1 z1 w_10 L1.out (by omega) (RW3.out.cells) (RW6.out.cells)).mono ?_
  rintro d w_11 ⟨rfl, hb⟩
  have HB11 := Lib.hid (HB10.out.step hb)
  have SZ11 := Lib.hid (show w_10.heap.size ≤ w_11.heap.size from hb.size)
  replace RW0 := Lib.hid (RW0.out.below hb)
  replace RW1 := Lib.hid (RW1.out.below hb)
  replace RW2 := Lib.hid (RW2.out.below hb)
  replace RW3 := Lib.hid (RW3.out.below hb)
  replace RW4 := Lib.hid (RW4.out.below hb)
  replace RW5 := Lib.hid (RW5.out.below hb)
  replace RW6 := Lib.hid (RW6.out.below hb)
  have HC11 := Lib.hid (HC10.out.step hb)
  clear hb
  go_wp2_with fail
  refine (toInt64S_any a2 n2 c2 z2 w_11 L2.out b2 (S2.out.below HB11.out.1)).mono ?_
  rintro d w_12 ⟨g1007, rfl, ho, hb⟩
  have RW7 := Lib.hid (Row.mk_ ho)
  have HB12 := Lib.hid (HB11.out.step hb)
  have SZ12 := Lib.hid (show w_11.heap.size ≤ w_12.heap.size from hb.size)
  replace RW0 := Lib.hid (RW0.out.below hb)
  replace RW1 := Lib.hid (RW1.out.below hb)
  replace RW2 := Lib.hid (RW2.out.below hb)
  replace RW3 := Lib.hid (RW3.out.below hb)
  replace RW4 := Lib.hid (RW4.out.below hb)
  replace RW5 := Lib.hid (RW5.out.below hb)
  replace RW6 := Lib.hid (RW6.out.below hb)
  have HC12 := Lib.hid (HC11.out.step hb)
  clear ho hb
  go_wp2_with fail
  refine (eqInt64S_any (some ⟨g1004, 0, none⟩) (some ⟨g1007, 0, none⟩) n2 n2 n2 z2 w_12 L2.out (by omega) (RW4.out.cells) (RW7.out.cells)).mono ?_
  rintro d w_13 ⟨rfl, hb⟩
  have HB13 := Lib.hid (HB12.out.step hb)
  have SZ13 := Lib.hid (show w_12.heap.size ≤ w_13.heap.size from hb.size)
  replace RW0 := Lib.hid (RW0.out.below hb)
  replace RW1 := Lib.hid (RW1.out.below hb)
  replace RW2 := Lib.hid (RW2.out.below hb)
  replace RW3 := Lib.hid (RW3.out.below hb)
  replace RW4 := Lib.hid (RW4.out.below hb)
  replace RW5 := Lib.hid (RW5.out.below hb)
  replace RW6 := Lib.hid (RW6.out.below hb)
  replace RW7 := Lib.hid (RW7.out.below hb)
  have HC13 := Lib.hid (HC12.out.step hb)
  clear hb
  go_wp2_with fail
  obtain ⟨k_1, hk_1⟩ : ∃ q : Int, q = 1 + ((n1 : Nat) : Int) := ⟨_, rfl⟩
  refine (marked_as (markInt64S_any (some ⟨g1003, 0, none⟩) n1 n1 w_4.heap.size 1 _ w_13 (by omega) (by omega) (by omega) RW3.out.1) hk_1).mono ?_
  rintro d w_14 ⟨rfl, ho, hg⟩
  have pk_1 : 0 ≤ k_1 := by omega
  have qk_1 : k_1 ≤ 4294967296 * 1 := by omega
  have Hk_1 := Lib.hid hk_1
  clear hk_1
  have HB14 := Lib.hid (HB13.out.grown hg (fun b h => by have h1 := RW3.out.2 b h; have z0 := SZ0.out; have z1 := SZ1.out; have z2 := SZ2.out; have z3 := SZ3.out; have z4 := SZ4.out; have z5 := SZ5.out; have z6 := SZ6.out; have z7 := SZ7.out; have z8 := SZ8.out; have z9 := SZ9.out; have z10 := SZ10.out; have z11 := SZ11.out; have z12 := SZ12.out; have z13 := SZ13.out; omega))
  have SZ14 := Lib.hid (show w_13.heap.size ≤ w_14.heap.size from hg.size)
  have HC14 := Lib.hid (HC13.out.grown hg (fun b h => by have h1 := RW3.out.2 b h; have z0 := SZ0.out; have z1 := SZ1.out; have z2 := SZ2.out; have z3 := SZ3.out; have z4 := SZ4.out; have z5 := SZ5.out; have z6 := SZ6.out; have z7 := SZ7.out; have z8 := SZ8.out; have z9 := SZ9.out; have z10 := SZ10.out; have z11 := SZ11.out; have z12 := SZ12.out; have z13 := SZ13.out; omega))
  replace RW0 := Lib.hid (RW0.out.grown hg (fun b h => by have h1 := RW3.out.2 b h; have z0 := SZ0.out; have z1 := SZ1.out; have z2 := SZ2.out; have z3 := SZ3.out; have z4 := SZ4.out; have z5 := SZ5.out; have z6 := SZ6.out; have z7 := SZ7.out; have z8 := SZ8.out; have z9 := SZ9.out; have z10 := SZ10.out; have z11 := SZ11.out; have z12 := SZ12.out; have z13 := SZ13.out; omega))
  replace RW1 := Lib.hid (RW1.out.grown hg (fun b h => by have h1 := RW3.out.2 b h; have z0 := SZ0.out; have z1 := SZ1.out; have z2 := SZ2.out; have z3 := SZ3.out; have z4 := SZ4.out; have z5 := SZ5.out; have z6 := SZ6.out; have z7 := SZ7.out; have z8 := SZ8.out; have z9 := SZ9.out; have z10 := SZ10.out; have z11 := SZ11.out; have z12 := SZ12.out; have z13 := SZ13.out; omega))
  replace RW2 := Lib.hid (RW2.out.grown hg (fun b h => by have h1 := RW3.out.2 b h; have z0 := SZ0.out; have z1 := SZ1.out; have z2 := SZ2.out; have z3 := SZ3.out; have z4 := SZ4.out; have z5 := SZ5.out; have z6 := SZ6.out; have z7 := SZ7.out; have z8 := SZ8.out; have z9 := SZ9.out; have z10 := SZ10.out; have z11 := SZ11.out; have z12 := SZ12.out; have z13 := SZ13.out; omega))
  replace RW4 := Lib.hid (RW4.out.grown hg (fun b h => by have h1 := RW3.out.2 b h; have z0 := SZ0.out; have z1 := SZ1.out; have z2 := SZ2.out; have z3 := SZ3.out; have z4 := SZ4.out; have z5 := SZ5.out; have z6 := SZ6.out; have z7 := SZ7.out; have z8 := SZ8.out; have z9 := SZ9.out; have z10 := SZ10.out; have z11 := SZ11.out; have z12 := SZ12.out; have z13 := SZ13.out; omega))
  replace RW5 := Lib.hid (RW5.out.grown hg (fun b h => by have h1 := RW3.out.2 b h; have z0 := SZ0.out; have z1 := SZ1.out; have z2 := SZ2.out; have z3 := SZ3.out; have z4 := SZ4.out; have z5 := SZ5.out; have z6 := SZ6.out; have z7 := SZ7.out; have z8 := SZ8.out; have z9 := SZ9.out; have z10 := SZ10.out; have z11 := SZ11.out; have z12 := SZ12.out; have z13 := SZ13.out; omega))
  replace RW6 := Lib.hid (RW6.out.grown hg (fun b h => by have h1 := RW3.out.2 b h; have z0 := SZ0.out; have z1 := SZ1.out; have z2 := SZ2.out; have z3 := SZ3.out; have z4 := SZ4.out; have z5 := SZ5.out; have z6 := SZ6.out; have z7 := SZ7.out; have z8 := SZ8.out; have z9 := SZ9.out; have z10 := SZ10.out; have z11 := SZ11.out; have z12 := SZ12.out; have z13 := SZ13.out; omega))
  replace RW7 := Lib.hid (RW7.out.grown hg (fun b h => by have h1 := RW3.out.2 b h; have z0 := SZ0.out; have z1 := SZ1.out; have z2 := SZ2.out; have z3 := SZ3.out; have z4 := SZ4.out; have z5 := SZ5.out; have z6 := SZ6.out; have z7 := SZ7.out; have z8 := SZ8.out; have z9 := SZ9.out; have z10 := SZ10.out; have z11 := SZ11.out; have z12 := SZ12.out; have z13 := SZ13.out; omega))
  replace RW3 := Lib.hid (RW3.out.turn ho)
  clear ho hg
  go_wp2_with fail
  obtain ⟨k_2, hk_2⟩ : ∃ q : Int, q = k_1 + ((n2 : Nat) : Int) := ⟨_, rfl⟩
  refine (marked_as (markInt64S_any (some ⟨g1004, 0, none⟩) n2 n2 w_5.heap.size k_1 _ w_14 (by omega) (by omega) (by omega) RW4.out.1) hk_2).mono ?_
  rintro d w_15 ⟨rfl, ho, hg⟩
  have pk_2 : 0 ≤ k_2 := by omega
  have qk_2 : k_2 ≤ 4294967296 * 2 := by omega
  have Hk_2 := Lib.hid hk_2
  clear hk_2
  have HB15 := Lib.hid (HB14.out.grown hg (fun b h => by have h1 := RW4.out.2 b h; have z0 := SZ0.out; have z1 := SZ1.out; have z2 := SZ2.out; have z3 := SZ3.out; have z4 := SZ4.out; have z5 := SZ5.out; have z6 := SZ6.out; have z7 := SZ7.out; have z8 := SZ8.out; have z9 := SZ9.out; have z10 := SZ10.out; have z11 := SZ11.out; have z12 := SZ12.out; have z13 := SZ13.out; have z14 := SZ14.out; omega))
  have SZ15 := Lib.hid (show w_14.heap.size ≤ w_15.heap.size from hg.size)
  have HC15 := Lib.hid (HC14.out.grown hg (fun b h => by have h1 := RW4.out.2 b h; have z0 := SZ0.out; have z1 := SZ1.out; have z2 := SZ2.out; have z3 := SZ3.out; have z4 := SZ4.out; have z5 := SZ5.out; have z6 := SZ6.out; have z7 := SZ7.out; have z8 := SZ8.out; have z9 := SZ9.out; have z10 := SZ10.out; have z11 := SZ11.out; have z12 := SZ12.out; have z13 := SZ13.out; have z14 := SZ14.out; omega))
  replace RW0 := Lib.hid (RW0.out.grown hg (fun b h => by have h1 := RW4.out.2 b h; have z0 := SZ0.out; have z1 := SZ1.out; have z2 := SZ2.out; have z3 := SZ3.out; have z4 := SZ4.out; have z5 := SZ5.out; have z6 := SZ6.out; have z7 := SZ7.out; have z8 := SZ8.out; have z9 := SZ9.out; have z10 := SZ10.out; have z11 := SZ11.out; have z12 := SZ12.out; have z13 := SZ13.out; have z14 := SZ14.out; omega))
  replace RW1 := Lib.hid (RW1.out.grown hg (fun b h => by have h1 := RW4.out.2 b h; have z0 := SZ0.out; have z1 := SZ1.out; have z2 := SZ2.out; have z3 := SZ3.out; have z4 := SZ4.out; have z5 := SZ5.out; have z6 := SZ6.out; have z7 := SZ7.out; have z8 := SZ8.out; have z9 := SZ9.out; have z10 := SZ10.out; have z11 := SZ11.out; have z12 := SZ12.out; have z13 := SZ13.out; have z14 := SZ14.out; omega))
  replace RW2 := Lib.hid (RW2.out.grown hg (fun b h => by have h1 := RW4.out.2 b h; have z0 := SZ0.out; have z1 := SZ1.out; have z2 := SZ2.out; have z3 := SZ3.out; have z4 := SZ4.out; have z5 := SZ5.out; have z6 := SZ6.out; have z7 := SZ7.out; have z8 := SZ8.out; have z9 := SZ9.out; have z10 := SZ10.out; have z11 := SZ11.out; have z12 := SZ12.out; have z13 := SZ13.out; have z14 := SZ14.out; omega))
  replace RW3 := Lib.hid (RW3.out.grown hg (fun b h => by have h1 := RW4.out.2 b h; have z0 := SZ0.out; have z1 := SZ1.out; have z2 := SZ2.out; have z3 := SZ3.out; have z4 := SZ4.out; have z5 := SZ5.out; have z6 := SZ6.out; have z7 := SZ7.out; have z8 := SZ8.out; have z9 := SZ9.out; have z10 := SZ10.out; have z11 := SZ11.out; have z12 := SZ12.out; have z13 := SZ13.out; have z14 := SZ14.out; omega))
  replace RW5 := Lib.hid (RW5.out.grown hg (fun b h => by have h1 := RW4.out.2 b h; have z0 := SZ0.out; have z1 := SZ1.out; have z2 := SZ2.out; have z3 := SZ3.out; have z4 := SZ4.out; have z5 := SZ5.out; have z6 := SZ6.out; have z7 := SZ7.out; have z8 := SZ8.out; have z9 := SZ9.out; have z10 := SZ10.out; have z11 := SZ11.out; have z12 := SZ12.out; have z13 := SZ13.out; have z14 := SZ14.out; omega))
  replace RW6 := Lib.hid (RW6.out.grown hg (fun b h => by have h1 := RW4.out.2 b h; have z0 := SZ0.out; have z1 := SZ1.out; have z2 := SZ2.out; have z3 := SZ3.out; have z4 := SZ4.out; have z5 := SZ5.out; have z6 := SZ6.out; have z7 := SZ7.out; have z8 := SZ8.out; have z9 := SZ9.out; have z10 := SZ10.out; have z11 := SZ11.out; have z12 := SZ12.out; have z13 := SZ13.out; have z14 := SZ14.out; omega))
  replace RW7 := Lib.hid (RW7.out.grown hg (fun b h => by have h1 := RW4.out.2 b h; have z0 := SZ0.out; have z1 := SZ1.out; have z2 := SZ2.out; have z3 := SZ3.out; have z4 := SZ4.out; have z5 := SZ5.out; have z6 := SZ6.out; have z7 := SZ7.out; have z8 := SZ8.out; have z9 := SZ9.out; have z10 := SZ10.out; have z11 := SZ11.out; have z12 := SZ12.out; have z13 := SZ13.out; have z14 := SZ14.out; omega))
  replace RW4 := Lib.hid (RW4.out.turn ho)
  clear ho hg
  go_wp2_with fail
  refine (eqJoinS_any aa5 aa2 nn2 cc5 cc2 r0 w_15 LL5.out (by omega) (RW5.out.cells) (RW2.out.cells)).mono ?_
  rintro d w_16 ⟨rfl, hb⟩
  have HB16 := Lib.hid (HB15.out.step hb)
  have SZ16 := Lib.hid (show w_15.heap.size ≤ w_16.heap.size from hb.size)
  replace RW0 := Lib.hid (RW0.out.below hb)
  replace RW1 := Lib.hid (RW1.out.below hb)
  replace RW2 := Lib.hid (RW2.out.below hb)
  replace RW3 := Lib.hid (RW3.out.below hb)
  replace RW4 := Lib.hid (RW4.out.below hb)
  replace RW5 := Lib.hid (RW5.out.below hb)
  replace RW6 := Lib.hid (RW6.out.below hb)
  replace RW7 := Lib.hid (RW7.out.below hb)
  have HC16 := Lib.hid (HC15.out.step hb)
  clear hb
  go_wp2_with fail
  obtain ⟨k_3, hk_3⟩ : ∃ q : Int, q = 1 + ((nn2 * 4 : Nat) : Int) := ⟨_, rfl⟩
  refine (marked_as (markJoinS_any aa5 nn2 cc5 w_7.heap.size 1 _ w_16 (by omega) (by omega) (by omega) RW5.out.1) hk_3).mono ?_
  rintro d w_17 ⟨rfl, ho, hg⟩
  have pk_3 : 0 ≤ k_3 := by omega
  have qk_3 : k_3 ≤ 4294967296 * 3 := by omega
  have Hk_3 := Lib.hid hk_3
  clear hk_3
  have HB17 := Lib.hid (HB16.out.grown hg (fun b h => by have h1 := RW5.out.2 b h; have z0 := SZ0.out; have z1 := SZ1.out; have z2 := SZ2.out; have z3 := SZ3.out; have z4 := SZ4.out; have z5 := SZ5.out; have z6 := SZ6.out; have z7 := SZ7.out; have z8 := SZ8.out; have z9 := SZ9.out; have z10 := SZ10.out; have z11 := SZ11.out; have z12 := SZ12.out; have z13 := SZ13.out; have z14 := SZ14.out; have z15 := SZ15.out; have z16 := SZ16.out; omega))
  have SZ17 := Lib.hid (show w_16.heap.size ≤ w_17.heap.size from hg.size)
  have HC17 := Lib.hid (HC16.out.grown hg (fun b h => by have h1 := RW5.out.2 b h; have z0 := SZ0.out; have z1 := SZ1.out; have z2 := SZ2.out; have z3 := SZ3.out; have z4 := SZ4.out; have z5 := SZ5.out; have z6 := SZ6.out; have z7 := SZ7.out; have z8 := SZ8.out; have z9 := SZ9.out; have z10 := SZ10.out; have z11 := SZ11.out; have z12 := SZ12.out; have z13 := SZ13.out; have z14 := SZ14.out; have z15 := SZ15.out; have z16 := SZ16.out; omega))
  replace RW0 := Lib.hid (RW0.out.grown hg (fun b h => by have h1 := RW5.out.2 b h; have z0 := SZ0.out; have z1 := SZ1.out; have z2 := SZ2.out; have z3 := SZ3.out; have z4 := SZ4.out; have z5 := SZ5.out; have z6 := SZ6.out; have z7 := SZ7.out; have z8 := SZ8.out; have z9 := SZ9.out; have z10 := SZ10.out; have z11 := SZ11.out; have z12 := SZ12.out; have z13 := SZ13.out; have z14 := SZ14.out; have z15 := SZ15.out; have z16 := SZ16.out; omega))
  replace RW1 := Lib.hid (RW1.out.grown hg (fun b h => by have h1 := RW5.out.2 b h; have z0 := SZ0.out; have z1 := SZ1.out; have z2 := SZ2.out; have z3 := SZ3.out; have z4 := SZ4.out; have z5 := SZ5.out; have z6 := SZ6.out; have z7 := SZ7.out; have z8 := SZ8.out; have z9 := SZ9.out; have z10 := SZ10.out; have z11 := SZ11.out; have z12 := SZ12.out; have z13 := SZ13.out; have z14 := SZ14.out; have z15 := SZ15.out; have z16 := SZ16.out; omega))
  replace RW2 := Lib.hid (RW2.out.grown hg (fun b h => by have h1 := RW5.out.2 b h; have z0 := SZ0.out; have z1 := SZ1.out; have z2 := SZ2.out; have z3 := SZ3.out; have z4 := SZ4.out; have z5 := SZ5.out; have z6 := SZ6.out; have z7 := SZ7.out; have z8 := SZ8.out; have z9 := SZ9.out; have z10 := SZ10.out; have z11 := SZ11.out; have z12 := SZ12.out; have z13 := SZ13.out; have z14 := SZ14.out; have z15 := SZ15.out; have z16 := SZ16.out; omega))
  replace RW3 := Lib.hid (RW3.out.grown hg (fun b h => by have h1 := RW5.out.2 b h; have z0 := SZ0.out; have z1 := SZ1.out; have z2 := SZ2.out; have z3 := SZ3.out; have z4 := SZ4.out; have z5 := SZ5.out; have z6 := SZ6.out; have z7 := SZ7.out; have z8 := SZ8.out; have z9 := SZ9.out; have z10 := SZ10.out; have z11 := SZ11.out; have z12 := SZ12.out; have z13 := SZ13.out; have z14 := SZ14.out; have z15 := SZ15.out; have z16 := SZ16.out; omega))
  replace RW4 := Lib.hid (RW4.out.grown hg (fun b h => by have h1 := RW5.out.2 b h; have z0 := SZ0.out; have z1 := SZ1.out; have z2 := SZ2.out; have z3 := SZ3.out; have z4 := SZ4.out; have z5 := SZ5.out; have z6 := SZ6.out; have z7 := SZ7.out; have z8 := SZ8.out; have z9 := SZ9.out; have z10 := SZ10.out; have z11 := SZ11.out; have z12 := SZ12.out; have z13 := SZ13.out; have z14 := SZ14.out; have z15 := SZ15.out; have z16 := SZ16.out; omega))
  replace RW6 := Lib.hid (RW6.out.grown hg (fun b h => by have h1 := RW5.out.2 b h; have z0 := SZ0.out; have z1 := SZ1.out; have z2 := SZ2.out; have z3 := SZ3.out; have z4 := SZ4.out; have z5 := SZ5.out; have z6 := SZ6.out; have z7 := SZ7.out; have z8 := SZ8.out; have z9 := SZ9.out; have z10 := SZ10.out; have z11 := SZ11.out; have z12 := SZ12.out; have z13 := SZ13.out; have z14 := SZ14.out; have z15 := SZ15.out; have z16 := SZ16.out; omega))
  replace RW7 := Lib.hid (RW7.out.grown hg (fun b h => by have h1 := RW5.out.2 b h; have z0 := SZ0.out; have z1 := SZ1.out; have z2 := SZ2.out; have z3 := SZ3.out; have z4 := SZ4.out; have z5 := SZ5.out; have z6 := SZ6.out; have z7 := SZ7.out; have z8 := SZ8.out; have z9 := SZ9.out; have z10 := SZ10.out; have z11 := SZ11.out; have z12 := SZ12.out; have z13 := SZ13.out; have z14 := SZ14.out; have z15 := SZ15.out; have z16 := SZ16.out; omega))
  replace RW5 := Lib.hid (RW5.out.turn ho)
  clear ho hg
  go_wp2_with fail
  refine (held_as (heldJoinS_any aa5 nn2 cc5 1 w_17 (by omega) (by omega) (by omega) (RW5.out.cells)) Hk_3.out).mono ?_
  rintro d w_18 ⟨rfl, hb⟩
  have HB18 := Lib.hid (HB17.out.step hb)
  have SZ18 := Lib.hid (show w_17.heap.size ≤ w_18.heap.size from hb.size)
  replace RW0 := Lib.hid (RW0.out.below hb)
  replace RW1 := Lib.hid (RW1.out.below hb)
  replace RW2 := Lib.hid (RW2.out.below hb)
  replace RW3 := Lib.hid (RW3.out.below hb)
  replace RW4 := Lib.hid (RW4.out.below hb)
  replace RW5 := Lib.hid (RW5.out.below hb)
  replace RW6 := Lib.hid (RW6.out.below hb)
  replace RW7 := Lib.hid (RW7.out.below hb)
  have HC18 := Lib.hid (HC17.out.step hb)
  clear hb
  have bx0_0 : w_18.cell? ⟨w.heap.size, 0, none⟩ = some (.int .i64 a0_0) := (HC18.out.1.cell (p := ⟨w.heap.size, 0, none⟩) (by simp; try omega)).trans (by simp)
  have bx0_1 : w_18.cell? ⟨w.heap.size, 1, none⟩ = some (.int .i64 a0_1) := (HC18.out.1.cell (p := ⟨w.heap.size, 1, none⟩) (by simp; try omega)).trans (by simp)
  have bx0_2 : w_18.cell? ⟨w.heap.size, 2, none⟩ = some (.int .i64 a0_2) := (HC18.out.1.cell (p := ⟨w.heap.size, 2, none⟩) (by simp; try omega)).trans (by simp)
  have hzb : w.heap.size < w_18.heap.size := by have h := HC18.out.2; simp at h; omega
  go_wp2_with fail
  clear hzb bx0_0 bx0_1 bx0_2
  refine (toGlue_any a0_0 a0_1 a0_2 w_18).mono ?_
  rintro d w_19 ⟨rfl, hw⟩
  have hb : Below w_18.heap.size w_18 w_19 := by rw [← hw]; exact ((((Bel.refl _).alloc _).alloc _).alloc _).1
  have HB19 := Lib.hid (HB18.out.step hb)
  have SZ19 := Lib.hid (show w_18.heap.size ≤ w_19.heap.size from hb.size)
  replace RW0 := Lib.hid (RW0.out.below hb)
  replace RW1 := Lib.hid (RW1.out.below hb)
  replace RW2 := Lib.hid (RW2.out.below hb)
  replace RW3 := Lib.hid (RW3.out.below hb)
  replace RW4 := Lib.hid (RW4.out.below hb)
  replace RW5 := Lib.hid (RW5.out.below hb)
  replace RW6 := Lib.hid (RW6.out.below hb)
  replace RW7 := Lib.hid (RW7.out.below hb)
  have HC19 := Lib.hid (HC18.out.step hb)
  clear hw hb
  go_wp2_with fail
  refine (toInt64S_any a1 n1 c1 z1 w_19 L1.out b1 (S1.out.below HB19.out.1)).mono ?_
  rintro d w_20 ⟨g1008, rfl, ho, hb⟩
  have RW8 := Lib.hid (Row.mk_ ho)
  have HB20 := Lib.hid (HB19.out.step hb)
  have SZ20 := Lib.hid (show w_19.heap.size ≤ w_20.heap.size from hb.size)
  replace RW0 := Lib.hid (RW0.out.below hb)
  replace RW1 := Lib.hid (RW1.out.below hb)
  replace RW2 := Lib.hid (RW2.out.below hb)
  replace RW3 := Lib.hid (RW3.out.below hb)
  replace RW4 := Lib.hid (RW4.out.below hb)
  replace RW5 := Lib.hid (RW5.out.below hb)
  replace RW6 := Lib.hid (RW6.out.below hb)
  replace RW7 := Lib.hid (RW7.out.below hb)
  have HC20 := Lib.hid (HC19.out.step hb)
  clear ho hb
  go_wp2_with fail
  refine (toInt64S_any a2 n2 c2 z2 w_20 L2.out b2 (S2.out.below HB20.out.1)).mono ?_
  rintro d w_21 ⟨g1009, rfl, ho, hb⟩
  have RW9 := Lib.hid (Row.mk_ ho)
  have HB21 := Lib.hid (HB20.out.step hb)
  have SZ21 := Lib.hid (show w_20.heap.size ≤ w_21.heap.size from hb.size)
  replace RW0 := Lib.hid (RW0.out.below hb)
  replace RW1 := Lib.hid (RW1.out.below hb)
  replace RW2 := Lib.hid (RW2.out.below hb)
  replace RW3 := Lib.hid (RW3.out.below hb)
  replace RW4 := Lib.hid (RW4.out.below hb)
  replace RW5 := Lib.hid (RW5.out.below hb)
  replace RW6 := Lib.hid (RW6.out.below hb)
  replace RW7 := Lib.hid (RW7.out.below hb)
  replace RW8 := Lib.hid (RW8.out.below hb)
  have HC21 := Lib.hid (HC20.out.step hb)
  clear ho hb
  go_wp2_with fail
  refine (impl_PressPlan w_21 a0_0 Wa0_0.out a0_1 Wa0_1.out a0_2 Wa0_2.out (some ⟨g1008, 0, none⟩) n1 n1 z1 L1.out b1 (RW8.out.cells) W1.out (some ⟨g1009, 0, none⟩) n2 n2 z2 L2.out b2 (RW9.out.cells) W2.out a3 WA3.out).mono ?_
  rw [Er0.out, Er1.out]
  rintro d w_22 ⟨aa10, nn10, cc10, rfl, ll10, bb10, ho, hb⟩
  have RW10 := Lib.hid (Row.mk_ ho)
  have HB22 := Lib.hid (HB21.out.step hb)
  have SZ22 := Lib.hid (show w_21.heap.size ≤ w_22.heap.size from hb.size)
  replace RW0 := Lib.hid (RW0.out.below hb)
  replace RW1 := Lib.hid (RW1.out.below hb)
  replace RW2 := Lib.hid (RW2.out.below hb)
  replace RW3 := Lib.hid (RW3.out.below hb)
  replace RW4 := Lib.hid (RW4.out.below hb)
  replace RW5 := Lib.hid (RW5.out.below hb)
  replace RW6 := Lib.hid (RW6.out.below hb)
  replace RW7 := Lib.hid (RW7.out.below hb)
  replace RW8 := Lib.hid (RW8.out.below hb)
  replace RW9 := Lib.hid (RW9.out.below hb)
  have HC22 := Lib.hid (HC21.out.step hb)
  have LL10 := Lib.hid ll10
  clear ho hb ll10
  obtain rfl : nn2 = nn10 := by have h1 := LL10.out; have h2 := LL2.out; omega
  go_wp2_with fail
  refine (eqJoinS_any aa10 aa2 nn2 cc10 cc2 r0 w_22 LL10.out (by omega) (RW10.out.cells) (RW2.out.cells)).mono ?_
  rintro d w_23 ⟨rfl, hb⟩
  have HB23 := Lib.hid (HB22.out.step hb)
  have SZ23 := Lib.hid (show w_22.heap.size ≤ w_23.heap.size from hb.size)
  replace RW0 := Lib.hid (RW0.out.below hb)
  replace RW1 := Lib.hid (RW1.out.below hb)
  replace RW2 := Lib.hid (RW2.out.below hb)
  replace RW3 := Lib.hid (RW3.out.below hb)
  replace RW4 := Lib.hid (RW4.out.below hb)
  replace RW5 := Lib.hid (RW5.out.below hb)
  replace RW6 := Lib.hid (RW6.out.below hb)
  replace RW7 := Lib.hid (RW7.out.below hb)
  replace RW8 := Lib.hid (RW8.out.below hb)
  replace RW9 := Lib.hid (RW9.out.below hb)
  replace RW10 := Lib.hid (RW10.out.below hb)
  have HC23 := Lib.hid (HC22.out.step hb)
  clear hb
  go_wp2_with fail
  refine (held_as (heldJoinS_any aa5 nn2 cc5 1 w_23 (by omega) (by omega) (by omega) (RW5.out.cells)) Hk_3.out).mono ?_
  rintro d w_24 ⟨rfl, hb⟩
  have HB24 := Lib.hid (HB23.out.step hb)
  have SZ24 := Lib.hid (show w_23.heap.size ≤ w_24.heap.size from hb.size)
  replace RW0 := Lib.hid (RW0.out.below hb)
  replace RW1 := Lib.hid (RW1.out.below hb)
  replace RW2 := Lib.hid (RW2.out.below hb)
  replace RW3 := Lib.hid (RW3.out.below hb)
  replace RW4 := Lib.hid (RW4.out.below hb)
  replace RW5 := Lib.hid (RW5.out.below hb)
  replace RW6 := Lib.hid (RW6.out.below hb)
  replace RW7 := Lib.hid (RW7.out.below hb)
  replace RW8 := Lib.hid (RW8.out.below hb)
  replace RW9 := Lib.hid (RW9.out.below hb)
  replace RW10 := Lib.hid (RW10.out.below hb)
  have HC24 := Lib.hid (HC23.out.step hb)
  clear hb
  go_wp2_with fail
  go_ret
  exact lawEnd_of HB24.out

/-! ### From the walk to the statement -/
set_option maxRecDepth 100000 in
theorem FnExactPressPlan_lifted (os : Os) (started : os.Started) (H : Type) (enc : TypeId × Value → H) :
    ReturnsInHanded {} Try.checked os 12 .any (Rows.fnExactPressPlanSpec.pre6 enc Try.prog Try.f12 Rows.fnExactPressPlanRow.domain false) (Rows.fnExactPressPlanSpec.post enc Try.prog Try.f12 false true false false) := by
  refine lifted_law (C := Try.checked) (tb := 4) own started (by kernel_rfl) Try.func12
    (ChangeSpec.witness6 (enc := enc) (C := Try.checked) false ⟨#[], #[.agg #[.int .i64 0, .int .i64 0, .int .i64 0], .slice none 0 0, .slice none 0 0, .int .i64 0], []⟩ 8 (by kernel_rfl) (by kernel_rfl) (by kernel_rfl) (by kernel_rfl))
    laidOut (by kernel_rfl) rfl rfl Try.underlying4 (fun ds h => by match ds, h with | [_, _, _, _], _ => rfl) ?_
  intro W base args ds p hval hA
  rw [Try.params12] at hA hval
  obtain ⟨v0, vs0, d0, ds0, p0, q0, hargs, rfl, rfl, h0, r0⟩ := trodAll_cons hA
  obtain ⟨v1, vs1, d1, ds1, p1, q1, rfl, rfl, rfl, h1, r1⟩ := trodAll_cons r0
  obtain ⟨v2, vs2, d2, ds2, p2, q2, rfl, rfl, rfl, h2, r2⟩ := trodAll_cons r1
  obtain ⟨v3, vs3, d3, ds3, p3, q3, rfl, rfl, rfl, h3, r3⟩ := trodAll_cons r2
  obtain ⟨rfl, rfl, rfl⟩ := trodAll_nil r3
  obtain rfl : args = #[v0, v1, v2, v3] := by cases args; simp_all
  obtain ⟨u0_0, u0_1, u0_2, y0_0, y0_1, y0_2, m0, rfl, rfl, _, t0_0, t0_1, t0_2⟩ := open_agg3 Try.underlying23 (by kernel_rfl) (by kernel_rfl) (hval 0 23 v0 rfl rfl) h0
  obtain ⟨a0_0, e0_0, _, w0_0⟩ := DataW.trod_int Try.underlying2 t0_0
  simp only [List.cons.injEq, and_true] at e0_0
  subst e0_0
  obtain ⟨a0_1, e0_1, _, w0_1⟩ := DataW.trod_int Try.underlying2 t0_1
  simp only [List.cons.injEq, and_true] at e0_1
  subst e0_1
  obtain ⟨a0_2, e0_2, _, w0_2⟩ := DataW.trod_int Try.underlying2 t0_2
  simp only [List.cons.injEq, and_true] at e0_2
  subst e0_2
  obtain ⟨a1, n1, c1, z1, rfl, l1, m1, s1, w1⟩ := open_ints_at Try.underlying58 Try.underlying2 (by kernel_rfl) (hval 1 58 v1 rfl rfl) h1
  obtain ⟨a2, n2, c2, z2, rfl, l2, m2, s2, w2⟩ := open_ints_at Try.underlying58 Try.underlying2 (by kernel_rfl) (hval 2 58 v2 rfl rfl) h2
  obtain ⟨a3, rfl, rfl, rfl, w3⟩ := open_int Try.underlying2 (hval 3 2 v3 rfl rfl) h3
  first | exact FnExactPressPlan_walk a0_0 w0_0 a0_1 w0_1 a0_2 w0_2 a1 n1 c1 z1 l1 m1 s1 w1 a2 n2 c2 z2 l2 m2 s2 w2 a3 w3 W | exact FnExactPressPlan_walk W a0_0 w0_0 a0_1 w0_1 a0_2 w0_2 a1 n1 c1 z1 l1 m1 s1 w1 a2 n2 c2 z2 l2 m2 s2 w2 a3 w3

theorem FnExactPressPlan_over : Rows.fnExactPressPlanRow.holds Try.pinned (OpenSpec.ofChange Rows.fnExactPressPlanSpec) :=
  OpenClaim.holds_of_wide 12 Try.f12 rfl rfl rfl rfl rfl rfl rfl ⟨rfl, rfl, rfl, rfl, rfl⟩ rfl rfl rfl rfl rfl (by kernel_rfl) Try.func12 (by kernel_rfl)
    (of_decide_eq_true (by kernel_rfl)) (by unfold Func.isWrapper; first | (rw [if_pos (by decide +kernel)]; kernel_rfl) | (rw [if_neg (by decide +kernel)]; exact ⟨rfl, rfl⟩))
    (fun os started H enc _ => FnExactPressPlan_lifted os started H enc)

/-- The statement. -/
theorem FnExactPressPlan_holds : Rows.FnExactPressPlanSaid := FnExactPressPlan_over
#print axioms FnExactPressPlan_holds


end Go.Proofs.Ytcajpedhfljhdaa
