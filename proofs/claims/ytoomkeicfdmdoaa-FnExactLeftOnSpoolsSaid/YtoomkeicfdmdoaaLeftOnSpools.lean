/-
  The law FnExactLeftOnSpools returns true for all arguments. No condition.
-/
import Derived.Test.YtoomkeicfdmdoaaLeft
import Derived.Test.YtoomkeicfdmdoaaRow
import Derived.Test.YtoomkeicfdmdoaaRows
import Derived.Test.YtoomkeicfdmdoaaBase
import Derived.Outline
namespace Go.Proofs.Ytoomkeicfdmdoaa
open Go.ChangeShapes Go.WideShapes Go.ChangeAt Go.RowKit Go.Deep
open Go.ChangeMaps (open_string shut_string)
open Go.Joins


set_option maxRecDepth 100000 in
set_option maxHeartbeats 6400000 in
theorem FnExactLeftOnSpools_walk (w : World) (a0 : Option Addr) (n0 c0 : Nat) (z0 : List Int) (l0 : z0.length = n0) (_ : n0 ≤ maxLen) (s0 : CellsAt w a0 (z0.map (Value.int .i64))) (w0 : ∀ z ∈ z0, (Lit.int .i64 z).wf = true) (a1 : Option Addr) (n1 c1 : Nat) (z1 : List Int) (l1 : z1.length = n1) (_ : n1 ≤ maxLen) (s1 : CellsAt w a1 (z1.map (Value.int .i64))) (w1 : ∀ z ∈ z1, (Lit.int .i64 z).wf = true) (a2 : Option Addr) (n2 c2 : Nat) (z2 : List Int) (l2 : z2.length = n2) (_ : n2 ≤ maxLen) (s2 : CellsAt w a2 (z2.map (Value.int .i64))) (w2 : ∀ z ∈ z2, (Lit.int .i64 z).wf = true) :
    Calls Try.prog 5 #[.slice a0 n0 c0, .slice a1 n1 c1, .slice a2 n2 c2] w (LawEnd w) := by
  obtain ⟨r0, er0⟩ : ∃ q, leftL z0 z1 z2 n0 n1 n2 = q := ⟨_, rfl⟩
  have Er0 := Lib.hid er0
  clear er0
  obtain ⟨r1, er1⟩ : ∃ q, leftC z0 z1 z2 n0 n1 n2 = q := ⟨_, rfl⟩
  have Er1 := Lib.hid er1
  clear er1
  have L0 := Lib.hid l0
  have S0 := Lib.hid s0
  have W0 := Lib.hid w0
  have L1 := Lib.hid l1
  have S1 := Lib.hid s1
  have W1 := Lib.hid w1
  have L2 := Lib.hid l2
  have S2 := Lib.hid s2
  have W2 := Lib.hid w2
  clear w2 s2 l2 w1 s1 l1 w0 s0 l0
  by_cases g0 : 1048576 < (n0 : Int)
  · go_enter Try.func5, Try.ntmps5
    go_wp2_with fail
    go_ret
    exact ⟨rfl, Below.refl _ _⟩
  by_cases g1 : 1048576 < (n1 : Int)
  · go_enter Try.func5, Try.ntmps5
    go_wp2_with fail
    go_ret
    exact ⟨rfl, Below.refl _ _⟩
  by_cases g2 : 1048576 < (n2 : Int)
  · go_enter Try.func5, Try.ntmps5
    go_wp2_with fail
    go_ret
    exact ⟨rfl, Below.refl _ _⟩
  have b0 : n0 ≤ 1048576 := by omega
  have b1 : n1 ≤ 1048576 := by omega
  have b2 : n2 ≤ 1048576 := by omega
  go_enter Try.func5, Try.ntmps5
  have HB0 := Lib.hid (Bel.refl w)
  go_wp2_with fail
  refine (toInt64S_any a0 n0 c0 z0 w L0.out b0 (S0.out.below HB0.out.1)).mono ?_
  rintro d w_1 ⟨g1000, rfl, ho, hb⟩
  have RW0 := Lib.hid (Row.mk_ ho)
  have HB1 := Lib.hid (HB0.out.step hb)
  have SZ1 := Lib.hid (show w.heap.size ≤ w_1.heap.size from hb.size)
  clear ho hb
  go_wp2_with fail
  refine (toInt64S_any a1 n1 c1 z1 w_1 L1.out b1 (S1.out.below HB1.out.1)).mono ?_
  rintro d w_2 ⟨g1001, rfl, ho, hb⟩
  have RW1 := Lib.hid (Row.mk_ ho)
  have HB2 := Lib.hid (HB1.out.step hb)
  have SZ2 := Lib.hid (show w_1.heap.size ≤ w_2.heap.size from hb.size)
  replace RW0 := Lib.hid (RW0.out.below hb)
  clear ho hb
  go_wp2_with fail
  refine (toInt64S_any a2 n2 c2 z2 w_2 L2.out b2 (S2.out.below HB2.out.1)).mono ?_
  rintro d w_3 ⟨g1002, rfl, ho, hb⟩
  have RW2 := Lib.hid (Row.mk_ ho)
  have HB3 := Lib.hid (HB2.out.step hb)
  have SZ3 := Lib.hid (show w_2.heap.size ≤ w_3.heap.size from hb.size)
  replace RW0 := Lib.hid (RW0.out.below hb)
  replace RW1 := Lib.hid (RW1.out.below hb)
  clear ho hb
  go_wp2_with fail
  refine (spec_LeftOnSpools w_3 g1000 n0 z0 L0.out b0 (RW0.out.cells) W0.out g1001 n1 z1 L1.out b1 (RW1.out.cells) W1.out g1002 n2 z2 L2.out b2 (RW2.out.cells) W2.out).mono ?_
  rw [Er0.out, Er1.out]
  rintro d w_4 ⟨aa3, nn3, cc3, rfl, ll3, bb3, ho, hb⟩
  have RW3 := Lib.hid (Row.mk_ ho)
  have HB4 := Lib.hid (HB3.out.step hb)
  have SZ4 := Lib.hid (show w_3.heap.size ≤ w_4.heap.size from hb.size)
  replace RW0 := Lib.hid (RW0.out.below hb)
  replace RW1 := Lib.hid (RW1.out.below hb)
  replace RW2 := Lib.hid (RW2.out.below hb)
  have LL3 := Lib.hid ll3
  clear ho hb ll3
  go_wp2_with fail
  refine (toInt64S_any a0 n0 c0 z0 w_4 L0.out b0 (S0.out.below HB4.out.1)).mono ?_
  rintro d w_5 ⟨g1004, rfl, ho, hb⟩
  have RW4 := Lib.hid (Row.mk_ ho)
  have HB5 := Lib.hid (HB4.out.step hb)
  have SZ5 := Lib.hid (show w_4.heap.size ≤ w_5.heap.size from hb.size)
  replace RW0 := Lib.hid (RW0.out.below hb)
  replace RW1 := Lib.hid (RW1.out.below hb)
  replace RW2 := Lib.hid (RW2.out.below hb)
  replace RW3 := Lib.hid (RW3.out.below hb)
  clear ho hb
  go_wp2_with fail
  refine (toInt64S_any a1 n1 c1 z1 w_5 L1.out b1 (S1.out.below HB5.out.1)).mono ?_
  rintro d w_6 ⟨g1005, rfl, ho, hb⟩
  have RW5 := Lib.hid (Row.mk_ ho)
  have HB6 := Lib.hid (HB5.out.step hb)
  have SZ6 := Lib.hid (show w_5.heap.size ≤ w_6.heap.size from hb.size)
  replace RW0 := Lib.hid (RW0.out.below hb)
  replace RW1 := Lib.hid (RW1.out.below hb)
  replace RW2 := Lib.hid (RW2.out.below hb)
  replace RW3 := Lib.hid (RW3.out.below hb)
  replace RW4 := Lib.hid (RW4.out.below hb)
  clear ho hb
  go_wp2_with fail
  refine (toInt64S_any a2 n2 c2 z2 w_6 L2.out b2 (S2.out.below HB6.out.1)).mono ?_
  rintro d w_7 ⟨g1006, rfl, ho, hb⟩
  have RW6 := Lib.hid (Row.mk_ ho)
  have HB7 := Lib.hid (HB6.out.step hb)
  have SZ7 := Lib.hid (show w_6.heap.size ≤ w_7.heap.size from hb.size)
  replace RW0 := Lib.hid (RW0.out.below hb)
  replace RW1 := Lib.hid (RW1.out.below hb)
  replace RW2 := Lib.hid (RW2.out.below hb)
  replace RW3 := Lib.hid (RW3.out.below hb)
  replace RW4 := Lib.hid (RW4.out.below hb)
  replace RW5 := Lib.hid (RW5.out.below hb)
  clear ho hb
  go_wp2_with fail
  refine (impl_LeftOnSpools w_7 g1004 n0 z0 L0.out b0 (RW4.out.cells) W0.out g1005 n1 z1 L1.out b1 (RW5.out.cells) W1.out g1006 n2 z2 L2.out b2 (RW6.out.cells) W2.out).mono ?_
  rw [Er0.out, Er1.out]
  rintro d w_8 ⟨aa7, nn7, cc7, rfl, ll7, bb7, ho, hb⟩
  have RW7 := Lib.hid (Row.mk_ ho)
  have HB8 := Lib.hid (HB7.out.step hb)
  have SZ8 := Lib.hid (show w_7.heap.size ≤ w_8.heap.size from hb.size)
  replace RW0 := Lib.hid (RW0.out.below hb)
  replace RW1 := Lib.hid (RW1.out.below hb)
  replace RW2 := Lib.hid (RW2.out.below hb)
  replace RW3 := Lib.hid (RW3.out.below hb)
  replace RW4 := Lib.hid (RW4.out.below hb)
  replace RW5 := Lib.hid (RW5.out.below hb)
  replace RW6 := Lib.hid (RW6.out.below hb)
  have LL7 := Lib.hid ll7
  clear ho hb ll7
  obtain rfl : nn3 = nn7 := by have h1 := LL7.out; have h2 := LL3.out; omega
  go_wp2_with fail
  refine (eqInt64S_any aa7 aa3 nn3 cc7 cc3 r0 w_8 (by have h := LL7.out; omega) (by omega) (RW7.out.cells) (RW3.out.cells)).mono ?_
  rintro d w_9 ⟨rfl, hb⟩
  have HB9 := Lib.hid (HB8.out.step hb)
  have SZ9 := Lib.hid (show w_8.heap.size ≤ w_9.heap.size from hb.size)
  replace RW0 := Lib.hid (RW0.out.below hb)
  replace RW1 := Lib.hid (RW1.out.below hb)
  replace RW2 := Lib.hid (RW2.out.below hb)
  replace RW3 := Lib.hid (RW3.out.below hb)
  replace RW4 := Lib.hid (RW4.out.below hb)
  replace RW5 := Lib.hid (RW5.out.below hb)
  replace RW6 := Lib.hid (RW6.out.below hb)
  replace RW7 := Lib.hid (RW7.out.below hb)
  clear hb
  go_wp2_with fail
  refine (toInt64S_any a0 n0 c0 z0 w_9 L0.out b0 (S0.out.below HB9.out.1)).mono ?_
  rintro d w_10 ⟨g1008, rfl, ho, hb⟩
  have RW8 := Lib.hid (Row.mk_ ho)
  have HB10 := Lib.hid (HB9.out.step hb)
  have SZ10 := Lib.hid (show w_9.heap.size ≤ w_10.heap.size from hb.size)
  replace RW0 := Lib.hid (RW0.out.below hb)
  replace RW1 := Lib.hid (RW1.out.below hb)
  replace RW2 := Lib.hid (RW2.out.below hb)
  replace RW3 := Lib.hid (RW3.out.below hb)
  replace RW4 := Lib.hid (RW4.out.below hb)
  replace RW5 := Lib.hid (RW5.out.below hb)
  replace RW6 := Lib.hid (RW6.out.below hb)
  replace RW7 := Lib.hid (RW7.out.below hb)
  clear ho hb
  go_wp2_with fail
  refine (eqInt64S_any (some ⟨g1004, 0, none⟩) (some ⟨g1008, 0, none⟩) n0 n0 n0 z0 w_10 L0.out (by omega) (RW4.out.cells) (RW8.out.cells)).mono ?_
  rintro d w_11 ⟨rfl, hb⟩
  have HB11 := Lib.hid (HB10.out.step hb)
  have SZ11 := Lib.hid (show w_10.heap.size ≤ w_11.heap.size from hb.size)
  replace RW0 := Lib.hid (RW0.out.below hb)
  replace RW1 := Lib.hid (RW1.out.below hb)
  replace RW2 := Lib.hid (RW2.out.below hb)
  replace RW3 := Lib.hid (RW3.out.below hb)
  replace RW4 := Lib.hid (RW4.out.below hb)
  replace RW5 := Lib.hid (RW5.out.below hb)
  replace RW6 := Lib.hid (RW6.out.below hb)
  replace RW7 := Lib.hid (RW7.out.below hb)
  replace RW8 := Lib.hid (RW8.out.below hb)
  clear hb
  go_wp2_with fail
  refine (toInt64S_any a1 n1 c1 z1 w_11 L1.out b1 (S1.out.below HB11.out.1)).mono ?_
  rintro d w_12 ⟨g1009, rfl, ho, hb⟩
  have RW9 := Lib.hid (Row.mk_ ho)
  have HB12 := Lib.hid (HB11.out.step hb)
  have SZ12 := Lib.hid (show w_11.heap.size ≤ w_12.heap.size from hb.size)
  replace RW0 := Lib.hid (RW0.out.below hb)
  replace RW1 := Lib.hid (RW1.out.below hb)
  replace RW2 := Lib.hid (RW2.out.below hb)
  replace RW3 := Lib.hid (RW3.out.below hb)
  replace RW4 := Lib.hid (RW4.out.below hb)
  replace RW5 := Lib.hid (RW5.out.below hb)
  replace RW6 := Lib.hid (RW6.out.below hb)
  replace RW7 := Lib.hid (RW7.out.below hb)
  replace RW8 := Lib.hid (RW8.out.below hb)
  clear ho hb
  go_wp2_with fail
  refine (eqInt64S_any (some ⟨g1005, 0, none⟩) (some ⟨g1009, 0, none⟩) n1 n1 n1 z1 w_12 L1.out (by omega) (RW5.out.cells) (RW9.out.cells)).mono ?_
  rintro d w_13 ⟨rfl, hb⟩
  have HB13 := Lib.hid (HB12.out.step hb)
  have SZ13 := Lib.hid (show w_12.heap.size ≤ w_13.heap.size from hb.size)
  replace RW0 := Lib.hid (RW0.out.below hb)
  replace RW1 := Lib.hid (RW1.out.below hb)
  replace RW2 := Lib.hid (RW2.out.below hb)
  replace RW3 := Lib.hid (RW3.out.below hb)
  replace RW4 := Lib.hid (RW4.out.below hb)
  replace RW5 := Lib.hid (RW5.out.below hb)
  replace RW6 := Lib.hid (RW6.out.below hb)
  replace RW7 := Lib.hid (RW7.out.below hb)
  replace RW8 := Lib.hid (RW8.out.below hb)
  replace RW9 := Lib.hid (RW9.out.below hb)
  clear hb
  go_wp2_with fail
  refine (toInt64S_any a2 n2 c2 z2 w_13 L2.out b2 (S2.out.below HB13.out.1)).mono ?_
  rintro d w_14 ⟨g1010, rfl, ho, hb⟩
  have RW10 := Lib.hid (Row.mk_ ho)
  have HB14 := Lib.hid (HB13.out.step hb)
  have SZ14 := Lib.hid (show w_13.heap.size ≤ w_14.heap.size from hb.size)
  replace RW0 := Lib.hid (RW0.out.below hb)
  replace RW1 := Lib.hid (RW1.out.below hb)
  replace RW2 := Lib.hid (RW2.out.below hb)
  replace RW3 := Lib.hid (RW3.out.below hb)
  replace RW4 := Lib.hid (RW4.out.below hb)
  replace RW5 := Lib.hid (RW5.out.below hb)
  replace RW6 := Lib.hid (RW6.out.below hb)
  replace RW7 := Lib.hid (RW7.out.below hb)
  replace RW8 := Lib.hid (RW8.out.below hb)
  replace RW9 := Lib.hid (RW9.out.below hb)
  clear ho hb
  go_wp2_with fail
  refine (eqInt64S_any (some ⟨g1006, 0, none⟩) (some ⟨g1010, 0, none⟩) n2 n2 n2 z2 w_14 L2.out (by omega) (RW6.out.cells) (RW10.out.cells)).mono ?_
  rintro d w_15 ⟨rfl, hb⟩
  have HB15 := Lib.hid (HB14.out.step hb)
  have SZ15 := Lib.hid (show w_14.heap.size ≤ w_15.heap.size from hb.size)
  replace RW0 := Lib.hid (RW0.out.below hb)
  replace RW1 := Lib.hid (RW1.out.below hb)
  replace RW2 := Lib.hid (RW2.out.below hb)
  replace RW3 := Lib.hid (RW3.out.below hb)
  replace RW4 := Lib.hid (RW4.out.below hb)
  replace RW5 := Lib.hid (RW5.out.below hb)
  replace RW6 := Lib.hid (RW6.out.below hb)
  replace RW7 := Lib.hid (RW7.out.below hb)
  replace RW8 := Lib.hid (RW8.out.below hb)
  replace RW9 := Lib.hid (RW9.out.below hb)
  replace RW10 := Lib.hid (RW10.out.below hb)
  clear hb
  go_wp2_with fail
  obtain ⟨k_1, hk_1⟩ : ∃ q : Int, q = 1 + ((n0 : Nat) : Int) := ⟨_, rfl⟩
  refine (marked_as (markInt64S_any (some ⟨g1004, 0, none⟩) n0 n0 w_4.heap.size 1 _ w_15 (by omega) (by omega) (by omega) RW4.out.1) hk_1).mono ?_
  rintro d w_16 ⟨rfl, ho, hg⟩
  have pk_1 : 0 ≤ k_1 := by omega
  have qk_1 : k_1 ≤ 4294967296 * 1 := by omega
  have Hk_1 := Lib.hid hk_1
  clear hk_1
  have HB16 := Lib.hid (HB15.out.grown hg (fun b h => by have h1 := RW4.out.2 b h; have z1 := SZ1.out; have z2 := SZ2.out; have z3 := SZ3.out; have z4 := SZ4.out; have z5 := SZ5.out; have z6 := SZ6.out; have z7 := SZ7.out; have z8 := SZ8.out; have z9 := SZ9.out; have z10 := SZ10.out; have z11 := SZ11.out; have z12 := SZ12.out; have z13 := SZ13.out; have z14 := SZ14.out; have z15 := SZ15.out; omega))
  have SZ16 := Lib.hid (show w_15.heap.size ≤ w_16.heap.size from hg.size)
  replace RW0 := Lib.hid (RW0.out.grown hg (fun b h => by have h1 := RW4.out.2 b h; have z1 := SZ1.out; have z2 := SZ2.out; have z3 := SZ3.out; have z4 := SZ4.out; have z5 := SZ5.out; have z6 := SZ6.out; have z7 := SZ7.out; have z8 := SZ8.out; have z9 := SZ9.out; have z10 := SZ10.out; have z11 := SZ11.out; have z12 := SZ12.out; have z13 := SZ13.out; have z14 := SZ14.out; have z15 := SZ15.out; omega))
  replace RW1 := Lib.hid (RW1.out.grown hg (fun b h => by have h1 := RW4.out.2 b h; have z1 := SZ1.out; have z2 := SZ2.out; have z3 := SZ3.out; have z4 := SZ4.out; have z5 := SZ5.out; have z6 := SZ6.out; have z7 := SZ7.out; have z8 := SZ8.out; have z9 := SZ9.out; have z10 := SZ10.out; have z11 := SZ11.out; have z12 := SZ12.out; have z13 := SZ13.out; have z14 := SZ14.out; have z15 := SZ15.out; omega))
  replace RW2 := Lib.hid (RW2.out.grown hg (fun b h => by have h1 := RW4.out.2 b h; have z1 := SZ1.out; have z2 := SZ2.out; have z3 := SZ3.out; have z4 := SZ4.out; have z5 := SZ5.out; have z6 := SZ6.out; have z7 := SZ7.out; have z8 := SZ8.out; have z9 := SZ9.out; have z10 := SZ10.out; have z11 := SZ11.out; have z12 := SZ12.out; have z13 := SZ13.out; have z14 := SZ14.out; have z15 := SZ15.out; omega))
  replace RW3 := Lib.hid (RW3.out.grown hg (fun b h => by have h1 := RW4.out.2 b h; have z1 := SZ1.out; have z2 := SZ2.out; have z3 := SZ3.out; have z4 := SZ4.out; have z5 := SZ5.out; have z6 := SZ6.out; have z7 := SZ7.out; have z8 := SZ8.out; have z9 := SZ9.out; have z10 := SZ10.out; have z11 := SZ11.out; have z12 := SZ12.out; have z13 := SZ13.out; have z14 := SZ14.out; have z15 := SZ15.out; omega))
  replace RW5 := Lib.hid (RW5.out.grown hg (fun b h => by have h1 := RW4.out.2 b h; have z1 := SZ1.out; have z2 := SZ2.out; have z3 := SZ3.out; have z4 := SZ4.out; have z5 := SZ5.out; have z6 := SZ6.out; have z7 := SZ7.out; have z8 := SZ8.out; have z9 := SZ9.out; have z10 := SZ10.out; have z11 := SZ11.out; have z12 := SZ12.out; have z13 := SZ13.out; have z14 := SZ14.out; have z15 := SZ15.out; omega))
  replace RW6 := Lib.hid (RW6.out.grown hg (fun b h => by have h1 := RW4.out.2 b h; have z1 := SZ1.out; have z2 := SZ2.out; have z3 := SZ3.out; have z4 := SZ4.out; have z5 := SZ5.out; have z6 := SZ6.out; have z7 := SZ7.out; have z8 := SZ8.out; have z9 := SZ9.out; have z10 := SZ10.out; have z11 := SZ11.out; have z12 := SZ12.out; have z13 := SZ13.out; have z14 := SZ14.out; have z15 := SZ15.out; omega))
  replace RW7 := Lib.hid (RW7.out.grown hg (fun b h => by have h1 := RW4.out.2 b h; have z1 := SZ1.out; have z2 := SZ2.out; have z3 := SZ3.out; have z4 := SZ4.out; have z5 := SZ5.out; have z6 := SZ6.out; have z7 := SZ7.out; have z8 := SZ8.out; have z9 := SZ9.out; have z10 := SZ10.out; have z11 := SZ11.out; have z12 := SZ12.out; have z13 := SZ13.out; have z14 := SZ14.out; have z15 := SZ15.out; omega))
  replace RW8 := Lib.hid (RW8.out.grown hg (fun b h => by have h1 := RW4.out.2 b h; have z1 := SZ1.out; have z2 := SZ2.out; have z3 := SZ3.out; have z4 := SZ4.out; have z5 := SZ5.out; have z6 := SZ6.out; have z7 := SZ7.out; have z8 := SZ8.out; have z9 := SZ9.out; have z10 := SZ10.out; have z11 := SZ11.out; have z12 := SZ12.out; have z13 := SZ13.out; have z14 := SZ14.out; have z15 := SZ15.out; omega))
  replace RW9 := Lib.hid (RW9.out.grown hg (fun b h => by have h1 := RW4.out.2 b h; have z1 := SZ1.out; have z2 := SZ2.out; have z3 := SZ3.out; have z4 := SZ4.out; have z5 := SZ5.out; have z6 := SZ6.out; have z7 := SZ7.out; have z8 := SZ8.out; have z9 := SZ9.out; have z10 := SZ10.out; have z11 := SZ11.out; have z12 := SZ12.out; have z13 := SZ13.out; have z14 := SZ14.out; have z15 := SZ15.out; omega))
  replace RW10 := Lib.hid (RW10.out.grown hg (fun b h => by have h1 := RW4.out.2 b h; have z1 := SZ1.out; have z2 := SZ2.out; have z3 := SZ3.out; have z4 := SZ4.out; have z5 := SZ5.out; have z6 := SZ6.out; have z7 := SZ7.out; have z8 := SZ8.out; have z9 := SZ9.out; have z10 := SZ10.out; have z11 := SZ11.out; have z12 := SZ12.out; have z13 := SZ13.out; have z14 := SZ14.out; have z15 := SZ15.out; omega))
  replace RW4 := Lib.hid (RW4.out.turn ho)
  clear ho hg
  go_wp2_with fail
  obtain ⟨k_2, hk_2⟩ : ∃ q : Int, q = k_1 + ((n1 : Nat) : Int) := ⟨_, rfl⟩
  refine (marked_as (markInt64S_any (some ⟨g1005, 0, none⟩) n1 n1 w_5.heap.size k_1 _ w_16 (by omega) (by omega) (by omega) RW5.out.1) hk_2).mono ?_
  rintro d w_17 ⟨rfl, ho, hg⟩
  have pk_2 : 0 ≤ k_2 := by omega
  have qk_2 : k_2 ≤ 4294967296 * 2 := by omega
  have Hk_2 := Lib.hid hk_2
  clear hk_2
  have HB17 := Lib.hid (HB16.out.grown hg (fun b h => by have h1 := RW5.out.2 b h; have z1 := SZ1.out; have z2 := SZ2.out; have z3 := SZ3.out; have z4 := SZ4.out; have z5 := SZ5.out; have z6 := SZ6.out; have z7 := SZ7.out; have z8 := SZ8.out; have z9 := SZ9.out; have z10 := SZ10.out; have z11 := SZ11.out; have z12 := SZ12.out; have z13 := SZ13.out; have z14 := SZ14.out; have z15 := SZ15.out; have z16 := SZ16.out; omega))
  have SZ17 := Lib.hid (show w_16.heap.size ≤ w_17.heap.size from hg.size)
  replace RW0 := Lib.hid (RW0.out.grown hg (fun b h => by have h1 := RW5.out.2 b h; have z1 := SZ1.out; have z2 := SZ2.out; have z3 := SZ3.out; have z4 := SZ4.out; have z5 := SZ5.out; have z6 := SZ6.out; have z7 := SZ7.out; have z8 := SZ8.out; have z9 := SZ9.out; have z10 := SZ10.out; have z11 := SZ11.out; have z12 := SZ12.out; have z13 := SZ13.out; have z14 := SZ14.out; have z15 := SZ15.out; have z16 := SZ16.out; omega))
  replace RW1 := Lib.hid (RW1.out.grown hg (fun b h => by have h1 := RW5.out.2 b h; have z1 := SZ1.out; have z2 := SZ2.out; have z3 := SZ3.out; have z4 := SZ4.out; have z5 := SZ5.out; have z6 := SZ6.out; have z7 := SZ7.out; have z8 := SZ8.out; have z9 := SZ9.out; have z10 := SZ10.out; have z11 := SZ11.out; have z12 := SZ12.out; have z13 := SZ13.out; have z14 := SZ14.out; have z15 := SZ15.out; have z16 := SZ16.out; omega))
  replace RW2 := Lib.hid (RW2.out.grown hg (fun b h => by have h1 := RW5.out.2 b h; have z1 := SZ1.out; have z2 := SZ2.out; have z3 := SZ3.out; have z4 := SZ4.out; have z5 := SZ5.out; have z6 := SZ6.out; have z7 := SZ7.out; have z8 := SZ8.out; have z9 := SZ9.out; have z10 := SZ10.out; have z11 := SZ11.out; have z12 := SZ12.out; have z13 := SZ13.out; have z14 := SZ14.out; have z15 := SZ15.out; have z16 := SZ16.out; omega))
  replace RW3 := Lib.hid (RW3.out.grown hg (fun b h => by have h1 := RW5.out.2 b h; have z1 := SZ1.out; have z2 := SZ2.out; have z3 := SZ3.out; have z4 := SZ4.out; have z5 := SZ5.out; have z6 := SZ6.out; have z7 := SZ7.out; have z8 := SZ8.out; have z9 := SZ9.out; have z10 := SZ10.out; have z11 := SZ11.out; have z12 := SZ12.out; have z13 := SZ13.out; have z14 := SZ14.out; have z15 := SZ15.out; have z16 := SZ16.out; omega))
  replace RW4 := Lib.hid (RW4.out.grown hg (fun b h => by have h1 := RW5.out.2 b h; have z1 := SZ1.out; have z2 := SZ2.out; have z3 := SZ3.out; have z4 := SZ4.out; have z5 := SZ5.out; have z6 := SZ6.out; have z7 := SZ7.out; have z8 := SZ8.out; have z9 := SZ9.out; have z10 := SZ10.out; have z11 := SZ11.out; have z12 := SZ12.out; have z13 := SZ13.out; have z14 := SZ14.out; have z15 := SZ15.out; have z16 := SZ16.out; omega))
  replace RW6 := Lib.hid (RW6.out.grown hg (fun b h => by have h1 := RW5.out.2 b h; have z1 := SZ1.out; have z2 := SZ2.out; have z3 := SZ3.out; have z4 := SZ4.out; have z5 := SZ5.out; have z6 := SZ6.out; have z7 := SZ7.out; have z8 := SZ8.out; have z9 := SZ9.out; have z10 := SZ10.out; have z11 := SZ11.out; have z12 := SZ12.out; have z13 := SZ13.out; have z14 := SZ14.out; have z15 := SZ15.out; have z16 := SZ16.out; omega))
  replace RW7 := Lib.hid (RW7.out.grown hg (fun b h => by have h1 := RW5.out.2 b h; have z1 := SZ1.out; have z2 := SZ2.out; have z3 := SZ3.out; have z4 := SZ4.out; have z5 := SZ5.out; have z6 := SZ6.out; have z7 := SZ7.out; have z8 := SZ8.out; have z9 := SZ9.out; have z10 := SZ10.out; have z11 := SZ11.out; have z12 := SZ12.out; have z13 := SZ13.out; have z14 := SZ14.out; have z15 := SZ15.out; have z16 := SZ16.out; omega))
  replace RW8 := Lib.hid (RW8.out.grown hg (fun b h => by have h1 := RW5.out.2 b h; have z1 := SZ1.out; have z2 := SZ2.out; have z3 := SZ3.out; have z4 := SZ4.out; have z5 := SZ5.out; have z6 := SZ6.out; have z7 := SZ7.out; have z8 := SZ8.out; have z9 := SZ9.out; have z10 := SZ10.out; have z11 := SZ11.out; have z12 := SZ12.out; have z13 := SZ13.out; have z14 := SZ14.out; have z15 := SZ15.out; have z16 := SZ16.out; omega))
  replace RW9 := Lib.hid (RW9.out.grown hg (fun b h => by have h1 := RW5.out.2 b h; have z1 := SZ1.out; have z2 := SZ2.out; have z3 := SZ3.out; have z4 := SZ4.out; have z5 := SZ5.out; have z6 := SZ6.out; have z7 := SZ7.out; have z8 := SZ8.out; have z9 := SZ9.out; have z10 := SZ10.out; have z11 := SZ11.out; have z12 := SZ12.out; have z13 := SZ13.out; have z14 := SZ14.out; have z15 := SZ15.out; have z16 := SZ16.out; omega))
  replace RW10 := Lib.hid (RW10.out.grown hg (fun b h => by have h1 := RW5.out.2 b h; have z1 := SZ1.out; have z2 := SZ2.out; have z3 := SZ3.out; have z4 := SZ4.out; have z5 := SZ5.out; have z6 := SZ6.out; have z7 := SZ7.out; have z8 := SZ8.out; have z9 := SZ9.out; have z10 := SZ10.out; have z11 := SZ11.out; have z12 := SZ12.out; have z13 := SZ13.out; have z14 := SZ14.out; have z15 := SZ15.out; have z16 := SZ16.out; omega))
  replace RW5 := Lib.hid (RW5.out.turn ho)
  clear ho hg
  go_wp2_with fail
  obtain ⟨k_3, hk_3⟩ : ∃ q : Int, q = k_2 + ((n2 : Nat) : Int) := ⟨_, rfl⟩
  refine (marked_as (markInt64S_any (some ⟨g1006, 0, none⟩) n2 n2 w_6.heap.size k_2 _ w_17 (by omega) (by omega) (by omega) RW6.out.1) hk_3).mono ?_
  rintro d w_18 ⟨rfl, ho, hg⟩
  have pk_3 : 0 ≤ k_3 := by omega
  have qk_3 : k_3 ≤ 4294967296 * 3 := by omega
  have Hk_3 := Lib.hid hk_3
  clear hk_3
  have HB18 := Lib.hid (HB17.out.grown hg (fun b h => by have h1 := RW6.out.2 b h; have z1 := SZ1.out; have z2 := SZ2.out; have z3 := SZ3.out; have z4 := SZ4.out; have z5 := SZ5.out; have z6 := SZ6.out; have z7 := SZ7.out; have z8 := SZ8.out; have z9 := SZ9.out; have z10 := SZ10.out; have z11 := SZ11.out; have z12 := SZ12.out; have z13 := SZ13.out; have z14 := SZ14.out; have z15 := SZ15.out; have z16 := SZ16.out; have z17 := SZ17.out; omega))
  have SZ18 := Lib.hid (show w_17.heap.size ≤ w_18.heap.size from hg.size)
  replace RW0 := Lib.hid (RW0.out.grown hg (fun b h => by have h1 := RW6.out.2 b h; have z1 := SZ1.out; have z2 := SZ2.out; have z3 := SZ3.out; have z4 := SZ4.out; have z5 := SZ5.out; have z6 := SZ6.out; have z7 := SZ7.out; have z8 := SZ8.out; have z9 := SZ9.out; have z10 := SZ10.out; have z11 := SZ11.out; have z12 := SZ12.out; have z13 := SZ13.out; have z14 := SZ14.out; have z15 := SZ15.out; have z16 := SZ16.out; have z17 := SZ17.out; omega))
  replace RW1 := Lib.hid (RW1.out.grown hg (fun b h => by have h1 := RW6.out.2 b h; have z1 := SZ1.out; have z2 := SZ2.out; have z3 := SZ3.out; have z4 := SZ4.out; have z5 := SZ5.out; have z6 := SZ6.out; have z7 := SZ7.out; have z8 := SZ8.out; have z9 := SZ9.out; have z10 := SZ10.out; have z11 := SZ11.out; have z12 := SZ12.out; have z13 := SZ13.out; have z14 := SZ14.out; have z15 := SZ15.out; have z16 := SZ16.out; have z17 := SZ17.out; omega))
  replace RW2 := Lib.hid (RW2.out.grown hg (fun b h => by have h1 := RW6.out.2 b h; have z1 := SZ1.out; have z2 := SZ2.out; have z3 := SZ3.out; have z4 := SZ4.out; have z5 := SZ5.out; have z6 := SZ6.out; have z7 := SZ7.out; have z8 := SZ8.out; have z9 := SZ9.out; have z10 := SZ10.out; have z11 := SZ11.out; have z12 := SZ12.out; have z13 := SZ13.out; have z14 := SZ14.out; have z15 := SZ15.out; have z16 := SZ16.out; have z17 := SZ17.out; omega))
  replace RW3 := Lib.hid (RW3.out.grown hg (fun b h => by have h1 := RW6.out.2 b h; have z1 := SZ1.out; have z2 := SZ2.out; have z3 := SZ3.out; have z4 := SZ4.out; have z5 := SZ5.out; have z6 := SZ6.out; have z7 := SZ7.out; have z8 := SZ8.out; have z9 := SZ9.out; have z10 := SZ10.out; have z11 := SZ11.out; have z12 := SZ12.out; have z13 := SZ13.out; have z14 := SZ14.out; have z15 := SZ15.out; have z16 := SZ16.out; have z17 := SZ17.out; omega))
  replace RW4 := Lib.hid (RW4.out.grown hg (fun b h => by have h1 := RW6.out.2 b h; have z1 := SZ1.out; have z2 := SZ2.out; have z3 := SZ3.out; have z4 := SZ4.out; have z5 := SZ5.out; have z6 := SZ6.out; have z7 := SZ7.out; have z8 := SZ8.out; have z9 := SZ9.out; have z10 := SZ10.out; have z11 := SZ11.out; have z12 := SZ12.out; have z13 := SZ13.out; have z14 := SZ14.out; have z15 := SZ15.out; have z16 := SZ16.out; have z17 := SZ17.out; omega))
  replace RW5 := Lib.hid (RW5.out.grown hg (fun b h => by have h1 := RW6.out.2 b h; have z1 := SZ1.out; have z2 := SZ2.out; have z3 := SZ3.out; have z4 := SZ4.out; have z5 := SZ5.out; have z6 := SZ6.out; have z7 := SZ7.out; have z8 := SZ8.out; have z9 := SZ9.out; have z10 := SZ10.out; have z11 := SZ11.out; have z12 := SZ12.out; have z13 := SZ13.out; have z14 := SZ14.out; have z15 := SZ15.out; have z16 := SZ16.out; have z17 := SZ17.out; omega))
  replace RW7 := Lib.hid (RW7.out.grown hg (fun b h => by have h1 := RW6.out.2 b h; have z1 := SZ1.out; have z2 := SZ2.out; have z3 := SZ3.out; have z4 := SZ4.out; have z5 := SZ5.out; have z6 := SZ6.out; have z7 := SZ7.out; have z8 := SZ8.out; have z9 := SZ9.out; have z10 := SZ10.out; have z11 := SZ11.out; have z12 := SZ12.out; have z13 := SZ13.out; have z14 := SZ14.out; have z15 := SZ15.out; have z16 := SZ16.out; have z17 := SZ17.out; omega))
  replace RW8 := Lib.hid (RW8.out.grown hg (fun b h => by have h1 := RW6.out.2 b h; have z1 := SZ1.out; have z2 := SZ2.out; have z3 := SZ3.out; have z4 := SZ4.out; have z5 := SZ5.out; have z6 := SZ6.out; have z7 := SZ7.out; have z8 := SZ8.out; have z9 := SZ9.out; have z10 := SZ10.out; have z11 := SZ11.out; have z12 := SZ12.out; have z13 := SZ13.out; have z14 := SZ14.out; have z15 := SZ15.out; have z16 := SZ16.out; have z17 := SZ17.out; omega))
  replace RW9 := Lib.hid (RW9.out.grown hg (fun b h => by have h1 := RW6.out.2 b h; have z1 := SZ1.out; have z2 := SZ2.out; have z3 := SZ3.out; have z4 := SZ4.out; have z5 := SZ5.out; have z6 := SZ6.out; have z7 := SZ7.out; have z8 := SZ8.out; have z9 := SZ9.out; have z10 := SZ10.out; have z11 := SZ11.out; have z12 := SZ12.out; have z13 := SZ13.out; have z14 := SZ14.out; have z15 := SZ15.out; have z16 := SZ16.out; have z17 := SZ17.out; omega))
  replace RW10 := Lib.hid (RW10.out.grown hg (fun b h => by have h1 := RW6.out.2 b h; have z1 := SZ1.out; have z2 := SZ2.out; have z3 := SZ3.out; have z4 := SZ4.out; have z5 := SZ5.out; have z6 := SZ6.out; have z7 := SZ7.out; have z8 := SZ8.out; have z9 := SZ9.out; have z10 := SZ10.out; have z11 := SZ11.out; have z12 := SZ12.out; have z13 := SZ13.out; have z14 := SZ14.out; have z15 := SZ15.out; have z16 := SZ16.out; have z17 := SZ17.out; omega))
  replace RW6 := Lib.hid (RW6.out.turn ho)
  clear ho hg
  go_wp2_with fail
  refine (eqInt64S_any aa7 aa3 nn3 cc7 cc3 r0 w_18 (by have h := LL7.out; omega) (by omega) (RW7.out.cells) (RW3.out.cells)).mono ?_
  rintro d w_19 ⟨rfl, hb⟩
  have HB19 := Lib.hid (HB18.out.step hb)
  have SZ19 := Lib.hid (show w_18.heap.size ≤ w_19.heap.size from hb.size)
  replace RW0 := Lib.hid (RW0.out.below hb)
  replace RW1 := Lib.hid (RW1.out.below hb)
  replace RW2 := Lib.hid (RW2.out.below hb)
  replace RW3 := Lib.hid (RW3.out.below hb)
  replace RW4 := Lib.hid (RW4.out.below hb)
  replace RW5 := Lib.hid (RW5.out.below hb)
  replace RW6 := Lib.hid (RW6.out.below hb)
  replace RW7 := Lib.hid (RW7.out.below hb)
  replace RW8 := Lib.hid (RW8.out.below hb)
  replace RW9 := Lib.hid (RW9.out.below hb)
  replace RW10 := Lib.hid (RW10.out.below hb)
  clear hb
  go_wp2_with fail
  obtain ⟨k_4, hk_4⟩ : ∃ q : Int, q = 1 + ((nn3 : Nat) : Int) := ⟨_, rfl⟩
  refine (marked_as (markInt64S_any aa7 nn3 cc7 w_7.heap.size 1 _ w_19 (by omega) (by omega) (by omega) RW7.out.1) hk_4).mono ?_
  rintro d w_20 ⟨rfl, ho, hg⟩
  have pk_4 : 0 ≤ k_4 := by omega
  have qk_4 : k_4 ≤ 4294967296 * 4 := by omega
  have Hk_4 := Lib.hid hk_4
  clear hk_4
  have HB20 := Lib.hid (HB19.out.grown hg (fun b h => by have h1 := RW7.out.2 b h; have z1 := SZ1.out; have z2 := SZ2.out; have z3 := SZ3.out; have z4 := SZ4.out; have z5 := SZ5.out; have z6 := SZ6.out; have z7 := SZ7.out; have z8 := SZ8.out; have z9 := SZ9.out; have z10 := SZ10.out; have z11 := SZ11.out; have z12 := SZ12.out; have z13 := SZ13.out; have z14 := SZ14.out; have z15 := SZ15.out; have z16 := SZ16.out; have z17 := SZ17.out; have z18 := SZ18.out; have z19 := SZ19.out; omega))
  have SZ20 := Lib.hid (show w_19.heap.size ≤ w_20.heap.size from hg.size)
  replace RW0 := Lib.hid (RW0.out.grown hg (fun b h => by have h1 := RW7.out.2 b h; have z1 := SZ1.out; have z2 := SZ2.out; have z3 := SZ3.out; have z4 := SZ4.out; have z5 := SZ5.out; have z6 := SZ6.out; have z7 := SZ7.out; have z8 := SZ8.out; have z9 := SZ9.out; have z10 := SZ10.out; have z11 := SZ11.out; have z12 := SZ12.out; have z13 := SZ13.out; have z14 := SZ14.out; have z15 := SZ15.out; have z16 := SZ16.out; have z17 := SZ17.out; have z18 := SZ18.out; have z19 := SZ19.out; omega))
  replace RW1 := Lib.hid (RW1.out.grown hg (fun b h => by have h1 := RW7.out.2 b h; have z1 := SZ1.out; have z2 := SZ2.out; have z3 := SZ3.out; have z4 := SZ4.out; have z5 := SZ5.out; have z6 := SZ6.out; have z7 := SZ7.out; have z8 := SZ8.out; have z9 := SZ9.out; have z10 := SZ10.out; have z11 := SZ11.out; have z12 := SZ12.out; have z13 := SZ13.out; have z14 := SZ14.out; have z15 := SZ15.out; have z16 := SZ16.out; have z17 := SZ17.out; have z18 := SZ18.out; have z19 := SZ19.out; omega))
  replace RW2 := Lib.hid (RW2.out.grown hg (fun b h => by have h1 := RW7.out.2 b h; have z1 := SZ1.out; have z2 := SZ2.out; have z3 := SZ3.out; have z4 := SZ4.out; have z5 := SZ5.out; have z6 := SZ6.out; have z7 := SZ7.out; have z8 := SZ8.out; have z9 := SZ9.out; have z10 := SZ10.out; have z11 := SZ11.out; have z12 := SZ12.out; have z13 := SZ13.out; have z14 := SZ14.out; have z15 := SZ15.out; have z16 := SZ16.out; have z17 := SZ17.out; have z18 := SZ18.out; have z19 := SZ19.out; omega))
  replace RW3 := Lib.hid (RW3.out.grown hg (fun b h => by have h1 := RW7.out.2 b h; have z1 := SZ1.out; have z2 := SZ2.out; have z3 := SZ3.out; have z4 := SZ4.out; have z5 := SZ5.out; have z6 := SZ6.out; have z7 := SZ7.out; have z8 := SZ8.out; have z9 := SZ9.out; have z10 := SZ10.out; have z11 := SZ11.out; have z12 := SZ12.out; have z13 := SZ13.out; have z14 := SZ14.out; have z15 := SZ15.out; have z16 := SZ16.out; have z17 := SZ17.out; have z18 := SZ18.out; have z19 := SZ19.out; omega))
  replace RW4 := Lib.hid (RW4.out.grown hg (fun b h => by have h1 := RW7.out.2 b h; have z1 := SZ1.out; have z2 := SZ2.out; have z3 := SZ3.out; have z4 := SZ4.out; have z5 := SZ5.out; have z6 := SZ6.out; have z7 := SZ7.out; have z8 := SZ8.out; have z9 := SZ9.out; have z10 := SZ10.out; have z11 := SZ11.out; have z12 := SZ12.out; have z13 := SZ13.out; have z14 := SZ14.out; have z15 := SZ15.out; have z16 := SZ16.out; have z17 := SZ17.out; have z18 := SZ18.out; have z19 := SZ19.out; omega))
  replace RW5 := Lib.hid (RW5.out.grown hg (fun b h => by have h1 := RW7.out.2 b h; have z1 := SZ1.out; have z2 := SZ2.out; have z3 := SZ3.out; have z4 := SZ4.out; have z5 := SZ5.out; have z6 := SZ6.out; have z7 := SZ7.out; have z8 := SZ8.out; have z9 := SZ9.out; have z10 := SZ10.out; have z11 := SZ11.out; have z12 := SZ12.out; have z13 := SZ13.out; have z14 := SZ14.out; have z15 := SZ15.out; have z16 := SZ16.out; have z17 := SZ17.out; have z18 := SZ18.out; have z19 := SZ19.out; omega))
  replace RW6 := Lib.hid (RW6.out.grown hg (fun b h => by have h1 := RW7.out.2 b h; have z1 := SZ1.out; have z2 := SZ2.out; have z3 := SZ3.out; have z4 := SZ4.out; have z5 := SZ5.out; have z6 := SZ6.out; have z7 := SZ7.out; have z8 := SZ8.out; have z9 := SZ9.out; have z10 := SZ10.out; have z11 := SZ11.out; have z12 := SZ12.out; have z13 := SZ13.out; have z14 := SZ14.out; have z15 := SZ15.out; have z16 := SZ16.out; have z17 := SZ17.out; have z18 := SZ18.out; have z19 := SZ19.out; omega))
  replace RW8 := Lib.hid (RW8.out.grown hg (fun b h => by have h1 := RW7.out.2 b h; have z1 := SZ1.out; have z2 := SZ2.out; have z3 := SZ3.out; have z4 := SZ4.out; have z5 := SZ5.out; have z6 := SZ6.out; have z7 := SZ7.out; have z8 := SZ8.out; have z9 := SZ9.out; have z10 := SZ10.out; have z11 := SZ11.out; have z12 := SZ12.out; have z13 := SZ13.out; have z14 := SZ14.out; have z15 := SZ15.out; have z16 := SZ16.out; have z17 := SZ17.out; have z18 := SZ18.out; have z19 := SZ19.out; omega))
  replace RW9 := Lib.hid (RW9.out.grown hg (fun b h => by have h1 := RW7.out.2 b h; have z1 := SZ1.out; have z2 := SZ2.out; have z3 := SZ3.out; have z4 := SZ4.out; have z5 := SZ5.out; have z6 := SZ6.out; have z7 := SZ7.out; have z8 := SZ8.out; have z9 := SZ9.out; have z10 := SZ10.out; have z11 := SZ11.out; have z12 := SZ12.out; have z13 := SZ13.out; have z14 := SZ14.out; have z15 := SZ15.out; have z16 := SZ16.out; have z17 := SZ17.out; have z18 := SZ18.out; have z19 := SZ19.out; omega))
  replace RW10 := Lib.hid (RW10.out.grown hg (fun b h => by have h1 := RW7.out.2 b h; have z1 := SZ1.out; have z2 := SZ2.out; have z3 := SZ3.out; have z4 := SZ4.out; have z5 := SZ5.out; have z6 := SZ6.out; have z7 := SZ7.out; have z8 := SZ8.out; have z9 := SZ9.out; have z10 := SZ10.out; have z11 := SZ11.out; have z12 := SZ12.out; have z13 := SZ13.out; have z14 := SZ14.out; have z15 := SZ15.out; have z16 := SZ16.out; have z17 := SZ17.out; have z18 := SZ18.out; have z19 := SZ19.out; omega))
  replace RW7 := Lib.hid (RW7.out.turn ho)
  clear ho hg
  go_wp2_with fail
  refine (held_as (heldInt64S_any aa7 nn3 cc7 1 w_20 (by omega) (by omega) (by omega) (RW7.out.cells)) Hk_4.out).mono ?_
  rintro d w_21 ⟨rfl, hb⟩
  have HB21 := Lib.hid (HB20.out.step hb)
  have SZ21 := Lib.hid (show w_20.heap.size ≤ w_21.heap.size from hb.size)
  replace RW0 := Lib.hid (RW0.out.below hb)
  replace RW1 := Lib.hid (RW1.out.below hb)
  replace RW2 := Lib.hid (RW2.out.below hb)
  replace RW3 := Lib.hid (RW3.out.below hb)
  replace RW4 := Lib.hid (RW4.out.below hb)
  replace RW5 := Lib.hid (RW5.out.below hb)
  replace RW6 := Lib.hid (RW6.out.below hb)
  replace RW7 := Lib.hid (RW7.out.below hb)
  replace RW8 := Lib.hid (RW8.out.below hb)
  replace RW9 := Lib.hid (RW9.out.below hb)
  replace RW10 := Lib.hid (RW10.out.below hb)
  clear hb
  go_wp2_with fail
  refine (toInt64S_any a0 n0 c0 z0 w_21 L0.out b0 (S0.out.below HB21.out.1)).mono ?_
  rintro d w_22 ⟨g1011, rfl, ho, hb⟩
  have RW11 := Lib.hid (Row.mk_ ho)
  have HB22 := Lib.hid (HB21.out.step hb)
  have SZ22 := Lib.hid (show w_21.heap.size ≤ w_22.heap.size from hb.size)
  replace RW0 := Lib.hid (RW0.out.below hb)
  replace RW1 := Lib.hid (RW1.out.below hb)
  replace RW2 := Lib.hid (RW2.out.below hb)
  replace RW3 := Lib.hid (RW3.out.below hb)
  replace RW4 := Lib.hid (RW4.out.below hb)
  replace RW5 := Lib.hid (RW5.out.below hb)
  replace RW6 := Lib.hid (RW6.out.below hb)
  replace RW7 := Lib.hid (RW7.out.below hb)
  replace RW8 := Lib.hid (RW8.out.below hb)
  replace RW9 := Lib.hid (RW9.out.below hb)
  replace RW10 := Lib.hid (RW10.out.below hb)
  clear ho hb
  go_wp2_with fail
  refine (toInt64S_any a1 n1 c1 z1 w_22 L1.out b1 (S1.out.below HB22.out.1)).mono ?_
  rintro d w_23 ⟨g1012, rfl, ho, hb⟩
  have RW12 := Lib.hid (Row.mk_ ho)
  have HB23 := Lib.hid (HB22.out.step hb)
  have SZ23 := Lib.hid (show w_22.heap.size ≤ w_23.heap.size from hb.size)
  replace RW0 := Lib.hid (RW0.out.below hb)
  replace RW1 := Lib.hid (RW1.out.below hb)
  replace RW2 := Lib.hid (RW2.out.below hb)
  replace RW3 := Lib.hid (RW3.out.below hb)
  replace RW4 := Lib.hid (RW4.out.below hb)
  replace RW5 := Lib.hid (RW5.out.below hb)
  replace RW6 := Lib.hid (RW6.out.below hb)
  replace RW7 := Lib.hid (RW7.out.below hb)
  replace RW8 := Lib.hid (RW8.out.below hb)
  replace RW9 := Lib.hid (RW9.out.below hb)
  replace RW10 := Lib.hid (RW10.out.below hb)
  replace RW11 := Lib.hid (RW11.out.below hb)
  clear ho hb
  go_wp2_with fail
  refine (toInt64S_any a2 n2 c2 z2 w_23 L2.out b2 (S2.out.below HB23.out.1)).mono ?_
  rintro d w_24 ⟨g1013, rfl, ho, hb⟩
  have RW13 := Lib.hid (Row.mk_ ho)
  have HB24 := Lib.hid (HB23.out.step hb)
  have SZ24 := Lib.hid (show w_23.heap.size ≤ w_24.heap.size from hb.size)
  replace RW0 := Lib.hid (RW0.out.below hb)
  replace RW1 := Lib.hid (RW1.out.below hb)
  replace RW2 := Lib.hid (RW2.out.below hb)
  replace RW3 := Lib.hid (RW3.out.below hb)
  replace RW4 := Lib.hid (RW4.out.below hb)
  replace RW5 := Lib.hid (RW5.out.below hb)
  replace RW6 := Lib.hid (RW6.out.below hb)
  replace RW7 := Lib.hid (RW7.out.below hb)
  replace RW8 := Lib.hid (RW8.out.below hb)
  replace RW9 := Lib.hid (RW9.out.below hb)
  replace RW10 := Lib.hid (RW10.out.below hb)
  replace RW11 := Lib.hid (RW11.out.below hb)
  replace RW12 := Lib.hid (RW12.out.below hb)
  clear ho hb
  go_wp2_with fail
  refine (impl_LeftOnSpools w_24 g1011 n0 z0 L0.out b0 (RW11.out.cells) W0.out g1012 n1 z1 L1.out b1 (RW12.out.cells) W1.out g1013 n2 z2 L2.out b2 (RW13.out.cells) W2.out).mono ?_
  rw [Er0.out, Er1.out]
  rintro d w_25 ⟨aa14, nn14, cc14, rfl, ll14, bb14, ho, hb⟩
  have RW14 := Lib.hid (Row.mk_ ho)
  have HB25 := Lib.hid (HB24.out.step hb)
  have SZ25 := Lib.hid (show w_24.heap.size ≤ w_25.heap.size from hb.size)
  replace RW0 := Lib.hid (RW0.out.below hb)
  replace RW1 := Lib.hid (RW1.out.below hb)
  replace RW2 := Lib.hid (RW2.out.below hb)
  replace RW3 := Lib.hid (RW3.out.below hb)
  replace RW4 := Lib.hid (RW4.out.below hb)
  replace RW5 := Lib.hid (RW5.out.below hb)
  replace RW6 := Lib.hid (RW6.out.below hb)
  replace RW7 := Lib.hid (RW7.out.below hb)
  replace RW8 := Lib.hid (RW8.out.below hb)
  replace RW9 := Lib.hid (RW9.out.below hb)
  replace RW10 := Lib.hid (RW10.out.below hb)
  replace RW11 := Lib.hid (RW11.out.below hb)
  replace RW12 := Lib.hid (RW12.out.below hb)
  replace RW13 := Lib.hid (RW13.out.below hb)
  have LL14 := Lib.hid ll14
  clear ho hb ll14
  obtain rfl : nn3 = nn14 := by have h1 := LL14.out; have h2 := LL3.out; omega
  go_wp2_with fail
  refine (eqInt64S_any aa14 aa3 nn3 cc14 cc3 r0 w_25 (by have h := LL14.out; omega) (by omega) (RW14.out.cells) (RW3.out.cells)).mono ?_
  rintro d w_26 ⟨rfl, hb⟩
  have HB26 := Lib.hid (HB25.out.step hb)
  have SZ26 := Lib.hid (show w_25.heap.size ≤ w_26.heap.size from hb.size)
  replace RW0 := Lib.hid (RW0.out.below hb)
  replace RW1 := Lib.hid (RW1.out.below hb)
  replace RW2 := Lib.hid (RW2.out.below hb)
  replace RW3 := Lib.hid (RW3.out.below hb)
  replace RW4 := Lib.hid (RW4.out.below hb)
  replace RW5 := Lib.hid (RW5.out.below hb)
  replace RW6 := Lib.hid (RW6.out.below hb)
  replace RW7 := Lib.hid (RW7.out.below hb)
  replace RW8 := Lib.hid (RW8.out.below hb)
  replace RW9 := Lib.hid (RW9.out.below hb)
  replace RW10 := Lib.hid (RW10.out.below hb)
  replace RW11 := Lib.hid (RW11.out.below hb)
  replace RW12 := Lib.hid (RW12.out.below hb)
  replace RW13 := Lib.hid (RW13.out.below hb)
  replace RW14 := Lib.hid (RW14.out.below hb)
  clear hb
  go_wp2_with fail
  refine (held_as (heldInt64S_any aa7 nn3 cc7 1 w_26 (by omega) (by omega) (by omega) (RW7.out.cells)) Hk_4.out).mono ?_
  rintro d w_27 ⟨rfl, hb⟩
  have HB27 := Lib.hid (HB26.out.step hb)
  have SZ27 := Lib.hid (show w_26.heap.size ≤ w_27.heap.size from hb.size)
  replace RW0 := Lib.hid (RW0.out.below hb)
  replace RW1 := Lib.hid (RW1.out.below hb)
  replace RW2 := Lib.hid (RW2.out.below hb)
  replace RW3 := Lib.hid (RW3.out.below hb)
  replace RW4 := Lib.hid (RW4.out.below hb)
  replace RW5 := Lib.hid (RW5.out.below hb)
  replace RW6 := Lib.hid (RW6.out.below hb)
  replace RW7 := Lib.hid (RW7.out.below hb)
  replace RW8 := Lib.hid (RW8.out.below hb)
  replace RW9 := Lib.hid (RW9.out.below hb)
  replace RW10 := Lib.hid (RW10.out.below hb)
  replace RW11 := Lib.hid (RW11.out.below hb)
  replace RW12 := Lib.hid (RW12.out.below hb)
  replace RW13 := Lib.hid (RW13.out.below hb)
  replace RW14 := Lib.hid (RW14.out.below hb)
  clear hb
  go_wp2_with fail
  go_ret
  exact lawEnd_of HB27.out

/-! ### From the walk to the statement -/
set_option maxRecDepth 100000 in
theorem FnExactLeftOnSpools_lifted (os : Os) (started : os.Started) (H : Type) (enc : TypeId × Value → H) :
    ReturnsInHanded {} Try.checked os 5 .any (Rows.fnExactLeftOnSpoolsSpec.pre6 enc Try.prog Try.f5 Rows.fnExactLeftOnSpoolsRow.domain false) (Rows.fnExactLeftOnSpoolsSpec.post enc Try.prog Try.f5 false true false false) := by
  refine lifted_law (C := Try.checked) (tb := 4) own started (by kernel_rfl) Try.func5
    (ChangeSpec.witness6 (enc := enc) (C := Try.checked) false ⟨#[], #[.slice none 0 0, .slice none 0 0, .slice none 0 0], []⟩ 8 (by kernel_rfl) (by kernel_rfl) (by kernel_rfl) (by kernel_rfl))
    laidOut (by kernel_rfl) rfl rfl Try.underlying4 (fun ds h => by match ds, h with | [_, _, _], _ => rfl) ?_
  intro W base args ds p hval hA
  rw [Try.params5] at hA hval
  obtain ⟨v0, vs0, d0, ds0, p0, q0, hargs, rfl, rfl, h0, r0⟩ := trodAll_cons hA
  obtain ⟨v1, vs1, d1, ds1, p1, q1, rfl, rfl, rfl, h1, r1⟩ := trodAll_cons r0
  obtain ⟨v2, vs2, d2, ds2, p2, q2, rfl, rfl, rfl, h2, r2⟩ := trodAll_cons r1
  obtain ⟨rfl, rfl, rfl⟩ := trodAll_nil r2
  obtain rfl : args = #[v0, v1, v2] := by cases args; simp_all
  obtain ⟨a0, n0, c0, z0, rfl, l0, m0, s0, w0⟩ := open_ints_at Try.underlying22 Try.underlying2 (by kernel_rfl) (hval 0 22 v0 rfl rfl) h0
  obtain ⟨a1, n1, c1, z1, rfl, l1, m1, s1, w1⟩ := open_ints_at Try.underlying22 Try.underlying2 (by kernel_rfl) (hval 1 22 v1 rfl rfl) h1
  obtain ⟨a2, n2, c2, z2, rfl, l2, m2, s2, w2⟩ := open_ints_at Try.underlying22 Try.underlying2 (by kernel_rfl) (hval 2 22 v2 rfl rfl) h2
  first | exact FnExactLeftOnSpools_walk a0 n0 c0 z0 l0 m0 s0 w0 a1 n1 c1 z1 l1 m1 s1 w1 a2 n2 c2 z2 l2 m2 s2 w2 W | exact FnExactLeftOnSpools_walk W a0 n0 c0 z0 l0 m0 s0 w0 a1 n1 c1 z1 l1 m1 s1 w1 a2 n2 c2 z2 l2 m2 s2 w2

theorem FnExactLeftOnSpools_over : Rows.fnExactLeftOnSpoolsRow.holds Try.pinned (OpenSpec.ofChange Rows.fnExactLeftOnSpoolsSpec) :=
  OpenClaim.holds_of_wide 5 Try.f5 rfl rfl rfl rfl rfl rfl rfl ⟨rfl, rfl, rfl, rfl, rfl⟩ rfl rfl rfl rfl rfl (by kernel_rfl) Try.func5 (by kernel_rfl)
    (of_decide_eq_true (by kernel_rfl)) (by unfold Func.isWrapper; first | (rw [if_pos (by decide +kernel)]; kernel_rfl) | (rw [if_neg (by decide +kernel)]; exact ⟨rfl, rfl⟩))
    (fun os started H enc _ => FnExactLeftOnSpools_lifted os started H enc)

/-- The statement. -/
theorem FnExactLeftOnSpools_holds : Rows.FnExactLeftOnSpoolsSaid := FnExactLeftOnSpools_over
#print axioms FnExactLeftOnSpools_holds


end Go.Proofs.Ytoomkeicfdmdoaa
