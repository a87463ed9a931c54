/-
  The law FnExactBestPlan: it returns true for all arguments (the walk).
-/
import Derived.Test.YthemlamdchcicaaDoorHideX
import Derived.Test.YthemlamdchcicaaDoorHideK
import Derived.Test.YthemlamdchcicaaDoorStrs
import Derived.Test.YthemlamdchcicaaDoorCutS
namespace Go.Proofs.YthemlamdchcicaaDoor
open Go.ChangeShapes Go.WideShapes Go.ChangeAt Go.RowKit Go.Deep

theorem impl_BestPlanE (w : World) (a : Option Addr) (n c : Nat) (z : List ByteArray) (hz : z.length = n) (hn : n ≤ 1048576) (hc : CellsAt w a (strs z)) (hw : ∀ r ∈ z, r.size ≤ maxLen)
    (a1 : Option Addr) (n1 c1 : Nat) (z1 : List Int) (hz1 : z1.length = n1 * 4) (hn1 : n1 ≤ 1048576) (hc1 : CellsAt w a1 (z1.map (Value.int .i64))) (_hw1 : ∀ x ∈ z1, (Lit.int .i64 x).wf = true) :
    Calls Tryd.prog 8 #[.slice a n c, .slice a1 n1 c1] w (PlanEnd w (planL z z1 n1) (planW z z1 n1) (planC z z1 n1)) :=
  impl_BestPlan w a n c z hz hn hw hc a1 n1 c1 z1 hz1 hn1 hc1
theorem spec_BestPlanE (w : World) (a : Option Addr) (n c : Nat) (z : List ByteArray) (hz : z.length = n) (hn : n ≤ 1048576) (hc : CellsAt w a (strs z)) (hw : ∀ r ∈ z, r.size ≤ maxLen)
    (a1 : Option Addr) (n1 c1 : Nat) (z1 : List Int) (hz1 : z1.length = n1 * 4) (hn1 : n1 ≤ 1048576) (hc1 : CellsAt w a1 (z1.map (Value.int .i64))) (_hw1 : ∀ x ∈ z1, (Lit.int .i64 x).wf = true) :
    Calls Tryd.prog 15 #[.slice a n c, .slice a1 n1 c1] w (PlanEnd w (planL z z1 n1) (planW z z1 n1) (planC z z1 n1)) :=
  spec_BestPlan w a n c z hz hn hw hc a1 n1 c1 z1 hz1 hn1 hc1
set_option maxRecDepth 100000 in
set_option maxHeartbeats 6400000 in
theorem FnExactBestPlan_walk (w : World) (a0 : Option Addr) (n0 c0 : Nat) (z0 : List ByteArray) (l0 : z0.length = n0) (m0 : n0 ≤ maxLen) (s0 : CellsAt w a0 (strs z0)) (w0 : ∀ z ∈ z0, z.size ≤ maxLen) (a1 : Option Addr) (n1 c1 : Nat) (z1 : List Int) (l1 : z1.length = n1 * 4) (m1 : n1 ≤ maxLen) (s1 : CellsAt w a1 (z1.map (Value.int .i64))) (w1 : ∀ z ∈ z1, (Lit.int .i64 z).wf = true) :
    Calls Tryd.prog 4 #[.slice a0 n0 c0, .slice a1 n1 c1] w (LawEnd w) := by
  obtain ⟨r0, er0⟩ : ∃ q, planL z0 z1 n1 = q := ⟨_, rfl⟩
  have Er0 := Lib.hid er0
  clear er0
  obtain ⟨r1, er1⟩ : ∃ q, planW z0 z1 n1 = q := ⟨_, rfl⟩
  have Er1 := Lib.hid er1
  clear er1
  obtain ⟨r2, er2⟩ : ∃ q, planC z0 z1 n1 = q := ⟨_, rfl⟩
  have Er2 := Lib.hid er2
  clear er2
  have L0 := Lib.hid l0
  have S0 := Lib.hid s0
  have W0 := Lib.hid w0
  have L1 := Lib.hid l1
  have S1 := Lib.hid s1
  have W1 := Lib.hid w1
  clear w1 s1 l1 w0 s0 l0
  by_cases g0 : 1048576 < (n0 : Int) + (strSz z0 : Int)
  · go_enter Tryd.func4, Tryd.ntmps4
    go_wp2_with fail
    refine (szStringS_any a0 n0 c0 z0 (1048576) _ L0.out (by omega) (by omega) m0 W0.out S0.out).mono ?_
    rw [if_pos (by omega)]
    rintro d w1 ⟨rfl, rfl⟩
    go_wp2_with fail
    go_ret
    exact ⟨rfl, Below.refl _ _⟩
  by_cases g1 : 1048576 - (n0 : Int) - (strSz z0 : Int) < (n1 : Int)
  · go_enter Tryd.func4, Tryd.ntmps4
    go_wp2_with fail
    refine (szStringS_any a0 n0 c0 z0 (1048576) _ L0.out (by omega) (by omega) m0 W0.out S0.out).mono ?_
    rw [if_neg (by omega)]
    rintro d w1 ⟨rfl, rfl⟩
    go_wp2_with fail
    refine (szCutS_any a1 n1 c1 (1048576 - (n0 : Int) - (strSz z0 : Int)) _ (by omega) (by omega) m1).mono ?_
    rw [if_pos (by omega)]
    rintro d w1 ⟨rfl, rfl⟩
    go_wp2_with fail
    go_ret
    exact ⟨rfl, Below.refl _ _⟩
  have b0 : n0 ≤ 1048576 := by omega
  have b1 : n1 ≤ 1048576 := by omega
  go_enter Tryd.func4, Tryd.ntmps4
  go_wp2_with fail
  refine (szStringS_any a0 n0 c0 z0 (1048576) _ L0.out (by omega) (by omega) m0 W0.out S0.out).mono ?_
  rw [if_neg (by omega)]
  rintro d w1 ⟨rfl, rfl⟩
  go_wp2_with fail
  refine (szCutS_any a1 n1 c1 (1048576 - (n0 : Int) - (strSz z0 : Int)) _ (by omega) (by omega) m1).mono ?_
  rw [if_neg (by omega)]
  rintro d w1 ⟨rfl, rfl⟩
  have HB0 := Lib.hid (Bel.refl w)
  go_wp2_with fail
  refine (toStringS_any a0 n0 c0 z0 w L0.out b0 (S0.out.below HB0.out.1)).mono ?_
  rintro d w_1 ⟨g1000, rfl, ho, hb⟩
  have RW0 := Lib.hid (Row.mk_ ho)
  have HB1 := Lib.hid (HB0.out.step hb)
  have SZ1 := Lib.hid (show w.heap.size ≤ w_1.heap.size from hb.size)
  clear ho hb
  go_wp2_with fail
  refine (toCutS_any a1 n1 c1 z1 w_1 L1.out b1 (S1.out.below HB1.out.1)).mono ?_
  rintro d w_2 ⟨g1001, rfl, ho, hb⟩
  have RW1 := Lib.hid (Row.mk_ ho)
  have HB2 := Lib.hid (HB1.out.step hb)
  have SZ2 := Lib.hid (show w_1.heap.size ≤ w_2.heap.size from hb.size)
  replace RW0 := Lib.hid (RW0.out.below hb)
  clear ho hb
  go_wp2_with fail
  refine (spec_BestPlanE w_2 (some ⟨g1000, 0, none⟩) n0 n0 z0 L0.out b0 (RW0.out.cells) W0.out (some ⟨g1001, 0, none⟩) n1 n1 z1 L1.out b1 (RW1.out.cells) W1.out).mono ?_
  rw [Er0.out, Er1.out, Er2.out]
  rintro d w_3 ⟨aa2, nn2, cc2, rfl, ll2, bb2, ho, hb⟩
  have RW2 := Lib.hid (Row.mk_ ho)
  have HB3 := Lib.hid (HB2.out.step hb)
  have SZ3 := Lib.hid (show w_2.heap.size ≤ w_3.heap.size from hb.size)
  replace RW0 := Lib.hid (RW0.out.below hb)
  replace RW1 := Lib.hid (RW1.out.below hb)
  have LL2 := Lib.hid ll2
  clear ho hb ll2
  go_wp2_with fail
  refine (toStringS_any a0 n0 c0 z0 w_3 L0.out b0 (S0.out.below HB3.out.1)).mono ?_
  rintro d w_4 ⟨g1003, rfl, ho, hb⟩
  have RW3 := Lib.hid (Row.mk_ ho)
  have HB4 := Lib.hid (HB3.out.step hb)
  have SZ4 := Lib.hid (show w_3.heap.size ≤ w_4.heap.size from hb.size)
  replace RW0 := Lib.hid (RW0.out.below hb)
  replace RW1 := Lib.hid (RW1.out.below hb)
  replace RW2 := Lib.hid (RW2.out.below hb)
  clear ho hb
  go_wp2_with fail
  refine (toCutS_any a1 n1 c1 z1 w_4 L1.out b1 (S1.out.below HB4.out.1)).mono ?_
  rintro d w_5 ⟨g1004, rfl, ho, hb⟩
  have RW4 := Lib.hid (Row.mk_ ho)
  have HB5 := Lib.hid (HB4.out.step hb)
  have SZ5 := Lib.hid (show w_4.heap.size ≤ w_5.heap.size from hb.size)
  replace RW0 := Lib.hid (RW0.out.below hb)
  replace RW1 := Lib.hid (RW1.out.below hb)
  replace RW2 := Lib.hid (RW2.out.below hb)
  replace RW3 := Lib.hid (RW3.out.below hb)
  clear ho hb
  go_wp2_with fail
  refine (impl_BestPlanE w_5 (some ⟨g1003, 0, none⟩) n0 n0 z0 L0.out b0 (RW3.out.cells) W0.out (some ⟨g1004, 0, none⟩) n1 n1 z1 L1.out b1 (RW4.out.cells) W1.out).mono ?_
  rw [Er0.out, Er1.out, Er2.out]
  rintro d w_6 ⟨aa5, nn5, cc5, rfl, ll5, bb5, ho, hb⟩
  have RW5 := Lib.hid (Row.mk_ ho)
  have HB6 := Lib.hid (HB5.out.step hb)
  have SZ6 := Lib.hid (show w_5.heap.size ≤ w_6.heap.size from hb.size)
  replace RW0 := Lib.hid (RW0.out.below hb)
  replace RW1 := Lib.hid (RW1.out.below hb)
  replace RW2 := Lib.hid (RW2.out.below hb)
  replace RW3 := Lib.hid (RW3.out.below hb)
  replace RW4 := Lib.hid (RW4.out.below hb)
  have LL5 := Lib.hid ll5
  clear ho hb ll5
  obtain rfl : nn2 = nn5 := by have h1 := LL5.out; have h2 := LL2.out; omega
  go_wp2_with fail
  refine (eqInt64S_any aa5 aa2 nn2 cc5 cc2 r0 w_6 (by have h := LL5.out; omega) (by omega) (RW5.out.cells) (RW2.out.cells)).mono ?_
  rintro d w_7 ⟨rfl, hb⟩
  have HB7 := Lib.hid (HB6.out.step hb)
  have SZ7 := Lib.hid (show w_6.heap.size ≤ w_7.heap.size from hb.size)
  replace RW0 := Lib.hid (RW0.out.below hb)
  replace RW1 := Lib.hid (RW1.out.below hb)
  replace RW2 := Lib.hid (RW2.out.below hb)
  replace RW3 := Lib.hid (RW3.out.below hb)
  replace RW4 := Lib.hid (RW4.out.below hb)
  replace RW5 := Lib.hid (RW5.out.below hb)
  clear hb
  go_wp2_with fail
  refine (toStringS_any a0 n0 c0 z0 w_7 L0.out b0 (S0.out.below HB7.out.1)).mono ?_
  rintro d w_8 ⟨g1006, rfl, ho, hb⟩
  have RW6 := Lib.hid (Row.mk_ ho)
  have HB8 := Lib.hid (HB7.out.step hb)
  have SZ8 := Lib.hid (show w_7.heap.size ≤ w_8.heap.size from hb.size)
  replace RW0 := Lib.hid (RW0.out.below hb)
  replace RW1 := Lib.hid (RW1.out.below hb)
  replace RW2 := Lib.hid (RW2.out.below hb)
  replace RW3 := Lib.hid (RW3.out.below hb)
  replace RW4 := Lib.hid (RW4.out.below hb)
  replace RW5 := Lib.hid (RW5.out.below hb)
  clear ho hb
  go_wp2_with fail
  refine (eqStringS_any (some ⟨g1003, 0, none⟩) (some ⟨g1006, 0, none⟩) n0 n0 n0 z0 w_8 L0.out (by omega) (RW3.out.cells) (RW6.out.cells)).mono ?_
  rintro d w_9 ⟨rfl, hb⟩
  have HB9 := Lib.hid (HB8.out.step hb)
  have SZ9 := Lib.hid (show w_8.heap.size ≤ w_9.heap.size from hb.size)
  replace RW0 := Lib.hid (RW0.out.below hb)
  replace RW1 := Lib.hid (RW1.out.below hb)
  replace RW2 := Lib.hid (RW2.out.below hb)
  replace RW3 := Lib.hid (RW3.out.below hb)
  replace RW4 := Lib.hid (RW4.out.below hb)
  replace RW5 := Lib.hid (RW5.out.below hb)
  replace RW6 := Lib.hid (RW6.out.below hb)
  clear hb
  go_wp2_with fail
  refine (toCutS_any a1 n1 c1 z1 w_9 L1.out b1 (S1.out.below HB9.out.1)).mono ?_
  rintro d w_10 ⟨g1007, rfl, ho, hb⟩
  have RW7 := Lib.hid (Row.mk_ ho)
  have HB10 := Lib.hid (HB9.out.step hb)
  have SZ10 := Lib.hid (show w_9.heap.size ≤ w_10.heap.size from hb.size)
  replace RW0 := Lib.hid (RW0.out.below hb)
  replace RW1 := Lib.hid (RW1.out.below hb)
  replace RW2 := Lib.hid (RW2.out.below hb)
  replace RW3 := Lib.hid (RW3.out.below hb)
  replace RW4 := Lib.hid (RW4.out.below hb)
  replace RW5 := Lib.hid (RW5.out.below hb)
  replace RW6 := Lib.hid (RW6.out.below hb)
  clear ho hb
  go_wp2_with fail
  refine (eqCutS_any (some ⟨g1004, 0, none⟩) (some ⟨g1007, 0, none⟩) n1 n1 n1 z1 w_10 L1.out (by omega) (RW4.out.cells) (RW7.out.cells)).mono ?_
  rintro d w_11 ⟨rfl, hb⟩
  have HB11 := Lib.hid (HB10.out.step hb)
  have SZ11 := Lib.hid (show w_10.heap.size ≤ w_11.heap.size from hb.size)
  replace RW0 := Lib.hid (RW0.out.below hb)
  replace RW1 := Lib.hid (RW1.out.below hb)
  replace RW2 := Lib.hid (RW2.out.below hb)
  replace RW3 := Lib.hid (RW3.out.below hb)
  replace RW4 := Lib.hid (RW4.out.below hb)
  replace RW5 := Lib.hid (RW5.out.below hb)
  replace RW6 := Lib.hid (RW6.out.below hb)
  replace RW7 := Lib.hid (RW7.out.below hb)
  clear hb
  go_wp2_with fail
  obtain ⟨k_1, hk_1⟩ : ∃ q : Int, q = 1 + ((n0 : Nat) : Int) := ⟨_, rfl⟩
  refine (markStr_as (c := n0) (markStringS_any g1003 n0 n0 w_3.heap.size 1 _ w_11 (by omega) (by omega) (by omega) RW3.out.1) hk_1).mono ?_
  rintro d w_12 ⟨rfl, hg⟩
  have pk_1 : 0 ≤ k_1 := by omega
  have qk_1 : k_1 ≤ 4294967296 * 1 := by omega
  have Hk_1 := Lib.hid hk_1
  clear hk_1
  have HB12 := Lib.hid (HB11.out.grown hg (fun b h => by have h1 := RW3.out.2 b h; have z1 := SZ1.out; have z2 := SZ2.out; have z3 := SZ3.out; have z4 := SZ4.out; have z5 := SZ5.out; have z6 := SZ6.out; have z7 := SZ7.out; have z8 := SZ8.out; have z9 := SZ9.out; have z10 := SZ10.out; have z11 := SZ11.out; omega))
  have SZ12 := Lib.hid (show w_11.heap.size ≤ w_12.heap.size from hg.size)
  replace RW0 := Lib.hid (RW0.out.grown hg (fun b h => by have h1 := RW3.out.2 b h; have z1 := SZ1.out; have z2 := SZ2.out; have z3 := SZ3.out; have z4 := SZ4.out; have z5 := SZ5.out; have z6 := SZ6.out; have z7 := SZ7.out; have z8 := SZ8.out; have z9 := SZ9.out; have z10 := SZ10.out; have z11 := SZ11.out; omega))
  replace RW1 := Lib.hid (RW1.out.grown hg (fun b h => by have h1 := RW3.out.2 b h; have z1 := SZ1.out; have z2 := SZ2.out; have z3 := SZ3.out; have z4 := SZ4.out; have z5 := SZ5.out; have z6 := SZ6.out; have z7 := SZ7.out; have z8 := SZ8.out; have z9 := SZ9.out; have z10 := SZ10.out; have z11 := SZ11.out; omega))
  replace RW2 := Lib.hid (RW2.out.grown hg (fun b h => by have h1 := RW3.out.2 b h; have z1 := SZ1.out; have z2 := SZ2.out; have z3 := SZ3.out; have z4 := SZ4.out; have z5 := SZ5.out; have z6 := SZ6.out; have z7 := SZ7.out; have z8 := SZ8.out; have z9 := SZ9.out; have z10 := SZ10.out; have z11 := SZ11.out; omega))
  replace RW4 := Lib.hid (RW4.out.grown hg (fun b h => by have h1 := RW3.out.2 b h; have z1 := SZ1.out; have z2 := SZ2.out; have z3 := SZ3.out; have z4 := SZ4.out; have z5 := SZ5.out; have z6 := SZ6.out; have z7 := SZ7.out; have z8 := SZ8.out; have z9 := SZ9.out; have z10 := SZ10.out; have z11 := SZ11.out; omega))
  replace RW5 := Lib.hid (RW5.out.grown hg (fun b h => by have h1 := RW3.out.2 b h; have z1 := SZ1.out; have z2 := SZ2.out; have z3 := SZ3.out; have z4 := SZ4.out; have z5 := SZ5.out; have z6 := SZ6.out; have z7 := SZ7.out; have z8 := SZ8.out; have z9 := SZ9.out; have z10 := SZ10.out; have z11 := SZ11.out; omega))
  replace RW6 := Lib.hid (RW6.out.grown hg (fun b h => by have h1 := RW3.out.2 b h; have z1 := SZ1.out; have z2 := SZ2.out; have z3 := SZ3.out; have z4 := SZ4.out; have z5 := SZ5.out; have z6 := SZ6.out; have z7 := SZ7.out; have z8 := SZ8.out; have z9 := SZ9.out; have z10 := SZ10.out; have z11 := SZ11.out; omega))
  replace RW7 := Lib.hid (RW7.out.grown hg (fun b h => by have h1 := RW3.out.2 b h; have z1 := SZ1.out; have z2 := SZ2.out; have z3 := SZ3.out; have z4 := SZ4.out; have z5 := SZ5.out; have z6 := SZ6.out; have z7 := SZ7.out; have z8 := SZ8.out; have z9 := SZ9.out; have z10 := SZ10.out; have z11 := SZ11.out; omega))
  clear hg
  go_wp2_with fail
  obtain ⟨k_2, hk_2⟩ : ∃ q : Int, q = k_1 + ((n1 * 4 : Nat) : Int) := ⟨_, rfl⟩
  refine (marked_as (markCutS_any (some ⟨g1004, 0, none⟩) n1 n1 w_4.heap.size k_1 _ w_12 (by omega) (by omega) (by omega) RW4.out.1) hk_2).mono ?_
  rintro d w_13 ⟨rfl, ho, hg⟩
  have pk_2 : 0 ≤ k_2 := by omega
  have qk_2 : k_2 ≤ 4294967296 * 2 := by omega
  have Hk_2 := Lib.hid hk_2
  clear hk_2
  have HB13 := Lib.hid (HB12.out.grown hg (fun b h => by have h1 := RW4.out.2 b h; have z1 := SZ1.out; have z2 := SZ2.out; have z3 := SZ3.out; have z4 := SZ4.out; have z5 := SZ5.out; have z6 := SZ6.out; have z7 := SZ7.out; have z8 := SZ8.out; have z9 := SZ9.out; have z10 := SZ10.out; have z11 := SZ11.out; have z12 := SZ12.out; omega))
  have SZ13 := Lib.hid (show w_12.heap.size ≤ w_13.heap.size from hg.size)
  replace RW0 := Lib.hid (RW0.out.grown hg (fun b h => by have h1 := RW4.out.2 b h; have z1 := SZ1.out; have z2 := SZ2.out; have z3 := SZ3.out; have z4 := SZ4.out; have z5 := SZ5.out; have z6 := SZ6.out; have z7 := SZ7.out; have z8 := SZ8.out; have z9 := SZ9.out; have z10 := SZ10.out; have z11 := SZ11.out; have z12 := SZ12.out; omega))
  replace RW1 := Lib.hid (RW1.out.grown hg (fun b h => by have h1 := RW4.out.2 b h; have z1 := SZ1.out; have z2 := SZ2.out; have z3 := SZ3.out; have z4 := SZ4.out; have z5 := SZ5.out; have z6 := SZ6.out; have z7 := SZ7.out; have z8 := SZ8.out; have z9 := SZ9.out; have z10 := SZ10.out; have z11 := SZ11.out; have z12 := SZ12.out; omega))
  replace RW2 := Lib.hid (RW2.out.grown hg (fun b h => by have h1 := RW4.out.2 b h; have z1 := SZ1.out; have z2 := SZ2.out; have z3 := SZ3.out; have z4 := SZ4.out; have z5 := SZ5.out; have z6 := SZ6.out; have z7 := SZ7.out; have z8 := SZ8.out; have z9 := SZ9.out; have z10 := SZ10.out; have z11 := SZ11.out; have z12 := SZ12.out; omega))
  replace RW5 := Lib.hid (RW5.out.grown hg (fun b h => by have h1 := RW4.out.2 b h; have z1 := SZ1.out; have z2 := SZ2.out; have z3 := SZ3.out; have z4 := SZ4.out; have z5 := SZ5.out; have z6 := SZ6.out; have z7 := SZ7.out; have z8 := SZ8.out; have z9 := SZ9.out; have z10 := SZ10.out; have z11 := SZ11.out; have z12 := SZ12.out; omega))
  replace RW6 := Lib.hid (RW6.out.grown hg (fun b h => by have h1 := RW4.out.2 b h; have z1 := SZ1.out; have z2 := SZ2.out; have z3 := SZ3.out; have z4 := SZ4.out; have z5 := SZ5.out; have z6 := SZ6.out; have z7 := SZ7.out; have z8 := SZ8.out; have z9 := SZ9.out; have z10 := SZ10.out; have z11 := SZ11.out; have z12 := SZ12.out; omega))
  replace RW7 := Lib.hid (RW7.out.grown hg (fun b h => by have h1 := RW4.out.2 b h; have z1 := SZ1.out; have z2 := SZ2.out; have z3 := SZ3.out; have z4 := SZ4.out; have z5 := SZ5.out; have z6 := SZ6.out; have z7 := SZ7.out; have z8 := SZ8.out; have z9 := SZ9.out; have z10 := SZ10.out; have z11 := SZ11.out; have z12 := SZ12.out; omega))
  replace RW4 := Lib.hid (RW4.out.turn ho)
  clear ho hg
  go_wp2_with fail
  refine (eqInt64S_any aa5 aa2 nn2 cc5 cc2 r0 w_13 (by have h := LL5.out; omega) (by omega) (RW5.out.cells) (RW2.out.cells)).mono ?_
  rintro d w_14 ⟨rfl, hb⟩
  have HB14 := Lib.hid (HB13.out.step hb)
  have SZ14 := Lib.hid (show w_13.heap.size ≤ w_14.heap.size from hb.size)
  replace RW0 := Lib.hid (RW0.out.below hb)
  replace RW1 := Lib.hid (RW1.out.below hb)
  replace RW2 := Lib.hid (RW2.out.below hb)
  replace RW4 := Lib.hid (RW4.out.below hb)
  replace RW5 := Lib.hid (RW5.out.below hb)
  replace RW6 := Lib.hid (RW6.out.below hb)
  replace RW7 := Lib.hid (RW7.out.below hb)
  clear hb
  go_wp2_with fail
  obtain ⟨k_3, hk_3⟩ : ∃ q : Int, q = 1 + ((nn2 : Nat) : Int) := ⟨_, rfl⟩
  refine (marked_as (markInt64S_any aa5 nn2 cc5 w_5.heap.size 1 _ w_14 (by omega) (by omega) (by omega) RW5.out.1) hk_3).mono ?_
  rintro d w_15 ⟨rfl, ho, hg⟩
  have pk_3 : 0 ≤ k_3 := by omega
  have qk_3 : k_3 ≤ 4294967296 * 3 := by omega
  have Hk_3 := Lib.hid hk_3
  clear hk_3
  have HB15 := Lib.hid (HB14.out.grown hg (fun b h => by have h1 := RW5.out.2 b h; have z1 := SZ1.out; have z2 := SZ2.out; have z3 := SZ3.out; have z4 := SZ4.out; have z5 := SZ5.out; have z6 := SZ6.out; have z7 := SZ7.out; have z8 := SZ8.out; have z9 := SZ9.out; have z10 := SZ10.out; have z11 := SZ11.out; have z12 := SZ12.out; have z13 := SZ13.out; have z14 := SZ14.out; omega))
  have SZ15 := Lib.hid (show w_14.heap.size ≤ w_15.heap.size from hg.size)
  replace RW0 := Lib.hid (RW0.out.grown hg (fun b h => by have h1 := RW5.out.2 b h; have z1 := SZ1.out; have z2 := SZ2.out; have z3 := SZ3.out; have z4 := SZ4.out; have z5 := SZ5.out; have z6 := SZ6.out; have z7 := SZ7.out; have z8 := SZ8.out; have z9 := SZ9.out; have z10 := SZ10.out; have z11 := SZ11.out; have z12 := SZ12.out; have z13 := SZ13.out; have z14 := SZ14.out; omega))
  replace RW1 := Lib.hid (RW1.out.grown hg (fun b h => by have h1 := RW5.out.2 b h; have z1 := SZ1.out; have z2 := SZ2.out; have z3 := SZ3.out; have z4 := SZ4.out; have z5 := SZ5.out; have z6 := SZ6.out; have z7 := SZ7.out; have z8 := SZ8.out; have z9 := SZ9.out; have z10 := SZ10.out; have z11 := SZ11.out; have z12 := SZ12.out; have z13 := SZ13.out; have z14 := SZ14.out; omega))
  replace RW2 := Lib.hid (RW2.out.grown hg (fun b h => by have h1 := RW5.out.2 b h; have z1 := SZ1.out; have z2 := SZ2.out; have z3 := SZ3.out; have z4 := SZ4.out; have z5 := SZ5.out; have z6 := SZ6.out; have z7 := SZ7.out; have z8 := SZ8.out; have z9 := SZ9.out; have z10 := SZ10.out; have z11 := SZ11.out; have z12 := SZ12.out; have z13 := SZ13.out; have z14 := SZ14.out; omega))
  replace RW4 := Lib.hid (RW4.out.grown hg (fun b h => by have h1 := RW5.out.2 b h; have z1 := SZ1.out; have z2 := SZ2.out; have z3 := SZ3.out; have z4 := SZ4.out; have z5 := SZ5.out; have z6 := SZ6.out; have z7 := SZ7.out; have z8 := SZ8.out; have z9 := SZ9.out; have z10 := SZ10.out; have z11 := SZ11.out; have z12 := SZ12.out; have z13 := SZ13.out; have z14 := SZ14.out; omega))
  replace RW6 := Lib.hid (RW6.out.grown hg (fun b h => by have h1 := RW5.out.2 b h; have z1 := SZ1.out; have z2 := SZ2.out; have z3 := SZ3.out; have z4 := SZ4.out; have z5 := SZ5.out; have z6 := SZ6.out; have z7 := SZ7.out; have z8 := SZ8.out; have z9 := SZ9.out; have z10 := SZ10.out; have z11 := SZ11.out; have z12 := SZ12.out; have z13 := SZ13.out; have z14 := SZ14.out; omega))
  replace RW7 := Lib.hid (RW7.out.grown hg (fun b h => by have h1 := RW5.out.2 b h; have z1 := SZ1.out; have z2 := SZ2.out; have z3 := SZ3.out; have z4 := SZ4.out; have z5 := SZ5.out; have z6 := SZ6.out; have z7 := SZ7.out; have z8 := SZ8.out; have z9 := SZ9.out; have z10 := SZ10.out; have z11 := SZ11.out; have z12 := SZ12.out; have z13 := SZ13.out; have z14 := SZ14.out; omega))
  replace RW5 := Lib.hid (RW5.out.turn ho)
  clear ho hg
  go_wp2_with fail
  refine (held_as (heldInt64S_any aa5 nn2 cc5 1 w_15 (by omega) (by omega) (by omega) (RW5.out.cells)) Hk_3.out).mono ?_
  rintro d w_16 ⟨rfl, hb⟩
  have HB16 := Lib.hid (HB15.out.step hb)
  have SZ16 := Lib.hid (show w_15.heap.size ≤ w_16.heap.size from hb.size)
  replace RW0 := Lib.hid (RW0.out.below hb)
  replace RW1 := Lib.hid (RW1.out.below hb)
  replace RW2 := Lib.hid (RW2.out.below hb)
  replace RW4 := Lib.hid (RW4.out.below hb)
  replace RW5 := Lib.hid (RW5.out.below hb)
  replace RW6 := Lib.hid (RW6.out.below hb)
  replace RW7 := Lib.hid (RW7.out.below hb)
  clear hb
  go_wp2_with fail
  refine (toStringS_any a0 n0 c0 z0 w_16 L0.out b0 (S0.out.below HB16.out.1)).mono ?_
  rintro d w_17 ⟨g1008, rfl, ho, hb⟩
  have RW8 := Lib.hid (Row.mk_ ho)
  have HB17 := Lib.hid (HB16.out.step hb)
  have SZ17 := Lib.hid (show w_16.heap.size ≤ w_17.heap.size from hb.size)
  replace RW0 := Lib.hid (RW0.out.below hb)
  replace RW1 := Lib.hid (RW1.out.below hb)
  replace RW2 := Lib.hid (RW2.out.below hb)
  replace RW4 := Lib.hid (RW4.out.below hb)
  replace RW5 := Lib.hid (RW5.out.below hb)
  replace RW6 := Lib.hid (RW6.out.below hb)
  replace RW7 := Lib.hid (RW7.out.below hb)
  clear ho hb
  go_wp2_with fail
  refine (toCutS_any a1 n1 c1 z1 w_17 L1.out b1 (S1.out.below HB17.out.1)).mono ?_
  rintro d w_18 ⟨g1009, rfl, ho, hb⟩
  have RW9 := Lib.hid (Row.mk_ ho)
  have HB18 := Lib.hid (HB17.out.step hb)
  have SZ18 := Lib.hid (show w_17.heap.size ≤ w_18.heap.size from hb.size)
  replace RW0 := Lib.hid (RW0.out.below hb)
  replace RW1 := Lib.hid (RW1.out.below hb)
  replace RW2 := Lib.hid (RW2.out.below hb)
  replace RW4 := Lib.hid (RW4.out.below hb)
  replace RW5 := Lib.hid (RW5.out.below hb)
  replace RW6 := Lib.hid (RW6.out.below hb)
  replace RW7 := Lib.hid (RW7.out.below hb)
  replace RW8 := Lib.hid (RW8.out.below hb)
  clear ho hb
  go_wp2_with fail
  refine (impl_BestPlanE w_18 (some ⟨g1008, 0, none⟩) n0 n0 z0 L0.out b0 (RW8.out.cells) W0.out (some ⟨g1009, 0, none⟩) n1 n1 z1 L1.out b1 (RW9.out.cells) W1.out).mono ?_
  rw [Er0.out, Er1.out, Er2.out]
  rintro d w_19 ⟨aa10, nn10, cc10, rfl, ll10, bb10, ho, hb⟩
  have RW10 := Lib.hid (Row.mk_ ho)
  have HB19 := Lib.hid (HB18.out.step hb)
  have SZ19 := Lib.hid (show w_18.heap.size ≤ w_19.heap.size from hb.size)
  replace RW0 := Lib.hid (RW0.out.below hb)
  replace RW1 := Lib.hid (RW1.out.below hb)
  replace RW2 := Lib.hid (RW2.out.below hb)
  replace RW4 := Lib.hid (RW4.out.below hb)
  replace RW5 := Lib.hid (RW5.out.below hb)
  replace RW6 := Lib.hid (RW6.out.below hb)
  replace RW7 := Lib.hid (RW7.out.below hb)
  replace RW8 := Lib.hid (RW8.out.below hb)
  replace RW9 := Lib.hid (RW9.out.below hb)
  have LL10 := Lib.hid ll10
  clear ho hb ll10
  obtain rfl : nn2 = nn10 := by have h1 := LL10.out; have h2 := LL2.out; omega
  go_wp2_with fail
  refine (eqInt64S_any aa10 aa2 nn2 cc10 cc2 r0 w_19 (by have h := LL10.out; omega) (by omega) (RW10.out.cells) (RW2.out.cells)).mono ?_
  rintro d w_20 ⟨rfl, hb⟩
  have HB20 := Lib.hid (HB19.out.step hb)
  have SZ20 := Lib.hid (show w_19.heap.size ≤ w_20.heap.size from hb.size)
  replace RW0 := Lib.hid (RW0.out.below hb)
  replace RW1 := Lib.hid (RW1.out.below hb)
  replace RW2 := Lib.hid (RW2.out.below hb)
  replace RW4 := Lib.hid (RW4.out.below hb)
  replace RW5 := Lib.hid (RW5.out.below hb)
  replace RW6 := Lib.hid (RW6.out.below hb)
  replace RW7 := Lib.hid (RW7.out.below hb)
  replace RW8 := Lib.hid (RW8.out.below hb)
  replace RW9 := Lib.hid (RW9.out.below hb)
  replace RW10 := Lib.hid (RW10.out.below hb)
  clear hb
  go_wp2_with fail
  refine (held_as (heldInt64S_any aa5 nn2 cc5 1 w_20 (by omega) (by omega) (by omega) (RW5.out.cells)) Hk_3.out).mono ?_
  rintro d w_21 ⟨rfl, hb⟩
  have HB21 := Lib.hid (HB20.out.step hb)
  have SZ21 := Lib.hid (show w_20.heap.size ≤ w_21.heap.size from hb.size)
  replace RW0 := Lib.hid (RW0.out.below hb)
  replace RW1 := Lib.hid (RW1.out.below hb)
  replace RW2 := Lib.hid (RW2.out.below hb)
  replace RW4 := Lib.hid (RW4.out.below hb)
  replace RW5 := Lib.hid (RW5.out.below hb)
  replace RW6 := Lib.hid (RW6.out.below hb)
  replace RW7 := Lib.hid (RW7.out.below hb)
  replace RW8 := Lib.hid (RW8.out.below hb)
  replace RW9 := Lib.hid (RW9.out.below hb)
  replace RW10 := Lib.hid (RW10.out.below hb)
  clear hb
  go_wp2_with fail
  go_ret
  exact lawEnd_of HB21.out

end Go.Proofs.YthemlamdchcicaaDoor
