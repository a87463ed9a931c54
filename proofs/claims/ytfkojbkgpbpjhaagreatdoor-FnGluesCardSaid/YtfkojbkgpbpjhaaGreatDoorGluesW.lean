/-
  The walk of the law FnGlues. Conditions: the listed tables are laid.
-/
import Derived.Test.YtfkojbkgpbpjhaaGreatDoorGluesP
import Derived.Deep.DeepCutAuto
namespace Go.Proofs.YtfkojbkgpbpjhaaGreatDoor
open Go.ChangeShapes Go.WideShapes Go.ChangeAt Go.RowKit Go.Deep Go.Shelf Go.Sort

theorem Obx.cells2 {W : World} {B q E : Nat} {v0 v1 : Value} (h : Obx W B q E 2 [v0, v1]) : W.cell? ⟨q, 0, none⟩ = some v0 ∧ W.cell? ⟨q, 1, none⟩ = some v1 :=
  ⟨h.cell 0 (by omega), h.cell 1 (by omega)⟩
theorem text_cases (d o p : Int) : ∃ (T : ByteArray) (a b c : Int) (k : Bool), glueT d o p = T ∧ T.size ≤ 1048576 ∧ GlueRes T a b c k ∧ ((k = true ∧ T.toList.isEmpty = false ∧ a = d ∧ b = o ∧ c = p) ∨ (k = false ∧ T = ⟨#[]⟩)) := by
  cases hg : glueB d o p with
  | true =>
    obtain ⟨g1, g2, g3, g4, g5⟩ := glueB_true.1 hg
    have z1 := dec_size d (by omega) (by omega)
    have z2 := dec_size o (by omega) (by omega)
    have z3 := dec_size p (by omega) (by omega)
    refine ⟨glueT0 d o p, d, o, p, true, by simp [glueT, hg], ?_, glueT_res hg, .inl ⟨rfl, glueT0_ne d o p, rfl, rfl, rfl⟩⟩
    unfold glueT0
    simp only [ByteArray.size_append]
    have e1 : (⟨#[100, 114, 121, 32]⟩ : ByteArray).size = 4 := rfl
    have e2 : (⟨#[32, 111, 112, 101, 110, 32]⟩ : ByteArray).size = 6 := rfl
    have e3 : (⟨#[32, 112, 114, 101, 115, 115, 32]⟩ : ByteArray).size = 7 := rfl
    omega
  | false => exact ⟨⟨#[]⟩, 0, 0, 0, false, by simp [glueT, hg], by decide, glue_empty, .inr ⟨rfl, rfl⟩⟩
set_option maxRecDepth 100000 in
set_option maxHeartbeats 25600000 in
theorem fnGlues_walk (w : World) (a0 : Option Addr) (n0 c0 : Nat) (z0 : List Int) (l0 : z0.length = n0) (_ : n0 ≤ maxLen) (s0 : CellsAt w a0 (z0.map (Value.int .u8))) (w0 : ∀ z ∈ z0, (Lit.int .u8 z).wf = true) (ht : Tabs w) :
    Calls Tryz.prog 3 #[.slice a0 n0 c0] w fun e w' => e = .returned (.bool true) ∧ Below w.heap.size w w' := by
  by_cases g0 : n0 ≤ 4096
  · have HC := Lib.hid (code_at l0 s0 w0 (by omega))
    have HT := Lib.hid ht
    have HB_0 := Lib.hid (Bel.refl w)
    clear l0 s0 w0 ht
    go_enter Tryz.func3, Tryz.ntmps3
    go_wp2_with (go_at_call 4; go_in)
    refine (drawJoinWindow_any w n0 c0 a0 HC.out).mono ?_
    rintro e w1 ⟨d1, o1, p1, x1, y1, rfl, _, hb1⟩
    have HB_1 := Lib.hid hb1
    clear hb1 HB_0
    obtain ⟨f1, f2, f3, hF⟩ : ∃ a b c, windowF d1 o1 p1 x1 y1 = (a, b, c) := ⟨_, _, _, rfl⟩
    have HF := Lib.hid hF
    clear hF
    have G_1 := Lib.hid (Obx.newAt w1 w.heap.size w1.heap.size 25 3 #[.int .i64 d1, .int .i64 o1, .int .i64 p1] (by simp) (by have := HB_1.out.2; first | omega | (simp; omega)) rfl)
    have HB_1 := Lib.hid (HB_1.out.alloc (.cells #[.int .i64 d1, .int .i64 o1, .int .i64 p1] 25))
    go_wp2_with fail
    refine (jwI HF.out _).mono ?_
    rintro e w2 ⟨rfl, hb2⟩
    have HB_2 := Lib.hid (Bel.step HB_1.out hb2)
    have G_2 := Lib.hid (G_1.out.below hb2)
    clear hb2 G_1 HB_1
    generalize hqG : w1.heap.size = qG at G_2 ⊢
    clear hqG
    obtain ⟨Gc0_2, Gc1_2, Gc2_2⟩ := G_2.out.cells3
    have lG_2 := G_2.out.lt.2
    go_wp2_with fail
    refine (jwS HF.out _).mono ?_
    rintro e w3 ⟨rfl, hb3⟩
    have HB_3 := Lib.hid (Bel.step HB_2.out hb3)
    have G_3 := Lib.hid (G_2.out.below hb3)
    clear hb3 G_2 HB_2
    clear Gc0_2 Gc1_2 Gc2_2 lG_2
    go_wp2_with fail
    refine (drawJoinFault_any _ n0 c0 a0 (HC.out.below HB_3.out.1)).mono ?_
    rintro e w4 ⟨d2, o2, p2, a2, b2, j2, t2, rfl, _, _, hb4⟩
    have HB_4 := Lib.hid (HB_3.out.step hb4.1)
    have G_4 := Lib.hid (G_3.out.below hb4.1)
    clear hb4 G_3 HB_3
    obtain ⟨s2, k2, hJ⟩ : ∃ a b, joinFaultF d2 o2 p2 a2 b2 j2 t2 = (a, b) := ⟨_, _, rfl⟩
    have HJ := Lib.hid hJ
    clear hJ
    have A_4 := Lib.hid (Obx.newAt w4 w.heap.size w4.heap.size 25 3 #[.int .i64 d2, .int .i64 o2, .int .i64 p2] (by simp) (by have := HB_4.out.2; first | omega | (simp; omega)) rfl)
    have G_4 := Lib.hid (G_4.out.alloc (.cells #[.int .i64 d2, .int .i64 o2, .int .i64 p2] 25))
    have HB_4 := Lib.hid (HB_4.out.alloc (.cells #[.int .i64 d2, .int .i64 o2, .int .i64 p2] 25))
    have X_4 := Lib.hid (Obx.newAt (w4.alloc (.cells #[.int .i64 d2, .int .i64 o2, .int .i64 p2] 25)) w.heap.size (w4.heap.size + 1) 31 4 #[.int .i64 a2, .int .i64 b2, .int .i64 j2, .int .i64 t2] (by simp) (by have := HB_4.out.2; first | omega | (simp; omega)) rfl)
    have G_4 := Lib.hid (G_4.out.alloc (.cells #[.int .i64 a2, .int .i64 b2, .int .i64 j2, .int .i64 t2] 31))
    have A_4 := Lib.hid (A_4.out.alloc (.cells #[.int .i64 a2, .int .i64 b2, .int .i64 j2, .int .i64 t2] 31))
    have HB_4 := Lib.hid (HB_4.out.alloc (.cells #[.int .i64 a2, .int .i64 b2, .int .i64 j2, .int .i64 t2] 31))
    go_wp2_with fail
    refine (jfI HJ.out _).mono ?_
    rintro e w5 ⟨rfl, hb5⟩
    have HB_5 := Lib.hid (Bel.step HB_4.out hb5)
    have G_5 := Lib.hid (G_4.out.below hb5)
    have A_5 := Lib.hid (A_4.out.below hb5)
    have X_5 := Lib.hid (X_4.out.below hb5)
    clear hb5 G_4 A_4 X_4 HB_4
    generalize hqX : (w4.heap.size + 1) = qX at X_5 ⊢
    clear hqX
    generalize hqA : w4.heap.size = qA at A_5 ⊢
    clear hqA
    obtain ⟨Ac0_5, Ac1_5, Ac2_5⟩ := A_5.out.cells3
    have lA_5 := A_5.out.lt.2
    obtain ⟨Xc0_5, Xc1_5, Xc2_5, Xc3_5⟩ := X_5.out.cells4
    have lX_5 := X_5.out.lt.2
    go_wp2_with fail
    refine (jfS HJ.out _).mono ?_
    rintro e w6 ⟨rfl, hb6⟩
    have HB_6 := Lib.hid (Bel.step HB_5.out hb6)
    have G_6 := Lib.hid (G_5.out.below hb6)
    have A_6 := Lib.hid (A_5.out.below hb6)
    have X_6 := Lib.hid (X_5.out.below hb6)
    clear hb6 G_5 A_5 X_5 HB_5
    clear Ac0_5 Ac1_5 Ac2_5 lA_5
    clear Xc0_5 Xc1_5 Xc2_5 Xc3_5 lX_5
    go_wp2_with fail
    refine (drawWarmGlue_any _ n0 c0 a0 (HC.out.below HB_6.out.1)).mono ?_
    rintro e w7 ⟨d3, o3, p3, x3, rfl, _, hb7⟩
    have HB_7 := Lib.hid (HB_6.out.step hb7.1)
    have G_7 := Lib.hid (G_6.out.below hb7.1)
    have A_7 := Lib.hid (A_6.out.below hb7.1)
    have X_7 := Lib.hid (X_6.out.below hb7.1)
    clear hb7 G_6 A_6 X_6 HB_6
    obtain ⟨e1, e2, e3, e4, hM⟩ : ∃ a b c k, warmF d3 o3 p3 x3 = (a, b, c, k) := ⟨_, _, _, _, rfl⟩
    have HM := Lib.hid hM
    clear hM
    have B_7 := Lib.hid (Obx.newAt w7 w.heap.size w7.heap.size 25 3 #[.int .i64 d3, .int .i64 o3, .int .i64 p3] (by simp) (by have := HB_7.out.2; first | omega | (simp; omega)) rfl)
    have G_7 := Lib.hid (G_7.out.alloc (.cells #[.int .i64 d3, .int .i64 o3, .int .i64 p3] 25))
    have A_7 := Lib.hid (A_7.out.alloc (.cells #[.int .i64 d3, .int .i64 o3, .int .i64 p3] 25))
    have X_7 := Lib.hid (X_7.out.alloc (.cells #[.int .i64 d3, .int .i64 o3, .int .i64 p3] 25))
    have HB_7 := Lib.hid (HB_7.out.alloc (.cells #[.int .i64 d3, .int .i64 o3, .int .i64 p3] 25))
    go_wp2_with fail
    refine (wgI HM.out _).mono ?_
    rintro e w8 ⟨rfl, hb8⟩
    have HB_8 := Lib.hid (Bel.step HB_7.out hb8)
    have G_8 := Lib.hid (G_7.out.below hb8)
    have A_8 := Lib.hid (A_7.out.below hb8)
    have X_8 := Lib.hid (X_7.out.below hb8)
    have B_8 := Lib.hid (B_7.out.below hb8)
    clear hb8 G_7 A_7 X_7 B_7 HB_7
    generalize hqB : w7.heap.size = qB at B_8 ⊢
    clear hqB
    have Wm_8 := Lib.hid (Obx.newAt w8 w.heap.size w8.heap.size 25 3 #[.int .i64 e1, .int .i64 e2, .int .i64 e3] (by simp) (by have := HB_8.out.2; first | omega | (simp; omega)) rfl)
    have G_8 := Lib.hid (G_8.out.alloc (.cells #[.int .i64 e1, .int .i64 e2, .int .i64 e3] 25))
    have A_8 := Lib.hid (A_8.out.alloc (.cells #[.int .i64 e1, .int .i64 e2, .int .i64 e3] 25))
    have X_8 := Lib.hid (X_8.out.alloc (.cells #[.int .i64 e1, .int .i64 e2, .int .i64 e3] 25))
    have B_8 := Lib.hid (B_8.out.alloc (.cells #[.int .i64 e1, .int .i64 e2, .int .i64 e3] 25))
    have HB_8 := Lib.hid (HB_8.out.alloc (.cells #[.int .i64 e1, .int .i64 e2, .int .i64 e3] 25))
    obtain ⟨Bc0_8, Bc1_8, Bc2_8⟩ := B_8.out.cells3
    have lB_8 := B_8.out.lt.2
    go_wp2_with fail
    refine (wgS HM.out _).mono ?_
    rintro e w9 ⟨rfl, hb9⟩
    have HB_9 := Lib.hid (Bel.step HB_8.out hb9)
    have G_9 := Lib.hid (G_8.out.below hb9)
    have A_9 := Lib.hid (A_8.out.below hb9)
    have X_9 := Lib.hid (X_8.out.below hb9)
    have B_9 := Lib.hid (B_8.out.below hb9)
    have Wm_9 := Lib.hid (Wm_8.out.below hb9)
    clear hb9 G_8 A_8 X_8 B_8 Wm_8 HB_8
    generalize hqWm : w8.heap.size = qWm at Wm_9 ⊢
    clear hqWm
    have Ht_9 := Lib.hid (Obx.newAt w9 w.heap.size w9.heap.size 25 3 #[.int .i64 e1, .int .i64 e2, .int .i64 e3] (by simp) (by have := HB_9.out.2; first | omega | (simp; omega)) rfl)
    have G_9 := Lib.hid (G_9.out.alloc (.cells #[.int .i64 e1, .int .i64 e2, .int .i64 e3] 25))
    have A_9 := Lib.hid (A_9.out.alloc (.cells #[.int .i64 e1, .int .i64 e2, .int .i64 e3] 25))
    have X_9 := Lib.hid (X_9.out.alloc (.cells #[.int .i64 e1, .int .i64 e2, .int .i64 e3] 25))
    have B_9 := Lib.hid (B_9.out.alloc (.cells #[.int .i64 e1, .int .i64 e2, .int .i64 e3] 25))
    have Wm_9 := Lib.hid (Wm_9.out.alloc (.cells #[.int .i64 e1, .int .i64 e2, .int .i64 e3] 25))
    have HB_9 := Lib.hid (HB_9.out.alloc (.cells #[.int .i64 e1, .int .i64 e2, .int .i64 e3] 25))
    clear Bc0_8 Bc1_8 Bc2_8 lB_8
    go_wp2_with fail
    refine (drawCureShare_any _ n0 c0 a0 (HC.out.below HB_9.out.1)).mono ?_
    rintro e w10 ⟨a4, b4, j4, t4, x4, y4, rfl, _, hb10⟩
    have HB_10 := Lib.hid (HB_9.out.step hb10.1)
    have G_10 := Lib.hid (G_9.out.below hb10.1)
    have A_10 := Lib.hid (A_9.out.below hb10.1)
    have X_10 := Lib.hid (X_9.out.below hb10.1)
    have B_10 := Lib.hid (B_9.out.below hb10.1)
    have Wm_10 := Lib.hid (Wm_9.out.below hb10.1)
    have Ht_10 := Lib.hid (Ht_9.out.below hb10.1)
    clear hb10 G_9 A_9 X_9 B_9 Wm_9 Ht_9 HB_9
    generalize hqHt : w9.heap.size = qHt at Ht_10 ⊢
    clear hqHt
    obtain ⟨r1, r2, r3, hU⟩ : ∃ a b c, cureF a4 b4 j4 t4 x4 y4 = (a, b, c) := ⟨_, _, _, rfl⟩
    have HU := Lib.hid hU
    clear hU
    have Y_10 := Lib.hid (Obx.newAt w10 w.heap.size w10.heap.size 31 4 #[.int .i64 a4, .int .i64 b4, .int .i64 j4, .int .i64 t4] (by simp) (by have := HB_10.out.2; first | omega | (simp; omega)) rfl)
    have G_10 := Lib.hid (G_10.out.alloc (.cells #[.int .i64 a4, .int .i64 b4, .int .i64 j4, .int .i64 t4] 31))
    have A_10 := Lib.hid (A_10.out.alloc (.cells #[.int .i64 a4, .int .i64 b4, .int .i64 j4, .int .i64 t4] 31))
    have X_10 := Lib.hid (X_10.out.alloc (.cells #[.int .i64 a4, .int .i64 b4, .int .i64 j4, .int .i64 t4] 31))
    have B_10 := Lib.hid (B_10.out.alloc (.cells #[.int .i64 a4, .int .i64 b4, .int .i64 j4, .int .i64 t4] 31))
    have Wm_10 := Lib.hid (Wm_10.out.alloc (.cells #[.int .i64 a4, .int .i64 b4, .int .i64 j4, .int .i64 t4] 31))
    have Ht_10 := Lib.hid (Ht_10.out.alloc (.cells #[.int .i64 a4, .int .i64 b4, .int .i64 j4, .int .i64 t4] 31))
    have HB_10 := Lib.hid (HB_10.out.alloc (.cells #[.int .i64 a4, .int .i64 b4, .int .i64 j4, .int .i64 t4] 31))
    go_wp2_with fail
    refine (csI HU.out _).mono ?_
    rintro e w11 ⟨rfl, hb11⟩
    have HB_11 := Lib.hid (Bel.step HB_10.out hb11)
    have G_11 := Lib.hid (G_10.out.below hb11)
    have A_11 := Lib.hid (A_10.out.below hb11)
    have X_11 := Lib.hid (X_10.out.below hb11)
    have B_11 := Lib.hid (B_10.out.below hb11)
    have Wm_11 := Lib.hid (Wm_10.out.below hb11)
    have Ht_11 := Lib.hid (Ht_10.out.below hb11)
    have Y_11 := Lib.hid (Y_10.out.below hb11)
    clear hb11 G_10 A_10 X_10 B_10 Wm_10 Ht_10 Y_10 HB_10
    generalize hqY : w10.heap.size = qY at Y_11 ⊢
    clear hqY
    have F_11 := Lib.hid (Obx.newAt w11 w.heap.size w11.heap.size 42 2 #[.int .i64 r1, .int .i64 r2] (by simp) (by have := HB_11.out.2; first | omega | (simp; omega)) rfl)
    have G_11 := Lib.hid (G_11.out.alloc (.cells #[.int .i64 r1, .int .i64 r2] 42))
    have A_11 := Lib.hid (A_11.out.alloc (.cells #[.int .i64 r1, .int .i64 r2] 42))
    have X_11 := Lib.hid (X_11.out.alloc (.cells #[.int .i64 r1, .int .i64 r2] 42))
    have B_11 := Lib.hid (B_11.out.alloc (.cells #[.int .i64 r1, .int .i64 r2] 42))
    have Wm_11 := Lib.hid (Wm_11.out.alloc (.cells #[.int .i64 r1, .int .i64 r2] 42))
    have Ht_11 := Lib.hid (Ht_11.out.alloc (.cells #[.int .i64 r1, .int .i64 r2] 42))
    have Y_11 := Lib.hid (Y_11.out.alloc (.cells #[.int .i64 r1, .int .i64 r2] 42))
    have HB_11 := Lib.hid (HB_11.out.alloc (.cells #[.int .i64 r1, .int .i64 r2] 42))
    obtain ⟨Yc0_11, Yc1_11, Yc2_11, Yc3_11⟩ := Y_11.out.cells4
    have lY_11 := Y_11.out.lt.2
    go_wp2_with fail
    refine (csS HU.out _).mono ?_
    rintro e w12 ⟨rfl, hb12⟩
    have HB_12 := Lib.hid (Bel.step HB_11.out hb12)
    have G_12 := Lib.hid (G_11.out.below hb12)
    have A_12 := Lib.hid (A_11.out.below hb12)
    have X_12 := Lib.hid (X_11.out.below hb12)
    have B_12 := Lib.hid (B_11.out.below hb12)
    have Wm_12 := Lib.hid (Wm_11.out.below hb12)
    have Ht_12 := Lib.hid (Ht_11.out.below hb12)
    have Y_12 := Lib.hid (Y_11.out.below hb12)
    have F_12 := Lib.hid (F_11.out.below hb12)
    clear hb12 G_11 A_11 X_11 B_11 Wm_11 Ht_11 Y_11 F_11 HB_11
    generalize hqF : w11.heap.size = qF at F_12 ⊢
    clear hqF
    have Sh_12 := Lib.hid (Obx.newAt w12 w.heap.size w12.heap.size 42 2 #[.int .i64 r1, .int .i64 r2] (by simp) (by have := HB_12.out.2; first | omega | (simp; omega)) rfl)
    have G_12 := Lib.hid (G_12.out.alloc (.cells #[.int .i64 r1, .int .i64 r2] 42))
    have A_12 := Lib.hid (A_12.out.alloc (.cells #[.int .i64 r1, .int .i64 r2] 42))
    have X_12 := Lib.hid (X_12.out.alloc (.cells #[.int .i64 r1, .int .i64 r2] 42))
    have B_12 := Lib.hid (B_12.out.alloc (.cells #[.int .i64 r1, .int .i64 r2] 42))
    have Wm_12 := Lib.hid (Wm_12.out.alloc (.cells #[.int .i64 r1, .int .i64 r2] 42))
    have Ht_12 := Lib.hid (Ht_12.out.alloc (.cells #[.int .i64 r1, .int .i64 r2] 42))
    have Y_12 := Lib.hid (Y_12.out.alloc (.cells #[.int .i64 r1, .int .i64 r2] 42))
    have F_12 := Lib.hid (F_12.out.alloc (.cells #[.int .i64 r1, .int .i64 r2] 42))
    have HB_12 := Lib.hid (HB_12.out.alloc (.cells #[.int .i64 r1, .int .i64 r2] 42))
    clear Yc0_11 Yc1_11 Yc2_11 Yc3_11 lY_11
    go_wp2_with fail
    refine (drawGlueText_any _ n0 c0 a0 (HC.out.below HB_12.out.1)).mono ?_
    rintro e w13 ⟨d5, o5, p5, rfl, _, hb13⟩
    have HB_13 := Lib.hid (HB_12.out.step hb13.1)
    have G_13 := Lib.hid (G_12.out.below hb13.1)
    have A_13 := Lib.hid (A_12.out.below hb13.1)
    have X_13 := Lib.hid (X_12.out.below hb13.1)
    have B_13 := Lib.hid (B_12.out.below hb13.1)
    have Wm_13 := Lib.hid (Wm_12.out.below hb13.1)
    have Ht_13 := Lib.hid (Ht_12.out.below hb13.1)
    have Y_13 := Lib.hid (Y_12.out.below hb13.1)
    have F_13 := Lib.hid (F_12.out.below hb13.1)
    have Sh_13 := Lib.hid (Sh_12.out.below hb13.1)
    clear hb13 G_12 A_12 X_12 B_12 Wm_12 Ht_12 Y_12 F_12 Sh_12 HB_12
    generalize hqSh : w12.heap.size = qSh at Sh_13 ⊢
    clear hqSh
    obtain ⟨T5, v1, v2, v3, ok5, hGT, hsz, hRes, hcase⟩ := text_cases d5 o5 p5
    have HGT := Lib.hid hGT
    have HRes := Lib.hid hRes
    have HCase := Lib.hid hcase
    clear hGT hRes hcase
    have T_13 := Lib.hid (Obx.newAt w13 w.heap.size w13.heap.size 25 3 #[.int .i64 d5, .int .i64 o5, .int .i64 p5] (by simp) (by have := HB_13.out.2; first | omega | (simp; omega)) rfl)
    have G_13 := Lib.hid (G_13.out.alloc (.cells #[.int .i64 d5, .int .i64 o5, .int .i64 p5] 25))
    have A_13 := Lib.hid (A_13.out.alloc (.cells #[.int .i64 d5, .int .i64 o5, .int .i64 p5] 25))
    have X_13 := Lib.hid (X_13.out.alloc (.cells #[.int .i64 d5, .int .i64 o5, .int .i64 p5] 25))
    have B_13 := Lib.hid (B_13.out.alloc (.cells #[.int .i64 d5, .int .i64 o5, .int .i64 p5] 25))
    have Wm_13 := Lib.hid (Wm_13.out.alloc (.cells #[.int .i64 d5, .int .i64 o5, .int .i64 p5] 25))
    have Ht_13 := Lib.hid (Ht_13.out.alloc (.cells #[.int .i64 d5, .int .i64 o5, .int .i64 p5] 25))
    have Y_13 := Lib.hid (Y_13.out.alloc (.cells #[.int .i64 d5, .int .i64 o5, .int .i64 p5] 25))
    have F_13 := Lib.hid (F_13.out.alloc (.cells #[.int .i64 d5, .int .i64 o5, .int .i64 p5] 25))
    have Sh_13 := Lib.hid (Sh_13.out.alloc (.cells #[.int .i64 d5, .int .i64 o5, .int .i64 p5] 25))
    have HB_13 := Lib.hid (HB_13.out.alloc (.cells #[.int .i64 d5, .int .i64 o5, .int .i64 p5] 25))
    go_wp2_with fail
    refine (textI HGT.out _ (HT.out.below HB_13.out.1).1).mono ?_
    rintro e w14 ⟨rfl, hb14⟩
    have HB_14 := Lib.hid (Bel.step HB_13.out hb14)
    have G_14 := Lib.hid (G_13.out.below hb14)
    have A_14 := Lib.hid (A_13.out.below hb14)
    have X_14 := Lib.hid (X_13.out.below hb14)
    have B_14 := Lib.hid (B_13.out.below hb14)
    have Wm_14 := Lib.hid (Wm_13.out.below hb14)
    have Ht_14 := Lib.hid (Ht_13.out.below hb14)
    have Y_14 := Lib.hid (Y_13.out.below hb14)
    have F_14 := Lib.hid (F_13.out.below hb14)
    have Sh_14 := Lib.hid (Sh_13.out.below hb14)
    have T_14 := Lib.hid (T_13.out.below hb14)
    clear hb14 G_13 A_13 X_13 B_13 Wm_13 Ht_13 Y_13 F_13 Sh_13 T_13 HB_13
    generalize hqT : w13.heap.size = qT at T_14 ⊢
    clear hqT
    go_wp2_with fail
    refine (impl_ReadGlue T5 _ hsz (HT.out.below HB_14.out.1) v1 v2 v3 ok5 HRes.out).mono ?_
    rintro e w15 ⟨rfl, hb15⟩
    have HB_15 := Lib.hid (Bel.step HB_14.out hb15)
    have G_15 := Lib.hid (G_14.out.below hb15)
    have A_15 := Lib.hid (A_14.out.below hb15)
    have X_15 := Lib.hid (X_14.out.below hb15)
    have B_15 := Lib.hid (B_14.out.below hb15)
    have Wm_15 := Lib.hid (Wm_14.out.below hb15)
    have Ht_15 := Lib.hid (Ht_14.out.below hb15)
    have Y_15 := Lib.hid (Y_14.out.below hb15)
    have F_15 := Lib.hid (F_14.out.below hb15)
    have Sh_15 := Lib.hid (Sh_14.out.below hb15)
    have T_15 := Lib.hid (T_14.out.below hb15)
    clear hb15 G_14 A_14 X_14 B_14 Wm_14 Ht_14 Y_14 F_14 Sh_14 T_14 HB_14
    have Bk_15 := Lib.hid (Obx.newAt w15 w.heap.size w15.heap.size 25 3 #[.int .i64 v1, .int .i64 v2, .int .i64 v3] (by simp) (by have := HB_15.out.2; first | omega | (simp; omega)) rfl)
    have G_15 := Lib.hid (G_15.out.alloc (.cells #[.int .i64 v1, .int .i64 v2, .int .i64 v3] 25))
    have A_15 := Lib.hid (A_15.out.alloc (.cells #[.int .i64 v1, .int .i64 v2, .int .i64 v3] 25))
    have X_15 := Lib.hid (X_15.out.alloc (.cells #[.int .i64 v1, .int .i64 v2, .int .i64 v3] 25))
    have B_15 := Lib.hid (B_15.out.alloc (.cells #[.int .i64 v1, .int .i64 v2, .int .i64 v3] 25))
    have Wm_15 := Lib.hid (Wm_15.out.alloc (.cells #[.int .i64 v1, .int .i64 v2, .int .i64 v3] 25))
    have Ht_15 := Lib.hid (Ht_15.out.alloc (.cells #[.int .i64 v1, .int .i64 v2, .int .i64 v3] 25))
    have Y_15 := Lib.hid (Y_15.out.alloc (.cells #[.int .i64 v1, .int .i64 v2, .int .i64 v3] 25))
    have F_15 := Lib.hid (F_15.out.alloc (.cells #[.int .i64 v1, .int .i64 v2, .int .i64 v3] 25))
    have Sh_15 := Lib.hid (Sh_15.out.alloc (.cells #[.int .i64 v1, .int .i64 v2, .int .i64 v3] 25))
    have T_15 := Lib.hid (T_15.out.alloc (.cells #[.int .i64 v1, .int .i64 v2, .int .i64 v3] 25))
    have HB_15 := Lib.hid (HB_15.out.alloc (.cells #[.int .i64 v1, .int .i64 v2, .int .i64 v3] 25))
    go_wp2_with fail
    refine (drawReadGlue_any _ n0 c0 a0 (HC.out.below HB_15.out.1)).mono ?_
    rintro e w16 ⟨s6, rfl, hs6, hb16⟩
    have HB_16 := Lib.hid (HB_15.out.step hb16.1)
    have G_16 := Lib.hid (G_15.out.below hb16.1)
    have A_16 := Lib.hid (A_15.out.below hb16.1)
    have X_16 := Lib.hid (X_15.out.below hb16.1)
    have B_16 := Lib.hid (B_15.out.below hb16.1)
    have Wm_16 := Lib.hid (Wm_15.out.below hb16.1)
    have Ht_16 := Lib.hid (Ht_15.out.below hb16.1)
    have Y_16 := Lib.hid (Y_15.out.below hb16.1)
    have F_16 := Lib.hid (F_15.out.below hb16.1)
    have Sh_16 := Lib.hid (Sh_15.out.below hb16.1)
    have T_16 := Lib.hid (T_15.out.below hb16.1)
    have Bk_16 := Lib.hid (Bk_15.out.below hb16.1)
    clear hb16 G_15 A_15 X_15 B_15 Wm_15 Ht_15 Y_15 F_15 Sh_15 T_15 Bk_15 HB_15
    generalize hqBk : w15.heap.size = qBk at Bk_16 ⊢
    clear hqBk
    obtain ⟨u1, u2, u3, ok6, hR6⟩ := glueRes_ex s6
    have HR6 := Lib.hid hR6
    clear hR6
    go_wp2_with fail
    refine (impl_ReadGlue s6 _ (by omega) (HT.out.below HB_16.out.1) u1 u2 u3 ok6 HR6.out).mono ?_
    rintro e w17 ⟨rfl, hb17⟩
    have HB_17 := Lib.hid (Bel.step HB_16.out hb17)
    have G_17 := Lib.hid (G_16.out.below hb17)
    have A_17 := Lib.hid (A_16.out.below hb17)
    have X_17 := Lib.hid (X_16.out.below hb17)
    have B_17 := Lib.hid (B_16.out.below hb17)
    have Wm_17 := Lib.hid (Wm_16.out.below hb17)
    have Ht_17 := Lib.hid (Ht_16.out.below hb17)
    have Y_17 := Lib.hid (Y_16.out.below hb17)
    have F_17 := Lib.hid (F_16.out.below hb17)
    have Sh_17 := Lib.hid (Sh_16.out.below hb17)
    have T_17 := Lib.hid (T_16.out.below hb17)
    have Bk_17 := Lib.hid (Bk_16.out.below hb17)
    clear hb17 G_16 A_16 X_16 B_16 Wm_16 Ht_16 Y_16 F_16 Sh_16 T_16 Bk_16 HB_16
    have U_17 := Lib.hid (Obx.newAt w17 w.heap.size w17.heap.size 25 3 #[.int .i64 u1, .int .i64 u2, .int .i64 u3] (by simp) (by have := HB_17.out.2; first | omega | (simp; omega)) rfl)
    have G_17 := Lib.hid (G_17.out.alloc (.cells #[.int .i64 u1, .int .i64 u2, .int .i64 u3] 25))
    have A_17 := Lib.hid (A_17.out.alloc (.cells #[.int .i64 u1, .int .i64 u2, .int .i64 u3] 25))
    have X_17 := Lib.hid (X_17.out.alloc (.cells #[.int .i64 u1, .int .i64 u2, .int .i64 u3] 25))
    have B_17 := Lib.hid (B_17.out.alloc (.cells #[.int .i64 u1, .int .i64 u2, .int .i64 u3] 25))
    have Wm_17 := Lib.hid (Wm_17.out.alloc (.cells #[.int .i64 u1, .int .i64 u2, .int .i64 u3] 25))
    have Ht_17 := Lib.hid (Ht_17.out.alloc (.cells #[.int .i64 u1, .int .i64 u2, .int .i64 u3] 25))
    have Y_17 := Lib.hid (Y_17.out.alloc (.cells #[.int .i64 u1, .int .i64 u2, .int .i64 u3] 25))
    have F_17 := Lib.hid (F_17.out.alloc (.cells #[.int .i64 u1, .int .i64 u2, .int .i64 u3] 25))
    have Sh_17 := Lib.hid (Sh_17.out.alloc (.cells #[.int .i64 u1, .int .i64 u2, .int .i64 u3] 25))
    have T_17 := Lib.hid (T_17.out.alloc (.cells #[.int .i64 u1, .int .i64 u2, .int .i64 u3] 25))
    have Bk_17 := Lib.hid (Bk_17.out.alloc (.cells #[.int .i64 u1, .int .i64 u2, .int .i64 u3] 25))
    have HB_17 := Lib.hid (HB_17.out.alloc (.cells #[.int .i64 u1, .int .i64 u2, .int .i64 u3] 25))
    go_wp2_with fail
    refine (spec_ReadGlue s6 _ (by omega) u1 u2 u3 ok6 HR6.out).mono ?_
    rintro e w18 ⟨rfl, hb18⟩
    have HB_18 := Lib.hid (Bel.step HB_17.out hb18)
    have G_18 := Lib.hid (G_17.out.below hb18)
    have A_18 := Lib.hid (A_17.out.below hb18)
    have X_18 := Lib.hid (X_17.out.below hb18)
    have B_18 := Lib.hid (B_17.out.below hb18)
    have Wm_18 := Lib.hid (Wm_17.out.below hb18)
    have Ht_18 := Lib.hid (Ht_17.out.below hb18)
    have Y_18 := Lib.hid (Y_17.out.below hb18)
    have F_18 := Lib.hid (F_17.out.below hb18)
    have Sh_18 := Lib.hid (Sh_17.out.below hb18)
    have T_18 := Lib.hid (T_17.out.below hb18)
    have Bk_18 := Lib.hid (Bk_17.out.below hb18)
    have U_18 := Lib.hid (U_17.out.below hb18)
    clear hb18 G_17 A_17 X_17 B_17 Wm_17 Ht_17 Y_17 F_17 Sh_17 T_17 Bk_17 U_17 HB_17
    generalize hqU : w17.heap.size = qU at U_18 ⊢
    clear hqU
    have V_18 := Lib.hid (Obx.newAt w18 w.heap.size w18.heap.size 25 3 #[.int .i64 u1, .int .i64 u2, .int .i64 u3] (by simp) (by have := HB_18.out.2; first | omega | (simp; omega)) rfl)
    have G_18 := Lib.hid (G_18.out.alloc (.cells #[.int .i64 u1, .int .i64 u2, .int .i64 u3] 25))
    have A_18 := Lib.hid (A_18.out.alloc (.cells #[.int .i64 u1, .int .i64 u2, .int .i64 u3] 25))
    have X_18 := Lib.hid (X_18.out.alloc (.cells #[.int .i64 u1, .int .i64 u2, .int .i64 u3] 25))
    have B_18 := Lib.hid (B_18.out.alloc (.cells #[.int .i64 u1, .int .i64 u2, .int .i64 u3] 25))
    have Wm_18 := Lib.hid (Wm_18.out.alloc (.cells #[.int .i64 u1, .int .i64 u2, .int .i64 u3] 25))
    have Ht_18 := Lib.hid (Ht_18.out.alloc (.cells #[.int .i64 u1, .int .i64 u2, .int .i64 u3] 25))
    have Y_18 := Lib.hid (Y_18.out.alloc (.cells #[.int .i64 u1, .int .i64 u2, .int .i64 u3] 25))
    have F_18 := Lib.hid (F_18.out.alloc (.cells #[.int .i64 u1, .int .i64 u2, .int .i64 u3] 25))
    have Sh_18 := Lib.hid (Sh_18.out.alloc (.cells #[.int .i64 u1, .int .i64 u2, .int .i64 u3] 25))
    have T_18 := Lib.hid (T_18.out.alloc (.cells #[.int .i64 u1, .int .i64 u2, .int .i64 u3] 25))
    have Bk_18 := Lib.hid (Bk_18.out.alloc (.cells #[.int .i64 u1, .int .i64 u2, .int .i64 u3] 25))
    have U_18 := Lib.hid (U_18.out.alloc (.cells #[.int .i64 u1, .int .i64 u2, .int .i64 u3] 25))
    have HB_18 := Lib.hid (HB_18.out.alloc (.cells #[.int .i64 u1, .int .i64 u2, .int .i64 u3] 25))
    go_upto_region 21 with fail
    generalize hW : w18.alloc _ = w19
    have G_19 := Lib.hid (show Obx w19 w.heap.size qG 25 3 [.int .i64 d1, .int .i64 o1, .int .i64 p1] by rw [← hW]; exact G_18.out)
    have A_19 := Lib.hid (show Obx w19 w.heap.size qA 25 3 [.int .i64 d2, .int .i64 o2, .int .i64 p2] by rw [← hW]; exact A_18.out)
    have X_19 := Lib.hid (show Obx w19 w.heap.size qX 31 4 [.int .i64 a2, .int .i64 b2, .int .i64 j2, .int .i64 t2] by rw [← hW]; exact X_18.out)
    have B_19 := Lib.hid (show Obx w19 w.heap.size qB 25 3 [.int .i64 d3, .int .i64 o3, .int .i64 p3] by rw [← hW]; exact B_18.out)
    have Wm_19 := Lib.hid (show Obx w19 w.heap.size qWm 25 3 [.int .i64 e1, .int .i64 e2, .int .i64 e3] by rw [← hW]; exact Wm_18.out)
    have Ht_19 := Lib.hid (show Obx w19 w.heap.size qHt 25 3 [.int .i64 e1, .int .i64 e2, .int .i64 e3] by rw [← hW]; exact Ht_18.out)
    have Y_19 := Lib.hid (show Obx w19 w.heap.size qY 31 4 [.int .i64 a4, .int .i64 b4, .int .i64 j4, .int .i64 t4] by rw [← hW]; exact Y_18.out)
    have F_19 := Lib.hid (show Obx w19 w.heap.size qF 42 2 [.int .i64 r1, .int .i64 r2] by rw [← hW]; exact F_18.out)
    have Sh_19 := Lib.hid (show Obx w19 w.heap.size qSh 42 2 [.int .i64 r1, .int .i64 r2] by rw [← hW]; exact Sh_18.out)
    have T_19 := Lib.hid (show Obx w19 w.heap.size qT 25 3 [.int .i64 d5, .int .i64 o5, .int .i64 p5] by rw [← hW]; exact T_18.out)
    have Bk_19 := Lib.hid (show Obx w19 w.heap.size qBk 25 3 [.int .i64 v1, .int .i64 v2, .int .i64 v3] by rw [← hW]; exact Bk_18.out)
    have U_19 := Lib.hid (show Obx w19 w.heap.size qU 25 3 [.int .i64 u1, .int .i64 u2, .int .i64 u3] by rw [← hW]; exact U_18.out)
    have V_19 := Lib.hid (show Obx w19 w.heap.size w18.heap.size 25 3 [.int .i64 u1, .int .i64 u2, .int .i64 u3] by rw [← hW]; exact V_18.out)
    have HB_19 := Lib.hid (show Bel w.heap.size w w19 by rw [← hW]; exact HB_18.out)
    clear hW HB_18 G_18 A_18 X_18 B_18 Wm_18 Ht_18 Y_18 F_18 Sh_18 T_18 Bk_18 U_18 V_18
    generalize hqV : w18.heap.size = qV at V_19 ⊢
    clear hqV
    go_cut [224] (fun t224 W => t224 = .bool false ∧ Hid (Obx W w.heap.size qG 25 3 [.int .i64 d1, .int .i64 o1, .int .i64 p1] ∧ Obx W w.heap.size qB 25 3 [.int .i64 d3, .int .i64 o3, .int .i64 p3] ∧ Obx W w.heap.size qWm 25 3 [.int .i64 e1, .int .i64 e2, .int .i64 e3] ∧ Obx W w.heap.size qF 42 2 [.int .i64 r1, .int .i64 r2] ∧ Bel w.heap.size w W))
    case first =>
      as_aux_lemma =>
        obtain ⟨Wmc0_19, Wmc1_19, Wmc2_19⟩ := Wm_19.out.cells3
        have lWm_19 := Wm_19.out.lt.2
        obtain ⟨Htc0_19, Htc1_19, Htc2_19⟩ := Ht_19.out.cells3
        have lHt_19 := Ht_19.out.lt.2
        obtain ⟨Fc0_19, Fc1_19⟩ := F_19.out.cells2
        have lF_19 := F_19.out.lt.2
        obtain ⟨Shc0_19, Shc1_19⟩ := Sh_19.out.cells2
        have lSh_19 := Sh_19.out.lt.2
        obtain ⟨Tc0_19, Tc1_19, Tc2_19⟩ := T_19.out.cells3
        have lT_19 := T_19.out.lt.2
        obtain ⟨Gc0_19, Gc1_19, Gc2_19⟩ := G_19.out.cells3
        have lG_19 := G_19.out.lt.2
        obtain ⟨Bkc0_19, Bkc1_19, Bkc2_19⟩ := Bk_19.out.cells3
        have lBk_19 := Bk_19.out.lt.2
        obtain ⟨Uc0_19, Uc1_19, Uc2_19⟩ := U_19.out.cells3
        have lU_19 := U_19.out.lt.2
        obtain ⟨Vc0_19, Vc1_19, Vc2_19⟩ := V_19.out.cells3
        have lV_19 := V_19.out.lt.2
        have kGc0_19 := cell_regrown Gc0_19
        have kGc1_19 := cell_regrown Gc1_19
        have kGc2_19 := cell_regrown Gc2_19
        have kWmc0_19 := cell_regrown Wmc0_19
        have kWmc1_19 := cell_regrown Wmc1_19
        have kWmc2_19 := cell_regrown Wmc2_19
        have kHtc0_19 := cell_regrown Htc0_19
        have kHtc1_19 := cell_regrown Htc1_19
        have kHtc2_19 := cell_regrown Htc2_19
        have kFc0_19 := cell_regrown Fc0_19
        have kFc1_19 := cell_regrown Fc1_19
        have kShc0_19 := cell_regrown Shc0_19
        have kShc1_19 := cell_regrown Shc1_19
        have kTc0_19 := cell_regrown Tc0_19
        have kTc1_19 := cell_regrown Tc1_19
        have kTc2_19 := cell_regrown Tc2_19
        have kBkc0_19 := cell_regrown Bkc0_19
        have kBkc1_19 := cell_regrown Bkc1_19
        have kBkc2_19 := cell_regrown Bkc2_19
        have kUc0_19 := cell_regrown Uc0_19
        have kUc1_19 := cell_regrown Uc1_19
        have kUc2_19 := cell_regrown Uc2_19
        have kVc0_19 := cell_regrown Vc0_19
        have kVc1_19 := cell_regrown Vc1_19
        have kVc2_19 := cell_regrown Vc2_19
        clear Gc0_19 Gc1_19 Gc2_19 Wmc0_19 Wmc1_19 Wmc2_19 Htc0_19 Htc1_19 Htc2_19 Fc0_19 Fc1_19 Shc0_19 Shc1_19 Tc0_19 Tc1_19 Tc2_19 Bkc0_19 Bkc1_19 Bkc2_19 Uc0_19 Uc1_19 Uc2_19 Vc0_19 Vc1_19 Vc2_19
        have cT : ∀ q os, Calls Tryz.prog 22 #[.agg #[.int .i64 d5, .int .i64 o5, .int .i64 p5]] (grow (redrawn w19 q) os) fun e w'' => e = .returned (.string T5) ∧ ∃ p : Regrown, w'' = grow (redrawn w19 p.d) p.os := fun q os => Calls.regrown_of (textS HGT.out _)
        have cI : ∀ q os, Calls Tryz.prog 23 #[.agg #[.int .i64 d1, .int .i64 o1, .int .i64 p1]] (grow (redrawn w19 q) os) fun e w'' => e = .returned (.bool (glueB d1 o1 p1)) ∧ ∃ p : Regrown, w'' = grow (redrawn w19 p.d) p.os := fun q os => Calls.regrown_of (implValidGlue_b d1 o1 p1 _)
        have cS : ∀ q os, Calls Tryz.prog 24 #[.agg #[.int .i64 d1, .int .i64 o1, .int .i64 p1]] (grow (redrawn w19 q) os) fun e w'' => e = .returned (.bool (glueB d1 o1 p1)) ∧ ∃ p : Regrown, w'' = grow (redrawn w19 p.d) p.os := fun q os => Calls.regrown_of (specValidGlue_any d1 o1 p1 _)
        obtain ⟨vg, hvg⟩ : ∃ vg, glueB d1 o1 p1 = vg := ⟨_, rfl⟩
        rw [hvg] at cI cS
        clear hvg
        have hie : T5.toList.isEmpty = !ok5 := by
          rcases HCase.out with ⟨h1, h2, _⟩ | ⟨h1, h2⟩
          · rw [h1, h2]; rfl
          · rw [h1, h2, Lib.toList_data]; rfl
        skip
        refine wp_region_quiet_below (by kernel_rfl) (by kernel_rfl) ?_
        simp only [List.append_eq, List.cons_append, List.nil_append]
        iterate 58 (go_big_quiet_step (first | with_reducible exact cT _ _ | with_reducible exact cI _ _ | with_reducible exact cS _ _))
        cases ok5
        · as_aux_lemma =>
            repeat (go_big_quiet_step (first | with_reducible exact cT _ _ | with_reducible exact cI _ _ | with_reducible exact cS _ _))
            refine wpQuiet_nil ?_
            intro _ hw'
            obtain ⟨⟨dq, osq⟩, hw''⟩ := hw'
            subst hw''
            have hbq := Lib.hid (below_regrown w19 dq osq)
            go_step
            go_step
            go_meet
            exact ⟨rfl, Lib.hid ⟨G_19.out.below hbq.out, B_19.out.below hbq.out, Wm_19.out.below hbq.out, F_19.out.below hbq.out, (HB_19.out.step hbq.out)⟩⟩
        · as_aux_lemma =>
            obtain ⟨rfl, rfl, rfl⟩ : v1 = d5 ∧ v2 = o5 ∧ v3 = p5 := by
              rcases HCase.out with ⟨_, _, h⟩ | ⟨h, _⟩
              · exact h
              · cases h
            repeat (go_big_quiet_step (first | with_reducible exact cT _ _ | with_reducible exact cI _ _ | with_reducible exact cS _ _))
            refine wpQuiet_nil ?_
            intro _ hw'
            obtain ⟨⟨dq, osq⟩, hw''⟩ := hw'
            subst hw''
            have hbq := Lib.hid (below_regrown w19 dq osq)
            go_step
            go_step
            go_meet
            exact ⟨rfl, Lib.hid ⟨G_19.out.below hbq.out, B_19.out.below hbq.out, Wm_19.out.below hbq.out, F_19.out.below hbq.out, (HB_19.out.step hbq.out)⟩⟩
    case rest =>
      as_aux_lemma =>
        obtain ⟨rfl, hK⟩ := hcut
        obtain ⟨kG, kB, kWm, kF, kBel⟩ := hK.out
        have HG := Lib.hid kG
        have HWm := Lib.hid kWm
        have HBx := Lib.hid kB
        have HFr := Lib.hid kF
        have HBl := Lib.hid kBel
        clear kG kWm kB kF kBel hK
        go_upto_region 23 with fail
        go_cut [252] (fun t252 W => t252 = .bool false ∧ Hid (Obx W w.heap.size qG 25 3 [.int .i64 d1, .int .i64 o1, .int .i64 p1] ∧ Obx W w.heap.size qF 42 2 [.int .i64 r1, .int .i64 r2] ∧ Bel w.heap.size w W))
        case first =>
          by_cases he4 : e4 = 0
          · as_aux_lemma =>
                obtain ⟨q1, q2, q3, q4⟩ := warm_law HM.out he4
                have he4' : (e4 == 0) = true := by simp [he4]
                obtain ⟨ca0, ca1, ca2⟩ := HWm.out.cells3
                have la := HWm.out.lt.2
                have HV := Lib.hid (implValidGlue_b e1 e2 e3 wc)
                rw [q1] at HV
                clear he4 q1
                go_wp2_with fail
                refine HV.out.mono ?_
                rintro e w1 ⟨rfl, hb1⟩
                have HG1 := Lib.hid (HG.out.below hb1)
                have HFr1 := Lib.hid (HFr.out.below hb1)
                have HBl1 := Lib.hid (Bel.step HBl.out hb1)
                have hWm1 := HWm.out.below hb1
                have hBx1 := HBx.out.below hb1
                clear hb1 ca0 ca1 ca2 la
                obtain ⟨ca0, ca1, ca2⟩ := hWm1.cells3
                have la := hWm1.lt.2
                obtain ⟨cb0, cb1, cb2⟩ := hBx1.cells3
                have lb := hBx1.lt.2
                clear hWm1 hBx1
                go_wp2_with fail
                go_meet
                exact ⟨by congr 1; simp; omega, Lib.hid ⟨HG1.out, HFr1.out, HBl1.out⟩⟩
          · as_aux_lemma =>
                have he4' : (e4 == 0) = false := by simpa using he4
                clear he4
                go_wp2_with fail
                go_meet
                exact ⟨rfl, Lib.hid ⟨HG.out, HFr.out, HBl.out⟩⟩
        case rest =>
          obtain ⟨rfl, hK2⟩ := hcut
          obtain ⟨kG, kF, kBel⟩ := hK2.out
          have HG2 := Lib.hid kG
          have HFr2 := Lib.hid kF
          have HBl2 := Lib.hid kBel
          clear kG kF kBel hK2 HG HWm HBx HFr HBl
          go_upto_region 25 with fail
          go_cut [266] (fun t266 W => t266 = .bool false ∧ Hid (Obx W w.heap.size qG 25 3 [.int .i64 d1, .int .i64 o1, .int .i64 p1] ∧ Bel w.heap.size w W))
          case first =>
            by_cases hr3 : r3 = 0
            · as_aux_lemma =>
                  obtain ⟨q1, q2⟩ := cure_law HU.out hr3
                  have hr3' : (r3 == 0) = true := by simp [hr3]
                  obtain ⟨ca0, ca1⟩ := HFr2.out.cells2
                  have la := HFr2.out.lt.2
                  clear hr3
                  go_wp2_with fail
                  go_meet
                  exact ⟨by congr 1; simp; omega, Lib.hid ⟨HG2.out, HBl2.out⟩⟩
            · as_aux_lemma =>
                  have hr3' : (r3 == 0) = false := by simpa using hr3
                  clear hr3
                  go_wp2_with fail
                  go_meet
                  exact ⟨rfl, Lib.hid ⟨HG2.out, HBl2.out⟩⟩
          case rest =>
            obtain ⟨rfl, hK3⟩ := hcut
            obtain ⟨kG, kBel⟩ := hK3.out
            have HG3 := Lib.hid kG
            have HBl3 := Lib.hid kBel
            clear kG kBel hK3 HG2 HFr2 HBl2
            by_cases hf3 : f3 = 0
            · have hf3' : (f3 != 0) = false := by simp [hf3]
              by_cases hf2 : f2 ≤ 90000
              · obtain ⟨j1, j2, j3, b1, b2, b3, b4, b5⟩ := window_law HF.out hf3 hf2
                have J1 := Lib.hid (fun W => jfI j1 W)
                have J2 := Lib.hid (fun W => jfI j2 W)
                have J3 := Lib.hid (fun W => jfI j3 W)
                rw [noneS] at J1 J2
                rw [lateS] at J3
                clear hf3 j1 j2 j3
                go_wp2_with fail
                go_loopw [40, 41, 42, 43] (fun u _ _ _ W => ∃ k : Nat, k ≤ 2 ∧ u = .int .i64 (k : Int) ∧ Hid (Obx W w.heap.size qG 25 3 [.int .i64 d1, .int .i64 o1, .int .i64 p1]) ∧ Hid (Bel w.heap.size w W)) (fun u _ _ _ _ => 2 - (intOf u).toNat)
                case atStart => exact ⟨0, by omega, rfl, HG3, HBl3⟩
                case round =>
                  obtain ⟨k, hk, rfl, hGo, hBo⟩ := hrel
                  obtain ⟨ca0, ca1, ca2⟩ := hGo.out.cells3
                  have la := hGo.out.lt.2
                  have hk3 : k = 0 ∨ k = 1 ∨ k = 2 := by omega
                  rcases hk3 with rfl | rfl | rfl
                  · as_aux_lemma =>
                        go_wp2_with fail
                        refine (J1.out _).mono ?_
                        rintro e w1 ⟨rfl, hb1⟩
                        have HGo1 := Lib.hid (hGo.out.below hb1)
                        have HBo1 := Lib.hid (Bel.step hBo.out hb1)
                        clear hb1
                        go_wp2_with fail
                        go_roundw
                        case rel => exact ⟨1, by omega, rfl, HGo1, HBo1⟩
                        case measure => simp [intOf]
                  · as_aux_lemma =>
                        go_wp2_with fail
                        refine (J2.out _).mono ?_
                        rintro e w1 ⟨rfl, hb1⟩
                        have HGo1 := Lib.hid (hGo.out.below hb1)
                        have HBo1 := Lib.hid (Bel.step hBo.out hb1)
                        clear hb1
                        go_wp2_with fail
                        go_roundw
                        case rel => exact ⟨2, by omega, rfl, HGo1, HBo1⟩
                        case measure => simp [intOf]
                  · as_aux_lemma =>
                        go_wp2_with fail
                        refine (J3.out _).mono ?_
                        rintro e w1 ⟨rfl, hb1⟩
                        have HBo1 := Lib.hid (Bel.step hBo.out hb1)
                        clear hb1
                        go_wp2_with fail
                        go_ret
                        exact ⟨rfl, HBo1.out.1⟩
              · as_aux_lemma =>
                    have hf2' : 90000 < f2 := by omega
                    go_wp2_with fail
                    go_ret
                    exact ⟨rfl, HBl3.out.1⟩
            · as_aux_lemma =>
                  have hf3' : (f3 != 0) = true := by simpa using hf3
                  clear hf3
                  go_wp2_with fail
                  go_ret
                  exact ⟨rfl, HBl3.out.1⟩
  · clear s0 w0
    go_enter Tryz.func3, Tryz.ntmps3
    go_wp2_with (go_at_call 4; go_in)
    go_ret
    exact ⟨rfl, Below.refl _ _⟩
end Go.Proofs.YtfkojbkgpbpjhaaGreatDoor
