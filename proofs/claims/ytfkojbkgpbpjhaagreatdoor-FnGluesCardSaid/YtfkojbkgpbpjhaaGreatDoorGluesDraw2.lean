/-
  Contracts of the draws that the law on glues uses, second part. No condition of its own.
-/
import Derived.Test.YtfkojbkgpbpjhaaGreatDoorGluesDraw
import Derived.BigRegion
namespace Go.Proofs.YtfkojbkgpbpjhaaGreatDoor
open Go.ChangeShapes Go.WideShapes Go.ChangeAt Go.RowKit Go.Deep

theorem Obx.newAt (W : World) (B q E k : Nat) (cs : Array Value) (hq : W.heap.size = q) (hB : B ≤ W.heap.size) (hk : cs.size = k) : Obx (W.alloc (.cells cs E)) B q E k cs.toList := hq ▸ Obx.new W B E k cs hB hk
theorem four_of {zs : List Int} (h : zs.length = 1 * 4) (hw : ∀ z ∈ zs, (Lit.int .i64 z).wf = true) : ∃ a b j t : Int, zs = [a, b, j, t] ∧ ((Lit.int .i64 a).wf = true ∧ (Lit.int .i64 b).wf = true ∧ (Lit.int .i64 j).wf = true ∧ (Lit.int .i64 t).wf = true) := by
  match zs, h with
  | [a, b, j, t], _ => exact ⟨a, b, j, t, rfl, hw a (by simp), hw b (by simp), hw j (by simp), hw t (by simp)⟩
theorem wf_small {z : Int} (h : 0 ≤ z ∧ z ≤ 1000) : (Lit.int .i64 z).wf = true := wf_gl (by omega) (by omega)
/-- A drawn glue and a drawn join. -/
def DrawJoinFaultEnd (w : World) (e : Ending) (w' : World) : Prop := ∃ d o y a b j t : Int, e = .returned (.tuple #[.agg #[.int .i64 d, .int .i64 o, .int .i64 y], .agg #[.int .i64 a, .int .i64 b, .int .i64 j, .int .i64 t]]) ∧ ((Lit.int .i64 d).wf = true ∧ (Lit.int .i64 o).wf = true ∧ (Lit.int .i64 y).wf = true) ∧ ((Lit.int .i64 a).wf = true ∧ (Lit.int .i64 b).wf = true ∧ (Lit.int .i64 j).wf = true ∧ (Lit.int .i64 t).wf = true) ∧ Bel w.heap.size w w'
set_option maxRecDepth 100000 in
set_option maxHeartbeats 6400000 in
theorem drawJoinFault_any (w : World) (nc cc : Nat) (ac : Option Addr) (hc : CodeAt w ac nc) : Calls Tryz.prog 8 #[.slice ac nc cc] w (DrawJoinFaultEnd w) := by
  have HC := Lib.hid hc
  have HB_0 := Lib.hid ((Bel.refl w).alloc (.cells #[.int .i64 0, .int .i64 0, .int .i64 0] 25))
  have HR0_0 := Lib.hid (Obx.new w w.heap.size 25 3 #[.int .i64 0, .int .i64 0, .int .i64 0] (Nat.le_refl _) rfl)
  have HR1_0 := Lib.hid (show Obx ((w.alloc (.cells #[.int .i64 0, .int .i64 0, .int .i64 0] 25)).alloc (.cells #[.int .i64 0, .int .i64 0, .int .i64 0, .int .i64 0] 31)) w.heap.size (w.heap.size + 1) 31 4 [.int .i64 0, .int .i64 0, .int .i64 0, .int .i64 0] from Obx.newAt (w.alloc (.cells #[.int .i64 0, .int .i64 0, .int .i64 0] 25)) w.heap.size (w.heap.size + 1) 31 4 #[.int .i64 0, .int .i64 0, .int .i64 0, .int .i64 0] (by simp) (by simp) rfl)
  have HR0_0 := Lib.hid (HR0_0.out.alloc (.cells #[.int .i64 0, .int .i64 0, .int .i64 0, .int .i64 0] 31))
  have HB_0 := Lib.hid (HB_0.out.alloc (.cells #[.int .i64 0, .int .i64 0, .int .i64 0, .int .i64 0] 31))
  clear hc
  go_enter Tryz.func8, Tryz.ntmps8
  go_wp2_with fail
  refine (l00From_any _ w.heap.size ac nc cc (by simp; omega)).mono ?_
  rintro e w1 ⟨rfl, hs1, hb1⟩
  obtain ⟨p, hp⟩ : ∃ p, p = ((w.alloc (.cells #[.int .i64 0, .int .i64 0, .int .i64 0] 25)).alloc (.cells #[.int .i64 0, .int .i64 0, .int .i64 0, .int .i64 0] 31)).heap.size := ⟨_, rfl⟩
  rw [← hp] at hs1 ⊢
  have hpw : w.heap.size + 1 < p := by rw [hp]; simp; try omega
  have HS_1 := Lib.hid hs1
  have HB_1 := Lib.hid (HB_0.out.step hb1)
  have HR0_1 := Lib.hid (HR0_0.out.below hb1)
  have HR1_1 := Lib.hid (HR1_0.out.below hb1)
  clear hs1 hb1 hp HB_0 HR0_0 HR1_0
  go_wp2_with fail
  refine (l19Bent_any w w1 p nc cc 0 ac HC.out HB_1.out HS_1.out (by omega)).mono ?_
  rintro e w2 ⟨d, o, y, rfl, hwf, hs2, hg2⟩
  have HWf := Lib.hid hwf
  clear hwf
  have HR0_2 := Lib.hid (HR0_1.out.grown hg2 (fun e => by have h1 : p = w.heap.size := (by simpa using e); omega))
  have HR1_2 := Lib.hid (HR1_1.out.grown hg2 (fun e => by have h1 : p = w.heap.size + 1 := (by simpa using e); omega))
  have HB_2 := Lib.hid (HB_1.out.grown hg2 (fun k h => by cases h; omega))
  have HS_2 := Lib.hid hs2
  clear hs2 hg2
  clear HR0_1 HR1_1 HB_1 HS_1
  obtain ⟨q, hq⟩ : ∃ q, w2.heap.size = q := ⟨_, rfl⟩
  obtain ⟨w3, hw3⟩ : ∃ W, w2.alloc (.cells #[.int .i64 d, .int .i64 o, .int .i64 y] 25) = W := ⟨_, rfl⟩
  have hpq : p < q := by rw [← hq]; exact HS_2.out.base.2
  have hHR0q : w.heap.size ≠ q := by have := HR0_2.out.lt.2; omega
  have hHR1q : w.heap.size + 1 ≠ q := by have := HR1_2.out.lt.2; omega
  have HR0_3 := Lib.hid (show Obx w3 w.heap.size w.heap.size 25 3 [.int .i64 0, .int .i64 0, .int .i64 0] by rw [← hw3]; exact HR0_2.out.alloc _)
  have HR1_3 := Lib.hid (show Obx w3 w.heap.size (w.heap.size + 1) 31 4 [.int .i64 0, .int .i64 0, .int .i64 0, .int .i64 0] by rw [← hw3]; exact HR1_2.out.alloc _)
  have HS_3 := Lib.hid (show SrcAt w3 w.heap.size p ac nc cc 10 by rw [← hw3]; exact HS_2.out.alloc _)
  have HB_3 := Lib.hid (show Bel w.heap.size w w3 by rw [← hw3]; exact HB_2.out.alloc _)
  have HF_3 := Lib.hid (show Obx w3 w.heap.size q 25 3 [.int .i64 d, .int .i64 o, .int .i64 y] by rw [← hw3, ← hq]; exact Obx.new w2 w.heap.size 25 3 #[.int .i64 d, .int .i64 o, .int .i64 y] (by have := HB_2.out.2; omega) rfl)
  have HW_3 := Lib.hid hw3
  clear hw3
  clear HR0_2 HR1_2 HB_2 HS_2
  go_wp2_with fail
  rw [HW_3.out]
  clear hq
  go_wp2_with fail
  refine (l19New_any w w3 p nc cc 10 ac HC.out HB_3.out HS_3.out (by omega)).mono ?_
  rintro e w4 ⟨a, b, j, t, rfl, hwj, hs4, hg4⟩
  have HWj := Lib.hid hwj
  clear hwj
  have HR0_4 := Lib.hid (HR0_3.out.grown hg4 (fun e => by have h1 : p = w.heap.size := (by simpa using e); omega))
  have HR1_4 := Lib.hid (HR1_3.out.grown hg4 (fun e => by have h1 : p = w.heap.size + 1 := (by simpa using e); omega))
  have HF_4 := Lib.hid (HF_3.out.grown hg4 (fun e => by have h1 : p = q := (by simpa using e); omega))
  have HB_4 := Lib.hid (HB_3.out.grown hg4 (fun k h => by cases h; omega))
  have HS_4 := Lib.hid hs4
  clear hs4 hg4
  clear HR0_3 HR1_3 HF_3 HB_3 HS_3
  obtain ⟨q2, hq⟩ : ∃ q, w4.heap.size = q := ⟨_, rfl⟩
  obtain ⟨w5, hw5⟩ : ∃ W, w4.alloc (.cells #[.int .i64 a, .int .i64 b, .int .i64 j, .int .i64 t] 31) = W := ⟨_, rfl⟩
  have hpq2 : p < q2 := by rw [← hq]; exact HS_4.out.base.2
  have hHR0q2 : w.heap.size ≠ q2 := by have := HR0_4.out.lt.2; omega
  have hHR1q2 : w.heap.size + 1 ≠ q2 := by have := HR1_4.out.lt.2; omega
  have hHFq2 : q ≠ q2 := by have := HF_4.out.lt.2; omega
  have HR0_5 := Lib.hid (show Obx w5 w.heap.size w.heap.size 25 3 [.int .i64 0, .int .i64 0, .int .i64 0] by rw [← hw5]; exact HR0_4.out.alloc _)
  have HR1_5 := Lib.hid (show Obx w5 w.heap.size (w.heap.size + 1) 31 4 [.int .i64 0, .int .i64 0, .int .i64 0, .int .i64 0] by rw [← hw5]; exact HR1_4.out.alloc _)
  have HF_5 := Lib.hid (show Obx w5 w.heap.size q 25 3 [.int .i64 d, .int .i64 o, .int .i64 y] by rw [← hw5]; exact HF_4.out.alloc _)
  have HS_5 := Lib.hid (show SrcAt w5 w.heap.size p ac nc cc 18 by rw [← hw5]; exact HS_4.out.alloc _)
  have HB_5 := Lib.hid (show Bel w.heap.size w w5 by rw [← hw5]; exact HB_4.out.alloc _)
  have HJ_5 := Lib.hid (show Obx w5 w.heap.size q2 31 4 [.int .i64 a, .int .i64 b, .int .i64 j, .int .i64 t] by rw [← hw5, ← hq]; exact Obx.new w4 w.heap.size 31 4 #[.int .i64 a, .int .i64 b, .int .i64 j, .int .i64 t] (by have := HB_4.out.2; omega) rfl)
  have HW_5 := Lib.hid hw5
  clear hw5
  clear HR0_4 HR1_4 HF_4 HB_4 HS_4
  go_wp2_with fail
  rw [HW_5.out]
  clear hq
  go_wp2_with fail
  refine (one_any w w5 p nc cc 18 ac 8 HC.out HB_5.out HS_5.out (by omega) (by omega)).mono ?_
  rintro e w6 ⟨b1, rfl, hs6, hg6⟩
  have HR0_6 := Lib.hid (HR0_5.out.grown hg6 (fun e => by have h1 : p = w.heap.size := (by simpa using e); omega))
  have HR1_6 := Lib.hid (HR1_5.out.grown hg6 (fun e => by have h1 : p = w.heap.size + 1 := (by simpa using e); omega))
  have HF_6 := Lib.hid (HF_5.out.grown hg6 (fun e => by have h1 : p = q := (by simpa using e); omega))
  have HJ_6 := Lib.hid (HJ_5.out.grown hg6 (fun e => by have h1 : p = q2 := (by simpa using e); omega))
  have HB_6 := Lib.hid (HB_5.out.grown hg6 (fun k h => by cases h; omega))
  have HS_6 := Lib.hid hs6
  clear hs6 hg6
  clear HR0_5 HR1_5 HF_5 HJ_5 HB_5 HS_5
  cases b1
  · skip
    obtain ⟨k0, k1, k2⟩ := HF_6.out.cells3
    obtain ⟨m0, m1, m2, m3⟩ := HJ_6.out.cells4
    obtain ⟨⟨x0, x1, x2⟩, ⟨f0, f1, f2⟩⟩ := HR0_6.out.all3
    obtain ⟨⟨y0, y1, y2, y3⟩, ⟨g0, g1, g2, g3⟩⟩ := HR1_6.out.all4
    have HE := Lib.hid (show DrawJoinFaultEnd w (.returned (.tuple #[.agg #[.int .i64 d, .int .i64 o, .int .i64 y], .agg #[.int .i64 a, .int .i64 b, .int .i64 j, .int .i64 t]])) (((((((w6.setCell ⟨w.heap.size, 0, none⟩ (.int .i64 d)).setCell ⟨w.heap.size, 1, none⟩ (.int .i64 o)).setCell ⟨w.heap.size, 2, none⟩ (.int .i64 y)).setCell ⟨w.heap.size + 1, 0, none⟩ (.int .i64 a)).setCell ⟨w.heap.size + 1, 1, none⟩ (.int .i64 b)).setCell ⟨w.heap.size + 1, 2, none⟩ (.int .i64 j)).setCell ⟨w.heap.size + 1, 3, none⟩ (.int .i64 t)).drew from ⟨d, o, y, a, b, j, t, rfl, HWf.out, (by have h := HWj.out; exact ⟨wf_small ⟨h.1, h.2.1⟩, wf_small ⟨h.2.2.1, h.2.2.2.1⟩, wf_small ⟨h.2.2.2.2.1, h.2.2.2.2.2.1⟩, wf_small h.2.2.2.2.2.2⟩), (((((((HB_6.out.setCell (p := ⟨w.heap.size, 0, none⟩) (Nat.le_refl _) _).setCell (p := ⟨w.heap.size, 1, none⟩) (Nat.le_refl _) _).setCell (p := ⟨w.heap.size, 2, none⟩) (Nat.le_refl _) _).setCell (p := ⟨w.heap.size + 1, 0, none⟩) (Nat.le_succ _) _).setCell (p := ⟨w.heap.size + 1, 1, none⟩) (Nat.le_succ _) _).setCell (p := ⟨w.heap.size + 1, 2, none⟩) (Nat.le_succ _) _).setCell (p := ⟨w.heap.size + 1, 3, none⟩) (Nat.le_succ _) _).drew⟩)
    go_wp2_with fail
    go_big_region
    go_wp2_with fail
    refine bodyPost_ret (v := .tuple #[.agg #[.int .i64 d, .int .i64 o, .int .i64 y], .agg #[.int .i64 a, .int .i64 b, .int .i64 j, .int .i64 t]]) (by simp [results, Tryz.results8, go_sem, x0, x1, x2, y0, y1, y2, y3]) rfl ?_
    exact HE.out
  · skip
    go_wp2_with fail
    refine (l19Spoil_any w w6 w.heap.size q2 1 1 0 p nc cc 20 ac [a, b, j, t] HC.out HB_6.out HS_6.out (by omega) rfl (by omega) (by have := HWj.out; simp only [List.mem_cons, List.not_mem_nil, or_false]; rintro z (rfl | rfl | rfl | rfl) <;> omega) (by omega) HJ_6.out).mono ?_
    rintro e w7 ⟨rfl, zs, hzl, hzw, hzo, hs7, wm, hgm, hg7⟩
    obtain ⟨a', b', j', t', rfl, hw4⟩ := four_of hzl hzw
    have HR0_7 := Lib.hid ((HR0_6.out.grown hgm (fun e => by have h1 : p = w.heap.size := (by simpa using e); omega)).grown hg7 (fun e => by have h1 : q2 = w.heap.size := (by simpa using e); omega))
    have HR1_7 := Lib.hid ((HR1_6.out.grown hgm (fun e => by have h1 : p = w.heap.size + 1 := (by simpa using e); omega)).grown hg7 (fun e => by have h1 : q2 = w.heap.size + 1 := (by simpa using e); omega))
    have HF_7 := Lib.hid ((HF_6.out.grown hgm (fun e => by have h1 : p = q := (by simpa using e); omega)).grown hg7 (fun e => by have h1 : q2 = q := (by simpa using e); omega))
    have HJ_7 := Lib.hid (show Obx w7 w.heap.size q2 31 4 [.int .i64 a', .int .i64 b', .int .i64 j', .int .i64 t'] from hzo)
    have HB_7 := Lib.hid ((HB_6.out.grown hgm (fun k h => by cases h; omega)).grown hg7 (fun k h => by cases h; omega))
    have HS_7 := Lib.hid hs7
    have HW4 := Lib.hid hw4
    clear hs7 hg7 hgm hzl hzw hzo hw4
    clear HR0_6 HR1_6 HF_6 HJ_6 HB_6 HS_6
    obtain ⟨k0, k1, k2⟩ := HF_7.out.cells3
    obtain ⟨m0, m1, m2, m3⟩ := HJ_7.out.cells4
    obtain ⟨⟨x0, x1, x2⟩, ⟨f0, f1, f2⟩⟩ := HR0_7.out.all3
    obtain ⟨⟨y0, y1, y2, y3⟩, ⟨g0, g1, g2, g3⟩⟩ := HR1_7.out.all4
    have HE := Lib.hid (show DrawJoinFaultEnd w (.returned (.tuple #[.agg #[.int .i64 d, .int .i64 o, .int .i64 y], .agg #[.int .i64 a', .int .i64 b', .int .i64 j', .int .i64 t']])) (((((((w7.setCell ⟨w.heap.size, 0, none⟩ (.int .i64 d)).setCell ⟨w.heap.size, 1, none⟩ (.int .i64 o)).setCell ⟨w.heap.size, 2, none⟩ (.int .i64 y)).setCell ⟨w.heap.size + 1, 0, none⟩ (.int .i64 a')).setCell ⟨w.heap.size + 1, 1, none⟩ (.int .i64 b')).setCell ⟨w.heap.size + 1, 2, none⟩ (.int .i64 j')).setCell ⟨w.heap.size + 1, 3, none⟩ (.int .i64 t')).drew from ⟨d, o, y, a', b', j', t', rfl, HWf.out, HW4.out, (((((((HB_7.out.setCell (p := ⟨w.heap.size, 0, none⟩) (Nat.le_refl _) _).setCell (p := ⟨w.heap.size, 1, none⟩) (Nat.le_refl _) _).setCell (p := ⟨w.heap.size, 2, none⟩) (Nat.le_refl _) _).setCell (p := ⟨w.heap.size + 1, 0, none⟩) (Nat.le_succ _) _).setCell (p := ⟨w.heap.size + 1, 1, none⟩) (Nat.le_succ _) _).setCell (p := ⟨w.heap.size + 1, 2, none⟩) (Nat.le_succ _) _).setCell (p := ⟨w.heap.size + 1, 3, none⟩) (Nat.le_succ _) _).drew⟩)
    go_wp2_with fail
    go_big_region
    go_wp2_with fail
    refine bodyPost_ret (v := .tuple #[.agg #[.int .i64 d, .int .i64 o, .int .i64 y], .agg #[.int .i64 a', .int .i64 b', .int .i64 j', .int .i64 t']]) (by simp [results, Tryz.results8, go_sem, x0, x1, x2, y0, y1, y2, y3]) rfl ?_
    exact HE.out
/-- A drawn join and two numbers. -/
def DrawCureShareEnd (w : World) (e : Ending) (w' : World) : Prop := ∃ a b j t x y : Int, e = .returned (.tuple #[.agg #[.int .i64 a, .int .i64 b, .int .i64 j, .int .i64 t], .int .i64 x, .int .i64 y]) ∧ ((Lit.int .i64 a).wf = true ∧ (Lit.int .i64 b).wf = true ∧ (Lit.int .i64 j).wf = true ∧ (Lit.int .i64 t).wf = true) ∧ Bel w.heap.size w w'
set_option maxRecDepth 100000 in
set_option maxHeartbeats 6400000 in
theorem drawCureShare_any (w : World) (nc cc : Nat) (ac : Option Addr) (hc : CodeAt w ac nc) : Calls Tryz.prog 14 #[.slice ac nc cc] w (DrawCureShareEnd w) := by
  have HC := Lib.hid hc
  have HB_0 := Lib.hid ((Bel.refl w).alloc (.cells #[.int .i64 0, .int .i64 0, .int .i64 0, .int .i64 0] 31))
  have HR0_0 := Lib.hid (Obx.new w w.heap.size 31 4 #[.int .i64 0, .int .i64 0, .int .i64 0, .int .i64 0] (Nat.le_refl _) rfl)
  clear hc
  go_enter Tryz.func14, Tryz.ntmps14
  go_wp2_with fail
  refine (l00From_any _ w.heap.size ac nc cc (by simp)).mono ?_
  rintro e w1 ⟨rfl, hs1, hb1⟩
  obtain ⟨p, hp⟩ : ∃ p, p = (w.alloc (.cells #[.int .i64 0, .int .i64 0, .int .i64 0, .int .i64 0] 31)).heap.size := ⟨_, rfl⟩
  rw [← hp] at hs1 ⊢
  have hpw : w.heap.size < p := by rw [hp]; simp
  have HS_1 := Lib.hid hs1
  have HB_1 := Lib.hid (HB_0.out.step hb1)
  have HR0_1 := Lib.hid (HR0_0.out.below hb1)
  clear hs1 hb1 hp HB_0 HR0_0
  go_wp2_with fail
  refine (l19New_any w w1 p nc cc 0 ac HC.out HB_1.out HS_1.out (by omega)).mono ?_
  rintro e w2 ⟨a, b, j, t, rfl, hwj, hs2, hg2⟩
  have HWj := Lib.hid hwj
  clear hwj
  have HR0_2 := Lib.hid (HR0_1.out.grown hg2 (fun e => by have h1 : p = w.heap.size := (by simpa using e); omega))
  have HB_2 := Lib.hid (HB_1.out.grown hg2 (fun k h => by cases h; omega))
  have HS_2 := Lib.hid hs2
  clear hs2 hg2
  clear HR0_1 HB_1 HS_1
  obtain ⟨q2, hq⟩ : ∃ q, w2.heap.size = q := ⟨_, rfl⟩
  obtain ⟨w3, hw3⟩ : ∃ W, w2.alloc (.cells #[.int .i64 a, .int .i64 b, .int .i64 j, .int .i64 t] 31) = W := ⟨_, rfl⟩
  have hpq2 : p < q2 := by rw [← hq]; exact HS_2.out.base.2
  have hHR0q2 : w.heap.size ≠ q2 := by have := HR0_2.out.lt.2; omega
  have HR0_3 := Lib.hid (show Obx w3 w.heap.size w.heap.size 31 4 [.int .i64 0, .int .i64 0, .int .i64 0, .int .i64 0] by rw [← hw3]; exact HR0_2.out.alloc _)
  have HS_3 := Lib.hid (show SrcAt w3 w.heap.size p ac nc cc 8 by rw [← hw3]; exact HS_2.out.alloc _)
  have HB_3 := Lib.hid (show Bel w.heap.size w w3 by rw [← hw3]; exact HB_2.out.alloc _)
  have HJ_3 := Lib.hid (show Obx w3 w.heap.size q2 31 4 [.int .i64 a, .int .i64 b, .int .i64 j, .int .i64 t] by rw [← hw3, ← hq]; exact Obx.new w2 w.heap.size 31 4 #[.int .i64 a, .int .i64 b, .int .i64 j, .int .i64 t] (by have := HB_2.out.2; omega) rfl)
  have HW_3 := Lib.hid hw3
  clear hw3
  clear HR0_2 HB_2 HS_2
  go_wp2_with fail
  rw [HW_3.out]
  clear hq
  go_wp2_with fail
  refine (one_any w w3 p nc cc 8 ac 8 HC.out HB_3.out HS_3.out (by omega) (by omega)).mono ?_
  rintro e w4 ⟨b1, rfl, hs4, hg4⟩
  have HR0_4 := Lib.hid (HR0_3.out.grown hg4 (fun e => by have h1 : p = w.heap.size := (by simpa using e); omega))
  have HJ_4 := Lib.hid (HJ_3.out.grown hg4 (fun e => by have h1 : p = q2 := (by simpa using e); omega))
  have HB_4 := Lib.hid (HB_3.out.grown hg4 (fun k h => by cases h; omega))
  have HS_4 := Lib.hid hs4
  clear hs4 hg4
  clear HR0_3 HJ_3 HB_3 HS_3
  cases b1
  · skip
    go_wp2_with fail
    refine (pick_any w w4 p nc cc 10 ac 200 HC.out HB_4.out HS_4.out (by omega) (by omega)).mono ?_
    rintro e w5 ⟨x, rfl, xa, xb, hs5, hg5⟩
    have HR0_5 := Lib.hid (HR0_4.out.grown hg5 (fun e => by have h1 : p = w.heap.size := (by simpa using e); omega))
    have HJ_5 := Lib.hid (HJ_4.out.grown hg5 (fun e => by have h1 : p = q2 := (by simpa using e); omega))
    have HB_5 := Lib.hid (HB_4.out.grown hg5 (fun k h => by cases h; omega))
    have HS_5 := Lib.hid hs5
    clear hs5 hg5
    clear HR0_4 HJ_4 HB_4 HS_4
    go_wp2_with fail
    refine (one_any w w5 p nc cc 12 ac 10 HC.out HB_5.out HS_5.out (by omega) (by omega)).mono ?_
    rintro e w6 ⟨b2, rfl, hs6, hg6⟩
    have HR0_6 := Lib.hid (HR0_5.out.grown hg6 (fun e => by have h1 : p = w.heap.size := (by simpa using e); omega))
    have HJ_6 := Lib.hid (HJ_5.out.grown hg6 (fun e => by have h1 : p = q2 := (by simpa using e); omega))
    have HB_6 := Lib.hid (HB_5.out.grown hg6 (fun k h => by cases h; omega))
    have HS_6 := Lib.hid hs6
    clear hs6 hg6
    clear HR0_5 HJ_5 HB_5 HS_5
    cases b2
    · skip
      go_wp2_with fail
      refine (one_any w w6 p nc cc 14 ac 10 HC.out HB_6.out HS_6.out (by omega) (by omega)).mono ?_
      rintro e w7 ⟨b3, rfl, hs7, hg7⟩
      have HR0_7 := Lib.hid (HR0_6.out.grown hg7 (fun e => by have h1 : p = w.heap.size := (by simpa using e); omega))
      have HJ_7 := Lib.hid (HJ_6.out.grown hg7 (fun e => by have h1 : p = q2 := (by simpa using e); omega))
      have HB_7 := Lib.hid (HB_6.out.grown hg7 (fun k h => by cases h; omega))
      have HS_7 := Lib.hid hs7
      clear hs7 hg7
      clear HR0_6 HJ_6 HB_6 HS_6
      cases b3
      · skip
        go_wp2_with fail
        obtain ⟨k0, k1, k2, k3⟩ := HJ_7.out.cells4
        have HD := Lib.hid (And.intro (show SrcAt w7.drew w.heap.size p ac nc cc 16 from HS_7.out) (show Bel w.heap.size w w7.drew from HB_7.out.drew))
        have HAll := Lib.hid (fun (W : World) (hg : w7.grownBy W (some p)) => (show (W.cell? ⟨q2, 0, none⟩ = some (.int .i64 a) ∧ W.cell? ⟨q2, 1, none⟩ = some (.int .i64 b) ∧ W.cell? ⟨q2, 2, none⟩ = some (.int .i64 j) ∧ W.cell? ⟨q2, 3, none⟩ = some (.int .i64 t)) ∧ (((((W.setCell ⟨w.heap.size, 0, none⟩ (.int .i64 a)).setCell ⟨w.heap.size, 1, none⟩ (.int .i64 b)).setCell ⟨w.heap.size, 2, none⟩ (.int .i64 j)).setCell ⟨w.heap.size, 3, none⟩ (.int .i64 t)).cell? ⟨q2, 0, none⟩ = some (.int .i64 a) ∧ ((((W.setCell ⟨w.heap.size, 0, none⟩ (.int .i64 a)).setCell ⟨w.heap.size, 1, none⟩ (.int .i64 b)).setCell ⟨w.heap.size, 2, none⟩ (.int .i64 j)).setCell ⟨w.heap.size, 3, none⟩ (.int .i64 t)).cell? ⟨q2, 1, none⟩ = some (.int .i64 b) ∧ ((((W.setCell ⟨w.heap.size, 0, none⟩ (.int .i64 a)).setCell ⟨w.heap.size, 1, none⟩ (.int .i64 b)).setCell ⟨w.heap.size, 2, none⟩ (.int .i64 j)).setCell ⟨w.heap.size, 3, none⟩ (.int .i64 t)).cell? ⟨q2, 2, none⟩ = some (.int .i64 j) ∧ ((((W.setCell ⟨w.heap.size, 0, none⟩ (.int .i64 a)).setCell ⟨w.heap.size, 1, none⟩ (.int .i64 b)).setCell ⟨w.heap.size, 2, none⟩ (.int .i64 j)).setCell ⟨w.heap.size, 3, none⟩ (.int .i64 t)).cell? ⟨q2, 3, none⟩ = some (.int .i64 t)) ∧ Obx W w.heap.size w.heap.size 31 4 [.int .i64 0, .int .i64 0, .int .i64 0, .int .i64 0] from by
          have hF := HJ_7.out.grown hg (fun e => by have h1 : p = q2 := (by simpa using e); omega)
          have hR := HR0_7.out.grown hg (fun e => by have h1 : p = w.heap.size := (by simpa using e); omega)
          have hF2 := ((((hF.setOther (q' := w.heap.size) 0 (.int .i64 a) hHR0q2).setOther (q' := w.heap.size) 1 (.int .i64 b) hHR0q2).setOther (q' := w.heap.size) 2 (.int .i64 j) hHR0q2).setOther (q' := w.heap.size) 3 (.int .i64 t) hHR0q2)
          exact ⟨hF.cells4, hF2.cells4, hR⟩))
        go_region_held3 (fun W => W.cell? ⟨q2, 0, none⟩ = some (.int .i64 a) ∧ W.cell? ⟨q2, 1, none⟩ = some (.int .i64 b) ∧ W.cell? ⟨q2, 2, none⟩ = some (.int .i64 j) ∧ W.cell? ⟨q2, 3, none⟩ = some (.int .i64 t)) (first | (with_reducible exact hK2) | (with_reducible exact hK3) | go_keep)
          ((refine (pick_any w w7.drew p nc cc 16 ac 300 HC.out HD.out.2 HD.out.1 (by omega) (by omega)).mono ?_; rintro e wz ⟨z, rfl, za, zb, hsz, hgz⟩; have hall := HAll.out wz (grown_from_drew hgz); have hK2 := hall.1; have hK3 := hall.2.1; obtain ⟨⟨n0, n1, n2, n3⟩, ⟨f0, f1, f2, f3⟩⟩ := hall.2.2.all4; have HN := Lib.hid (And.intro hsz hgz); clear hall hsz hgz))
        have hBz := HB_7.out.grown (grown_from_drew HN.out.2) (fun k h => by cases h; omega)
        have HE := Lib.hid (show DrawCureShareEnd w (.returned (.tuple #[.agg #[.int .i64 a, .int .i64 b, .int .i64 j, .int .i64 t], .int .i64 (1 + x), .int .i64 z])) ((((wz.setCell ⟨w.heap.size, 0, none⟩ (.int .i64 a)).setCell ⟨w.heap.size, 1, none⟩ (.int .i64 b)).setCell ⟨w.heap.size, 2, none⟩ (.int .i64 j)).setCell ⟨w.heap.size, 3, none⟩ (.int .i64 t)) from ⟨a, b, j, t, (1 + x), z, rfl, (by have h := HWj.out; exact ⟨wf_small ⟨h.1, h.2.1⟩, wf_small ⟨h.2.2.1, h.2.2.2.1⟩, wf_small ⟨h.2.2.2.2.1, h.2.2.2.2.2.1⟩, wf_small h.2.2.2.2.2.2⟩), ((((hBz.setCell (p := ⟨w.heap.size, 0, none⟩) (Nat.le_refl _) _).setCell (p := ⟨w.heap.size, 1, none⟩) (Nat.le_refl _) _).setCell (p := ⟨w.heap.size, 2, none⟩) (Nat.le_refl _) _).setCell (p := ⟨w.heap.size, 3, none⟩) (Nat.le_refl _) _)⟩)
        clear hBz hK2 hK3
        go_wp2_with fail
        refine bodyPost_ret (v := (.tuple #[.agg #[.int .i64 a, .int .i64 b, .int .i64 j, .int .i64 t], .int .i64 (1 + x), .int .i64 z])) (by simp [results, Tryz.results14, go_sem, n0, n1, n2, n3]) rfl ?_
        exact HE.out
      · skip
        go_wp2_with fail
        obtain ⟨k0, k1, k2, k3⟩ := HJ_7.out.cells4
        have HD := Lib.hid (And.intro (show SrcAt w7.drew w.heap.size p ac nc cc 16 from HS_7.out) (show Bel w.heap.size w w7.drew from HB_7.out.drew))
        have HAll := Lib.hid (fun (W : World) (hg : w7.grownBy W (some p)) => (show (W.cell? ⟨q2, 0, none⟩ = some (.int .i64 a) ∧ W.cell? ⟨q2, 1, none⟩ = some (.int .i64 b) ∧ W.cell? ⟨q2, 2, none⟩ = some (.int .i64 j) ∧ W.cell? ⟨q2, 3, none⟩ = some (.int .i64 t)) ∧ (((((W.setCell ⟨w.heap.size, 0, none⟩ (.int .i64 a)).setCell ⟨w.heap.size, 1, none⟩ (.int .i64 b)).setCell ⟨w.heap.size, 2, none⟩ (.int .i64 j)).setCell ⟨w.heap.size, 3, none⟩ (.int .i64 t)).cell? ⟨q2, 0, none⟩ = some (.int .i64 a) ∧ ((((W.setCell ⟨w.heap.size, 0, none⟩ (.int .i64 a)).setCell ⟨w.heap.size, 1, none⟩ (.int .i64 b)).setCell ⟨w.heap.size, 2, none⟩ (.int .i64 j)).setCell ⟨w.heap.size, 3, none⟩ (.int .i64 t)).cell? ⟨q2, 1, none⟩ = some (.int .i64 b) ∧ ((((W.setCell ⟨w.heap.size, 0, none⟩ (.int .i64 a)).setCell ⟨w.heap.size, 1, none⟩ (.int .i64 b)).setCell ⟨w.heap.size, 2, none⟩ (.int .i64 j)).setCell ⟨w.heap.size, 3, none⟩ (.int .i64 t)).cell? ⟨q2, 2, none⟩ = some (.int .i64 j) ∧ ((((W.setCell ⟨w.heap.size, 0, none⟩ (.int .i64 a)).setCell ⟨w.heap.size, 1, none⟩ (.int .i64 b)).setCell ⟨w.heap.size, 2, none⟩ (.int .i64 j)).setCell ⟨w.heap.size, 3, none⟩ (.int .i64 t)).cell? ⟨q2, 3, none⟩ = some (.int .i64 t)) ∧ Obx W w.heap.size w.heap.size 31 4 [.int .i64 0, .int .i64 0, .int .i64 0, .int .i64 0] from by
          have hF := HJ_7.out.grown hg (fun e => by have h1 : p = q2 := (by simpa using e); omega)
          have hR := HR0_7.out.grown hg (fun e => by have h1 : p = w.heap.size := (by simpa using e); omega)
          have hF2 := ((((hF.setOther (q' := w.heap.size) 0 (.int .i64 a) hHR0q2).setOther (q' := w.heap.size) 1 (.int .i64 b) hHR0q2).setOther (q' := w.heap.size) 2 (.int .i64 j) hHR0q2).setOther (q' := w.heap.size) 3 (.int .i64 t) hHR0q2)
          exact ⟨hF.cells4, hF2.cells4, hR⟩))
        go_region_held3 (fun W => W.cell? ⟨q2, 0, none⟩ = some (.int .i64 a) ∧ W.cell? ⟨q2, 1, none⟩ = some (.int .i64 b) ∧ W.cell? ⟨q2, 2, none⟩ = some (.int .i64 j) ∧ W.cell? ⟨q2, 3, none⟩ = some (.int .i64 t)) (first | (with_reducible exact hK2) | (with_reducible exact hK3) | go_keep)
          ((refine (among_lit w w7.drew p nc cc 16 4 2 ac [-1, 0, 100000, 100001] rfl (by omega) (by omega) HC.out HD.out.2 HD.out.1 (by omega)).mono ?_; rintro e wz ⟨z, rfl, hz, hsz, hgz⟩; have hall := HAll.out wz (grown_from_drew hgz); have hK2 := hall.1; have hK3 := hall.2.1; obtain ⟨⟨n0, n1, n2, n3⟩, ⟨f0, f1, f2, f3⟩⟩ := hall.2.2.all4; have HN := Lib.hid (And.intro hsz hgz); clear hall hsz hgz))
        have hBz := HB_7.out.grown (grown_from_drew HN.out.2) (fun k h => by cases h; omega)
        have HE := Lib.hid (show DrawCureShareEnd w (.returned (.tuple #[.agg #[.int .i64 a, .int .i64 b, .int .i64 j, .int .i64 t], .int .i64 (1 + x), .int .i64 z])) ((((wz.setCell ⟨w.heap.size, 0, none⟩ (.int .i64 a)).setCell ⟨w.heap.size, 1, none⟩ (.int .i64 b)).setCell ⟨w.heap.size, 2, none⟩ (.int .i64 j)).setCell ⟨w.heap.size, 3, none⟩ (.int .i64 t)) from ⟨a, b, j, t, (1 + x), z, rfl, (by have h := HWj.out; exact ⟨wf_small ⟨h.1, h.2.1⟩, wf_small ⟨h.2.2.1, h.2.2.2.1⟩, wf_small ⟨h.2.2.2.2.1, h.2.2.2.2.2.1⟩, wf_small h.2.2.2.2.2.2⟩), ((((hBz.setCell (p := ⟨w.heap.size, 0, none⟩) (Nat.le_refl _) _).setCell (p := ⟨w.heap.size, 1, none⟩) (Nat.le_refl _) _).setCell (p := ⟨w.heap.size, 2, none⟩) (Nat.le_refl _) _).setCell (p := ⟨w.heap.size, 3, none⟩) (Nat.le_refl _) _)⟩)
        clear hBz hK2 hK3
        go_wp2_with fail
        refine bodyPost_ret (v := (.tuple #[.agg #[.int .i64 a, .int .i64 b, .int .i64 j, .int .i64 t], .int .i64 (1 + x), .int .i64 z])) (by simp [results, Tryz.results14, go_sem, n0, n1, n2, n3]) rfl ?_
        exact HE.out
    · skip
      go_wp2_with fail
      refine (among_lit w w6 p nc cc 14 5 2 ac [-1, 0, 1, 100000, 100001] rfl (by omega) (by omega) HC.out HB_6.out HS_6.out (by omega)).mono ?_
      rintro e w7 ⟨x2, rfl, hx2, hs7, hg7⟩
      have HR0_7 := Lib.hid (HR0_6.out.grown hg7 (fun e => by have h1 : p = w.heap.size := (by simpa using e); omega))
      have HJ_7 := Lib.hid (HJ_6.out.grown hg7 (fun e => by have h1 : p = q2 := (by simpa using e); omega))
      have HB_7 := Lib.hid (HB_6.out.grown hg7 (fun k h => by cases h; omega))
      have HS_7 := Lib.hid hs7
      clear hs7 hg7
      clear HR0_6 HJ_6 HB_6 HS_6
      go_wp2_with fail
      refine (one_any w w7 p nc cc 16 ac 10 HC.out HB_7.out HS_7.out (by omega) (by omega)).mono ?_
      rintro e w8 ⟨b3, rfl, hs8, hg8⟩
      have HR0_8 := Lib.hid (HR0_7.out.grown hg8 (fun e => by have h1 : p = w.heap.size := (by simpa using e); omega))
      have HJ_8 := Lib.hid (HJ_7.out.grown hg8 (fun e => by have h1 : p = q2 := (by simpa using e); omega))
      have HB_8 := Lib.hid (HB_7.out.grown hg8 (fun k h => by cases h; omega))
      have HS_8 := Lib.hid hs8
      clear hs8 hg8
      clear HR0_7 HJ_7 HB_7 HS_7
      cases b3
      · skip
        go_wp2_with fail
        obtain ⟨k0, k1, k2, k3⟩ := HJ_8.out.cells4
        have HD := Lib.hid (And.intro (show SrcAt w8.drew w.heap.size p ac nc cc 18 from HS_8.out) (show Bel w.heap.size w w8.drew from HB_8.out.drew))
        have HAll := Lib.hid (fun (W : World) (hg : w8.grownBy W (some p)) => (show (W.cell? ⟨q2, 0, none⟩ = some (.int .i64 a) ∧ W.cell? ⟨q2, 1, none⟩ = some (.int .i64 b) ∧ W.cell? ⟨q2, 2, none⟩ = some (.int .i64 j) ∧ W.cell? ⟨q2, 3, none⟩ = some (.int .i64 t)) ∧ (((((W.setCell ⟨w.heap.size, 0, none⟩ (.int .i64 a)).setCell ⟨w.heap.size, 1, none⟩ (.int .i64 b)).setCell ⟨w.heap.size, 2, none⟩ (.int .i64 j)).setCell ⟨w.heap.size, 3, none⟩ (.int .i64 t)).cell? ⟨q2, 0, none⟩ = some (.int .i64 a) ∧ ((((W.setCell ⟨w.heap.size, 0, none⟩ (.int .i64 a)).setCell ⟨w.heap.size, 1, none⟩ (.int .i64 b)).setCell ⟨w.heap.size, 2, none⟩ (.int .i64 j)).setCell ⟨w.heap.size, 3, none⟩ (.int .i64 t)).cell? ⟨q2, 1, none⟩ = some (.int .i64 b) ∧ ((((W.setCell ⟨w.heap.size, 0, none⟩ (.int .i64 a)).setCell ⟨w.heap.size, 1, none⟩ (.int .i64 b)).setCell ⟨w.heap.size, 2, none⟩ (.int .i64 j)).setCell ⟨w.heap.size, 3, none⟩ (.int .i64 t)).cell? ⟨q2, 2, none⟩ = some (.int .i64 j) ∧ ((((W.setCell ⟨w.heap.size, 0, none⟩ (.int .i64 a)).setCell ⟨w.heap.size, 1, none⟩ (.int .i64 b)).setCell ⟨w.heap.size, 2, none⟩ (.int .i64 j)).setCell ⟨w.heap.size, 3, none⟩ (.int .i64 t)).cell? ⟨q2, 3, none⟩ = some (.int .i64 t)) ∧ Obx W w.heap.size w.heap.size 31 4 [.int .i64 0, .int .i64 0, .int .i64 0, .int .i64 0] from by
          have hF := HJ_8.out.grown hg (fun e => by have h1 : p = q2 := (by simpa using e); omega)
          have hR := HR0_8.out.grown hg (fun e => by have h1 : p = w.heap.size := (by simpa using e); omega)
          have hF2 := ((((hF.setOther (q' := w.heap.size) 0 (.int .i64 a) hHR0q2).setOther (q' := w.heap.size) 1 (.int .i64 b) hHR0q2).setOther (q' := w.heap.size) 2 (.int .i64 j) hHR0q2).setOther (q' := w.heap.size) 3 (.int .i64 t) hHR0q2)
          exact ⟨hF.cells4, hF2.cells4, hR⟩))
        go_region_held3 (fun W => W.cell? ⟨q2, 0, none⟩ = some (.int .i64 a) ∧ W.cell? ⟨q2, 1, none⟩ = some (.int .i64 b) ∧ W.cell? ⟨q2, 2, none⟩ = some (.int .i64 j) ∧ W.cell? ⟨q2, 3, none⟩ = some (.int .i64 t)) (first | (with_reducible exact hK2) | (with_reducible exact hK3) | go_keep)
          ((refine (pick_any w w8.drew p nc cc 18 ac 300 HC.out HD.out.2 HD.out.1 (by omega) (by omega)).mono ?_; rintro e wz ⟨z, rfl, za, zb, hsz, hgz⟩; have hall := HAll.out wz (grown_from_drew hgz); have hK2 := hall.1; have hK3 := hall.2.1; obtain ⟨⟨n0, n1, n2, n3⟩, ⟨f0, f1, f2, f3⟩⟩ := hall.2.2.all4; have HN := Lib.hid (And.intro hsz hgz); clear hall hsz hgz))
        have hBz := HB_8.out.grown (grown_from_drew HN.out.2) (fun k h => by cases h; omega)
        have HE := Lib.hid (show DrawCureShareEnd w (.returned (.tuple #[.agg #[.int .i64 a, .int .i64 b, .int .i64 j, .int .i64 t], .int .i64 x2, .int .i64 z])) ((((wz.setCell ⟨w.heap.size, 0, none⟩ (.int .i64 a)).setCell ⟨w.heap.size, 1, none⟩ (.int .i64 b)).setCell ⟨w.heap.size, 2, none⟩ (.int .i64 j)).setCell ⟨w.heap.size, 3, none⟩ (.int .i64 t)) from ⟨a, b, j, t, x2, z, rfl, (by have h := HWj.out; exact ⟨wf_small ⟨h.1, h.2.1⟩, wf_small ⟨h.2.2.1, h.2.2.2.1⟩, wf_small ⟨h.2.2.2.2.1, h.2.2.2.2.2.1⟩, wf_small h.2.2.2.2.2.2⟩), ((((hBz.setCell (p := ⟨w.heap.size, 0, none⟩) (Nat.le_refl _) _).setCell (p := ⟨w.heap.size, 1, none⟩) (Nat.le_refl _) _).setCell (p := ⟨w.heap.size, 2, none⟩) (Nat.le_refl _) _).setCell (p := ⟨w.heap.size, 3, none⟩) (Nat.le_refl _) _)⟩)
        clear hBz hK2 hK3
        go_wp2_with fail
        refine bodyPost_ret (v := (.tuple #[.agg #[.int .i64 a, .int .i64 b, .int .i64 j, .int .i64 t], .int .i64 x2, .int .i64 z])) (by simp [results, Tryz.results14, go_sem, n0, n1, n2, n3]) rfl ?_
        exact HE.out
      · skip
        go_wp2_with fail
        obtain ⟨k0, k1, k2, k3⟩ := HJ_8.out.cells4
        have HD := Lib.hid (And.intro (show SrcAt w8.drew w.heap.size p ac nc cc 18 from HS_8.out) (show Bel w.heap.size w w8.drew from HB_8.out.drew))
        have HAll := Lib.hid (fun (W : World) (hg : w8.grownBy W (some p)) => (show (W.cell? ⟨q2, 0, none⟩ = some (.int .i64 a) ∧ W.cell? ⟨q2, 1, none⟩ = some (.int .i64 b) ∧ W.cell? ⟨q2, 2, none⟩ = some (.int .i64 j) ∧ W.cell? ⟨q2, 3, none⟩ = some (.int .i64 t)) ∧ (((((W.setCell ⟨w.heap.size, 0, none⟩ (.int .i64 a)).setCell ⟨w.heap.size, 1, none⟩ (.int .i64 b)).setCell ⟨w.heap.size, 2, none⟩ (.int .i64 j)).setCell ⟨w.heap.size, 3, none⟩ (.int .i64 t)).cell? ⟨q2, 0, none⟩ = some (.int .i64 a) ∧ ((((W.setCell ⟨w.heap.size, 0, none⟩ (.int .i64 a)).setCell ⟨w.heap.size, 1, none⟩ (.int .i64 b)).setCell ⟨w.heap.size, 2, none⟩ (.int .i64 j)).setCell ⟨w.heap.size, 3, none⟩ (.int .i64 t)).cell? ⟨q2, 1, none⟩ = some (.int .i64 b) ∧ ((((W.setCell ⟨w.heap.size, 0, none⟩ (.int .i64 a)).setCell ⟨w.heap.size, 1, none⟩ (.int .i64 b)).setCell ⟨w.heap.size, 2, none⟩ (.int .i64 j)).setCell ⟨w.heap.size, 3, none⟩ (.int .i64 t)).cell? ⟨q2, 2, none⟩ = some (.int .i64 j) ∧ ((((W.setCell ⟨w.heap.size, 0, none⟩ (.int .i64 a)).setCell ⟨w.heap.size, 1, none⟩ (.int .i64 b)).setCell ⟨w.heap.size, 2, none⟩ (.int .i64 j)).setCell ⟨w.heap.size, 3, none⟩ (.int .i64 t)).cell? ⟨q2, 3, none⟩ = some (.int .i64 t)) ∧ Obx W w.heap.size w.heap.size 31 4 [.int .i64 0, .int .i64 0, .int .i64 0, .int .i64 0] from by
          have hF := HJ_8.out.grown hg (fun e => by have h1 : p = q2 := (by simpa using e); omega)
          have hR := HR0_8.out.grown hg (fun e => by have h1 : p = w.heap.size := (by simpa using e); omega)
          have hF2 := ((((hF.setOther (q' := w.heap.size) 0 (.int .i64 a) hHR0q2).setOther (q' := w.heap.size) 1 (.int .i64 b) hHR0q2).setOther (q' := w.heap.size) 2 (.int .i64 j) hHR0q2).setOther (q' := w.heap.size) 3 (.int .i64 t) hHR0q2)
          exact ⟨hF.cells4, hF2.cells4, hR⟩))
        go_region_held3 (fun W => W.cell? ⟨q2, 0, none⟩ = some (.int .i64 a) ∧ W.cell? ⟨q2, 1, none⟩ = some (.int .i64 b) ∧ W.cell? ⟨q2, 2, none⟩ = some (.int .i64 j) ∧ W.cell? ⟨q2, 3, none⟩ = some (.int .i64 t)) (first | (with_reducible exact hK2) | (with_reducible exact hK3) | go_keep)
          ((refine (among_lit w w8.drew p nc cc 18 4 2 ac [-1, 0, 100000, 100001] rfl (by omega) (by omega) HC.out HD.out.2 HD.out.1 (by omega)).mono ?_; rintro e wz ⟨z, rfl, hz, hsz, hgz⟩; have hall := HAll.out wz (grown_from_drew hgz); have hK2 := hall.1; have hK3 := hall.2.1; obtain ⟨⟨n0, n1, n2, n3⟩, ⟨f0, f1, f2, f3⟩⟩ := hall.2.2.all4; have HN := Lib.hid (And.intro hsz hgz); clear hall hsz hgz))
        have hBz := HB_8.out.grown (grown_from_drew HN.out.2) (fun k h => by cases h; omega)
        have HE := Lib.hid (show DrawCureShareEnd w (.returned (.tuple #[.agg #[.int .i64 a, .int .i64 b, .int .i64 j, .int .i64 t], .int .i64 x2, .int .i64 z])) ((((wz.setCell ⟨w.heap.size, 0, none⟩ (.int .i64 a)).setCell ⟨w.heap.size, 1, none⟩ (.int .i64 b)).setCell ⟨w.heap.size, 2, none⟩ (.int .i64 j)).setCell ⟨w.heap.size, 3, none⟩ (.int .i64 t)) from ⟨a, b, j, t, x2, z, rfl, (by have h := HWj.out; exact ⟨wf_small ⟨h.1, h.2.1⟩, wf_small ⟨h.2.2.1, h.2.2.2.1⟩, wf_small ⟨h.2.2.2.2.1, h.2.2.2.2.2.1⟩, wf_small h.2.2.2.2.2.2⟩), ((((hBz.setCell (p := ⟨w.heap.size, 0, none⟩) (Nat.le_refl _) _).setCell (p := ⟨w.heap.size, 1, none⟩) (Nat.le_refl _) _).setCell (p := ⟨w.heap.size, 2, none⟩) (Nat.le_refl _) _).setCell (p := ⟨w.heap.size, 3, none⟩) (Nat.le_refl _) _)⟩)
        clear hBz hK2 hK3
        go_wp2_with fail
        refine bodyPost_ret (v := (.tuple #[.agg #[.int .i64 a, .int .i64 b, .int .i64 j, .int .i64 t], .int .i64 x2, .int .i64 z])) (by simp [results, Tryz.results14, go_sem, n0, n1, n2, n3]) rfl ?_
        exact HE.out
  · skip
    go_wp2_with fail
    refine (l19Spoil_any w w4 w.heap.size q2 1 1 0 p nc cc 10 ac [a, b, j, t] HC.out HB_4.out HS_4.out (by omega) rfl (by omega) (by have := HWj.out; simp only [List.mem_cons, List.not_mem_nil, or_false]; rintro z (rfl | rfl | rfl | rfl) <;> omega) (by omega) HJ_4.out).mono ?_
    rintro e w5 ⟨rfl, zs, hzl, hzw, hzo, hs5, wm, hgm, hg5⟩
    obtain ⟨a', b', j', t', rfl, hw4⟩ := four_of hzl hzw
    have HR0_5 := Lib.hid ((HR0_4.out.grown hgm (fun e => by have h1 : p = w.heap.size := (by simpa using e); omega)).grown hg5 (fun e => by have h1 : q2 = w.heap.size := (by simpa using e); omega))
    have HJ_5 := Lib.hid (show Obx w5 w.heap.size q2 31 4 [.int .i64 a', .int .i64 b', .int .i64 j', .int .i64 t'] from hzo)
    have HB_5 := Lib.hid ((HB_4.out.grown hgm (fun k h => by cases h; omega)).grown hg5 (fun k h => by cases h; omega))
    have HS_5 := Lib.hid hs5
    have HW4 := Lib.hid hw4
    clear hs5 hg5 hgm hzl hzw hzo hw4
    clear HR0_4 HJ_4 HB_4 HS_4
    go_wp2_with fail
    refine (pick_any w w5 p nc cc 14 ac 200 HC.out HB_5.out HS_5.out (by omega) (by omega)).mono ?_
    rintro e w6 ⟨x, rfl, xa, xb, hs6, hg6⟩
    have HR0_6 := Lib.hid (HR0_5.out.grown hg6 (fun e => by have h1 : p = w.heap.size := (by simpa using e); omega))
    have HJ_6 := Lib.hid (HJ_5.out.grown hg6 (fun e => by have h1 : p = q2 := (by simpa using e); omega))
    have HB_6 := Lib.hid (HB_5.out.grown hg6 (fun k h => by cases h; omega))
    have HS_6 := Lib.hid hs6
    clear hs6 hg6
    clear HR0_5 HJ_5 HB_5 HS_5
    go_wp2_with fail
    refine (one_any w w6 p nc cc 16 ac 10 HC.out HB_6.out HS_6.out (by omega) (by omega)).mono ?_
    rintro e w7 ⟨b2, rfl, hs7, hg7⟩
    have HR0_7 := Lib.hid (HR0_6.out.grown hg7 (fun e => by have h1 : p = w.heap.size := (by simpa using e); omega))
    have HJ_7 := Lib.hid (HJ_6.out.grown hg7 (fun e => by have h1 : p = q2 := (by simpa using e); omega))
    have HB_7 := Lib.hid (HB_6.out.grown hg7 (fun k h => by cases h; omega))
    have HS_7 := Lib.hid hs7
    clear hs7 hg7
    clear HR0_6 HJ_6 HB_6 HS_6
    cases b2
    · skip
      go_wp2_with fail
      refine (one_any w w7 p nc cc 18 ac 10 HC.out HB_7.out HS_7.out (by omega) (by omega)).mono ?_
      rintro e w8 ⟨b3, rfl, hs8, hg8⟩
      have HR0_8 := Lib.hid (HR0_7.out.grown hg8 (fun e => by have h1 : p = w.heap.size := (by simpa using e); omega))
      have HJ_8 := Lib.hid (HJ_7.out.grown hg8 (fun e => by have h1 : p = q2 := (by simpa using e); omega))
      have HB_8 := Lib.hid (HB_7.out.grown hg8 (fun k h => by cases h; omega))
      have HS_8 := Lib.hid hs8
      clear hs8 hg8
      clear HR0_7 HJ_7 HB_7 HS_7
      cases b3
      · skip
        go_wp2_with fail
        obtain ⟨k0, k1, k2, k3⟩ := HJ_8.out.cells4
        have HD := Lib.hid (And.intro (show SrcAt w8.drew w.heap.size p ac nc cc 20 from HS_8.out) (show Bel w.heap.size w w8.drew from HB_8.out.drew))
        have HAll := Lib.hid (fun (W : World) (hg : w8.grownBy W (some p)) => (show (W.cell? ⟨q2, 0, none⟩ = some (.int .i64 a') ∧ W.cell? ⟨q2, 1, none⟩ = some (.int .i64 b') ∧ W.cell? ⟨q2, 2, none⟩ = some (.int .i64 j') ∧ W.cell? ⟨q2, 3, none⟩ = some (.int .i64 t')) ∧ (((((W.setCell ⟨w.heap.size, 0, none⟩ (.int .i64 a')).setCell ⟨w.heap.size, 1, none⟩ (.int .i64 b')).setCell ⟨w.heap.size, 2, none⟩ (.int .i64 j')).setCell ⟨w.heap.size, 3, none⟩ (.int .i64 t')).cell? ⟨q2, 0, none⟩ = some (.int .i64 a') ∧ ((((W.setCell ⟨w.heap.size, 0, none⟩ (.int .i64 a')).setCell ⟨w.heap.size, 1, none⟩ (.int .i64 b')).setCell ⟨w.heap.size, 2, none⟩ (.int .i64 j')).setCell ⟨w.heap.size, 3, none⟩ (.int .i64 t')).cell? ⟨q2, 1, none⟩ = some (.int .i64 b') ∧ ((((W.setCell ⟨w.heap.size, 0, none⟩ (.int .i64 a')).setCell ⟨w.heap.size, 1, none⟩ (.int .i64 b')).setCell ⟨w.heap.size, 2, none⟩ (.int .i64 j')).setCell ⟨w.heap.size, 3, none⟩ (.int .i64 t')).cell? ⟨q2, 2, none⟩ = some (.int .i64 j') ∧ ((((W.setCell ⟨w.heap.size, 0, none⟩ (.int .i64 a')).setCell ⟨w.heap.size, 1, none⟩ (.int .i64 b')).setCell ⟨w.heap.size, 2, none⟩ (.int .i64 j')).setCell ⟨w.heap.size, 3, none⟩ (.int .i64 t')).cell? ⟨q2, 3, none⟩ = some (.int .i64 t')) ∧ Obx W w.heap.size w.heap.size 31 4 [.int .i64 0, .int .i64 0, .int .i64 0, .int .i64 0] from by
          have hF := HJ_8.out.grown hg (fun e => by have h1 : p = q2 := (by simpa using e); omega)
          have hR := HR0_8.out.grown hg (fun e => by have h1 : p = w.heap.size := (by simpa using e); omega)
          have hF2 := ((((hF.setOther (q' := w.heap.size) 0 (.int .i64 a') hHR0q2).setOther (q' := w.heap.size) 1 (.int .i64 b') hHR0q2).setOther (q' := w.heap.size) 2 (.int .i64 j') hHR0q2).setOther (q' := w.heap.size) 3 (.int .i64 t') hHR0q2)
          exact ⟨hF.cells4, hF2.cells4, hR⟩))
        go_region_held3 (fun W => W.cell? ⟨q2, 0, none⟩ = some (.int .i64 a') ∧ W.cell? ⟨q2, 1, none⟩ = some (.int .i64 b') ∧ W.cell? ⟨q2, 2, none⟩ = some (.int .i64 j') ∧ W.cell? ⟨q2, 3, none⟩ = some (.int .i64 t')) (first | (with_reducible exact hK2) | (with_reducible exact hK3) | go_keep)
          ((refine (pick_any w w8.drew p nc cc 20 ac 300 HC.out HD.out.2 HD.out.1 (by omega) (by omega)).mono ?_; rintro e wz ⟨z, rfl, za, zb, hsz, hgz⟩; have hall := HAll.out wz (grown_from_drew hgz); have hK2 := hall.1; have hK3 := hall.2.1; obtain ⟨⟨n0, n1, n2, n3⟩, ⟨f0, f1, f2, f3⟩⟩ := hall.2.2.all4; have HN := Lib.hid (And.intro hsz hgz); clear hall hsz hgz))
        have hBz := HB_8.out.grown (grown_from_drew HN.out.2) (fun k h => by cases h; omega)
        have HE := Lib.hid (show DrawCureShareEnd w (.returned (.tuple #[.agg #[.int .i64 a', .int .i64 b', .int .i64 j', .int .i64 t'], .int .i64 (1 + x), .int .i64 z])) ((((wz.setCell ⟨w.heap.size, 0, none⟩ (.int .i64 a')).setCell ⟨w.heap.size, 1, none⟩ (.int .i64 b')).setCell ⟨w.heap.size, 2, none⟩ (.int .i64 j')).setCell ⟨w.heap.size, 3, none⟩ (.int .i64 t')) from ⟨a', b', j', t', (1 + x), z, rfl, HW4.out, ((((hBz.setCell (p := ⟨w.heap.size, 0, none⟩) (Nat.le_refl _) _).setCell (p := ⟨w.heap.size, 1, none⟩) (Nat.le_refl _) _).setCell (p := ⟨w.heap.size, 2, none⟩) (Nat.le_refl _) _).setCell (p := ⟨w.heap.size, 3, none⟩) (Nat.le_refl _) _)⟩)
        clear hBz hK2 hK3
        go_wp2_with fail
        refine bodyPost_ret (v := (.tuple #[.agg #[.int .i64 a', .int .i64 b', .int .i64 j', .int .i64 t'], .int .i64 (1 + x), .int .i64 z])) (by simp [results, Tryz.results14, go_sem, n0, n1, n2, n3]) rfl ?_
        exact HE.out
      · skip
        go_wp2_with fail
        obtain ⟨k0, k1, k2, k3⟩ := HJ_8.out.cells4
        have HD := Lib.hid (And.intro (show SrcAt w8.drew w.heap.size p ac nc cc 20 from HS_8.out) (show Bel w.heap.size w w8.drew from HB_8.out.drew))
        have HAll := Lib.hid (fun (W : World) (hg : w8.grownBy W (some p)) => (show (W.cell? ⟨q2, 0, none⟩ = some (.int .i64 a') ∧ W.cell? ⟨q2, 1, none⟩ = some (.int .i64 b') ∧ W.cell? ⟨q2, 2, none⟩ = some (.int .i64 j') ∧ W.cell? ⟨q2, 3, none⟩ = some (.int .i64 t')) ∧ (((((W.setCell ⟨w.heap.size, 0, none⟩ (.int .i64 a')).setCell ⟨w.heap.size, 1, none⟩ (.int .i64 b')).setCell ⟨w.heap.size, 2, none⟩ (.int .i64 j')).setCell ⟨w.heap.size, 3, none⟩ (.int .i64 t')).cell? ⟨q2, 0, none⟩ = some (.int .i64 a') ∧ ((((W.setCell ⟨w.heap.size, 0, none⟩ (.int .i64 a')).setCell ⟨w.heap.size, 1, none⟩ (.int .i64 b')).setCell ⟨w.heap.size, 2, none⟩ (.int .i64 j')).setCell ⟨w.heap.size, 3, none⟩ (.int .i64 t')).cell? ⟨q2, 1, none⟩ = some (.int .i64 b') ∧ ((((W.setCell ⟨w.heap.size, 0, none⟩ (.int .i64 a')).setCell ⟨w.heap.size, 1, none⟩ (.int .i64 b')).setCell ⟨w.heap.size, 2, none⟩ (.int .i64 j')).setCell ⟨w.heap.size, 3, none⟩ (.int .i64 t')).cell? ⟨q2, 2, none⟩ = some (.int .i64 j') ∧ ((((W.setCell ⟨w.heap.size, 0, none⟩ (.int .i64 a')).setCell ⟨w.heap.size, 1, none⟩ (.int .i64 b')).setCell ⟨w.heap.size, 2, none⟩ (.int .i64 j')).setCell ⟨w.heap.size, 3, none⟩ (.int .i64 t')).cell? ⟨q2, 3, none⟩ = some (.int .i64 t')) ∧ Obx W w.heap.size w.heap.size 31 4 [.int .i64 0, .int .i64 0, .int .i64 0, .int .i64 0] from by
          have hF := HJ_8.out.grown hg (fun e => by have h1 : p = q2 := (by simpa using e); omega)
          have hR := HR0_8.out.grown hg (fun e => by have h1 : p = w.heap.size := (by simpa using e); omega)
          have hF2 := ((((hF.setOther (q' := w.heap.size) 0 (.int .i64 a') hHR0q2).setOther (q' := w.heap.size) 1 (.int .i64 b') hHR0q2).setOther (q' := w.heap.size) 2 (.int .i64 j') hHR0q2).setOther (q' := w.heap.size) 3 (.int .i64 t') hHR0q2)
          exact ⟨hF.cells4, hF2.cells4, hR⟩))
        go_region_held3 (fun W => W.cell? ⟨q2, 0, none⟩ = some (.int .i64 a') ∧ W.cell? ⟨q2, 1, none⟩ = some (.int .i64 b') ∧ W.cell? ⟨q2, 2, none⟩ = some (.int .i64 j') ∧ W.cell? ⟨q2, 3, none⟩ = some (.int .i64 t')) (first | (with_reducible exact hK2) | (with_reducible exact hK3) | go_keep)
          ((refine (among_lit w w8.drew p nc cc 20 4 2 ac [-1, 0, 100000, 100001] rfl (by omega) (by omega) HC.out HD.out.2 HD.out.1 (by omega)).mono ?_; rintro e wz ⟨z, rfl, hz, hsz, hgz⟩; have hall := HAll.out wz (grown_from_drew hgz); have hK2 := hall.1; have hK3 := hall.2.1; obtain ⟨⟨n0, n1, n2, n3⟩, ⟨f0, f1, f2, f3⟩⟩ := hall.2.2.all4; have HN := Lib.hid (And.intro hsz hgz); clear hall hsz hgz))
        have hBz := HB_8.out.grown (grown_from_drew HN.out.2) (fun k h => by cases h; omega)
        have HE := Lib.hid (show DrawCureShareEnd w (.returned (.tuple #[.agg #[.int .i64 a', .int .i64 b', .int .i64 j', .int .i64 t'], .int .i64 (1 + x), .int .i64 z])) ((((wz.setCell ⟨w.heap.size, 0, none⟩ (.int .i64 a')).setCell ⟨w.heap.size, 1, none⟩ (.int .i64 b')).setCell ⟨w.heap.size, 2, none⟩ (.int .i64 j')).setCell ⟨w.heap.size, 3, none⟩ (.int .i64 t')) from ⟨a', b', j', t', (1 + x), z, rfl, HW4.out, ((((hBz.setCell (p := ⟨w.heap.size, 0, none⟩) (Nat.le_refl _) _).setCell (p := ⟨w.heap.size, 1, none⟩) (Nat.le_refl _) _).setCell (p := ⟨w.heap.size, 2, none⟩) (Nat.le_refl _) _).setCell (p := ⟨w.heap.size, 3, none⟩) (Nat.le_refl _) _)⟩)
        clear hBz hK2 hK3
        go_wp2_with fail
        refine bodyPost_ret (v := (.tuple #[.agg #[.int .i64 a', .int .i64 b', .int .i64 j', .int .i64 t'], .int .i64 (1 + x), .int .i64 z])) (by simp [results, Tryz.results14, go_sem, n0, n1, n2, n3]) rfl ?_
        exact HE.out
    · skip
      go_wp2_with fail
      refine (among_lit w w7 p nc cc 18 5 2 ac [-1, 0, 1, 100000, 100001] rfl (by omega) (by omega) HC.out HB_7.out HS_7.out (by omega)).mono ?_
      rintro e w8 ⟨x2, rfl, hx2, hs8, hg8⟩
      have HR0_8 := Lib.hid (HR0_7.out.grown hg8 (fun e => by have h1 : p = w.heap.size := (by simpa using e); omega))
      have HJ_8 := Lib.hid (HJ_7.out.grown hg8 (fun e => by have h1 : p = q2 := (by simpa using e); omega))
      have HB_8 := Lib.hid (HB_7.out.grown hg8 (fun k h => by cases h; omega))
      have HS_8 := Lib.hid hs8
      clear hs8 hg8
      clear HR0_7 HJ_7 HB_7 HS_7
      go_wp2_with fail
      refine (one_any w w8 p nc cc 20 ac 10 HC.out HB_8.out HS_8.out (by omega) (by omega)).mono ?_
      rintro e w9 ⟨b3, rfl, hs9, hg9⟩
      have HR0_9 := Lib.hid (HR0_8.out.grown hg9 (fun e => by have h1 : p = w.heap.size := (by simpa using e); omega))
      have HJ_9 := Lib.hid (HJ_8.out.grown hg9 (fun e => by have h1 : p = q2 := (by simpa using e); omega))
      have HB_9 := Lib.hid (HB_8.out.grown hg9 (fun k h => by cases h; omega))
      have HS_9 := Lib.hid hs9
      clear hs9 hg9
      clear HR0_8 HJ_8 HB_8 HS_8
      cases b3
      · skip
        go_wp2_with fail
        obtain ⟨k0, k1, k2, k3⟩ := HJ_9.out.cells4
        have HD := Lib.hid (And.intro (show SrcAt w9.drew w.heap.size p ac nc cc 22 from HS_9.out) (show Bel w.heap.size w w9.drew from HB_9.out.drew))
        have HAll := Lib.hid (fun (W : World) (hg : w9.grownBy W (some p)) => (show (W.cell? ⟨q2, 0, none⟩ = some (.int .i64 a') ∧ W.cell? ⟨q2, 1, none⟩ = some (.int .i64 b') ∧ W.cell? ⟨q2, 2, none⟩ = some (.int .i64 j') ∧ W.cell? ⟨q2, 3, none⟩ = some (.int .i64 t')) ∧ (((((W.setCell ⟨w.heap.size, 0, none⟩ (.int .i64 a')).setCell ⟨w.heap.size, 1, none⟩ (.int .i64 b')).setCell ⟨w.heap.size, 2, none⟩ (.int .i64 j')).setCell ⟨w.heap.size, 3, none⟩ (.int .i64 t')).cell? ⟨q2, 0, none⟩ = some (.int .i64 a') ∧ ((((W.setCell ⟨w.heap.size, 0, none⟩ (.int .i64 a')).setCell ⟨w.heap.size, 1, none⟩ (.int .i64 b')).setCell ⟨w.heap.size, 2, none⟩ (.int .i64 j')).setCell ⟨w.heap.size, 3, none⟩ (.int .i64 t')).cell? ⟨q2, 1, none⟩ = some (.int .i64 b') ∧ ((((W.setCell ⟨w.heap.size, 0, none⟩ (.int .i64 a')).setCell ⟨w.heap.size, 1, none⟩ (.int .i64 b')).setCell ⟨w.heap.size, 2, none⟩ (.int .i64 j')).setCell ⟨w.heap.size, 3, none⟩ (.int .i64 t')).cell? ⟨q2, 2, none⟩ = some (.int .i64 j') ∧ ((((W.setCell ⟨w.heap.size, 0, none⟩ (.int .i64 a')).setCell ⟨w.heap.size, 1, none⟩ (.int .i64 b')).setCell ⟨w.heap.size, 2, none⟩ (.int .i64 j')).setCell ⟨w.heap.size, 3, none⟩ (.int .i64 t')).cell? ⟨q2, 3, none⟩ = some (.int .i64 t')) ∧ Obx W w.heap.size w.heap.size 31 4 [.int .i64 0, .int .i64 0, .int .i64 0, .int .i64 0] from by
          have hF := HJ_9.out.grown hg (fun e => by have h1 : p = q2 := (by simpa using e); omega)
          have hR := HR0_9.out.grown hg (fun e => by have h1 : p = w.heap.size := (by simpa using e); omega)
          have hF2 := ((((hF.setOther (q' := w.heap.size) 0 (.int .i64 a') hHR0q2).setOther (q' := w.heap.size) 1 (.int .i64 b') hHR0q2).setOther (q' := w.heap.size) 2 (.int .i64 j') hHR0q2).setOther (q' := w.heap.size) 3 (.int .i64 t') hHR0q2)
          exact ⟨hF.cells4, hF2.cells4, hR⟩))
        go_region_held3 (fun W => W.cell? ⟨q2, 0, none⟩ = some (.int .i64 a') ∧ W.cell? ⟨q2, 1, none⟩ = some (.int .i64 b') ∧ W.cell? ⟨q2, 2, none⟩ = some (.int .i64 j') ∧ W.cell? ⟨q2, 3, none⟩ = some (.int .i64 t')) (first | (with_reducible exact hK2) | (with_reducible exact hK3) | go_keep)
          ((refine (pick_any w w9.drew p nc cc 22 ac 300 HC.out HD.out.2 HD.out.1 (by omega) (by omega)).mono ?_; rintro e wz ⟨z, rfl, za, zb, hsz, hgz⟩; have hall := HAll.out wz (grown_from_drew hgz); have hK2 := hall.1; have hK3 := hall.2.1; obtain ⟨⟨n0, n1, n2, n3⟩, ⟨f0, f1, f2, f3⟩⟩ := hall.2.2.all4; have HN := Lib.hid (And.intro hsz hgz); clear hall hsz hgz))
        have hBz := HB_9.out.grown (grown_from_drew HN.out.2) (fun k h => by cases h; omega)
        have HE := Lib.hid (show DrawCureShareEnd w (.returned (.tuple #[.agg #[.int .i64 a', .int .i64 b', .int .i64 j', .int .i64 t'], .int .i64 x2, .int .i64 z])) ((((wz.setCell ⟨w.heap.size, 0, none⟩ (.int .i64 a')).setCell ⟨w.heap.size, 1, none⟩ (.int .i64 b')).setCell ⟨w.heap.size, 2, none⟩ (.int .i64 j')).setCell ⟨w.heap.size, 3, none⟩ (.int .i64 t')) from ⟨a', b', j', t', x2, z, rfl, HW4.out, ((((hBz.setCell (p := ⟨w.heap.size, 0, none⟩) (Nat.le_refl _) _).setCell (p := ⟨w.heap.size, 1, none⟩) (Nat.le_refl _) _).setCell (p := ⟨w.heap.size, 2, none⟩) (Nat.le_refl _) _).setCell (p := ⟨w.heap.size, 3, none⟩) (Nat.le_refl _) _)⟩)
        clear hBz hK2 hK3
        go_wp2_with fail
        refine bodyPost_ret (v := (.tuple #[.agg #[.int .i64 a', .int .i64 b', .int .i64 j', .int .i64 t'], .int .i64 x2, .int .i64 z])) (by simp [results, Tryz.results14, go_sem, n0, n1, n2, n3]) rfl ?_
        exact HE.out
      · skip
        go_wp2_with fail
        obtain ⟨k0, k1, k2, k3⟩ := HJ_9.out.cells4
        have HD := Lib.hid (And.intro (show SrcAt w9.drew w.heap.size p ac nc cc 22 from HS_9.out) (show Bel w.heap.size w w9.drew from HB_9.out.drew))
        have HAll := Lib.hid (fun (W : World) (hg : w9.grownBy W (some p)) => (show (W.cell? ⟨q2, 0, none⟩ = some (.int .i64 a') ∧ W.cell? ⟨q2, 1, none⟩ = some (.int .i64 b') ∧ W.cell? ⟨q2, 2, none⟩ = some (.int .i64 j') ∧ W.cell? ⟨q2, 3, none⟩ = some (.int .i64 t')) ∧ (((((W.setCell ⟨w.heap.size, 0, none⟩ (.int .i64 a')).setCell ⟨w.heap.size, 1, none⟩ (.int .i64 b')).setCell ⟨w.heap.size, 2, none⟩ (.int .i64 j')).setCell ⟨w.heap.size, 3, none⟩ (.int .i64 t')).cell? ⟨q2, 0, none⟩ = some (.int .i64 a') ∧ ((((W.setCell ⟨w.heap.size, 0, none⟩ (.int .i64 a')).setCell ⟨w.heap.size, 1, none⟩ (.int .i64 b')).setCell ⟨w.heap.size, 2, none⟩ (.int .i64 j')).setCell ⟨w.heap.size, 3, none⟩ (.int .i64 t')).cell? ⟨q2, 1, none⟩ = some (.int .i64 b') ∧ ((((W.setCell ⟨w.heap.size, 0, none⟩ (.int .i64 a')).setCell ⟨w.heap.size, 1, none⟩ (.int .i64 b')).setCell ⟨w.heap.size, 2, none⟩ (.int .i64 j')).setCell ⟨w.heap.size, 3, none⟩ (.int .i64 t')).cell? ⟨q2, 2, none⟩ = some (.int .i64 j') ∧ ((((W.setCell ⟨w.heap.size, 0, none⟩ (.int .i64 a')).setCell ⟨w.heap.size, 1, none⟩ (.int .i64 b')).setCell ⟨w.heap.size, 2, none⟩ (.int .i64 j')).setCell ⟨w.heap.size, 3, none⟩ (.int .i64 t')).cell? ⟨q2, 3, none⟩ = some (.int .i64 t')) ∧ Obx W w.heap.size w.heap.size 31 4 [.int .i64 0, .int .i64 0, .int .i64 0, .int .i64 0] from by
          have hF := HJ_9.out.grown hg (fun e => by have h1 : p = q2 := (by simpa using e); omega)
          have hR := HR0_9.out.grown hg (fun e => by have h1 : p = w.heap.size := (by simpa using e); omega)
          have hF2 := ((((hF.setOther (q' := w.heap.size) 0 (.int .i64 a') hHR0q2).setOther (q' := w.heap.size) 1 (.int .i64 b') hHR0q2).setOther (q' := w.heap.size) 2 (.int .i64 j') hHR0q2).setOther (q' := w.heap.size) 3 (.int .i64 t') hHR0q2)
          exact ⟨hF.cells4, hF2.cells4, hR⟩))
        go_region_held3 (fun W => W.cell? ⟨q2, 0, none⟩ = some (.int .i64 a') ∧ W.cell? ⟨q2, 1, none⟩ = some (.int .i64 b') ∧ W.cell? ⟨q2, 2, none⟩ = some (.int .i64 j') ∧ W.cell? ⟨q2, 3, none⟩ = some (.int .i64 t')) (first | (with_reducible exact hK2) | (with_reducible exact hK3) | go_keep)
          ((refine (among_lit w w9.drew p nc cc 22 4 2 ac [-1, 0, 100000, 100001] rfl (by omega) (by omega) HC.out HD.out.2 HD.out.1 (by omega)).mono ?_; rintro e wz ⟨z, rfl, hz, hsz, hgz⟩; have hall := HAll.out wz (grown_from_drew hgz); have hK2 := hall.1; have hK3 := hall.2.1; obtain ⟨⟨n0, n1, n2, n3⟩, ⟨f0, f1, f2, f3⟩⟩ := hall.2.2.all4; have HN := Lib.hid (And.intro hsz hgz); clear hall hsz hgz))
        have hBz := HB_9.out.grown (grown_from_drew HN.out.2) (fun k h => by cases h; omega)
        have HE := Lib.hid (show DrawCureShareEnd w (.returned (.tuple #[.agg #[.int .i64 a', .int .i64 b', .int .i64 j', .int .i64 t'], .int .i64 x2, .int .i64 z])) ((((wz.setCell ⟨w.heap.size, 0, none⟩ (.int .i64 a')).setCell ⟨w.heap.size, 1, none⟩ (.int .i64 b')).setCell ⟨w.heap.size, 2, none⟩ (.int .i64 j')).setCell ⟨w.heap.size, 3, none⟩ (.int .i64 t')) from ⟨a', b', j', t', x2, z, rfl, HW4.out, ((((hBz.setCell (p := ⟨w.heap.size, 0, none⟩) (Nat.le_refl _) _).setCell (p := ⟨w.heap.size, 1, none⟩) (Nat.le_refl _) _).setCell (p := ⟨w.heap.size, 2, none⟩) (Nat.le_refl _) _).setCell (p := ⟨w.heap.size, 3, none⟩) (Nat.le_refl _) _)⟩)
        clear hBz hK2 hK3
        go_wp2_with fail
        refine bodyPost_ret (v := (.tuple #[.agg #[.int .i64 a', .int .i64 b', .int .i64 j', .int .i64 t'], .int .i64 x2, .int .i64 z])) (by simp [results, Tryz.results14, go_sem, n0, n1, n2, n3]) rfl ?_
        exact HE.out
/-- A drawn glue. -/
def DrawGlueTextEnd (w : World) (e : Ending) (w' : World) : Prop := ∃ d o y : Int, e = .returned (.agg #[.int .i64 d, .int .i64 o, .int .i64 y]) ∧ ((Lit.int .i64 d).wf = true ∧ (Lit.int .i64 o).wf = true ∧ (Lit.int .i64 y).wf = true) ∧ Bel w.heap.size w w'
set_option maxRecDepth 100000 in
set_option maxHeartbeats 6400000 in
theorem drawGlueText_any (w : World) (nc cc : Nat) (ac : Option Addr) (hc : CodeAt w ac nc) : Calls Tryz.prog 17 #[.slice ac nc cc] w (DrawGlueTextEnd w) := by
  have HC := Lib.hid hc
  have HB_0 := Lib.hid ((Bel.refl w).alloc (.cells #[.int .i64 0, .int .i64 0, .int .i64 0] 25))
  have HR0_0 := Lib.hid (Obx.new w w.heap.size 25 3 #[.int .i64 0, .int .i64 0, .int .i64 0] (Nat.le_refl _) rfl)
  clear hc
  go_enter Tryz.func17, Tryz.ntmps17
  go_wp2_with fail
  refine (l00From_any _ w.heap.size ac nc cc (by simp)).mono ?_
  rintro e w1 ⟨rfl, hs1, hb1⟩
  obtain ⟨p, hp⟩ : ∃ p, p = (w.alloc (.cells #[.int .i64 0, .int .i64 0, .int .i64 0] 25)).heap.size := ⟨_, rfl⟩
  rw [← hp] at hs1 ⊢
  have hpw : w.heap.size < p := by rw [hp]; simp
  have HS_1 := Lib.hid hs1
  have HB_1 := Lib.hid (HB_0.out.step hb1)
  have HR0_1 := Lib.hid (HR0_0.out.below hb1)
  clear hs1 hb1 hp HB_0 HR0_0
  go_wp2_with fail
  refine (l19Bent_any w w1 p nc cc 0 ac HC.out HB_1.out HS_1.out (by omega)).mono ?_
  rintro e w2 ⟨d, o, y, rfl, hwf, hs2, hg2⟩
  have HWf := Lib.hid hwf
  clear hwf
  have HR0_2 := Lib.hid (HR0_1.out.grown hg2 (fun e => by have h1 : p = w.heap.size := (by simpa using e); omega))
  have HB_2 := Lib.hid (HB_1.out.grown hg2 (fun k h => by cases h; omega))
  have HS_2 := Lib.hid hs2
  clear hs2 hg2
  clear HR0_1 HB_1 HS_1
  obtain ⟨⟨x0, x1, x2⟩, ⟨f0, f1, f2⟩⟩ := HR0_2.out.all3
  have HE := Lib.hid (show DrawGlueTextEnd w (.returned (.agg #[.int .i64 d, .int .i64 o, .int .i64 y])) (((w2.setCell ⟨w.heap.size, 0, none⟩ (.int .i64 d)).setCell ⟨w.heap.size, 1, none⟩ (.int .i64 o)).setCell ⟨w.heap.size, 2, none⟩ (.int .i64 y)) from ⟨d, o, y, rfl, HWf.out, (((HB_2.out.setCell (p := ⟨w.heap.size, 0, none⟩) (Nat.le_refl _) _).setCell (p := ⟨w.heap.size, 1, none⟩) (Nat.le_refl _) _).setCell (p := ⟨w.heap.size, 2, none⟩) (Nat.le_refl _) _)⟩)
  go_wp2_with fail
  refine bodyPost_ret (v := .agg #[.int .i64 d, .int .i64 o, .int .i64 y]) (by simp [results, Tryz.results17, go_sem, x0, x1, x2]) rfl ?_
  exact HE.out
end Go.Proofs.YtfkojbkgpbpjhaaGreatDoor
