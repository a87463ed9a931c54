/-
  Contracts of the draws that the law on glues uses. No condition of its own.
-/
import Derived.Test.YtfkojbkgpbpjhaaGreatDoorSpoilDraw
namespace Go.Proofs.YtfkojbkgpbpjhaaGreatDoor
open Go.ChangeShapes Go.WideShapes Go.ChangeAt Go.RowKit Go.Deep

theorem Obx.cells3 {W : World} {B q E : Nat} {v0 v1 v2 : Value} (h : Obx W B q E 3 [v0, v1, v2]) : W.cell? ⟨q, 0, none⟩ = some v0 ∧ W.cell? ⟨q, 1, none⟩ = some v1 ∧ W.cell? ⟨q, 2, none⟩ = some v2 :=
  ⟨h.cell 0 (by omega), h.cell 1 (by omega), h.cell 2 (by omega)⟩
theorem Obx.all3 {W : World} {B q E : Nat} {v0 v1 v2 : Value} (h : Obx W B q E 3 [v0, v1, v2]) : (W.cell? ⟨q, 0, none⟩ = some v0 ∧ W.cell? ⟨q, 1, none⟩ = some v1 ∧ W.cell? ⟨q, 2, none⟩ = some v2) ∧ (W.frozen? ⟨q, 0, none⟩ = false ∧ W.frozen? ⟨q, 1, none⟩ = false ∧ W.frozen? ⟨q, 2, none⟩ = false) :=
  ⟨h.cells3, ⟨h.fr 0, h.fr 1, h.fr 2⟩⟩
theorem Obx.cells4 {W : World} {B q E : Nat} {v0 v1 v2 v3 : Value} (h : Obx W B q E 4 [v0, v1, v2, v3]) : W.cell? ⟨q, 0, none⟩ = some v0 ∧ W.cell? ⟨q, 1, none⟩ = some v1 ∧ W.cell? ⟨q, 2, none⟩ = some v2 ∧ W.cell? ⟨q, 3, none⟩ = some v3 :=
  ⟨h.cell 0 (by omega), h.cell 1 (by omega), h.cell 2 (by omega), h.cell 3 (by omega)⟩
theorem Obx.all4 {W : World} {B q E : Nat} {v0 v1 v2 v3 : Value} (h : Obx W B q E 4 [v0, v1, v2, v3]) : (W.cell? ⟨q, 0, none⟩ = some v0 ∧ W.cell? ⟨q, 1, none⟩ = some v1 ∧ W.cell? ⟨q, 2, none⟩ = some v2 ∧ W.cell? ⟨q, 3, none⟩ = some v3) ∧ (W.frozen? ⟨q, 0, none⟩ = false ∧ W.frozen? ⟨q, 1, none⟩ = false ∧ W.frozen? ⟨q, 2, none⟩ = false ∧ W.frozen? ⟨q, 3, none⟩ = false) :=
  ⟨h.cells4, ⟨h.fr 0, h.fr 1, h.fr 2, h.fr 3⟩⟩
/-- A drawn glue and two minutes. -/
def DrawJoinWindowEnd (w : World) (e : Ending) (w' : World) : Prop := ∃ d o y a b : Int, e = .returned (.tuple #[.agg #[.int .i64 d, .int .i64 o, .int .i64 y], .int .i64 a, .int .i64 b]) ∧ ((Lit.int .i64 d).wf = true ∧ (Lit.int .i64 o).wf = true ∧ (Lit.int .i64 y).wf = true) ∧ Bel w.heap.size w w'
set_option maxRecDepth 100000 in
set_option maxHeartbeats 6400000 in
theorem drawJoinWindow_any (w : World) (nc cc : Nat) (ac : Option Addr) (hc : CodeAt w ac nc) : Calls Tryz.prog 5 #[.slice ac nc cc] w (DrawJoinWindowEnd w) := by
  have HC := Lib.hid hc
  have HB_0 := Lib.hid ((Bel.refl w).alloc (.cells #[.int .i64 0, .int .i64 0, .int .i64 0] 25))
  have HR0_0 := Lib.hid (Obx.new w w.heap.size 25 3 #[.int .i64 0, .int .i64 0, .int .i64 0] (Nat.le_refl _) rfl)
  clear hc
  go_enter Tryz.func5, Tryz.ntmps5
  go_wp2_with fail
  refine (l00From_any _ w.heap.size ac nc cc (by simp)).mono ?_
  rintro e w1 ⟨rfl, hs1, hb1⟩
  obtain ⟨p, hp⟩ : ∃ p, p = (w.alloc (.cells #[.int .i64 0, .int .i64 0, .int .i64 0] 25)).heap.size := ⟨_, rfl⟩
  rw [← hp] at hs1 ⊢
  have hpw : w.heap.size < p := by rw [hp]; simp
  have HS_1 := Lib.hid hs1
  have HB_1 := Lib.hid (HB_0.out.step hb1)
  have HR0_1 := Lib.hid (HR0_0.out.below hb1)
  clear hs1 hb1 hp HB_0 HR0_0
  go_wp2_with fail
  refine (l19Bent_any w w1 p nc cc 0 ac HC.out HB_1.out HS_1.out (by omega)).mono ?_
  rintro e w2 ⟨d, o, y, rfl, hwf, hs2, hg2⟩
  have HWf := Lib.hid hwf
  clear hwf
  have HR0_2 := Lib.hid (HR0_1.out.grown hg2 (fun e => by have h1 : p = w.heap.size := (by simpa using e); omega))
  have HB_2 := Lib.hid (HB_1.out.grown hg2 (fun k h => by cases h; omega))
  have HS_2 := Lib.hid hs2
  clear hs2 hg2
  clear HR0_1 HB_1 HS_1
  obtain ⟨q, hq⟩ : ∃ q, w2.heap.size = q := ⟨_, rfl⟩
  obtain ⟨w3, hw3⟩ : ∃ W, w2.alloc (.cells #[.int .i64 d, .int .i64 o, .int .i64 y] 25) = W := ⟨_, rfl⟩
  have hpq : p < q := by rw [← hq]; exact HS_2.out.base.2
  have hHR0q : w.heap.size ≠ q := by have := HR0_2.out.lt.2; omega
  have HR0_3 := Lib.hid (show Obx w3 w.heap.size w.heap.size 25 3 [.int .i64 0, .int .i64 0, .int .i64 0] by rw [← hw3]; exact HR0_2.out.alloc _)
  have HS_3 := Lib.hid (show SrcAt w3 w.heap.size p ac nc cc 10 by rw [← hw3]; exact HS_2.out.alloc _)
  have HB_3 := Lib.hid (show Bel w.heap.size w w3 by rw [← hw3]; exact HB_2.out.alloc _)
  have HF_3 := Lib.hid (show Obx w3 w.heap.size q 25 3 [.int .i64 d, .int .i64 o, .int .i64 y] by rw [← hw3, ← hq]; exact Obx.new w2 w.heap.size 25 3 #[.int .i64 d, .int .i64 o, .int .i64 y] (by have := HB_2.out.2; omega) rfl)
  have HW_3 := Lib.hid hw3
  clear hw3
  clear HR0_2 HB_2 HS_2
  go_wp2_with fail
  rw [HW_3.out]
  clear hq
  go_wp2_with fail
  refine (pick_any w w3 p nc cc 10 ac 60 HC.out HB_3.out HS_3.out (by omega) (by omega)).mono ?_
  rintro e w4 ⟨x, rfl, xa, xb, hs4, hg4⟩
  have HR0_4 := Lib.hid (HR0_3.out.grown hg4 (fun e => by have h1 : p = w.heap.size := (by simpa using e); omega))
  have HF_4 := Lib.hid (HF_3.out.grown hg4 (fun e => by have h1 : p = q := (by simpa using e); omega))
  have HB_4 := Lib.hid (HB_3.out.grown hg4 (fun k h => by cases h; omega))
  have HS_4 := Lib.hid hs4
  clear hs4 hg4
  clear HR0_3 HF_3 HB_3 HS_3
  go_wp2_with fail
  refine (one_any w w4 p nc cc 12 ac 10 HC.out HB_4.out HS_4.out (by omega) (by omega)).mono ?_
  rintro e w5 ⟨b1, rfl, hs5, hg5⟩
  have HR0_5 := Lib.hid (HR0_4.out.grown hg5 (fun e => by have h1 : p = w.heap.size := (by simpa using e); omega))
  have HF_5 := Lib.hid (HF_4.out.grown hg5 (fun e => by have h1 : p = q := (by simpa using e); omega))
  have HB_5 := Lib.hid (HB_4.out.grown hg5 (fun k h => by cases h; omega))
  have HS_5 := Lib.hid hs5
  clear hs5 hg5
  clear HR0_4 HF_4 HB_4 HS_4
  cases b1
  · skip
    go_wp2_with fail
    refine (one_any w w5 p nc cc 14 ac 10 HC.out HB_5.out HS_5.out (by omega) (by omega)).mono ?_
    rintro e w6 ⟨b2, rfl, hs6, hg6⟩
    have HR0_6 := Lib.hid (HR0_5.out.grown hg6 (fun e => by have h1 : p = w.heap.size := (by simpa using e); omega))
    have HF_6 := Lib.hid (HF_5.out.grown hg6 (fun e => by have h1 : p = q := (by simpa using e); omega))
    have HB_6 := Lib.hid (HB_5.out.grown hg6 (fun k h => by cases h; omega))
    have HS_6 := Lib.hid hs6
    clear hs6 hg6
    clear HR0_5 HF_5 HB_5 HS_5
    cases b2
    · skip
      go_wp2_with fail
      obtain ⟨k0, k1, k2⟩ := HF_6.out.cells3
      have HD := Lib.hid (And.intro (show SrcAt w6.drew w.heap.size p ac nc cc 16 from HS_6.out) (show Bel w.heap.size w w6.drew from HB_6.out.drew))
      have HAll := Lib.hid (fun (W : World) (hg : w6.grownBy W (some p)) => (show (W.cell? ⟨q, 0, none⟩ = some (.int .i64 d) ∧ W.cell? ⟨q, 1, none⟩ = some (.int .i64 o) ∧ W.cell? ⟨q, 2, none⟩ = some (.int .i64 y)) ∧ ((((W.setCell ⟨w.heap.size, 0, none⟩ (.int .i64 d)).setCell ⟨w.heap.size, 1, none⟩ (.int .i64 o)).setCell ⟨w.heap.size, 2, none⟩ (.int .i64 y)).cell? ⟨q, 0, none⟩ = some (.int .i64 d) ∧ (((W.setCell ⟨w.heap.size, 0, none⟩ (.int .i64 d)).setCell ⟨w.heap.size, 1, none⟩ (.int .i64 o)).setCell ⟨w.heap.size, 2, none⟩ (.int .i64 y)).cell? ⟨q, 1, none⟩ = some (.int .i64 o) ∧ (((W.setCell ⟨w.heap.size, 0, none⟩ (.int .i64 d)).setCell ⟨w.heap.size, 1, none⟩ (.int .i64 o)).setCell ⟨w.heap.size, 2, none⟩ (.int .i64 y)).cell? ⟨q, 2, none⟩ = some (.int .i64 y)) ∧ Obx W w.heap.size w.heap.size 25 3 [.int .i64 0, .int .i64 0, .int .i64 0] from by
        have hF := HF_6.out.grown hg (fun e => by have h1 : p = q := (by simpa using e); omega)
        have hR := HR0_6.out.grown hg (fun e => by have h1 : p = w.heap.size := (by simpa using e); omega)
        have hF2 := (((hF.setOther (q' := w.heap.size) 0 (.int .i64 d) hHR0q).setOther (q' := w.heap.size) 1 (.int .i64 o) hHR0q).setOther (q' := w.heap.size) 2 (.int .i64 y) hHR0q)
        exact ⟨hF.cells3, hF2.cells3, hR⟩))
      go_region_held3 (fun W => W.cell? ⟨q, 0, none⟩ = some (.int .i64 d) ∧ W.cell? ⟨q, 1, none⟩ = some (.int .i64 o) ∧ W.cell? ⟨q, 2, none⟩ = some (.int .i64 y)) (first | (with_reducible exact hK2) | (with_reducible exact hK3) | go_keep)
        ((refine (pick_any w w6.drew p nc cc 16 ac 60 HC.out HD.out.2 HD.out.1 (by omega) (by omega)).mono ?_; rintro e wz ⟨z, rfl, za, zb, hsz, hgz⟩; have hall := HAll.out wz (grown_from_drew hgz); have hK2 := hall.1; have hK3 := hall.2.1; obtain ⟨⟨n0, n1, n2⟩, ⟨f0, f1, f2⟩⟩ := hall.2.2.all3; have HN := Lib.hid (And.intro hsz hgz); clear hall hsz hgz))
      have hBz := HB_6.out.grown (grown_from_drew HN.out.2) (fun k h => by cases h; omega)
      have HE := Lib.hid (show DrawJoinWindowEnd w (.returned (.tuple #[.agg #[.int .i64 d, .int .i64 o, .int .i64 y], .int .i64 x, .int .i64 z])) (((wz.setCell ⟨w.heap.size, 0, none⟩ (.int .i64 d)).setCell ⟨w.heap.size, 1, none⟩ (.int .i64 o)).setCell ⟨w.heap.size, 2, none⟩ (.int .i64 y)) from ⟨d, o, y, x, z, rfl, HWf.out, (((hBz.setCell (p := ⟨w.heap.size, 0, none⟩) (Nat.le_refl _) _).setCell (p := ⟨w.heap.size, 1, none⟩) (Nat.le_refl _) _).setCell (p := ⟨w.heap.size, 2, none⟩) (Nat.le_refl _) _)⟩)
      clear hBz hK2 hK3
      go_wp2_with fail
      refine bodyPost_ret (v := (.tuple #[.agg #[.int .i64 d, .int .i64 o, .int .i64 y], .int .i64 x, .int .i64 z])) (by simp [results, Tryz.results5, go_sem, n0, n1, n2]) rfl ?_
      exact HE.out
    · skip
      go_wp2_with fail
      obtain ⟨k0, k1, k2⟩ := HF_6.out.cells3
      have HD := Lib.hid (And.intro (show SrcAt w6.drew w.heap.size p ac nc cc 16 from HS_6.out) (show Bel w.heap.size w w6.drew from HB_6.out.drew))
      have HAll := Lib.hid (fun (W : World) (hg : w6.grownBy W (some p)) => (show (W.cell? ⟨q, 0, none⟩ = some (.int .i64 d) ∧ W.cell? ⟨q, 1, none⟩ = some (.int .i64 o) ∧ W.cell? ⟨q, 2, none⟩ = some (.int .i64 y)) ∧ ((((W.setCell ⟨w.heap.size, 0, none⟩ (.int .i64 d)).setCell ⟨w.heap.size, 1, none⟩ (.int .i64 o)).setCell ⟨w.heap.size, 2, none⟩ (.int .i64 y)).cell? ⟨q, 0, none⟩ = some (.int .i64 d) ∧ (((W.setCell ⟨w.heap.size, 0, none⟩ (.int .i64 d)).setCell ⟨w.heap.size, 1, none⟩ (.int .i64 o)).setCell ⟨w.heap.size, 2, none⟩ (.int .i64 y)).cell? ⟨q, 1, none⟩ = some (.int .i64 o) ∧ (((W.setCell ⟨w.heap.size, 0, none⟩ (.int .i64 d)).setCell ⟨w.heap.size, 1, none⟩ (.int .i64 o)).setCell ⟨w.heap.size, 2, none⟩ (.int .i64 y)).cell? ⟨q, 2, none⟩ = some (.int .i64 y)) ∧ Obx W w.heap.size w.heap.size 25 3 [.int .i64 0, .int .i64 0, .int .i64 0] from by
        have hF := HF_6.out.grown hg (fun e => by have h1 : p = q := (by simpa using e); omega)
        have hR := HR0_6.out.grown hg (fun e => by have h1 : p = w.heap.size := (by simpa using e); omega)
        have hF2 := (((hF.setOther (q' := w.heap.size) 0 (.int .i64 d) hHR0q).setOther (q' := w.heap.size) 1 (.int .i64 o) hHR0q).setOther (q' := w.heap.size) 2 (.int .i64 y) hHR0q)
        exact ⟨hF.cells3, hF2.cells3, hR⟩))
      go_region_held3 (fun W => W.cell? ⟨q, 0, none⟩ = some (.int .i64 d) ∧ W.cell? ⟨q, 1, none⟩ = some (.int .i64 o) ∧ W.cell? ⟨q, 2, none⟩ = some (.int .i64 y)) (first | (with_reducible exact hK2) | (with_reducible exact hK3) | go_keep)
        ((refine (among_lit w w6.drew p nc cc 16 4 2 ac [-1, 0, 100000, 100001] rfl (by omega) (by omega) HC.out HD.out.2 HD.out.1 (by omega)).mono ?_; rintro e wz ⟨z, rfl, hz, hsz, hgz⟩; have hall := HAll.out wz (grown_from_drew hgz); have hK2 := hall.1; have hK3 := hall.2.1; obtain ⟨⟨n0, n1, n2⟩, ⟨f0, f1, f2⟩⟩ := hall.2.2.all3; have HN := Lib.hid (And.intro hsz hgz); clear hall hsz hgz))
      have hBz := HB_6.out.grown (grown_from_drew HN.out.2) (fun k h => by cases h; omega)
      have HE := Lib.hid (show DrawJoinWindowEnd w (.returned (.tuple #[.agg #[.int .i64 d, .int .i64 o, .int .i64 y], .int .i64 x, .int .i64 z])) (((wz.setCell ⟨w.heap.size, 0, none⟩ (.int .i64 d)).setCell ⟨w.heap.size, 1, none⟩ (.int .i64 o)).setCell ⟨w.heap.size, 2, none⟩ (.int .i64 y)) from ⟨d, o, y, x, z, rfl, HWf.out, (((hBz.setCell (p := ⟨w.heap.size, 0, none⟩) (Nat.le_refl _) _).setCell (p := ⟨w.heap.size, 1, none⟩) (Nat.le_refl _) _).setCell (p := ⟨w.heap.size, 2, none⟩) (Nat.le_refl _) _)⟩)
      clear hBz hK2 hK3
      go_wp2_with fail
      refine bodyPost_ret (v := (.tuple #[.agg #[.int .i64 d, .int .i64 o, .int .i64 y], .int .i64 x, .int .i64 z])) (by simp [results, Tryz.results5, go_sem, n0, n1, n2]) rfl ?_
      exact HE.out
  · skip
    go_wp2_with fail
    refine (among_lit w w5 p nc cc 14 4 2 ac [-1, 0, 100000, 100001] rfl (by omega) (by omega) HC.out HB_5.out HS_5.out (by omega)).mono ?_
    rintro e w6 ⟨x2, rfl, hx2, hs6, hg6⟩
    have HR0_6 := Lib.hid (HR0_5.out.grown hg6 (fun e => by have h1 : p = w.heap.size := (by simpa using e); omega))
    have HF_6 := Lib.hid (HF_5.out.grown hg6 (fun e => by have h1 : p = q := (by simpa using e); omega))
    have HB_6 := Lib.hid (HB_5.out.grown hg6 (fun k h => by cases h; omega))
    have HS_6 := Lib.hid hs6
    clear hs6 hg6
    clear HR0_5 HF_5 HB_5 HS_5
    go_wp2_with fail
    refine (one_any w w6 p nc cc 16 ac 10 HC.out HB_6.out HS_6.out (by omega) (by omega)).mono ?_
    rintro e w7 ⟨b2, rfl, hs7, hg7⟩
    have HR0_7 := Lib.hid (HR0_6.out.grown hg7 (fun e => by have h1 : p = w.heap.size := (by simpa using e); omega))
    have HF_7 := Lib.hid (HF_6.out.grown hg7 (fun e => by have h1 : p = q := (by simpa using e); omega))
    have HB_7 := Lib.hid (HB_6.out.grown hg7 (fun k h => by cases h; omega))
    have HS_7 := Lib.hid hs7
    clear hs7 hg7
    clear HR0_6 HF_6 HB_6 HS_6
    cases b2
    · skip
      go_wp2_with fail
      obtain ⟨k0, k1, k2⟩ := HF_7.out.cells3
      have HD := Lib.hid (And.intro (show SrcAt w7.drew w.heap.size p ac nc cc 18 from HS_7.out) (show Bel w.heap.size w w7.drew from HB_7.out.drew))
      have HAll := Lib.hid (fun (W : World) (hg : w7.grownBy W (some p)) => (show (W.cell? ⟨q, 0, none⟩ = some (.int .i64 d) ∧ W.cell? ⟨q, 1, none⟩ = some (.int .i64 o) ∧ W.cell? ⟨q, 2, none⟩ = some (.int .i64 y)) ∧ ((((W.setCell ⟨w.heap.size, 0, none⟩ (.int .i64 d)).setCell ⟨w.heap.size, 1, none⟩ (.int .i64 o)).setCell ⟨w.heap.size, 2, none⟩ (.int .i64 y)).cell? ⟨q, 0, none⟩ = some (.int .i64 d) ∧ (((W.setCell ⟨w.heap.size, 0, none⟩ (.int .i64 d)).setCell ⟨w.heap.size, 1, none⟩ (.int .i64 o)).setCell ⟨w.heap.size, 2, none⟩ (.int .i64 y)).cell? ⟨q, 1, none⟩ = some (.int .i64 o) ∧ (((W.setCell ⟨w.heap.size, 0, none⟩ (.int .i64 d)).setCell ⟨w.heap.size, 1, none⟩ (.int .i64 o)).setCell ⟨w.heap.size, 2, none⟩ (.int .i64 y)).cell? ⟨q, 2, none⟩ = some (.int .i64 y)) ∧ Obx W w.heap.size w.heap.size 25 3 [.int .i64 0, .int .i64 0, .int .i64 0] from by
        have hF := HF_7.out.grown hg (fun e => by have h1 : p = q := (by simpa using e); omega)
        have hR := HR0_7.out.grown hg (fun e => by have h1 : p = w.heap.size := (by simpa using e); omega)
        have hF2 := (((hF.setOther (q' := w.heap.size) 0 (.int .i64 d) hHR0q).setOther (q' := w.heap.size) 1 (.int .i64 o) hHR0q).setOther (q' := w.heap.size) 2 (.int .i64 y) hHR0q)
        exact ⟨hF.cells3, hF2.cells3, hR⟩))
      go_region_held3 (fun W => W.cell? ⟨q, 0, none⟩ = some (.int .i64 d) ∧ W.cell? ⟨q, 1, none⟩ = some (.int .i64 o) ∧ W.cell? ⟨q, 2, none⟩ = some (.int .i64 y)) (first | (with_reducible exact hK2) | (with_reducible exact hK3) | go_keep)
        ((refine (pick_any w w7.drew p nc cc 18 ac 60 HC.out HD.out.2 HD.out.1 (by omega) (by omega)).mono ?_; rintro e wz ⟨z, rfl, za, zb, hsz, hgz⟩; have hall := HAll.out wz (grown_from_drew hgz); have hK2 := hall.1; have hK3 := hall.2.1; obtain ⟨⟨n0, n1, n2⟩, ⟨f0, f1, f2⟩⟩ := hall.2.2.all3; have HN := Lib.hid (And.intro hsz hgz); clear hall hsz hgz))
      have hBz := HB_7.out.grown (grown_from_drew HN.out.2) (fun k h => by cases h; omega)
      have HE := Lib.hid (show DrawJoinWindowEnd w (.returned (.tuple #[.agg #[.int .i64 d, .int .i64 o, .int .i64 y], .int .i64 x2, .int .i64 z])) (((wz.setCell ⟨w.heap.size, 0, none⟩ (.int .i64 d)).setCell ⟨w.heap.size, 1, none⟩ (.int .i64 o)).setCell ⟨w.heap.size, 2, none⟩ (.int .i64 y)) from ⟨d, o, y, x2, z, rfl, HWf.out, (((hBz.setCell (p := ⟨w.heap.size, 0, none⟩) (Nat.le_refl _) _).setCell (p := ⟨w.heap.size, 1, none⟩) (Nat.le_refl _) _).setCell (p := ⟨w.heap.size, 2, none⟩) (Nat.le_refl _) _)⟩)
      clear hBz hK2 hK3
      go_wp2_with fail
      refine bodyPost_ret (v := (.tuple #[.agg #[.int .i64 d, .int .i64 o, .int .i64 y], .int .i64 x2, .int .i64 z])) (by simp [results, Tryz.results5, go_sem, n0, n1, n2]) rfl ?_
      exact HE.out
    · skip
      go_wp2_with fail
      obtain ⟨k0, k1, k2⟩ := HF_7.out.cells3
      have HD := Lib.hid (And.intro (show SrcAt w7.drew w.heap.size p ac nc cc 18 from HS_7.out) (show Bel w.heap.size w w7.drew from HB_7.out.drew))
      have HAll := Lib.hid (fun (W : World) (hg : w7.grownBy W (some p)) => (show (W.cell? ⟨q, 0, none⟩ = some (.int .i64 d) ∧ W.cell? ⟨q, 1, none⟩ = some (.int .i64 o) ∧ W.cell? ⟨q, 2, none⟩ = some (.int .i64 y)) ∧ ((((W.setCell ⟨w.heap.size, 0, none⟩ (.int .i64 d)).setCell ⟨w.heap.size, 1, none⟩ (.int .i64 o)).setCell ⟨w.heap.size, 2, none⟩ (.int .i64 y)).cell? ⟨q, 0, none⟩ = some (.int .i64 d) ∧ (((W.setCell ⟨w.heap.size, 0, none⟩ (.int .i64 d)).setCell ⟨w.heap.size, 1, none⟩ (.int .i64 o)).setCell ⟨w.heap.size, 2, none⟩ (.int .i64 y)).cell? ⟨q, 1, none⟩ = some (.int .i64 o) ∧ (((W.setCell ⟨w.heap.size, 0, none⟩ (.int .i64 d)).setCell ⟨w.heap.size, 1, none⟩ (.int .i64 o)).setCell ⟨w.heap.size, 2, none⟩ (.int .i64 y)).cell? ⟨q, 2, none⟩ = some (.int .i64 y)) ∧ Obx W w.heap.size w.heap.size 25 3 [.int .i64 0, .int .i64 0, .int .i64 0] from by
        have hF := HF_7.out.grown hg (fun e => by have h1 : p = q := (by simpa using e); omega)
        have hR := HR0_7.out.grown hg (fun e => by have h1 : p = w.heap.size := (by simpa using e); omega)
        have hF2 := (((hF.setOther (q' := w.heap.size) 0 (.int .i64 d) hHR0q).setOther (q' := w.heap.size) 1 (.int .i64 o) hHR0q).setOther (q' := w.heap.size) 2 (.int .i64 y) hHR0q)
        exact ⟨hF.cells3, hF2.cells3, hR⟩))
      go_region_held3 (fun W => W.cell? ⟨q, 0, none⟩ = some (.int .i64 d) ∧ W.cell? ⟨q, 1, none⟩ = some (.int .i64 o) ∧ W.cell? ⟨q, 2, none⟩ = some (.int .i64 y)) (first | (with_reducible exact hK2) | (with_reducible exact hK3) | go_keep)
        ((refine (among_lit w w7.drew p nc cc 18 4 2 ac [-1, 0, 100000, 100001] rfl (by omega) (by omega) HC.out HD.out.2 HD.out.1 (by omega)).mono ?_; rintro e wz ⟨z, rfl, hz, hsz, hgz⟩; have hall := HAll.out wz (grown_from_drew hgz); have hK2 := hall.1; have hK3 := hall.2.1; obtain ⟨⟨n0, n1, n2⟩, ⟨f0, f1, f2⟩⟩ := hall.2.2.all3; have HN := Lib.hid (And.intro hsz hgz); clear hall hsz hgz))
      have hBz := HB_7.out.grown (grown_from_drew HN.out.2) (fun k h => by cases h; omega)
      have HE := Lib.hid (show DrawJoinWindowEnd w (.returned (.tuple #[.agg #[.int .i64 d, .int .i64 o, .int .i64 y], .int .i64 x2, .int .i64 z])) (((wz.setCell ⟨w.heap.size, 0, none⟩ (.int .i64 d)).setCell ⟨w.heap.size, 1, none⟩ (.int .i64 o)).setCell ⟨w.heap.size, 2, none⟩ (.int .i64 y)) from ⟨d, o, y, x2, z, rfl, HWf.out, (((hBz.setCell (p := ⟨w.heap.size, 0, none⟩) (Nat.le_refl _) _).setCell (p := ⟨w.heap.size, 1, none⟩) (Nat.le_refl _) _).setCell (p := ⟨w.heap.size, 2, none⟩) (Nat.le_refl _) _)⟩)
      clear hBz hK2 hK3
      go_wp2_with fail
      refine bodyPost_ret (v := (.tuple #[.agg #[.int .i64 d, .int .i64 o, .int .i64 y], .int .i64 x2, .int .i64 z])) (by simp [results, Tryz.results5, go_sem, n0, n1, n2]) rfl ?_
      exact HE.out
/-- A drawn glue and degrees. -/
def DrawWarmGlueEnd (w : World) (e : Ending) (w' : World) : Prop := ∃ d o y a : Int, e = .returned (.tuple #[.agg #[.int .i64 d, .int .i64 o, .int .i64 y], .int .i64 a]) ∧ ((Lit.int .i64 d).wf = true ∧ (Lit.int .i64 o).wf = true ∧ (Lit.int .i64 y).wf = true) ∧ Bel w.heap.size w w'
set_option maxRecDepth 100000 in
set_option maxHeartbeats 6400000 in
theorem drawWarmGlue_any (w : World) (nc cc : Nat) (ac : Option Addr) (hc : CodeAt w ac nc) : Calls Tryz.prog 11 #[.slice ac nc cc] w (DrawWarmGlueEnd w) := by
  have HC := Lib.hid hc
  have HB_0 := Lib.hid ((Bel.refl w).alloc (.cells #[.int .i64 0, .int .i64 0, .int .i64 0] 25))
  have HR0_0 := Lib.hid (Obx.new w w.heap.size 25 3 #[.int .i64 0, .int .i64 0, .int .i64 0] (Nat.le_refl _) rfl)
  clear hc
  go_enter Tryz.func11, Tryz.ntmps11
  go_wp2_with fail
  refine (l00From_any _ w.heap.size ac nc cc (by simp)).mono ?_
  rintro e w1 ⟨rfl, hs1, hb1⟩
  obtain ⟨p, hp⟩ : ∃ p, p = (w.alloc (.cells #[.int .i64 0, .int .i64 0, .int .i64 0] 25)).heap.size := ⟨_, rfl⟩
  rw [← hp] at hs1 ⊢
  have hpw : w.heap.size < p := by rw [hp]; simp
  have HS_1 := Lib.hid hs1
  have HB_1 := Lib.hid (HB_0.out.step hb1)
  have HR0_1 := Lib.hid (HR0_0.out.below hb1)
  clear hs1 hb1 hp HB_0 HR0_0
  go_wp2_with fail
  refine (l19Bent_any w w1 p nc cc 0 ac HC.out HB_1.out HS_1.out (by omega)).mono ?_
  rintro e w2 ⟨d, o, y, rfl, hwf, hs2, hg2⟩
  have HWf := Lib.hid hwf
  clear hwf
  have HR0_2 := Lib.hid (HR0_1.out.grown hg2 (fun e => by have h1 : p = w.heap.size := (by simpa using e); omega))
  have HB_2 := Lib.hid (HB_1.out.grown hg2 (fun k h => by cases h; omega))
  have HS_2 := Lib.hid hs2
  clear hs2 hg2
  clear HR0_1 HB_1 HS_1
  obtain ⟨q, hq⟩ : ∃ q, w2.heap.size = q := ⟨_, rfl⟩
  obtain ⟨w3, hw3⟩ : ∃ W, w2.alloc (.cells #[.int .i64 d, .int .i64 o, .int .i64 y] 25) = W := ⟨_, rfl⟩
  have hpq : p < q := by rw [← hq]; exact HS_2.out.base.2
  have hHR0q : w.heap.size ≠ q := by have := HR0_2.out.lt.2; omega
  have HR0_3 := Lib.hid (show Obx w3 w.heap.size w.heap.size 25 3 [.int .i64 0, .int .i64 0, .int .i64 0] by rw [← hw3]; exact HR0_2.out.alloc _)
  have HS_3 := Lib.hid (show SrcAt w3 w.heap.size p ac nc cc 10 by rw [← hw3]; exact HS_2.out.alloc _)
  have HB_3 := Lib.hid (show Bel w.heap.size w w3 by rw [← hw3]; exact HB_2.out.alloc _)
  have HF_3 := Lib.hid (show Obx w3 w.heap.size q 25 3 [.int .i64 d, .int .i64 o, .int .i64 y] by rw [← hw3, ← hq]; exact Obx.new w2 w.heap.size 25 3 #[.int .i64 d, .int .i64 o, .int .i64 y] (by have := HB_2.out.2; omega) rfl)
  have HW_3 := Lib.hid hw3
  clear hw3
  clear HR0_2 HB_2 HS_2
  go_wp2_with fail
  rw [HW_3.out]
  clear hq
  go_wp2_with fail
  refine (one_any w w3 p nc cc 10 ac 6 HC.out HB_3.out HS_3.out (by omega) (by omega)).mono ?_
  rintro e w4 ⟨b1, rfl, hs4, hg4⟩
  have HR0_4 := Lib.hid (HR0_3.out.grown hg4 (fun e => by have h1 : p = w.heap.size := (by simpa using e); omega))
  have HF_4 := Lib.hid (HF_3.out.grown hg4 (fun e => by have h1 : p = q := (by simpa using e); omega))
  have HB_4 := Lib.hid (HB_3.out.grown hg4 (fun k h => by cases h; omega))
  have HS_4 := Lib.hid hs4
  clear hs4 hg4
  clear HR0_3 HF_3 HB_3 HS_3
  cases b1
  · skip
    go_wp2_with fail
    obtain ⟨k0, k1, k2⟩ := HF_4.out.cells3
    have HD := Lib.hid (And.intro (show SrcAt w4.drew w.heap.size p ac nc cc 12 from HS_4.out) (show Bel w.heap.size w w4.drew from HB_4.out.drew))
    have HAll := Lib.hid (fun (W : World) (hg : w4.grownBy W (some p)) => (show (W.cell? ⟨q, 0, none⟩ = some (.int .i64 d) ∧ W.cell? ⟨q, 1, none⟩ = some (.int .i64 o) ∧ W.cell? ⟨q, 2, none⟩ = some (.int .i64 y)) ∧ ((((W.setCell ⟨w.heap.size, 0, none⟩ (.int .i64 d)).setCell ⟨w.heap.size, 1, none⟩ (.int .i64 o)).setCell ⟨w.heap.size, 2, none⟩ (.int .i64 y)).cell? ⟨q, 0, none⟩ = some (.int .i64 d) ∧ (((W.setCell ⟨w.heap.size, 0, none⟩ (.int .i64 d)).setCell ⟨w.heap.size, 1, none⟩ (.int .i64 o)).setCell ⟨w.heap.size, 2, none⟩ (.int .i64 y)).cell? ⟨q, 1, none⟩ = some (.int .i64 o) ∧ (((W.setCell ⟨w.heap.size, 0, none⟩ (.int .i64 d)).setCell ⟨w.heap.size, 1, none⟩ (.int .i64 o)).setCell ⟨w.heap.size, 2, none⟩ (.int .i64 y)).cell? ⟨q, 2, none⟩ = some (.int .i64 y)) ∧ Obx W w.heap.size w.heap.size 25 3 [.int .i64 0, .int .i64 0, .int .i64 0] from by
      have hF := HF_4.out.grown hg (fun e => by have h1 : p = q := (by simpa using e); omega)
      have hR := HR0_4.out.grown hg (fun e => by have h1 : p = w.heap.size := (by simpa using e); omega)
      have hF2 := (((hF.setOther (q' := w.heap.size) 0 (.int .i64 d) hHR0q).setOther (q' := w.heap.size) 1 (.int .i64 o) hHR0q).setOther (q' := w.heap.size) 2 (.int .i64 y) hHR0q)
      exact ⟨hF.cells3, hF2.cells3, hR⟩))
    go_region_held3 (fun W => W.cell? ⟨q, 0, none⟩ = some (.int .i64 d) ∧ W.cell? ⟨q, 1, none⟩ = some (.int .i64 o) ∧ W.cell? ⟨q, 2, none⟩ = some (.int .i64 y)) (first | (with_reducible exact hK2) | (with_reducible exact hK3) | go_keep)
      ((refine (pick_any w w4.drew p nc cc 12 ac 40 HC.out HD.out.2 HD.out.1 (by omega) (by omega)).mono ?_; rintro e wz ⟨z, rfl, za, zb, hsz, hgz⟩; have hall := HAll.out wz (grown_from_drew hgz); have hK2 := hall.1; have hK3 := hall.2.1; obtain ⟨⟨n0, n1, n2⟩, ⟨f0, f1, f2⟩⟩ := hall.2.2.all3; have HN := Lib.hid (And.intro hsz hgz); clear hall hsz hgz))
    have hBz := HB_4.out.grown (grown_from_drew HN.out.2) (fun k h => by cases h; omega)
    have HE := Lib.hid (show DrawWarmGlueEnd w (.returned (.tuple #[.agg #[.int .i64 d, .int .i64 o, .int .i64 y], .int .i64 z])) (((wz.setCell ⟨w.heap.size, 0, none⟩ (.int .i64 d)).setCell ⟨w.heap.size, 1, none⟩ (.int .i64 o)).setCell ⟨w.heap.size, 2, none⟩ (.int .i64 y)) from ⟨d, o, y, z, rfl, HWf.out, (((hBz.setCell (p := ⟨w.heap.size, 0, none⟩) (Nat.le_refl _) _).setCell (p := ⟨w.heap.size, 1, none⟩) (Nat.le_refl _) _).setCell (p := ⟨w.heap.size, 2, none⟩) (Nat.le_refl _) _)⟩)
    clear hBz hK2 hK3
    go_wp2_with fail
    refine bodyPost_ret (v := (.tuple #[.agg #[.int .i64 d, .int .i64 o, .int .i64 y], .int .i64 z])) (by simp [results, Tryz.results11, go_sem, n0, n1, n2]) rfl ?_
    exact HE.out
  · skip
    go_wp2_with fail
    obtain ⟨k0, k1, k2⟩ := HF_4.out.cells3
    have HD := Lib.hid (And.intro (show SrcAt w4.drew w.heap.size p ac nc cc 12 from HS_4.out) (show Bel w.heap.size w w4.drew from HB_4.out.drew))
    have HAll := Lib.hid (fun (W : World) (hg : w4.grownBy W (some p)) => (show (W.cell? ⟨q, 0, none⟩ = some (.int .i64 d) ∧ W.cell? ⟨q, 1, none⟩ = some (.int .i64 o) ∧ W.cell? ⟨q, 2, none⟩ = some (.int .i64 y)) ∧ ((((W.setCell ⟨w.heap.size, 0, none⟩ (.int .i64 d)).setCell ⟨w.heap.size, 1, none⟩ (.int .i64 o)).setCell ⟨w.heap.size, 2, none⟩ (.int .i64 y)).cell? ⟨q, 0, none⟩ = some (.int .i64 d) ∧ (((W.setCell ⟨w.heap.size, 0, none⟩ (.int .i64 d)).setCell ⟨w.heap.size, 1, none⟩ (.int .i64 o)).setCell ⟨w.heap.size, 2, none⟩ (.int .i64 y)).cell? ⟨q, 1, none⟩ = some (.int .i64 o) ∧ (((W.setCell ⟨w.heap.size, 0, none⟩ (.int .i64 d)).setCell ⟨w.heap.size, 1, none⟩ (.int .i64 o)).setCell ⟨w.heap.size, 2, none⟩ (.int .i64 y)).cell? ⟨q, 2, none⟩ = some (.int .i64 y)) ∧ Obx W w.heap.size w.heap.size 25 3 [.int .i64 0, .int .i64 0, .int .i64 0] from by
      have hF := HF_4.out.grown hg (fun e => by have h1 : p = q := (by simpa using e); omega)
      have hR := HR0_4.out.grown hg (fun e => by have h1 : p = w.heap.size := (by simpa using e); omega)
      have hF2 := (((hF.setOther (q' := w.heap.size) 0 (.int .i64 d) hHR0q).setOther (q' := w.heap.size) 1 (.int .i64 o) hHR0q).setOther (q' := w.heap.size) 2 (.int .i64 y) hHR0q)
      exact ⟨hF.cells3, hF2.cells3, hR⟩))
    go_region_held3 (fun W => W.cell? ⟨q, 0, none⟩ = some (.int .i64 d) ∧ W.cell? ⟨q, 1, none⟩ = some (.int .i64 o) ∧ W.cell? ⟨q, 2, none⟩ = some (.int .i64 y)) (first | (with_reducible exact hK2) | (with_reducible exact hK3) | go_keep)
      ((refine (among_lit w w4.drew p nc cc 12 4 2 ac [-1, 0, 40, 41] rfl (by omega) (by omega) HC.out HD.out.2 HD.out.1 (by omega)).mono ?_; rintro e wz ⟨z, rfl, hz, hsz, hgz⟩; have hall := HAll.out wz (grown_from_drew hgz); have hK2 := hall.1; have hK3 := hall.2.1; obtain ⟨⟨n0, n1, n2⟩, ⟨f0, f1, f2⟩⟩ := hall.2.2.all3; have HN := Lib.hid (And.intro hsz hgz); clear hall hsz hgz))
    have hBz := HB_4.out.grown (grown_from_drew HN.out.2) (fun k h => by cases h; omega)
    have HE := Lib.hid (show DrawWarmGlueEnd w (.returned (.tuple #[.agg #[.int .i64 d, .int .i64 o, .int .i64 y], .int .i64 z])) (((wz.setCell ⟨w.heap.size, 0, none⟩ (.int .i64 d)).setCell ⟨w.heap.size, 1, none⟩ (.int .i64 o)).setCell ⟨w.heap.size, 2, none⟩ (.int .i64 y)) from ⟨d, o, y, z, rfl, HWf.out, (((hBz.setCell (p := ⟨w.heap.size, 0, none⟩) (Nat.le_refl _) _).setCell (p := ⟨w.heap.size, 1, none⟩) (Nat.le_refl _) _).setCell (p := ⟨w.heap.size, 2, none⟩) (Nat.le_refl _) _)⟩)
    clear hBz hK2 hK3
    go_wp2_with fail
    refine bodyPost_ret (v := (.tuple #[.agg #[.int .i64 d, .int .i64 o, .int .i64 y], .int .i64 z])) (by simp [results, Tryz.results11, go_sem, n0, n1, n2]) rfl ?_
    exact HE.out
end Go.Proofs.YtfkojbkgpbpjhaaGreatDoor
