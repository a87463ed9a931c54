/-
  Contracts of the draws of glues. No condition of its own.
-/
import Derived.Test.YtfkojbkgpbpjhaaGreatDoorDraws
import Derived.Test.YtfkojbkgpbpjhaaGreatDoorBox
import Derived.Deep.RegionHeld3
import Derived.Deep.DeepCutAuto
import Derived.Deep.CutBlock
namespace Go.Proofs.YtfkojbkgpbpjhaaGreatDoor
open Go.ChangeShapes Go.WideShapes Go.ChangeAt Go.RowKit Go.Deep

theorem SrcAt.set {W : World} {B p nc cc A q j : Nat} {ac : Option Addr} {u : Value} (h : SrcAt W B p ac nc cc A) (hq : q ≠ p) : SrcAt (W.setCell ⟨q, j, none⟩ u) B p ac nc cc A :=
  h.grown (setCell_grown W q j u) (fun e => hq (by simpa using e))
theorem grown_new {w w1 w2 : World} {row : Option Nat} {q : Nat} (h : w.grownBy w1 row) (k : w1.grownBy w2 (some q)) (hq : w.heap.size ≤ q) : w.grownBy w2 row :=
  ⟨k.os.trans h.os, k.tape.trans h.tape, k.output.trans h.output, Nat.le_trans h.size k.size, fun i hi hne => (k.block i (Nat.lt_of_lt_of_le hi h.size) (fun e => by have h1 : i = q := (by simpa using e); omega)).trans (h.block i hi hne)⟩
theorem grown_alloc {w w1 : World} {row : Option Nat} (h : w.grownBy w1 row) (o : Obj) : w.grownBy (w1.alloc o) row := by
  refine ⟨h.os, h.tape, h.output, Nat.le_trans h.size (by simp), fun i hi hne => ?_⟩
  have := (World.grownBy_alloc w1 o none).block i (Nat.lt_of_lt_of_le hi h.size) (by simp)
  exact this.trans (h.block i hi hne)
theorem grown_set_new {w w1 : World} {row : Option Nat} (h : w.grownBy w1 row) {q : Nat} (hq : w.heap.size ≤ q) (j : Nat) (u : Value) : w.grownBy (w1.setCell ⟨q, j, none⟩ u) row := grown_new h (setCell_grown w1 q j u) hq
theorem grown_more {w w1 w2 : World} {p : Nat} (h : w.grownBy w1 (some p)) (k : w1.grownBy w2 (some p)) : w.grownBy w2 (some p) := grown_trans_row h k
theorem grown_drew {w w1 : World} {row : Option Nat} (h : w.grownBy w1 row) : w.grownBy w1.drew row := ⟨h.os, h.tape, h.output, h.size, h.block⟩
/-- A drawn glue: its numbers are small. -/
def GlueEnd (w0 w : World) (p : Nat) (ac : Option Addr) (nc cc A : Nat) (e : Ending) (w' : World) : Prop :=
  ∃ d o q : Int, e = .returned (.agg #[.int .i64 d, .int .i64 o, .int .i64 q]) ∧ (0 ≤ d ∧ d ≤ 19 ∧ d ≤ o ∧ o ≤ 78 ∧ 1 ≤ q ∧ q ≤ 30) ∧ SrcAt w' w0.heap.size p ac nc cc A ∧ w.grownBy w' (some p)
set_option maxRecDepth 100000 in
set_option maxHeartbeats 3200000 in
theorem l19Draw_any (w0 w : World) (p nc cc A : Nat) (ac : Option Addr) (hc : CodeAt w0 ac nc) (hb : Bel w0.heap.size w0 w) (hs : SrcAt w w0.heap.size p ac nc cc A) (hA : A ≤ 100000) :
    Calls Tryz.prog 50 #[.pointer (some ⟨p, 0, none⟩)] w (GlueEnd w0 w p ac nc cc (A + 6)) := by
  obtain ⟨hp1, hp2⟩ := hs.base
  have HC := Lib.hid hc
  have HG := Lib.hid (fun (W W' : World) (h : Bel w0.heap.size w0 W) (hg : W.grownBy W' (some p)) => h.grown hg (fun k h => by cases h; exact hp1))
  have HS0 := Lib.hid (hs.alloc (.cells #[.int .i64 0, .int .i64 0, .int .i64 0] 25))
  have HB0 := Lib.hid (hb.alloc (.cells #[.int .i64 0, .int .i64 0, .int .i64 0] 25))
  have HR0 := Lib.hid (Obx.new w w.heap.size 25 3 #[.int .i64 0, .int .i64 0, .int .i64 0] (Nat.le_refl _) rfl)
  have HK0 := Lib.hid (grown_alloc (World.grownBy.refl w (some p)) (.cells #[.int .i64 0, .int .i64 0, .int .i64 0] 25))
  clear hc hb hs
  go_enter Tryz.func50, Tryz.ntmps50
  go_wp2_with fail
  refine (pick_any w0 _ p nc cc A ac 20 HC.out HB0.out HS0.out (by omega) (by omega)).mono ?_
  rintro e w1 ⟨r1, rfl, r1a, r1b, hs1, hg1⟩
  have HR1 := Lib.hid (HR0.out.grown hg1 (fun e => by have h1 : p = w.heap.size := (by simpa using e); omega))
  have HP1 := Lib.hid hs1.base.2
  have hW1 : w.heap.size < w1.heap.size := HR1.out.lt.2
  obtain ⟨q, hq⟩ : ∃ q, w1.heap.size = q := ⟨_, rfl⟩
  obtain ⟨w2, hw2⟩ : ∃ W, w1.alloc (.cells #[.int .i64 r1, .int .i64 0, .int .i64 0] 25) = W := ⟨_, rfl⟩
  have HS2 := Lib.hid (show SrcAt w2 w0.heap.size p ac nc cc (A + 2) by rw [← hw2]; exact hs1.alloc _)
  have HB2 := Lib.hid (show Bel w0.heap.size w0 w2 by rw [← hw2]; exact (HG.out _ _ HB0.out hg1).alloc _)
  have HF2 := Lib.hid (show Obx w2 w.heap.size q 25 3 [.int .i64 r1, .int .i64 0, .int .i64 0] by rw [← hw2, ← hq]; exact Obx.new w1 w.heap.size 25 3 #[.int .i64 r1, .int .i64 0, .int .i64 0] (by omega) rfl)
  have HR2 := Lib.hid (show Obx w2 w.heap.size w.heap.size 25 3 [.int .i64 0, .int .i64 0, .int .i64 0] by rw [← hw2]; exact HR1.out.alloc _)
  have HK2 := Lib.hid (show w.grownBy w2 (some p) by rw [← hw2]; exact grown_alloc (grown_more HK0.out hg1) _)
  have r1c : r1 ≤ 19 := by omega
  have hne : p ≠ q := by have := HP1.out; omega
  have hnr : p ≠ w.heap.size := by omega
  have hqr : q ≠ w.heap.size := by omega
  have HW2 := Lib.hid hw2
  clear hs1 hg1 hw2
  go_wp2_with fail
  rw [HW2.out]
  clear hq
  have k0 : w2.cell? ⟨q, 0, none⟩ = some (.int .i64 r1) := HF2.out.cell 0 (by omega)
  have HS3 := Lib.hid (show SrcAt w2.drew w0.heap.size p ac nc cc (A + 2) from HS2.out)
  have HF3 := Lib.hid (show Obx w2.drew w.heap.size q 25 3 [.int .i64 r1, .int .i64 0, .int .i64 0] from HF2.out)
  go_region_held3 (fun W => W.cell? ⟨q, 0, none⟩ = some (.int .i64 r1)) (first | (with_reducible exact hK2) | (with_reducible exact hK3) | go_keep)
    ((go_at_call 27; refine (pick_any w0 _ p nc cc (A + 2) ac 60 HC.out HB2.out.drew HS3.out (by omega) (by omega)).mono ?_; rintro e w3 ⟨r3, rfl, r3a, r3b, hs3, hg3⟩; have r3c : r3 ≤ 59 := (by omega); have v1 : IntKind.i64.wrap (r1 + r3) = r1 + r3 := IntWalk.i64_in _ (by omega); have HN3 := Lib.hid (And.intro hs3 hg3); have HFq := Lib.hid (HF3.out.grown hg3 (fun e => hne (by simpa using e))); have hK2 : w3.cell? ⟨q, 0, none⟩ = some (.int .i64 r1) := HFq.out.cell 0 (by omega); have hK1 : w3.cell? ⟨q, 1, none⟩ = some (.int .i64 0) := HFq.out.cell 1 (by omega); have hF1 := HFq.out.fr 1; have hK3 : (w3.setCell ⟨q, 1, none⟩ (.int .i64 (r1 + r3))).cell? ⟨q, 0, none⟩ = some (.int .i64 r1) := (HFq.out.set 1 (.int .i64 (r1 + r3))).cell 0 (by omega); clear hs3 hg3))
  have hg3 := grown_from_drew HN3.out.2
  have HS4 := Lib.hid (HN3.out.1.set (q := q) (j := 1) (u := .int .i64 (r1 + r3)) (fun e => hne e.symm))
  have HF4 := Lib.hid (show Obx (w3.setCell ⟨q, 1, none⟩ (.int .i64 (r1 + r3))) w.heap.size q 25 3 [.int .i64 r1, .int .i64 (r1 + r3), .int .i64 0] from HFq.out.set 1 _)
  have HR4 := Lib.hid ((HR2.out.grown hg3 (fun e => hnr (by simpa using e))).setOther (q' := q) 1 (.int .i64 (r1 + r3)) hqr)
  have hqw : w.heap.size ≤ q := HF2.out.lt.1
  have HK4 := Lib.hid (grown_set_new (grown_more HK2.out hg3) hqw 1 (.int .i64 (r1 + r3)))
  have HB4 := Lib.hid ((HG.out _ _ HB2.out hg3).setCell (p := ⟨q, 1, none⟩) (by have := hqw; show w0.heap.size ≤ q; omega) (.int .i64 (r1 + r3)))
  generalize w3.setCell ⟨q, 1, none⟩ (.int .i64 (r1 + r3)) = w4 at HS4 HF4 HR4 HK4 HB4 hK3 ⊢
  clear hK1 hK2 hK3 hF1 k0 hg3 HN3 HFq v1 HS3 HF3 HF2 HS2 HR2 HK2 HB2
  go_wp2_with fail
  refine (pick_any w0 _ p nc cc (A + 2 + 2) ac 30 HC.out HB4.out HS4.out (by omega) (by omega)).mono ?_
  rintro e w5 ⟨r5, rfl, r5a, r5b, hs5, hg5⟩
  have r5c : r5 ≤ 29 := by omega
  have hF5 := HF4.out.grown hg5 (fun e => hne (by simpa using e))
  have hR5 := HR4.out.grown hg5 (fun e => hnr (by simpa using e))
  have k2 : w5.cell? ⟨q, 2, none⟩ = some (.int .i64 0) := hF5.cell 2 (by omega)
  have f2 := hF5.fr 2
  have hF6 : Obx (w5.setCell ⟨q, 2, none⟩ (.int .i64 (1 + r5))) w.heap.size q 25 3 [.int .i64 r1, .int .i64 (r1 + r3), .int .i64 (1 + r5)] := hF5.set 2 _
  have hR6 := hR5.setOther (q' := q) 2 (.int .i64 (1 + r5)) hqr
  have HS6 := Lib.hid (hs5.set (q := q) (j := 2) (u := .int .i64 (1 + r5)) (fun e => hne e.symm))
  have HK6 := Lib.hid (grown_set_new (grown_more HK4.out hg5) hqw 2 (.int .i64 (1 + r5)))
  have m0 : (w5.setCell ⟨q, 2, none⟩ (.int .i64 (1 + r5))).cell? ⟨q, 0, none⟩ = some (.int .i64 r1) := hF6.cell 0 (by omega)
  have m1 : (w5.setCell ⟨q, 2, none⟩ (.int .i64 (1 + r5))).cell? ⟨q, 1, none⟩ = some (.int .i64 (r1 + r3)) := hF6.cell 1 (by omega)
  have m2 : (w5.setCell ⟨q, 2, none⟩ (.int .i64 (1 + r5))).cell? ⟨q, 2, none⟩ = some (.int .i64 (1 + r5)) := hF6.cell 2 (by omega)
  have HR6 := Lib.hid hR6
  have HF6 := Lib.hid hF6
  clear hs5 hg5 hF5 hR5 hF6 hR6 m0 m1 m2
  go_upto_region 4 with fail
  generalize w5.setCell ⟨q, 2, none⟩ (.int .i64 (1 + r5)) = w6 at HS6 HK6 HR6 HF6 ⊢
  clear k2 f2
  have m0 : w6.cell? ⟨q, 0, none⟩ = some (.int .i64 r1) := HF6.out.cell 0 (by omega)
  have m1 : w6.cell? ⟨q, 1, none⟩ = some (.int .i64 (r1 + r3)) := HF6.out.cell 1 (by omega)
  have m2 : w6.cell? ⟨q, 2, none⟩ = some (.int .i64 (1 + r5)) := HF6.out.cell 2 (by omega)
  have n0 : w6.cell? ⟨w.heap.size, 0, none⟩ = some (.int .i64 0) := HR6.out.cell 0 (by omega)
  have n1 : w6.cell? ⟨w.heap.size, 1, none⟩ = some (.int .i64 0) := HR6.out.cell 1 (by omega)
  have n2 : w6.cell? ⟨w.heap.size, 2, none⟩ = some (.int .i64 0) := HR6.out.cell 2 (by omega)
  have fr := HR6.out.fr
  have f0 := fr 0
  have f1 := fr 1
  have f2 := fr 2
  clear fr
  go_wp2_with fail
  refine bodyPost_ret (v := .agg #[.int .i64 r1, .int .i64 (r1 + r3), .int .i64 (1 + r5)]) (by simp [results, Tryz.results50, go_sem, n0, n1, n2]) rfl ?_
  exact ⟨r1, r1 + r3, 1 + r5, rfl, by omega, ((HS6.out.set (by omega)).set (by omega)).set (by omega), grown_set_new (grown_set_new (grown_set_new HK6.out (Nat.le_refl _) 0 _) (Nat.le_refl _) 1 _) (Nat.le_refl _) 2 _⟩
/-- A glue in a variable. -/
def BentEnd (w0 w : World) (p : Nat) (ac : Option Addr) (nc cc A : Nat) (e : Ending) (w' : World) : Prop :=
  ∃ d o q : Int, e = .returned (.agg #[.int .i64 d, .int .i64 o, .int .i64 q]) ∧ ((Lit.int .i64 d).wf = true ∧ (Lit.int .i64 o).wf = true ∧ (Lit.int .i64 q).wf = true) ∧ SrcAt w' w0.heap.size p ac nc cc A ∧ w.grownBy w' (some p)
theorem wf_gl {z : Int} (h1 : -9223372036854775808 ≤ z) (h2 : z ≤ 9223372036854775807) : (Lit.int .i64 z).wf = true := WalkArith.wf_i64 (by omega)
set_option maxRecDepth 100000 in
set_option maxHeartbeats 3200000 in
theorem l19Bent_any (w0 w : World) (p nc cc A : Nat) (ac : Option Addr) (hc : CodeAt w0 ac nc) (hb : Bel w0.heap.size w0 w) (hs : SrcAt w w0.heap.size p ac nc cc A) (hA : A ≤ 90000) :
    Calls Tryz.prog 26 #[.pointer (some ⟨p, 0, none⟩)] w (BentEnd w0 w p ac nc cc (A + 10)) := by
  obtain ⟨hp1, hp2⟩ := hs.base
  have HC := Lib.hid hc
  have HG := Lib.hid (fun (W W' : World) (h : Bel w0.heap.size w0 W) (hg : W.grownBy W' (some p)) => h.grown hg (fun k h => by cases h; exact hp1))
  have HS0 := Lib.hid (hs.alloc (.cells #[.int .i64 0, .int .i64 0, .int .i64 0] 25))
  have HB0 := Lib.hid (hb.alloc (.cells #[.int .i64 0, .int .i64 0, .int .i64 0] 25))
  have HR0 := Lib.hid (Obx.new w w.heap.size 25 3 #[.int .i64 0, .int .i64 0, .int .i64 0] (Nat.le_refl _) rfl)
  have HK0 := Lib.hid (grown_alloc (World.grownBy.refl w (some p)) (.cells #[.int .i64 0, .int .i64 0, .int .i64 0] 25))
  clear hc hb hs
  go_enter Tryz.func26, Tryz.ntmps26
  go_wp2_with fail
  refine (l19Draw_any w0 _ p nc cc A ac HC.out HB0.out HS0.out (by omega)).mono ?_
  rintro e w1 ⟨d, o, y, rfl, hbd, hs1, hg1⟩
  have HR1 := Lib.hid (HR0.out.grown hg1 (fun e => by have h1 : p = w.heap.size := (by simpa using e); omega))
  have HP1 := Lib.hid hs1.base.2
  have hW1 : w.heap.size < w1.heap.size := HR1.out.lt.2
  obtain ⟨q, hq⟩ : ∃ q, w1.heap.size = q := ⟨_, rfl⟩
  obtain ⟨w2, hw2⟩ : ∃ W, w1.alloc (.cells #[.int .i64 d, .int .i64 o, .int .i64 y] 25) = W := ⟨_, rfl⟩
  have HS2 := Lib.hid (show SrcAt w2 w0.heap.size p ac nc cc (A + 6) by rw [← hw2]; exact hs1.alloc _)
  have HB2 := Lib.hid (show Bel w0.heap.size w0 w2 by rw [← hw2]; exact (HG.out _ _ HB0.out hg1).alloc _)
  have HF2 := Lib.hid (show Obx w2 w.heap.size q 25 3 [.int .i64 d, .int .i64 o, .int .i64 y] by rw [← hw2, ← hq]; exact Obx.new w1 w.heap.size 25 3 #[.int .i64 d, .int .i64 o, .int .i64 y] (by omega) rfl)
  have HR2 := Lib.hid (show Obx w2 w.heap.size w.heap.size 25 3 [.int .i64 0, .int .i64 0, .int .i64 0] by rw [← hw2]; exact HR1.out.alloc _)
  have HK2 := Lib.hid (show w.grownBy w2 (some p) by rw [← hw2]; exact grown_alloc (grown_more HK0.out hg1) _)
  obtain ⟨b1, b2, b3, b4, b5, b6⟩ := hbd
  have hne : p ≠ q := by have := HP1.out; omega
  have hnr : p ≠ w.heap.size := by omega
  have hqr : q ≠ w.heap.size := by omega
  have hqw : w.heap.size ≤ q := HF2.out.lt.1
  have HW2 := Lib.hid hw2
  clear hs1 hg1 hw2 HP1
  go_wp2_with fail
  rw [HW2.out]
  clear hq
  refine (pick_any w0 _ p nc cc (A + 6) ac 24 HC.out HB2.out HS2.out (by omega) (by omega)).mono ?_
  rintro e w3 ⟨r, rfl, ra, rb, hs3, hg3⟩
  have HS3 := Lib.hid hs3
  have HB3 := Lib.hid (HG.out _ _ HB2.out hg3)
  have HK3 := Lib.hid (grown_more HK2.out hg3)
  have HF3 := Lib.hid (HF2.out.grown hg3 (fun e => hne (by simpa using e)))
  have HR3 := Lib.hid (HR2.out.grown hg3 (fun e => hnr (by simpa using e)))
  clear hs3 hg3 HW2
  go_upto_block 0 with fail
  go_cut [] (fun W => ∃ x1 x2 x3 : Int, Hid ((Lit.int .i64 x1).wf = true ∧ (Lit.int .i64 x2).wf = true ∧ (Lit.int .i64 x3).wf = true) ∧ Hid (SrcAt W w0.heap.size p ac nc cc (A + 10)) ∧ Hid (w.grownBy W (some p)) ∧ Hid (Obx W w.heap.size q 25 3 [.int .i64 x1, .int .i64 x2, .int .i64 x3]) ∧ Hid (Obx W w.heap.size w.heap.size 25 3 [.int .i64 0, .int .i64 0, .int .i64 0]))
  case first =>
    by_cases h0 : r = 0
    · subst h0
      have m1 : w3.cell? ⟨q, 1, none⟩ = some (.int .i64 o) := HF3.out.cell 1 (by omega)
      have HAm := Lib.hid (among_lit w0 w3 p nc cc (A + 6 + 2) 4 2 ac [-1, 0, o, o + 1] rfl (by omega) (by omega) HC.out HB3.out HS3.out (by omega))
      go_wp2_with fail
      refine HAm.out.mono ?_
      rintro e w4 ⟨u, rfl, hu, hs4, hg4⟩
      have hF4 := HF3.out.grown hg4 (fun e => hne (by simpa using e))
      have k0 : w4.cell? ⟨q, 0, none⟩ = some (.int .i64 d) := hF4.cell 0 (by omega)
      have f0 := hF4.fr 0
      have HF5 := Lib.hid (show Obx (w4.setCell ⟨q, 0, none⟩ (.int .i64 u)) w.heap.size q 25 3 [.int .i64 u, .int .i64 o, .int .i64 y] from hF4.set 0 _)
      have HR5 := Lib.hid ((HR3.out.grown hg4 (fun e => hnr (by simpa using e))).setOther (q' := q) 0 (.int .i64 u) hqr)
      have HS5 := Lib.hid (hs4.set (q := q) (j := 0) (u := .int .i64 u) (fun e => hne e.symm))
      have HK5 := Lib.hid (grown_set_new (grown_more HK3.out hg4) hqw 0 (.int .i64 u))
      have HU := Lib.hid (show (Lit.int .i64 u).wf = true by simp only [List.mem_cons, List.not_mem_nil, or_false] at hu; exact wf_gl (by omega) (by omega))
      clear hs4 hg4 hF4 hu
      go_wp2_with fail
      go_meet
      exact ⟨u, o, y, Lib.hid ⟨HU.out, wf_gl (by omega) (by omega), wf_gl (by omega) (by omega)⟩, Lib.hid (HS5.out.more (by omega)), HK5, HF5, HR5⟩
    · by_cases h1 : r = 1
      · subst h1
        have HAm := Lib.hid (among_lit w0 w3 p nc cc (A + 6 + 2) 3 2 ac [-1, 1440, 1441] rfl (by omega) (by omega) HC.out HB3.out HS3.out (by omega))
        go_wp2_with fail
        refine HAm.out.mono ?_
        rintro e w4 ⟨u, rfl, hu, hs4, hg4⟩
        have hF4 := HF3.out.grown hg4 (fun e => hne (by simpa using e))
        have k1 : w4.cell? ⟨q, 1, none⟩ = some (.int .i64 o) := hF4.cell 1 (by omega)
        have f1 := hF4.fr 1
        have HF5 := Lib.hid (show Obx (w4.setCell ⟨q, 1, none⟩ (.int .i64 u)) w.heap.size q 25 3 [.int .i64 d, .int .i64 u, .int .i64 y] from hF4.set 1 _)
        have HR5 := Lib.hid ((HR3.out.grown hg4 (fun e => hnr (by simpa using e))).setOther (q' := q) 1 (.int .i64 u) hqr)
        have HS5 := Lib.hid (hs4.set (q := q) (j := 1) (u := .int .i64 u) (fun e => hne e.symm))
        have HK5 := Lib.hid (grown_set_new (grown_more HK3.out hg4) hqw 1 (.int .i64 u))
        have HU := Lib.hid (show (Lit.int .i64 u).wf = true by simp only [List.mem_cons, List.not_mem_nil, or_false] at hu; exact wf_gl (by omega) (by omega))
        clear hs4 hg4 hF4 hu
        go_wp2_with fail
        go_meet
        exact ⟨d, u, y, Lib.hid ⟨wf_gl (by omega) (by omega), HU.out, wf_gl (by omega) (by omega)⟩, Lib.hid (HS5.out.more (by omega)), HK5, HF5, HR5⟩
      · by_cases h2 : r = 2
        · subst h2
          have HAm := Lib.hid (among_lit w0 w3 p nc cc (A + 6 + 2) 5 2 ac [0, 1, 1440, 1441, -9223372036854775808] rfl (by omega) (by omega) HC.out HB3.out HS3.out (by omega))
          go_wp2_with fail
          refine HAm.out.mono ?_
          rintro e w4 ⟨u, rfl, hu, hs4, hg4⟩
          have hF4 := HF3.out.grown hg4 (fun e => hne (by simpa using e))
          have k2 : w4.cell? ⟨q, 2, none⟩ = some (.int .i64 y) := hF4.cell 2 (by omega)
          have f2 := hF4.fr 2
          have HF5 := Lib.hid (show Obx (w4.setCell ⟨q, 2, none⟩ (.int .i64 u)) w.heap.size q 25 3 [.int .i64 d, .int .i64 o, .int .i64 u] from hF4.set 2 _)
          have HR5 := Lib.hid ((HR3.out.grown hg4 (fun e => hnr (by simpa using e))).setOther (q' := q) 2 (.int .i64 u) hqr)
          have HS5 := Lib.hid (hs4.set (q := q) (j := 2) (u := .int .i64 u) (fun e => hne e.symm))
          have HK5 := Lib.hid (grown_set_new (grown_more HK3.out hg4) hqw 2 (.int .i64 u))
          have HU := Lib.hid (show (Lit.int .i64 u).wf = true by simp only [List.mem_cons, List.not_mem_nil, or_false] at hu; exact wf_gl (by omega) (by omega))
          clear hs4 hg4 hF4 hu
          go_wp2_with fail
          go_meet
          exact ⟨d, o, u, Lib.hid ⟨wf_gl (by omega) (by omega), wf_gl (by omega) (by omega), HU.out⟩, Lib.hid (HS5.out.more (by omega)), HK5, HF5, HR5⟩
        · have e0 : (r == 0) = false := by simpa using h0
          have e1 : (r == 1) = false := by simpa using h1
          have e2 : (r == 2) = false := by simpa using h2
          go_wp2_with fail
          go_meet
          exact ⟨d, o, y, Lib.hid ⟨wf_gl (by omega) (by omega), wf_gl (by omega) (by omega), wf_gl (by omega) (by omega)⟩, Lib.hid (HS3.out.more (by omega)), HK3, HF3, HR3⟩
  case rest =>
    obtain ⟨x1, x2, x3, hwf, hsc, hkc, hfc, hrc⟩ := hcut
    clear HS0 HB0 HR0 HK0 HR1 HS2 HB2 HF2 HR2 HK2 HS3 HB3 HK3 HF3 HR3
    have m0 : wc.cell? ⟨q, 0, none⟩ = some (.int .i64 x1) := hfc.out.cell 0 (by omega)
    have m1 : wc.cell? ⟨q, 1, none⟩ = some (.int .i64 x2) := hfc.out.cell 1 (by omega)
    have m2 : wc.cell? ⟨q, 2, none⟩ = some (.int .i64 x3) := hfc.out.cell 2 (by omega)
    have n0 : wc.cell? ⟨w.heap.size, 0, none⟩ = some (.int .i64 0) := hrc.out.cell 0 (by omega)
    have n1 : wc.cell? ⟨w.heap.size, 1, none⟩ = some (.int .i64 0) := hrc.out.cell 1 (by omega)
    have n2 : wc.cell? ⟨w.heap.size, 2, none⟩ = some (.int .i64 0) := hrc.out.cell 2 (by omega)
    have fr := hrc.out.fr
    have f0 := fr 0
    have f1 := fr 1
    have f2 := fr 2
    clear fr
    go_wp2_with fail
    refine bodyPost_ret (v := .agg #[.int .i64 x1, .int .i64 x2, .int .i64 x3]) (by simp [results, Tryz.results26, go_sem, n0, n1, n2]) rfl ?_
    exact ⟨x1, x2, x3, rfl, hwf.out, ((hsc.out.set (by omega)).set (by omega)).set (by omega), grown_set_new (grown_set_new (grown_set_new hkc.out (Nat.le_refl _) 0 _) (Nat.le_refl _) 1 _) (Nat.le_refl _) 2 _⟩
end Go.Proofs.YtfkojbkgpbpjhaaGreatDoor
