/-
  Contracts of the draws of pieces. (l10New_any: printed by bin/gen_cutdraw.py) Contracts of the draws of feet and lasts. The foot that is drawn; tests of a fit. No condition of its own.
-/
import Derived.Test.YthemlamdchcicaaGreatDoorGBox
import Derived.Test.YthemlamdchcicaaGreatDoorGHideP
import Derived.Test.YthemlamdchcicaaGreatDoorGName
import Derived.Deep.RegionHeld3
import Derived.Deep.DeepCutAuto
import Derived.Deep.CutBlock

namespace Go.Proofs.YthemlamdchcicaaGreatDoor
open Go.ChangeShapes Go.WideShapes Go.ChangeAt Go.RowKit Go.Deep

theorem SrcAt.set {W : World} {B p nc cc A q j : Nat} {ac : Option Addr} {u : Value} (h : SrcAt W B p ac nc cc A) (hq : q ≠ p) : SrcAt (W.setCell ⟨q, j, none⟩ u) B p ac nc cc A :=
  h.grown (setCell_grown W q j u) (fun e => hq (by simpa using e))
theorem grown_new {w w1 w2 : World} {row : Option Nat} {q : Nat} (h : w.grownBy w1 row) (k : w1.grownBy w2 (some q)) (hq : w.heap.size ≤ q) : w.grownBy w2 row :=
  ⟨k.os.trans h.os, k.tape.trans h.tape, k.output.trans h.output, Nat.le_trans h.size k.size, fun i hi hne => (k.block i (Nat.lt_of_lt_of_le hi h.size) (fun e => by have h1 : i = q := (by simpa using e); omega)).trans (h.block i hi hne)⟩
theorem grown_alloc {w w1 : World} {row : Option Nat} (h : w.grownBy w1 row) (o : Obj) : w.grownBy (w1.alloc o) row := by
  refine ⟨h.os, h.tape, h.output, Nat.le_trans h.size (by simp), fun i hi hne => ?_⟩
  have := (World.grownBy_alloc w1 o none).block i (Nat.lt_of_lt_of_le hi h.size) (by simp)
  exact this.trans (h.block i hi hne)
theorem grown_set_new {w w1 : World} {row : Option Nat} (h : w.grownBy w1 row) {q : Nat} (hq : w.heap.size ≤ q) (j : Nat) (u : Value) : w.grownBy (w1.setCell ⟨q, j, none⟩ u) row := grown_new h (setCell_grown w1 q j u) hq
theorem grown_more {w w1 w2 : World} {p : Nat} (h : w.grownBy w1 (some p)) (k : w1.grownBy w2 (some p)) : w.grownBy w2 (some p) := grown_trans_row h k
theorem grown_drew {w w1 : World} {row : Option Nat} (h : w.grownBy w1 row) : w.grownBy w1.drew row := ⟨h.os, h.tape, h.output, h.size, h.block⟩
/-- A drawn piece is valid. -/
def CutEnd (w0 w : World) (p : Nat) (ac : Option Addr) (nc cc A : Nat) (e : Ending) (w' : World) : Prop :=
  ∃ (x y q v : Int), e = .returned (.agg #[.int .i64 x, .int .i64 y, .int .i64 q, .int .i64 v]) ∧ cutB x y q v = true ∧ SrcAt w' w0.heap.size p ac nc cc A ∧ w.grownBy w' (some p)
set_option maxRecDepth 100000 in
set_option maxHeartbeats 3200000 in
theorem l10New_any (w0 w : World) (p nc cc A : Nat) (ac : Option Addr) (hc : CodeAt w0 ac nc) (hb : Bel w0.heap.size w0 w) (hs : SrcAt w w0.heap.size p ac nc cc A) (hA : A ≤ 100000) :
    Calls Tryz.prog 37 #[.pointer (some ⟨p, 0, none⟩)] w (CutEnd w0 w p ac nc cc (A + 8)) := by
  obtain ⟨hp1, hp2⟩ := hs.base
  have HC := Lib.hid hc
  have HG := Lib.hid (fun (W W' : World) (h : Bel w0.heap.size w0 W) (hg : W.grownBy W' (some p)) => h.grown hg (fun k h => by cases h; exact hp1))
  have HS0 := Lib.hid (hs.alloc (.cells #[.int .i64 0, .int .i64 0, .int .i64 0, .int .i64 0] 75))
  have HB0 := Lib.hid (hb.alloc (.cells #[.int .i64 0, .int .i64 0, .int .i64 0, .int .i64 0] 75))
  have HR0 := Lib.hid (Obx.new w w.heap.size 75 4 #[.int .i64 0, .int .i64 0, .int .i64 0, .int .i64 0] (Nat.le_refl _) rfl)
  have HK0 := Lib.hid (grown_alloc (World.grownBy.refl w (some p)) (.cells #[.int .i64 0, .int .i64 0, .int .i64 0, .int .i64 0] 75))
  clear hc hb hs
  go_enter Tryz.func37, Tryz.ntmps37
  go_wp2_with fail
  refine (pick_any w0 _ p nc cc A ac 3 HC.out HB0.out HS0.out (by omega) (by omega)).mono ?_
  rintro e w1 ⟨r0, rfl, r0a, r0b, hs1, hg1⟩
  have HR1 := Lib.hid (HR0.out.grown hg1 (fun e => by have h1 : p = w.heap.size := (by simpa using e); omega))
  have HP1 := Lib.hid hs1.base.2
  have hW1 : w.heap.size < w1.heap.size := HR1.out.lt.2
  obtain ⟨q, hq⟩ : ∃ q, w1.heap.size = q := ⟨_, rfl⟩
  obtain ⟨w2, hw2⟩ : ∃ W, w1.alloc (.cells #[.int .i64 (1 + r0), .int .i64 0, .int .i64 0, .int .i64 0] 75) = W := ⟨_, rfl⟩
  have HS2 := Lib.hid (show SrcAt w2 w0.heap.size p ac nc cc (A + 2) by rw [← hw2]; exact hs1.alloc _)
  have HB2 := Lib.hid (show Bel w0.heap.size w0 w2 by rw [← hw2]; exact (HG.out _ _ HB0.out hg1).alloc _)
  have HF2 := Lib.hid (show Obx w2 w.heap.size q 75 4 [.int .i64 (1 + r0), .int .i64 0, .int .i64 0, .int .i64 0] by rw [← hw2, ← hq]; exact Obx.new w1 w.heap.size 75 4 #[.int .i64 (1 + r0), .int .i64 0, .int .i64 0, .int .i64 0] (by omega) rfl)
  have HR2 := Lib.hid (show Obx w2 w.heap.size w.heap.size 75 4 [.int .i64 0, .int .i64 0, .int .i64 0, .int .i64 0] by rw [← hw2]; exact HR1.out.alloc _)
  have HK2 := Lib.hid (show w.grownBy w2 (some p) by rw [← hw2]; exact grown_alloc (grown_more HK0.out hg1) _)
  have hne : p ≠ q := by have := HP1.out; omega
  have hnr : p ≠ w.heap.size := by omega
  have hqr : q ≠ w.heap.size := by omega
  have HW2 := Lib.hid hw2
  clear hs1 hg1 hw2
  go_wp2_with fail
  rw [HW2.out]
  clear hq
  refine (pick_any w0 _ p nc cc (A + 2) ac 3 HC.out HB2.out HS2.out (by omega) (by omega)).mono ?_
  rintro e w3 ⟨r1, rfl, r1a, r1b, hs3, hg3⟩
  have hF3 := HF2.out.grown hg3 (fun e => hne (by simpa using e))
  have hR3 := HR2.out.grown hg3 (fun e => hnr (by simpa using e))
  have hqw : w.heap.size ≤ q := HF2.out.lt.1
  have k1 : w3.cell? ⟨q, 1, none⟩ = some (.int .i64 0) := hF3.cell 1 (by omega)
  have f1 := hF3.fr 1
  have HS4 := Lib.hid (hs3.set (q := q) (j := 1) (u := .int .i64 (1 + r1)) (fun e => hne e.symm))
  have HF4 := Lib.hid (show Obx (w3.setCell ⟨q, 1, none⟩ (.int .i64 (1 + r1))) w.heap.size q 75 4 [.int .i64 (1 + r0), .int .i64 (1 + r1), .int .i64 0, .int .i64 0] from hF3.set 1 _)
  have HR4 := Lib.hid (hR3.setOther (q' := q) 1 (.int .i64 (1 + r1)) hqr)
  have HK4 := Lib.hid (grown_set_new (grown_more HK2.out hg3) hqw 1 (.int .i64 (1 + r1)))
  have HB4 := Lib.hid ((HG.out _ _ HB2.out hg3).setCell (p := ⟨q, 1, none⟩) (by have := hqw; show w0.heap.size ≤ q; omega) (.int .i64 (1 + r1)))
  clear hs3 hg3 hF3 hR3 HS2 HB2 HF2 HR2 HK2
  go_upto_region 3 with fail
  generalize w3.setCell ⟨q, 1, none⟩ (.int .i64 (1 + r1)) = w4 at HS4 HF4 HR4 HK4 HB4 ⊢
  clear k1 f1 hqw
  go_wp2_with fail
  refine (pick_any w0 _ p nc cc (A + 2 + 2) ac 3 HC.out HB4.out HS4.out (by omega) (by omega)).mono ?_
  rintro e w5 ⟨r2, rfl, r2a, r2b, hs3, hg3⟩
  have hF3 := HF4.out.grown hg3 (fun e => hne (by simpa using e))
  have hR3 := HR4.out.grown hg3 (fun e => hnr (by simpa using e))
  have hqw : w.heap.size ≤ q := HF4.out.lt.1
  have k1 : w5.cell? ⟨q, 2, none⟩ = some (.int .i64 0) := hF3.cell 2 (by omega)
  have f1 := hF3.fr 2
  have HS6 := Lib.hid (hs3.set (q := q) (j := 2) (u := .int .i64 (1 + r2)) (fun e => hne e.symm))
  have HF6 := Lib.hid (show Obx (w5.setCell ⟨q, 2, none⟩ (.int .i64 (1 + r2))) w.heap.size q 75 4 [.int .i64 (1 + r0), .int .i64 (1 + r1), .int .i64 (1 + r2), .int .i64 0] from hF3.set 2 _)
  have HR6 := Lib.hid (hR3.setOther (q' := q) 2 (.int .i64 (1 + r2)) hqr)
  have HK6 := Lib.hid (grown_set_new (grown_more HK4.out hg3) hqw 2 (.int .i64 (1 + r2)))
  have HB6 := Lib.hid ((HG.out _ _ HB4.out hg3).setCell (p := ⟨q, 2, none⟩) (by have := hqw; show w0.heap.size ≤ q; omega) (.int .i64 (1 + r2)))
  clear hs3 hg3 hF3 hR3 HS4 HB4 HF4 HR4 HK4
  go_upto_region 4 with fail
  generalize w5.setCell ⟨q, 2, none⟩ (.int .i64 (1 + r2)) = w6 at HS6 HF6 HR6 HK6 HB6 ⊢
  clear k1 f1 hqw
  go_wp2_with fail
  refine (pick_any w0 _ p nc cc (A + 2 + 2 + 2) ac 20 HC.out HB6.out HS6.out (by omega) (by omega)).mono ?_
  rintro e w7 ⟨r3, rfl, r3a, r3b, hs3, hg3⟩
  have hF3 := HF6.out.grown hg3 (fun e => hne (by simpa using e))
  have hR3 := HR6.out.grown hg3 (fun e => hnr (by simpa using e))
  have hqw : w.heap.size ≤ q := HF6.out.lt.1
  have k1 : w7.cell? ⟨q, 3, none⟩ = some (.int .i64 0) := hF3.cell 3 (by omega)
  have f1 := hF3.fr 3
  have HS8 := Lib.hid (hs3.set (q := q) (j := 3) (u := .int .i64 r3) (fun e => hne e.symm))
  have HF8 := Lib.hid (show Obx (w7.setCell ⟨q, 3, none⟩ (.int .i64 r3)) w.heap.size q 75 4 [.int .i64 (1 + r0), .int .i64 (1 + r1), .int .i64 (1 + r2), .int .i64 r3] from hF3.set 3 _)
  have HR8 := Lib.hid (hR3.setOther (q' := q) 3 (.int .i64 r3) hqr)
  have HK8 := Lib.hid (grown_set_new (grown_more HK6.out hg3) hqw 3 (.int .i64 r3))
  have HB8 := Lib.hid ((HG.out _ _ HB6.out hg3).setCell (p := ⟨q, 3, none⟩) (by have := hqw; show w0.heap.size ≤ q; omega) (.int .i64 r3))
  clear hs3 hg3 hF3 hR3 HS6 HB6 HF6 HR6 HK6
  go_upto_region 5 with fail
  generalize w7.setCell ⟨q, 3, none⟩ (.int .i64 r3) = w8 at HS8 HF8 HR8 HK8 HB8 ⊢
  clear k1 f1 hqw
  have m0 : w8.cell? ⟨q, 0, none⟩ = some (.int .i64 (1 + r0)) := HF8.out.cell 0 (by omega)
  have m1 : w8.cell? ⟨q, 1, none⟩ = some (.int .i64 (1 + r1)) := HF8.out.cell 1 (by omega)
  have m2 : w8.cell? ⟨q, 2, none⟩ = some (.int .i64 (1 + r2)) := HF8.out.cell 2 (by omega)
  have m3 : w8.cell? ⟨q, 3, none⟩ = some (.int .i64 r3) := HF8.out.cell 3 (by omega)
  have n0 : w8.cell? ⟨w.heap.size, 0, none⟩ = some (.int .i64 0) := HR8.out.cell 0 (by omega)
  have n1 : w8.cell? ⟨w.heap.size, 1, none⟩ = some (.int .i64 0) := HR8.out.cell 1 (by omega)
  have n2 : w8.cell? ⟨w.heap.size, 2, none⟩ = some (.int .i64 0) := HR8.out.cell 2 (by omega)
  have n3 : w8.cell? ⟨w.heap.size, 3, none⟩ = some (.int .i64 0) := HR8.out.cell 3 (by omega)
  have fr := HR8.out.fr
  have f0 := fr 0
  have f1 := fr 1
  have f2 := fr 2
  have f3 := fr 3
  clear fr
  go_wp2_with fail
  refine bodyPost_ret (v := .agg #[.int .i64 (1 + r0), .int .i64 (1 + r1), .int .i64 (1 + r2), .int .i64 r3]) (by simp [results, Tryz.results37, go_sem, n0, n1, n2, n3]) rfl ?_
  exact ⟨1 + r0, 1 + r1, 1 + r2, r3, rfl, by rw [cutB_iff]; omega, (((HS8.out.set (by omega)).set (by omega)).set (by omega)).set (by omega), grown_set_new (grown_set_new (grown_set_new (grown_set_new HK8.out (Nat.le_refl _) 0 _) (Nat.le_refl _) 1 _) (Nat.le_refl _) 2 _) (Nat.le_refl _) 3 _⟩
end Go.Proofs.YthemlamdchcicaaGreatDoor

namespace Go.Proofs.YthemlamdchcicaaGreatDoor
open Go.ChangeShapes Go.WideShapes Go.ChangeAt Go.RowKit Go.Deep Go.Shelf

/-- A drawn foot. -/
def FootEnd (w0 : World) (p : Nat) (ac : Option Addr) (nc cc A : Nat) (e : Ending) (w' : World) : Prop :=
  ∃ l b i h : Int, e = .returned (.agg #[.int .i64 l, .int .i64 b, .int .i64 i, .int .i64 h]) ∧ (2200 ≤ l ∧ l ≤ 2845 ∧ 2100 ≤ b ∧ b ≤ 2595 ∧ 2200 ≤ i ∧ i ≤ 2695 ∧ 3000 ≤ h ∧ h ≤ 3495) ∧ SrcAt w' w0.heap.size p ac nc cc A ∧ Bel w0.heap.size w0 w'
set_option maxRecDepth 100000 in
set_option maxHeartbeats 3200000 in
theorem l02Draw_any (w0 w : World) (p nc cc A : Nat) (ac : Option Addr) (hc : CodeAt w0 ac nc) (hb : Bel w0.heap.size w0 w) (hs : SrcAt w w0.heap.size p ac nc cc A) (hA : A ≤ 1000) :
    Calls Tryz.prog 20 #[.pointer (some ⟨p, 0, none⟩)] w (FootEnd w0 p ac nc cc (A + 8)) := by
  obtain ⟨hp1, hp2⟩ := hs.base
  have HC := Lib.hid hc
  have HG := Lib.hid (fun (W W' : World) (h : Bel w0.heap.size w0 W) (hg : W.grownBy W' (some p)) => h.grown hg (fun k h => by cases h; exact hp1))
  have HS0 := Lib.hid (hs.alloc (.cells #[.int .i64 0, .int .i64 0, .int .i64 0, .int .i64 0] 25))
  have HB0 := Lib.hid (hb.alloc (.cells #[.int .i64 0, .int .i64 0, .int .i64 0, .int .i64 0] 25))
  have HR0 := Lib.hid (Obx.new w w.heap.size 25 4 #[.int .i64 0, .int .i64 0, .int .i64 0, .int .i64 0] (Nat.le_refl _) rfl)
  clear hc hb hs
  go_enter Tryz.func20, Tryz.ntmps20
  go_wp2_with fail
  refine (pick_any w0 _ p nc cc A ac 130 HC.out HB0.out HS0.out (by omega) (by omega)).mono ?_
  rintro e w1 ⟨r1, rfl, r1a, r1b, hs1, hg1⟩
  have HR1 := Lib.hid (HR0.out.grown hg1 (fun e => by have h1 : p = w.heap.size := (by simpa using e); omega))
  have HP1 := Lib.hid hs1.base.2
  have HW1 := Lib.hid (show w.heap.size < w1.heap.size from HR1.out.lt.2)
  have HS1 := Lib.hid (hs1.alloc (.cells #[.int .i64 (2200 + 5 * r1), .int .i64 0, .int .i64 0, .int .i64 0] 25))
  have HB1 := Lib.hid ((HG.out _ _ HB0.out hg1).alloc (.cells #[.int .i64 (2200 + 5 * r1), .int .i64 0, .int .i64 0, .int .i64 0] 25))
  have HF1 := Lib.hid (Obx.new w1 w1.heap.size 25 4 #[.int .i64 (2200 + 5 * r1), .int .i64 0, .int .i64 0, .int .i64 0] (Nat.le_refl _) rfl)
  have HQ1 := Lib.hid (HR1.out.alloc (.cells #[.int .i64 (2200 + 5 * r1), .int .i64 0, .int .i64 0, .int .i64 0] 25))
  have r1c : r1 ≤ 129 := by omega
  clear hs1 hg1
  go_wp2_with fail
  refine (pick_any w0 _ p nc cc (A + 2) ac 100 HC.out HB1.out HS1.out (by omega) (by omega)).mono ?_
  rintro e w2 ⟨r2, rfl, r2a, r2b, hs2, hg2⟩
  have r2c : r2 ≤ 99 := by omega
  have hne : p ≠ w1.heap.size := by have := HP1.out; omega
  have hF2 := HF1.out.grown hg2 (fun e => hne (by simpa using e))
  have k2 : w2.cell? ⟨w1.heap.size, 1, none⟩ = some (.int .i64 0) := hF2.cell 1 (by omega)
  have f2 := hF2.fr 1
  have HF2 := Lib.hid (hF2.set 1 (.int .i64 (2100 + 5 * r2)))
  have HQ2 := Lib.hid ((HQ1.out.grown hg2 (fun e => by have h1 : p = w.heap.size := (by simpa using e); omega)).setOther (q' := w1.heap.size) 1 (.int .i64 (2100 + 5 * r2)) (by have := HW1.out; omega))
  have HS2 := Lib.hid (hs2.grown (setCell_grown w2 w1.heap.size 1 (.int .i64 (2100 + 5 * r2))) (fun e => hne (by simpa using e.symm)))
  have HB2 := Lib.hid ((HG.out _ _ HB1.out hg2).setCell (p := ⟨w1.heap.size, 1, none⟩) (by have := HP1.out; show w0.heap.size ≤ w1.heap.size; omega) (.int .i64 (2100 + 5 * r2)))
  clear hs2 hg2 hF2
  go_wp2_with fail
  clear k2 f2
  refine (pick_any w0 _ p nc cc (A + 2 + 2) ac 100 HC.out HB2.out HS2.out (by omega) (by omega)).mono ?_
  rintro e w3 ⟨r3, rfl, r3a, r3b, hs3, hg3⟩
  have r3c : r3 ≤ 99 := by omega
  have hF3 := HF2.out.grown hg3 (fun e => hne (by simpa using e))
  have k3 : w3.cell? ⟨w1.heap.size, 2, none⟩ = some (.int .i64 0) := hF3.cell 2 (by omega)
  have f3 := hF3.fr 2
  have HF3 := Lib.hid (hF3.set 2 (.int .i64 (2200 + 5 * r3)))
  have HQ3 := Lib.hid ((HQ2.out.grown hg3 (fun e => by have h1 : p = w.heap.size := (by simpa using e); omega)).setOther (q' := w1.heap.size) 2 (.int .i64 (2200 + 5 * r3)) (by have := HW1.out; omega))
  have HS3 := Lib.hid (hs3.grown (setCell_grown w3 w1.heap.size 2 (.int .i64 (2200 + 5 * r3))) (fun e => hne (by simpa using e.symm)))
  have HB3 := Lib.hid ((HG.out _ _ HB2.out hg3).setCell (p := ⟨w1.heap.size, 2, none⟩) (by have := HP1.out; show w0.heap.size ≤ w1.heap.size; omega) (.int .i64 (2200 + 5 * r3)))
  clear hs3 hg3 hF3
  go_wp2_with fail
  clear k3 f3
  refine (pick_any w0 _ p nc cc (A + 2 + 2 + 2) ac 100 HC.out HB3.out HS3.out (by omega) (by omega)).mono ?_
  rintro e w4 ⟨r4, rfl, r4a, r4b, hs4, hg4⟩
  have r4c : r4 ≤ 99 := by omega
  have hF4 := HF3.out.grown hg4 (fun e => hne (by simpa using e))
  have k4 : w4.cell? ⟨w1.heap.size, 3, none⟩ = some (.int .i64 0) := hF4.cell 3 (by omega)
  have f4 := hF4.fr 3
  have k40 : w4.cell? ⟨w1.heap.size, 0, none⟩ = some (.int .i64 (2200 + 5 * r1)) := hF4.cell 0 (by omega)
  have k41 : w4.cell? ⟨w1.heap.size, 1, none⟩ = some (.int .i64 (2100 + 5 * r2)) := hF4.cell 1 (by omega)
  have k42 : w4.cell? ⟨w1.heap.size, 2, none⟩ = some (.int .i64 (2200 + 5 * r3)) := hF4.cell 2 (by omega)
  have hQ4 := HQ3.out.grown hg4 (fun e => by have h1 : p = w.heap.size := (by simpa using e); omega)
  have q40 : w4.cell? ⟨w.heap.size, 0, none⟩ = some (.int .i64 0) := hQ4.cell 0 (by omega)
  have q41 : w4.cell? ⟨w.heap.size, 1, none⟩ = some (.int .i64 0) := hQ4.cell 1 (by omega)
  have q42 : w4.cell? ⟨w.heap.size, 2, none⟩ = some (.int .i64 0) := hQ4.cell 2 (by omega)
  have q43 : w4.cell? ⟨w.heap.size, 3, none⟩ = some (.int .i64 0) := hQ4.cell 3 (by omega)
  have q50 := hQ4.fr 0
  have q51 := hQ4.fr 1
  have q52 := hQ4.fr 2
  have q53 := hQ4.fr 3
  have n1 : ¬ (w1.heap.size = w.heap.size) := by have := HW1.out; omega
  have n2 : ¬ (w.heap.size = w1.heap.size) := by have := HW1.out; omega
  have z1 : w.heap.size < w4.heap.size := hQ4.lt.2
  have z2 : w1.heap.size < w4.heap.size := hF4.lt.2
  have HS4 := Lib.hid hs4
  have HB4 := Lib.hid (HG.out _ _ HB3.out hg4)
  clear hs4 hg4 hF4 hQ4
  go_wp2_with fail
  refine bodyPost_ret (v := .agg #[.int .i64 (2200 + 5 * r1), .int .i64 (2100 + 5 * r2), .int .i64 (2200 + 5 * r3), .int .i64 (3000 + 5 * r4)]) (by simp [results, Tryz.results20, go_sem, q40, q41, q42, q43]) rfl ?_
  refine ⟨_, _, _, _, rfl, by omega, ?_, ?_⟩
  · exact ((((SrcAt.set HS4.out (by have := HP1.out; omega)).set (by omega)).set (by omega)).set (by omega)).set (by omega)
  · have h1 := HP1.out
    have h2 := HB0.out.2
    have h3 := HB1.out.2
    exact ((((HB4.out.setCell (by show w0.heap.size ≤ w1.heap.size; omega) _).setCell (by show w0.heap.size ≤ w.heap.size; omega) _).setCell (by show w0.heap.size ≤ w.heap.size; omega) _).setCell (by show w0.heap.size ≤ w.heap.size; omega) _).setCell (by show w0.heap.size ≤ w.heap.size; omega) _
theorem l00Max_l (x y : Int) (w : World) : Calls Tryz.prog 91 #[.int .i64 x, .int .i64 y] w fun e w' => e = .returned (.int .i64 (max x y)) ∧ w = w' := by
  go_enter Tryz.func91, Tryz.ntmps91
  go_wp2
  all_goals
    go_ret
    exact ⟨ret_int (by omega), rfl⟩
theorem l00Min_l (x y : Int) (w : World) : Calls Tryz.prog 90 #[.int .i64 x, .int .i64 y] w fun e w' => e = .returned (.int .i64 (min x y)) ∧ w = w' := by
  go_enter Tryz.func90, Tryz.ntmps90
  go_wp2
  all_goals
    go_ret
    exact ⟨ret_int (by omega), rfl⟩
theorem Obx.six {W : World} {B q E : Nat} {a b c d e f : Value} (h : Obx W B q E 6 [a, b, c, d, e, f]) :
    (W.cell? ⟨q, 0, none⟩ = some a ∧ W.cell? ⟨q, 1, none⟩ = some b ∧ W.cell? ⟨q, 2, none⟩ = some c ∧ W.cell? ⟨q, 3, none⟩ = some d ∧ W.cell? ⟨q, 4, none⟩ = some e ∧ W.cell? ⟨q, 5, none⟩ = some f) ∧
    (W.frozen? ⟨q, 0, none⟩ = false ∧ W.frozen? ⟨q, 1, none⟩ = false ∧ W.frozen? ⟨q, 2, none⟩ = false ∧ W.frozen? ⟨q, 3, none⟩ = false ∧ W.frozen? ⟨q, 4, none⟩ = false ∧ W.frozen? ⟨q, 5, none⟩ = false) ∧ q < W.heap.size :=
  ⟨⟨h.cell 0 (by omega), h.cell 1 (by omega), h.cell 2 (by omega), h.cell 3 (by omega), h.cell 4 (by omega), h.cell 5 (by omega)⟩, ⟨h.fr 0, h.fr 1, h.fr 2, h.fr 3, h.fr 4, h.fr 5⟩, h.lt.2⟩
theorem set6_grown (W : World) (q : Nat) (a b c d e f : Value) : W.grownBy ((((((W.setCell ⟨q, 0, none⟩ a).setCell ⟨q, 1, none⟩ b).setCell ⟨q, 2, none⟩ c).setCell ⟨q, 3, none⟩ d).setCell ⟨q, 4, none⟩ e).setCell ⟨q, 5, none⟩ f) (some q) :=
  grown_trans_row (grown_trans_row (grown_trans_row (grown_trans_row (grown_trans_row (setCell_grown _ q 0 a) (setCell_grown _ q 1 b)) (setCell_grown _ q 2 c)) (setCell_grown _ q 3 d)) (setCell_grown _ q 4 e)) (setCell_grown _ q 5 f)
theorem far1 {W : World} {q o x j : Nat} {u v : Value} (h : q ≠ x) (hk : W.cell? ⟨x, j, none⟩ = some v) : (W.setCell ⟨q, o, none⟩ u).cell? ⟨x, j, none⟩ = some v := (World.cell?_setCell_far W ⟨q, o, none⟩ ⟨x, j, none⟩ u h).trans hk
theorem set6_far (W : World) (q x j : Nat) (a b c d e f : Value) (h : q ≠ x) : ((((((W.setCell ⟨q, 0, none⟩ a).setCell ⟨q, 1, none⟩ b).setCell ⟨q, 2, none⟩ c).setCell ⟨q, 3, none⟩ d).setCell ⟨q, 4, none⟩ e).setCell ⟨q, 5, none⟩ f).cell? ⟨x, j, none⟩ = W.cell? ⟨x, j, none⟩ := by
  rw [World.cell?_setCell_far _ _ _ _ h, World.cell?_setCell_far _ _ _ _ h, World.cell?_setCell_far _ _ _ _ h, World.cell?_setCell_far _ _ _ _ h, World.cell?_setCell_far _ _ _ _ h, World.cell?_setCell_far _ _ _ _ h]
theorem Obx.set6 {W : World} {B q E : Nat} {x0 x1 x2 x3 x4 x5 a b c d e f : Value} (h : Obx W B q E 6 [x0, x1, x2, x3, x4, x5]) : Obx ((((((W.setCell ⟨q, 0, none⟩ a).setCell ⟨q, 1, none⟩ b).setCell ⟨q, 2, none⟩ c).setCell ⟨q, 3, none⟩ d).setCell ⟨q, 4, none⟩ e).setCell ⟨q, 5, none⟩ f) B q E 6 [a, b, c, d, e, f] :=
  (((((h.set 0 a).set 1 b).set 2 c).set 3 d).set 4 e).set 5 f
theorem grown_of_below {w w' : World} {row : Option Nat} (h : Below w.heap.size w w') : w.grownBy w' row := ⟨h.os, h.tape, h.output, h.size, fun i hi _ => h.block i hi⟩
theorem grown_new_l {w w1 w2 : World} {row : Option Nat} {q : Nat} (h : w.grownBy w1 row) (k : w1.grownBy w2 (some q)) (hq : w.heap.size ≤ q) : w.grownBy w2 row :=
  ⟨k.os.trans h.os, k.tape.trans h.tape, k.output.trans h.output, Nat.le_trans h.size k.size, fun i hi hne => (k.block i (Nat.lt_of_lt_of_le hi h.size) (fun e => by have h1 : i = q := (by simpa using e); omega)).trans (h.block i hi hne)⟩
theorem grown_alloc_l {w w1 : World} {row : Option Nat} (h : w.grownBy w1 row) (o : Obj) : w.grownBy (w1.alloc o) row := by
  refine ⟨h.os, h.tape, h.output, Nat.le_trans h.size (by simp), fun i hi hne => ?_⟩
  have := (World.grownBy_alloc w1 o none).block i (Nat.lt_of_lt_of_le hi h.size) (by simp)
  exact this.trans (h.block i hi hne)
/-- A drawn last. -/
def LastEnd (w0 w : World) (p : Nat) (ac : Option Addr) (nc cc A : Nat) (s : ByteArray) (e : Ending) (w' : World) : Prop :=
  ∃ l b i h q : Int, e = .returned (.agg #[.string s, .int .i64 l, .int .i64 b, .int .i64 i, .int .i64 h, .int .i64 q]) ∧ (500 ≤ l ∧ l ≤ 5000 ∧ 500 ≤ b ∧ b ≤ 5000 ∧ 500 ≤ i ∧ i ≤ 5000 ∧ 500 ≤ h ∧ h ≤ 5000 ∧ 0 ≤ q ∧ q ≤ 590) ∧ SrcAt w' w0.heap.size p ac nc cc A ∧ Bel w0.heap.size w0 w' ∧ w.grownBy w' (some p)
set_option maxRecDepth 100000 in
set_option maxHeartbeats 6400000 in
theorem l04New_any (w0 w : World) (p nc cc A : Nat) (ac : Option Addr) (s : ByteArray) (l b i h : Int) (hc : CodeAt w0 ac nc) (hb : Bel w0.heap.size w0 w) (hs : SrcAt w w0.heap.size p ac nc cc A) (hA : A ≤ 1000)
    (hf : 2200 ≤ l ∧ l ≤ 2845 ∧ 2100 ≤ b ∧ b ≤ 2595 ∧ 2200 ≤ i ∧ i ≤ 2695 ∧ 3000 ≤ h ∧ h ≤ 3495) :
    Calls Tryz.prog 50 #[.pointer (some ⟨p, 0, none⟩), .string s, .agg #[.int .i64 l, .int .i64 b, .int .i64 i, .int .i64 h]] w (LastEnd w0 w p ac nc cc (A + 10) s) := by
  obtain ⟨hp1, hp2⟩ := hs.base
  have HC := Lib.hid hc
  have HB := Lib.hid hb
  have HS := Lib.hid hs
  have HFt := Lib.hid hf
  obtain ⟨fl1, fl2, fb1, fb2, fi1, fi2, fh1, fh2⟩ := hf
  have HG := Lib.hid (fun (W W' : World) (h : Bel w0.heap.size w0 W) (hg : W.grownBy W' (some p)) => h.grown hg (fun k h => by cases h; exact hp1))
  have np2 : ¬ (w.heap.size + 1 + 1 = p) := by omega
  have hR0 := (Obx.new (w.alloc (.cells #[.int .i64 l, .int .i64 b, .int .i64 i, .int .i64 h] 25)) w.heap.size 37 6 #[.string ⟨#[]⟩, .int .i64 0, .int .i64 0, .int .i64 0, .int .i64 0, .int .i64 0] (by simp) rfl)
  have HR0 := Lib.hid (show Obx ((w.alloc (.cells #[.int .i64 l, .int .i64 b, .int .i64 i, .int .i64 h] 25)).alloc (.cells #[.string ⟨#[]⟩, .int .i64 0, .int .i64 0, .int .i64 0, .int .i64 0, .int .i64 0] 37)) w.heap.size (w.heap.size + 1) 37 6 [.string ⟨#[]⟩, .int .i64 0, .int .i64 0, .int .i64 0, .int .i64 0, .int .i64 0] from by simpa using hR0)
  clear hR0
  have hN0 := Obx.new ((w.alloc (.cells #[.int .i64 l, .int .i64 b, .int .i64 i, .int .i64 h] 25)).alloc (.cells #[.string ⟨#[]⟩, .int .i64 0, .int .i64 0, .int .i64 0, .int .i64 0, .int .i64 0] 37)) w0.heap.size 37 6 #[.string ⟨#[]⟩, .int .i64 0, .int .i64 0, .int .i64 0, .int .i64 0, .int .i64 0] (by have := hb.2; simp; omega) rfl
  have HN0 := Lib.hid (show Obx (((w.alloc (.cells #[.int .i64 l, .int .i64 b, .int .i64 i, .int .i64 h] 25)).alloc (.cells #[.string ⟨#[]⟩, .int .i64 0, .int .i64 0, .int .i64 0, .int .i64 0, .int .i64 0] 37)).alloc (.cells #[.string ⟨#[]⟩, .int .i64 0, .int .i64 0, .int .i64 0, .int .i64 0, .int .i64 0] 37)) w0.heap.size (w.heap.size + 1 + 1) 37 6 [.string ⟨#[]⟩, .int .i64 0, .int .i64 0, .int .i64 0, .int .i64 0, .int .i64 0] from by simpa using hN0)
  clear hN0
  clear hc hb hs
  go_enter Tryz.func50, Tryz.ntmps50
  go_wp2_with fail
  go_upto_region 1 with fail
  go_cut [7] (fun sA W => ∃ (q : Nat) (L : Int), sA = .pointer (some ⟨q, 0, none⟩) ∧ (500 ≤ L ∧ L ≤ 5000) ∧ Hid (w.heap.size + 2 ≤ q) ∧ Hid (Obx W w0.heap.size q 37 6 [.string s, .int .i64 L, .int .i64 0, .int .i64 0, .int .i64 0, .int .i64 0]) ∧ Hid (Obx W w.heap.size w.heap.size 25 4 [.int .i64 l, .int .i64 b, .int .i64 i, .int .i64 h]) ∧ Hid (Obx W w.heap.size (w.heap.size + 1) 37 6 [.string ⟨#[]⟩, .int .i64 0, .int .i64 0, .int .i64 0, .int .i64 0, .int .i64 0]) ∧ Hid (SrcAt W w0.heap.size p ac nc cc (A + 2)) ∧ Hid (Bel w0.heap.size w0 W) ∧ Hid (w.grownBy W (some p)))
  case first =>
    go_region_held3 (fun W => W.cell? ⟨w.heap.size, 0, none⟩ = some (.int .i64 l)) (first | (with_reducible exact hK2) | (with_reducible refine (set6_far w2 (w.heap.size + 1 + 1) w.heap.size 0 _ _ _ _ _ _ ?_).trans hK2; omega) | go_keep)
      (first
        | (go_at_call 36; refine (pick_any w0 _ p nc cc A ac 40 HC.out (HB.out.step (show Bel w.heap.size w _ from (by repeat (first | assumption | exact Bel.refl _ | refine Bel.drew ?_ | refine Bel.drewN ?_ _ | refine Bel.alloc ?_ _ | refine Bel.setCell ?_ (by simp; try omega) _))).1) (HS.out.below (show Bel w.heap.size w _ from (by repeat (first | assumption | exact Bel.refl _ | refine Bel.drew ?_ | refine Bel.drewN ?_ _ | refine Bel.alloc ?_ _ | refine Bel.setCell ?_ (by simp; try omega) _))).1) (by omega) (by omega)).mono ?_; rintro e w2 ⟨r1, rfl, r1a, r1b, hs2, hg2⟩; have r1c : r1 ≤ 39 := (by omega); have v1 : IntKind.i64.wrap (5 * r1) = 5 * r1 := IntWalk.i64_in _ (by omega); have v2 : IntKind.i64.wrap (l + 5 * r1) = l + 5 * r1 := IntWalk.i64_in _ (by omega); have HN := Lib.hid hs2; have HRq := Lib.hid (show Obx w2 w.heap.size (w.heap.size + 1) 37 6 [.string ⟨#[]⟩, .int .i64 0, .int .i64 0, .int .i64 0, .int .i64 0, .int .i64 0] from by refine Obx.grown ?_ hg2 (fun e => by have h1 : p = w.heap.size + 1 := Option.some.inj e; omega); exact Obx.below HR0.out (by repeat (first | exact Below.refl _ _ | refine Below.drew ?_ | refine Below.alloc ?_ (by simp) _))); have HBq := Lib.hid (show Bel w0.heap.size w0 w2 from by refine HG.out _ _ ?_ hg2; exact HB.out.step (show Bel w.heap.size w _ from (by repeat (first | assumption | exact Bel.refl _ | refine Bel.drew ?_ | refine Bel.drewN ?_ _ | refine Bel.alloc ?_ _ | refine Bel.setCell ?_ (by simp; try omega) _))).1); have HGq := Lib.hid (show w.grownBy w2 (some p) from grown_trans_row (grown_of_below (show Bel w.heap.size w _ from (by repeat (first | assumption | exact Bel.refl _ | refine Bel.drew ?_ | refine Bel.drewN ?_ _ | refine Bel.alloc ?_ _ | refine Bel.setCell ?_ (by simp; try omega) _))).1) hg2); have HFq := Lib.hid (show Obx w2 w.heap.size w.heap.size 25 4 [.int .i64 l, .int .i64 b, .int .i64 i, .int .i64 h] from by refine Obx.grown ?_ hg2 (fun e => by have h1 : p = w.heap.size := Option.some.inj e; omega); exact Obx.below (Obx.new w w.heap.size 25 4 #[.int .i64 l, .int .i64 b, .int .i64 i, .int .i64 h] (Nat.le_refl _) rfl) (by repeat (first | exact Below.refl _ _ | refine Below.drew ?_ | refine Below.alloc ?_ (by simp) _))); clear hs2; obtain ⟨hc2, hf2, hl2⟩ := gcell hg2; have hK2 : w2.cell? ⟨w.heap.size, 0, none⟩ = some (.int .i64 l) := (hc2 _ _ (by simp; try omega) (by omega)).trans (by simp [go_sem]); (try (have u9 : w.heap.size + 1 + 1 < w2.heap.size := hl2 _ (by first | (simp; done) | (simp; omega)); have HNq := Lib.hid (show Obx w2 w0.heap.size (w.heap.size + 1 + 1) 37 6 [.string ⟨#[]⟩, .int .i64 0, .int .i64 0, .int .i64 0, .int .i64 0, .int .i64 0] from by refine Obx.grown ?_ hg2 (fun e => by have h1 : p = w.heap.size + 1 + 1 := Option.some.inj e; omega); exact HN0.out); have t0 : w2.cell? ⟨w.heap.size + 1 + 1, 0, none⟩ = some (.string ⟨#[]⟩) := (hc2 _ _ (by first | (simp; done) | (simp; omega)) np2).trans (by simp [go_sem]); have t1 : w2.cell? ⟨w.heap.size + 1 + 1, 1, none⟩ = some (.int .i64 0) := (hc2 _ _ (by first | (simp; done) | (simp; omega)) np2).trans (by simp [go_sem]); have t2 : w2.cell? ⟨w.heap.size + 1 + 1, 2, none⟩ = some (.int .i64 0) := (hc2 _ _ (by first | (simp; done) | (simp; omega)) np2).trans (by simp [go_sem]); have t3 : w2.cell? ⟨w.heap.size + 1 + 1, 3, none⟩ = some (.int .i64 0) := (hc2 _ _ (by first | (simp; done) | (simp; omega)) np2).trans (by simp [go_sem]); have t4 : w2.cell? ⟨w.heap.size + 1 + 1, 4, none⟩ = some (.int .i64 0) := (hc2 _ _ (by first | (simp; done) | (simp; omega)) np2).trans (by simp [go_sem]); have t5 : w2.cell? ⟨w.heap.size + 1 + 1, 5, none⟩ = some (.int .i64 0) := (hc2 _ _ (by first | (simp; done) | (simp; omega)) np2).trans (by simp [go_sem]); have u0 : w2.frozen? ⟨w.heap.size + 1 + 1, 0, none⟩ = false := (hf2 _ _ (by first | (simp; done) | (simp; omega)) np2).trans (by simp [go_sem]); have u1 : w2.frozen? ⟨w.heap.size + 1 + 1, 1, none⟩ = false := (hf2 _ _ (by first | (simp; done) | (simp; omega)) np2).trans (by simp [go_sem]); have u2 : w2.frozen? ⟨w.heap.size + 1 + 1, 2, none⟩ = false := (hf2 _ _ (by first | (simp; done) | (simp; omega)) np2).trans (by simp [go_sem]); have u3 : w2.frozen? ⟨w.heap.size + 1 + 1, 3, none⟩ = false := (hf2 _ _ (by first | (simp; done) | (simp; omega)) np2).trans (by simp [go_sem]); have u4 : w2.frozen? ⟨w.heap.size + 1 + 1, 4, none⟩ = false := (hf2 _ _ (by first | (simp; done) | (simp; omega)) np2).trans (by simp [go_sem]); have u5 : w2.frozen? ⟨w.heap.size + 1 + 1, 5, none⟩ = false := (hf2 _ _ (by first | (simp; done) | (simp; omega)) np2).trans (by simp [go_sem]))); clear hc2 hf2 hl2)
        | (go_at_call 90; refine (l00Min_l _ _ _).mono ?_; rintro e w3 ⟨rfl, rfl⟩))
    all_goals
      go_wp2_with fail
      go_meet
    · have hh := HRq.out.lt.2
      exact ⟨w2.heap.size, min 5000 (l + 5 * r1), rfl, by omega, Lib.hid (by omega), Lib.hid ((Obx.new w2 w0.heap.size 37 6 #[.string s, .int .i64 (min 5000 (l + 5 * r1)), .int .i64 0, .int .i64 0, .int .i64 0, .int .i64 0] HBq.out.2 rfl)), Lib.hid (HFq.out.alloc _), Lib.hid (HRq.out.alloc _), Lib.hid (HN.out.alloc _), Lib.hid (HBq.out.alloc _), Lib.hid (grown_alloc_l HGq.out _)⟩
    · have hh := HRq.out.lt.2
      exact ⟨w2.heap.size, min 5000 (l + 5 * r1), rfl, by omega, Lib.hid (by omega), Lib.hid ((Obx.new w2 w0.heap.size 37 6 #[.string s, .int .i64 (min 5000 (l + 5 * r1)), .int .i64 0, .int .i64 0, .int .i64 0, .int .i64 0] HBq.out.2 rfl)), Lib.hid (HFq.out.alloc _), Lib.hid (HRq.out.alloc _), Lib.hid (HN.out.alloc _), Lib.hid (HBq.out.alloc _), Lib.hid (grown_alloc_l HGq.out _)⟩
    · exact ⟨w.heap.size + 1 + 1, min 5000 (l + 5 * r1), rfl, by omega, Lib.hid (Nat.le_refl _), Lib.hid (Obx.set6 HNq.out), Lib.hid (HFq.out.grown (set6_grown _ _ _ _ _ _ _ _) (fun e => by have h1 : w.heap.size + 1 + 1 = w.heap.size := Option.some.inj e; omega)), Lib.hid (HRq.out.grown (set6_grown _ _ _ _ _ _ _ _) (fun e => by have h1 : w.heap.size + 1 + 1 = w.heap.size + 1 := Option.some.inj e; omega)), Lib.hid (HN.out.grown (set6_grown _ _ _ _ _ _ _ _) (fun e => by have h1 : w.heap.size + 1 + 1 = p := Option.some.inj e; omega)), Lib.hid (HBq.out.grown (set6_grown _ _ _ _ _ _ _ _) (fun k e => by have h1 : w.heap.size + 1 + 1 = k := Option.some.inj e; have := HB.out.2; omega)), Lib.hid (grown_new_l HGq.out (set6_grown _ _ _ _ _ _ _ _) (by omega))⟩
  case rest =>
    obtain ⟨q, L, rfl, hL, hq, hLa, hFo, hRe, hSr, hBw, hGw⟩ := hcut
    have hqx : q ≠ w.heap.size := by have := hq.out; omega
    have kF : wc.cell? ⟨w.heap.size, 1, none⟩ = some (.int .i64 b) := hFo.out.cell 1 (by omega)
    have HSd := Lib.hid (show SrcAt wc.drew w0.heap.size p ac nc cc (A + 2) from hSr.out)
    have HFd := Lib.hid (show Obx wc.drew w.heap.size w.heap.size 25 4 [.int .i64 l, .int .i64 b, .int .i64 i, .int .i64 h] from hFo.out)
    go_wp2_with fail
    go_region_held3 (fun W => W.cell? ⟨w.heap.size, 1, none⟩ = some (.int .i64 b)) (first | (with_reducible exact hK2) | (with_reducible exact far1 hqx hK2) | go_keep)
      (first
        | (go_at_call 36; refine (pick_any w0 _ p nc cc (A + 2) ac 40 HC.out hBw.out.drew HSd.out (by omega) (by omega)).mono ?_; rintro e w3 ⟨r3, rfl, r3a, r3b, hs3, hg3⟩; have r3c : r3 ≤ 39 := (by omega); have v1 : IntKind.i64.wrap (5 * r3) = 5 * r3 := IntWalk.i64_in _ (by omega); have v2 : IntKind.i64.wrap (b + 5 * r3) = b + 5 * r3 := IntWalk.i64_in _ (by omega); have v3 : IntKind.i64.wrap (b + 5 * r3 - 100) = b + 5 * r3 - 100 := IntWalk.i64_in _ (by omega); have HN3 := Lib.hid (And.intro hs3 (grown_from_drew hg3)); have hK2 : w3.cell? ⟨w.heap.size, 1, none⟩ = some (.int .i64 b) := Obx.cell (HFd.out.grown hg3 (fun e => by have h1 : p = w.heap.size := Option.some.inj e; omega)) 1 (by omega); have hx3 := hLa.out.grown HN3.out.2 (fun e => by have h1 : p = q := Option.some.inj e; have := hq.out; omega); have t3 : w3.cell? ⟨q, 2, none⟩ = some (.int .i64 0) := Obx.cell hx3 2 (by omega); have u3 := Obx.fr hx3 2; clear hs3 hg3 hx3)
        | (go_at_call 91; refine (l00Max_l _ _ _).mono ?_; rintro e wM ⟨rfl, rfl⟩)
        | (go_at_call 90; refine (l00Min_l _ _ _).mono ?_; rintro e wM ⟨rfl, rfl⟩))
    clear kF HSd HFd hK2 t3 u3 v1 v2 v3
    obtain ⟨V3, hV3⟩ : ∃ V : Int, V = (min 5000 (max 500 (b + 5 * r3 - 100))) := ⟨_, rfl⟩
    have hV32 : 500 ≤ V3 ∧ V3 ≤ 5000 := by omega
    rw [← hV3]
    replace hLa := Lib.hid (show Obx (w3.setCell ⟨q, 2, none⟩ (.int .i64 V3)) w0.heap.size q 37 6 [.string s, .int .i64 L, .int .i64 V3, .int .i64 0, .int .i64 0, .int .i64 0] from (hLa.out.grown HN3.out.2 (fun e => by have h1 : p = q := Option.some.inj e; have := hq.out; omega)).set 2 (.int .i64 V3))
    replace hFo := Lib.hid ((hFo.out.grown HN3.out.2 (fun e => by have h1 : p = w.heap.size := Option.some.inj e; omega)).setOther (q' := q) 2 (.int .i64 V3) (by have := hq.out; omega))
    replace hRe := Lib.hid ((hRe.out.grown HN3.out.2 (fun e => by have h1 : p = w.heap.size + 1 := Option.some.inj e; omega)).setOther (q' := q) 2 (.int .i64 V3) (by have := hq.out; omega))
    replace hSr := Lib.hid (HN3.out.1.set (q := q) (j := 2) (u := .int .i64 V3) (by have := hq.out; omega))
    replace hBw := Lib.hid ((HG.out _ _ hBw.out HN3.out.2).setCell (p := ⟨q, 2, none⟩) (by show w0.heap.size ≤ q; have := HB.out.2; have := hq.out; omega) (.int .i64 V3))
    replace hGw := Lib.hid (grown_new_l (grown_trans_row hGw.out HN3.out.2) (setCell_grown w3 q 2 (.int .i64 V3)) (by have := hq.out; omega))
    clear HN3
    generalize w3.setCell ⟨q, 2, none⟩ (.int .i64 V3) = wd3 at hLa hFo hRe hSr hBw hGw ⊢
    have kF : wd3.cell? ⟨w.heap.size, 2, none⟩ = some (.int .i64 i) := hFo.out.cell 2 (by omega)
    have HSd := Lib.hid (show SrcAt wd3.drew w0.heap.size p ac nc cc (A + 4) from hSr.out)
    have HFd := Lib.hid (show Obx wd3.drew w.heap.size w.heap.size 25 4 [.int .i64 l, .int .i64 b, .int .i64 i, .int .i64 h] from hFo.out)
    go_wp2_with fail
    go_region_held3 (fun W => W.cell? ⟨w.heap.size, 2, none⟩ = some (.int .i64 i)) (first | (with_reducible exact hK2) | (with_reducible exact far1 hqx hK2) | go_keep)
      (first
        | (go_at_call 36; refine (pick_any w0 _ p nc cc (A + 4) ac 40 HC.out hBw.out.drew HSd.out (by omega) (by omega)).mono ?_; rintro e w4 ⟨r4, rfl, r4a, r4b, hs4, hg4⟩; have r4c : r4 ≤ 39 := (by omega); have v1 : IntKind.i64.wrap (5 * r4) = 5 * r4 := IntWalk.i64_in _ (by omega); have v2 : IntKind.i64.wrap (i + 5 * r4) = i + 5 * r4 := IntWalk.i64_in _ (by omega); have v3 : IntKind.i64.wrap (i + 5 * r4 - 100) = i + 5 * r4 - 100 := IntWalk.i64_in _ (by omega); have HN4 := Lib.hid (And.intro hs4 (grown_from_drew hg4)); have hK2 : w4.cell? ⟨w.heap.size, 2, none⟩ = some (.int .i64 i) := Obx.cell (HFd.out.grown hg4 (fun e => by have h1 : p = w.heap.size := Option.some.inj e; omega)) 2 (by omega); have hx4 := hLa.out.grown HN4.out.2 (fun e => by have h1 : p = q := Option.some.inj e; have := hq.out; omega); have t4 : w4.cell? ⟨q, 3, none⟩ = some (.int .i64 0) := Obx.cell hx4 3 (by omega); have u4 := Obx.fr hx4 3; clear hs4 hg4 hx4)
        | (go_at_call 91; refine (l00Max_l _ _ _).mono ?_; rintro e wM ⟨rfl, rfl⟩)
        | (go_at_call 90; refine (l00Min_l _ _ _).mono ?_; rintro e wM ⟨rfl, rfl⟩))
    clear kF HSd HFd hK2 t4 u4 v1 v2 v3
    obtain ⟨V4, hV4⟩ : ∃ V : Int, V = (min 5000 (max 500 (i + 5 * r4 - 100))) := ⟨_, rfl⟩
    have hV42 : 500 ≤ V4 ∧ V4 ≤ 5000 := by omega
    rw [← hV4]
    replace hLa := Lib.hid (show Obx (w4.setCell ⟨q, 3, none⟩ (.int .i64 V4)) w0.heap.size q 37 6 [.string s, .int .i64 L, .int .i64 V3, .int .i64 V4, .int .i64 0, .int .i64 0] from (hLa.out.grown HN4.out.2 (fun e => by have h1 : p = q := Option.some.inj e; have := hq.out; omega)).set 3 (.int .i64 V4))
    replace hFo := Lib.hid ((hFo.out.grown HN4.out.2 (fun e => by have h1 : p = w.heap.size := Option.some.inj e; omega)).setOther (q' := q) 3 (.int .i64 V4) (by have := hq.out; omega))
    replace hRe := Lib.hid ((hRe.out.grown HN4.out.2 (fun e => by have h1 : p = w.heap.size + 1 := Option.some.inj e; omega)).setOther (q' := q) 3 (.int .i64 V4) (by have := hq.out; omega))
    replace hSr := Lib.hid (HN4.out.1.set (q := q) (j := 3) (u := .int .i64 V4) (by have := hq.out; omega))
    replace hBw := Lib.hid ((HG.out _ _ hBw.out HN4.out.2).setCell (p := ⟨q, 3, none⟩) (by show w0.heap.size ≤ q; have := HB.out.2; have := hq.out; omega) (.int .i64 V4))
    replace hGw := Lib.hid (grown_new_l (grown_trans_row hGw.out HN4.out.2) (setCell_grown w4 q 3 (.int .i64 V4)) (by have := hq.out; omega))
    clear HN4
    generalize w4.setCell ⟨q, 3, none⟩ (.int .i64 V4) = wd4 at hLa hFo hRe hSr hBw hGw ⊢
    have kF : wd4.cell? ⟨w.heap.size, 3, none⟩ = some (.int .i64 h) := hFo.out.cell 3 (by omega)
    have HSd := Lib.hid (show SrcAt wd4.drew w0.heap.size p ac nc cc (A + 6) from hSr.out)
    have HFd := Lib.hid (show Obx wd4.drew w.heap.size w.heap.size 25 4 [.int .i64 l, .int .i64 b, .int .i64 i, .int .i64 h] from hFo.out)
    go_wp2_with fail
    go_region_held3 (fun W => W.cell? ⟨w.heap.size, 3, none⟩ = some (.int .i64 h)) (first | (with_reducible exact hK2) | (with_reducible exact far1 hqx hK2) | go_keep)
      (first
        | (go_at_call 36; refine (pick_any w0 _ p nc cc (A + 6) ac 40 HC.out hBw.out.drew HSd.out (by omega) (by omega)).mono ?_; rintro e w5 ⟨r5, rfl, r5a, r5b, hs5, hg5⟩; have r5c : r5 ≤ 39 := (by omega); have v1 : IntKind.i64.wrap (5 * r5) = 5 * r5 := IntWalk.i64_in _ (by omega); have v2 : IntKind.i64.wrap (h + 5 * r5) = h + 5 * r5 := IntWalk.i64_in _ (by omega); have v3 : IntKind.i64.wrap (h + 5 * r5 - 100) = h + 5 * r5 - 100 := IntWalk.i64_in _ (by omega); have HN5 := Lib.hid (And.intro hs5 (grown_from_drew hg5)); have hK2 : w5.cell? ⟨w.heap.size, 3, none⟩ = some (.int .i64 h) := Obx.cell (HFd.out.grown hg5 (fun e => by have h1 : p = w.heap.size := Option.some.inj e; omega)) 3 (by omega); have hx5 := hLa.out.grown HN5.out.2 (fun e => by have h1 : p = q := Option.some.inj e; have := hq.out; omega); have t5 : w5.cell? ⟨q, 4, none⟩ = some (.int .i64 0) := Obx.cell hx5 4 (by omega); have u5 := Obx.fr hx5 4; clear hs5 hg5 hx5)
        | (go_at_call 91; refine (l00Max_l _ _ _).mono ?_; rintro e wM ⟨rfl, rfl⟩)
        | (go_at_call 90; refine (l00Min_l _ _ _).mono ?_; rintro e wM ⟨rfl, rfl⟩))
    clear kF HSd HFd hK2 t5 u5 v1 v2 v3
    obtain ⟨V5, hV5⟩ : ∃ V : Int, V = (min 5000 (max 500 (h + 5 * r5 - 100))) := ⟨_, rfl⟩
    have hV52 : 500 ≤ V5 ∧ V5 ≤ 5000 := by omega
    rw [← hV5]
    replace hLa := Lib.hid (show Obx (w5.setCell ⟨q, 4, none⟩ (.int .i64 V5)) w0.heap.size q 37 6 [.string s, .int .i64 L, .int .i64 V3, .int .i64 V4, .int .i64 V5, .int .i64 0] from (hLa.out.grown HN5.out.2 (fun e => by have h1 : p = q := Option.some.inj e; have := hq.out; omega)).set 4 (.int .i64 V5))
    replace hFo := Lib.hid ((hFo.out.grown HN5.out.2 (fun e => by have h1 : p = w.heap.size := Option.some.inj e; omega)).setOther (q' := q) 4 (.int .i64 V5) (by have := hq.out; omega))
    replace hRe := Lib.hid ((hRe.out.grown HN5.out.2 (fun e => by have h1 : p = w.heap.size + 1 := Option.some.inj e; omega)).setOther (q' := q) 4 (.int .i64 V5) (by have := hq.out; omega))
    replace hSr := Lib.hid (HN5.out.1.set (q := q) (j := 4) (u := .int .i64 V5) (by have := hq.out; omega))
    replace hBw := Lib.hid ((HG.out _ _ hBw.out HN5.out.2).setCell (p := ⟨q, 4, none⟩) (by show w0.heap.size ≤ q; have := HB.out.2; have := hq.out; omega) (.int .i64 V5))
    replace hGw := Lib.hid (grown_new_l (grown_trans_row hGw.out HN5.out.2) (setCell_grown w5 q 4 (.int .i64 V5)) (by have := hq.out; omega))
    clear HN5
    generalize w5.setCell ⟨q, 4, none⟩ (.int .i64 V5) = wd5 at hLa hFo hRe hSr hBw hGw ⊢
    go_wp2_with fail
    refine (pick_any w0 _ p nc cc (A + 8) ac 60 HC.out hBw.out hSr.out (by omega) (by omega)).mono ?_
    rintro e w6 ⟨r6, rfl, r6a, r6b, hs6, hg6⟩
    have r6c : r6 ≤ 59 := by omega
    replace hLa := Lib.hid (hLa.out.grown hg6 (fun e => by have h1 : p = q := Option.some.inj e; have := hq.out; omega))
    replace hRe := Lib.hid (hRe.out.grown hg6 (fun e => by have h1 : p = w.heap.size + 1 := Option.some.inj e; omega))
    replace hBw := Lib.hid (HG.out _ _ hBw.out hg6)
    replace hGw := Lib.hid (grown_trans_row hGw.out hg6)
    have hSr := Lib.hid hs6
    obtain ⟨⟨t0, t1, t2, t3, t4, t5⟩, ⟨u0, u1, u2, u3, u4, u5⟩, u9⟩ := hLa.out.six
    obtain ⟨⟨s0, s1, s2, s3, s4, s5⟩, ⟨y0, y1, y2, y3, y4, y5⟩, y9⟩ := hRe.out.six
    have n1 : ¬ (q = w.heap.size + 1) := by have := hq.out; omega
    have n2 : ¬ (w.heap.size + 1 = q) := by have := hq.out; omega
    clear hs6 hg6
    go_wp2_with fail
    refine bodyPost_ret (v := .agg #[.string s, .int .i64 L, .int .i64 V3, .int .i64 V4, .int .i64 V5, .int .i64 (10 * r6)]) (by simp [results, Tryz.results50, go_sem, s0, s1, s2, s3, s4, s5]; exact ⟨hV3.symm, hV4.symm, hV5.symm⟩) rfl ?_
    refine ⟨_, _, _, _, _, rfl, ?_, ?_, ?_, ?_⟩
    · omega
    · exact (hSr.out.set (q := q) (j := 5) (u := .int .i64 (10 * r6)) (by have := hq.out; omega)).grown (set6_grown _ (w.heap.size + 1) _ _ _ _ _ _) (fun e => by have h1 : w.heap.size + 1 = p := Option.some.inj e; omega)
    · exact (hBw.out.setCell (p := ⟨q, 5, none⟩) (by show w0.heap.size ≤ q; have := HB.out.2; have := hq.out; omega) (.int .i64 (10 * r6))).grown (set6_grown _ (w.heap.size + 1) _ _ _ _ _ _) (fun k e => by have h1 : w.heap.size + 1 = k := Option.some.inj e; have := HB.out.2; omega)
    · exact grown_new_l (grown_new_l hGw.out (setCell_grown w6 q 5 (.int .i64 (10 * r6))) (by have := hq.out; omega)) (set6_grown _ (w.heap.size + 1) _ _ _ _ _ _) (by omega)
def derby : ByteArray := ⟨#[100, 101, 114, 98, 121]⟩
/-- A drawn last is valid. -/
def A2LastEnd (w : World) (e : Ending) (w' : World) : Prop :=
  ∃ l b i h q : Int, e = .returned (.agg #[.string derby, .int .i64 l, .int .i64 b, .int .i64 i, .int .i64 h, .int .i64 q]) ∧ (500 ≤ l ∧ l ≤ 5000 ∧ 500 ≤ b ∧ b ≤ 5000 ∧ 500 ≤ i ∧ i ≤ 5000 ∧ 500 ≤ h ∧ h ≤ 5000 ∧ 0 ≤ q ∧ q ≤ 590) ∧ Below w.heap.size w w'
end Go.Proofs.YthemlamdchcicaaGreatDoor

namespace Go.Proofs.YthemlamdchcicaaGreatDoor
open Go.ChangeShapes Go.WideShapes Go.ChangeAt Go.RowKit Go.Deep

/-- A drawn foot. -/
def A2FootEnd (w : World) (e : Ending) (w' : World) : Prop :=
  ∃ l b i h : Int, e = .returned (.agg #[.int .i64 l, .int .i64 b, .int .i64 i, .int .i64 h]) ∧ (2200 ≤ l ∧ l ≤ 2845 ∧ 2100 ≤ b ∧ b ≤ 2595 ∧ 2200 ≤ i ∧ i ≤ 2695 ∧ 3000 ≤ h ∧ h ≤ 3495) ∧ Below w.heap.size w w'
set_option maxRecDepth 100000 in
set_option maxHeartbeats 1600000 in
theorem a2Foot_any (w : World) (nc cc : Nat) (ac : Option Addr) (hc : CodeAt w ac nc) : Calls Tryz.prog 5 #[.slice ac nc cc] w (A2FootEnd w) := by
  obtain ⟨W0, hW0⟩ : ∃ W, w.alloc (.cells #[.int .i64 0, .int .i64 0, .int .i64 0, .int .i64 0] 25) = W := ⟨_, rfl⟩
  have HR0 := Lib.hid (show Obx W0 w.heap.size w.heap.size 25 4 [.int .i64 0, .int .i64 0, .int .i64 0, .int .i64 0] by rw [← hW0]; exact Obx.new w w.heap.size 25 4 #[.int .i64 0, .int .i64 0, .int .i64 0, .int .i64 0] (Nat.le_refl _) rfl)
  have HW0 := Lib.hid (show Below w.heap.size w W0 by rw [← hW0]; exact (Below.refl _ _).alloc (Nat.le_refl _) _)
  have HW := Lib.hid hW0
  have HC := Lib.hid (hc.below HW0.out)
  clear hc hW0
  go_enter Tryz.func5, Tryz.ntmps5
  go_wp2_with fail
  rw [HW.out]
  refine (l00From_any W0 W0.heap.size ac nc cc (Nat.le_refl _)).mono ?_
  rintro e w1 ⟨rfl, hs1, hb1⟩
  have HS1 := Lib.hid hs1
  have HB1 := Lib.hid (Bel.of hb1)
  clear hs1 hb1
  go_wp2_with fail
  refine (l02Draw_any W0 w1 W0.heap.size nc cc 0 ac HC.out HB1.out HS1.out (by omega)).mono ?_
  rintro e w2 ⟨l, b, i, h, rfl, hbd, _, hb2⟩
  have HO := Lib.hid (show Obx w2 w.heap.size w.heap.size 25 4 [.int .i64 0, .int .i64 0, .int .i64 0, .int .i64 0] from own_below HR0.out hb2.1)
  have HB2 := Lib.hid (HW0.out.trans (hb2.1.mono HW0.out.size))
  have HBd := Lib.hid hbd
  have n0 : w2.cell? ⟨w.heap.size, 0, none⟩ = some (.int .i64 0) := HO.out.cell 0 (by omega)
  have n1 : w2.cell? ⟨w.heap.size, 1, none⟩ = some (.int .i64 0) := HO.out.cell 1 (by omega)
  have n2 : w2.cell? ⟨w.heap.size, 2, none⟩ = some (.int .i64 0) := HO.out.cell 2 (by omega)
  have n3 : w2.cell? ⟨w.heap.size, 3, none⟩ = some (.int .i64 0) := HO.out.cell 3 (by omega)
  have f0 := HO.out.fr 0
  have f1 := HO.out.fr 1
  have f2 := HO.out.fr 2
  have f3 := HO.out.fr 3
  clear hb2 hbd
  go_wp2_with fail
  refine bodyPost_ret (v := .agg #[.int .i64 l, .int .i64 b, .int .i64 i, .int .i64 h]) (by simp [results, Tryz.results5, go_sem, n0, n1, n2, n3]) rfl ?_
  exact ⟨l, b, i, h, rfl, HBd.out, (((((Bel.of HB2.out).setCell (p := ⟨w.heap.size, 0, none⟩) (Nat.le_refl _) _).setCell (p := ⟨w.heap.size, 1, none⟩) (Nat.le_refl _) _).setCell (p := ⟨w.heap.size, 2, none⟩) (Nat.le_refl _) _).setCell (p := ⟨w.heap.size, 3, none⟩) (Nat.le_refl _) _).1⟩
/-- A fit is one. -/
def FitOk (mn mx gi : Int) (ws : List Int) : Prop := (0 ≤ mn ∧ mn ≤ mx ∧ mx ≤ 500) ∧ (0 ≤ gi ∧ gi ≤ 500) ∧ ws.length = 4 ∧ ∀ z ∈ ws, 0 ≤ z ∧ z ≤ 100
set_option maxRecDepth 100000 in
set_option maxHeartbeats 1600000 in
theorem validFit_ok (mn mx gi : Int) (aw : Option Addr) (cw : Nat) (ws : List Int) (w : World) (h : FitOk mn mx gi ws) (hc : CellsAt w aw (ws.map (Value.int .i64))) :
    Calls Tryz.prog 26 #[.agg #[.int .i64 mn, .int .i64 mx, .int .i64 gi, .slice aw 4 cw]] w fun e w' => e = .returned (.bool true) ∧ Below w.heap.size w w' := by
  obtain ⟨⟨h1, h2, h3⟩, ⟨h4, h5⟩, hl, hz⟩ := h
  have i1 : inB mx 0 500 = true := inB_true.2 ⟨by omega, by omega⟩
  have i2 : inB mn 0 mx = true := inB_true.2 ⟨by omega, by omega⟩
  have i3 : inB gi 0 500 = true := inB_true.2 ⟨by omega, by omega⟩
  have ho : outB ws 0 100 = false := outB_false.2 hz
  have HO := Lib.hid (fun W (hb : Below w.heap.size w W) => outside_any aw 4 cw ws 0 100 W hl (by omega) (hc.below hb))
  rw [ho] at HO
  have HB := Lib.hid ((Below.refl w.heap.size w).alloc (Nat.le_refl _) (.cells #[.int .i64 mn, .int .i64 mx, .int .i64 gi, .slice aw 4 cw] 31))
  clear hc hz ho hl
  go_enter Tryz.func26, Tryz.ntmps26
  go_wp2_with (first | (go_at_call 53; refine (within_any _ _ _ _).mono ?_; rintro e w1 ⟨rfl, rfl⟩) | (go_at_call 51; refine (HO.out _ HB.out).mono ?_; rintro e w1 ⟨rfl, hb1⟩; have HB1 := Lib.hid (HB.out.trans (hb1.mono HB.out.size)); clear hb1) | fail)
  go_ret
  exact ⟨rfl, HB1.out⟩
end Go.Proofs.YthemlamdchcicaaGreatDoor
