/-
  Contracts of the draws of pieces. No condition of its own. (l10New_any: printed by bin/gen_cutdraw.py)
-/
import Derived.Test.YthemlamdchcicaaDoorSrc
import Derived.Test.YthemlamdchcicaaDoorBox
import Derived.Test.YthemlamdchcicaaDoorHideR
import Derived.Deep.RegionHeld3
import Derived.Deep.DeepCutAuto
import Derived.Deep.CutBlock
namespace Go.Proofs.YthemlamdchcicaaDoor
open Go.ChangeShapes Go.WideShapes Go.ChangeAt Go.RowKit Go.Deep

theorem SrcAt.set {W : World} {B p nc cc A q j : Nat} {ac : Option Addr} {u : Value} (h : SrcAt W B p ac nc cc A) (hq : q ≠ p) : SrcAt (W.setCell ⟨q, j, none⟩ u) B p ac nc cc A :=
  h.grown (setCell_grown W q j u) (fun e => hq (by simpa using e))
theorem grown_new {w w1 w2 : World} {row : Option Nat} {q : Nat} (h : w.grownBy w1 row) (k : w1.grownBy w2 (some q)) (hq : w.heap.size ≤ q) : w.grownBy w2 row :=
  ⟨k.os.trans h.os, k.tape.trans h.tape, k.output.trans h.output, Nat.le_trans h.size k.size, fun i hi hne => (k.block i (Nat.lt_of_lt_of_le hi h.size) (fun e => by have h1 : i = q := (by simpa using e); omega)).trans (h.block i hi hne)⟩
theorem grown_alloc {w w1 : World} {row : Option Nat} (h : w.grownBy w1 row) (o : Obj) : w.grownBy (w1.alloc o) row := by
  refine ⟨h.os, h.tape, h.output, Nat.le_trans h.size (by simp), fun i hi hne => ?_⟩
  have := (World.grownBy_alloc w1 o none).block i (Nat.lt_of_lt_of_le hi h.size) (by simp)
  exact this.trans (h.block i hi hne)
theorem grown_set_new {w w1 : World} {row : Option Nat} (h : w.grownBy w1 row) {q : Nat} (hq : w.heap.size ≤ q) (j : Nat) (u : Value) : w.grownBy (w1.setCell ⟨q, j, none⟩ u) row := grown_new h (setCell_grown w1 q j u) hq
theorem grown_more {w w1 w2 : World} {p : Nat} (h : w.grownBy w1 (some p)) (k : w1.grownBy w2 (some p)) : w.grownBy w2 (some p) := grown_trans_row h k
theorem grown_drew {w w1 : World} {row : Option Nat} (h : w.grownBy w1 row) : w.grownBy w1.drew row := ⟨h.os, h.tape, h.output, h.size, h.block⟩
/-- A drawn piece is valid. -/
def CutEnd (w0 w : World) (p : Nat) (ac : Option Addr) (nc cc A : Nat) (e : Ending) (w' : World) : Prop :=
  ∃ (x y q v : Int), e = .returned (.agg #[.int .i64 x, .int .i64 y, .int .i64 q, .int .i64 v]) ∧ cutB x y q v = true ∧ SrcAt w' w0.heap.size p ac nc cc A ∧ w.grownBy w' (some p)
set_option maxRecDepth 100000 in
set_option maxHeartbeats 3200000 in
theorem l10New_any (w0 w : World) (p nc cc A : Nat) (ac : Option Addr) (hc : CodeAt w0 ac nc) (hb : Bel w0.heap.size w0 w) (hs : SrcAt w w0.heap.size p ac nc cc A) (hA : A ≤ 100000) :
    Calls Tryd.prog 28 #[.pointer (some ⟨p, 0, none⟩)] w (CutEnd w0 w p ac nc cc (A + 8)) := by
  obtain ⟨hp1, hp2⟩ := hs.base
  have HC := Lib.hid hc
  have HG := Lib.hid (fun (W W' : World) (h : Bel w0.heap.size w0 W) (hg : W.grownBy W' (some p)) => h.grown hg (fun k h => by cases h; exact hp1))
  have HS0 := Lib.hid (hs.alloc (.cells #[.int .i64 0, .int .i64 0, .int .i64 0, .int .i64 0] 40))
  have HB0 := Lib.hid (hb.alloc (.cells #[.int .i64 0, .int .i64 0, .int .i64 0, .int .i64 0] 40))
  have HR0 := Lib.hid (Obx.new w w.heap.size 40 4 #[.int .i64 0, .int .i64 0, .int .i64 0, .int .i64 0] (Nat.le_refl _) rfl)
  have HK0 := Lib.hid (grown_alloc (World.grownBy.refl w (some p)) (.cells #[.int .i64 0, .int .i64 0, .int .i64 0, .int .i64 0] 40))
  clear hc hb hs
  go_enter Tryd.func28, Tryd.ntmps28
  go_wp2_with fail
  refine (pick_any w0 _ p nc cc A ac 3 HC.out HB0.out HS0.out (by omega) (by omega)).mono ?_
  rintro e w1 ⟨r0, rfl, r0a, r0b, hs1, hg1⟩
  have HR1 := Lib.hid (HR0.out.grown hg1 (fun e => by have h1 : p = w.heap.size := (by simpa using e); omega))
  have HP1 := Lib.hid hs1.base.2
  have hW1 : w.heap.size < w1.heap.size := HR1.out.lt.2
  obtain ⟨q, hq⟩ : ∃ q, w1.heap.size = q := ⟨_, rfl⟩
  obtain ⟨w2, hw2⟩ : ∃ W, w1.alloc (.cells #[.int .i64 (1 + r0), .int .i64 0, .int .i64 0, .int .i64 0] 40) = W := ⟨_, rfl⟩
  have HS2 := Lib.hid (show SrcAt w2 w0.heap.size p ac nc cc (A + 2) by rw [← hw2]; exact hs1.alloc _)
  have HB2 := Lib.hid (show Bel w0.heap.size w0 w2 by rw [← hw2]; exact (HG.out _ _ HB0.out hg1).alloc _)
  have HF2 := Lib.hid (show Obx w2 w.heap.size q 40 4 [.int .i64 (1 + r0), .int .i64 0, .int .i64 0, .int .i64 0] by rw [← hw2, ← hq]; exact Obx.new w1 w.heap.size 40 4 #[.int .i64 (1 + r0), .int .i64 0, .int .i64 0, .int .i64 0] (by omega) rfl)
  have HR2 := Lib.hid (show Obx w2 w.heap.size w.heap.size 40 4 [.int .i64 0, .int .i64 0, .int .i64 0, .int .i64 0] by rw [← hw2]; exact HR1.out.alloc _)
  have HK2 := Lib.hid (show w.grownBy w2 (some p) by rw [← hw2]; exact grown_alloc (grown_more HK0.out hg1) _)
  have hne : p ≠ q := by have := HP1.out; omega
  have hnr : p ≠ w.heap.size := by omega
  have hqr : q ≠ w.heap.size := by omega
  have HW2 := Lib.hid hw2
  clear hs1 hg1 hw2
  go_wp2_with fail
  rw [HW2.out]
  clear hq
  refine (pick_any w0 _ p nc cc (A + 2) ac 3 HC.out HB2.out HS2.out (by omega) (by omega)).mono ?_
  rintro e w3 ⟨r1, rfl, r1a, r1b, hs3, hg3⟩
  have hF3 := HF2.out.grown hg3 (fun e => hne (by simpa using e))
  have hR3 := HR2.out.grown hg3 (fun e => hnr (by simpa using e))
  have hqw : w.heap.size ≤ q := HF2.out.lt.1
  have k1 : w3.cell? ⟨q, 1, none⟩ = some (.int .i64 0) := hF3.cell 1 (by omega)
  have f1 := hF3.fr 1
  have HS4 := Lib.hid (hs3.set (q := q) (j := 1) (u := .int .i64 (1 + r1)) (fun e => hne e.symm))
  have HF4 := Lib.hid (show Obx (w3.setCell ⟨q, 1, none⟩ (.int .i64 (1 + r1))) w.heap.size q 40 4 [.int .i64 (1 + r0), .int .i64 (1 + r1), .int .i64 0, .int .i64 0] from hF3.set 1 _)
  have HR4 := Lib.hid (hR3.setOther (q' := q) 1 (.int .i64 (1 + r1)) hqr)
  have HK4 := Lib.hid (grown_set_new (grown_more HK2.out hg3) hqw 1 (.int .i64 (1 + r1)))
  have HB4 := Lib.hid ((HG.out _ _ HB2.out hg3).setCell (p := ⟨q, 1, none⟩) (by have := hqw; show w0.heap.size ≤ q; omega) (.int .i64 (1 + r1)))
  clear hs3 hg3 hF3 hR3 HS2 HB2 HF2 HR2 HK2
  go_upto_region 3 with fail
  generalize w3.setCell ⟨q, 1, none⟩ (.int .i64 (1 + r1)) = w4 at HS4 HF4 HR4 HK4 HB4 ⊢
  clear k1 f1 hqw
  go_wp2_with fail
  refine (pick_any w0 _ p nc cc (A + 2 + 2) ac 3 HC.out HB4.out HS4.out (by omega) (by omega)).mono ?_
  rintro e w5 ⟨r2, rfl, r2a, r2b, hs3, hg3⟩
  have hF3 := HF4.out.grown hg3 (fun e => hne (by simpa using e))
  have hR3 := HR4.out.grown hg3 (fun e => hnr (by simpa using e))
  have hqw : w.heap.size ≤ q := HF4.out.lt.1
  have k1 : w5.cell? ⟨q, 2, none⟩ = some (.int .i64 0) := hF3.cell 2 (by omega)
  have f1 := hF3.fr 2
  have HS6 := Lib.hid (hs3.set (q := q) (j := 2) (u := .int .i64 (1 + r2)) (fun e => hne e.symm))
  have HF6 := Lib.hid (show Obx (w5.setCell ⟨q, 2, none⟩ (.int .i64 (1 + r2))) w.heap.size q 40 4 [.int .i64 (1 + r0), .int .i64 (1 + r1), .int .i64 (1 + r2), .int .i64 0] from hF3.set 2 _)
  have HR6 := Lib.hid (hR3.setOther (q' := q) 2 (.int .i64 (1 + r2)) hqr)
  have HK6 := Lib.hid (grown_set_new (grown_more HK4.out hg3) hqw 2 (.int .i64 (1 + r2)))
  have HB6 := Lib.hid ((HG.out _ _ HB4.out hg3).setCell (p := ⟨q, 2, none⟩) (by have := hqw; show w0.heap.size ≤ q; omega) (.int .i64 (1 + r2)))
  clear hs3 hg3 hF3 hR3 HS4 HB4 HF4 HR4 HK4
  go_upto_region 4 with fail
  generalize w5.setCell ⟨q, 2, none⟩ (.int .i64 (1 + r2)) = w6 at HS6 HF6 HR6 HK6 HB6 ⊢
  clear k1 f1 hqw
  go_wp2_with fail
  refine (pick_any w0 _ p nc cc (A + 2 + 2 + 2) ac 20 HC.out HB6.out HS6.out (by omega) (by omega)).mono ?_
  rintro e w7 ⟨r3, rfl, r3a, r3b, hs3, hg3⟩
  have hF3 := HF6.out.grown hg3 (fun e => hne (by simpa using e))
  have hR3 := HR6.out.grown hg3 (fun e => hnr (by simpa using e))
  have hqw : w.heap.size ≤ q := HF6.out.lt.1
  have k1 : w7.cell? ⟨q, 3, none⟩ = some (.int .i64 0) := hF3.cell 3 (by omega)
  have f1 := hF3.fr 3
  have HS8 := Lib.hid (hs3.set (q := q) (j := 3) (u := .int .i64 r3) (fun e => hne e.symm))
  have HF8 := Lib.hid (show Obx (w7.setCell ⟨q, 3, none⟩ (.int .i64 r3)) w.heap.size q 40 4 [.int .i64 (1 + r0), .int .i64 (1 + r1), .int .i64 (1 + r2), .int .i64 r3] from hF3.set 3 _)
  have HR8 := Lib.hid (hR3.setOther (q' := q) 3 (.int .i64 r3) hqr)
  have HK8 := Lib.hid (grown_set_new (grown_more HK6.out hg3) hqw 3 (.int .i64 r3))
  have HB8 := Lib.hid ((HG.out _ _ HB6.out hg3).setCell (p := ⟨q, 3, none⟩) (by have := hqw; show w0.heap.size ≤ q; omega) (.int .i64 r3))
  clear hs3 hg3 hF3 hR3 HS6 HB6 HF6 HR6 HK6
  go_upto_region 5 with fail
  generalize w7.setCell ⟨q, 3, none⟩ (.int .i64 r3) = w8 at HS8 HF8 HR8 HK8 HB8 ⊢
  clear k1 f1 hqw
  have m0 : w8.cell? ⟨q, 0, none⟩ = some (.int .i64 (1 + r0)) := HF8.out.cell 0 (by omega)
  have m1 : w8.cell? ⟨q, 1, none⟩ = some (.int .i64 (1 + r1)) := HF8.out.cell 1 (by omega)
  have m2 : w8.cell? ⟨q, 2, none⟩ = some (.int .i64 (1 + r2)) := HF8.out.cell 2 (by omega)
  have m3 : w8.cell? ⟨q, 3, none⟩ = some (.int .i64 r3) := HF8.out.cell 3 (by omega)
  have n0 : w8.cell? ⟨w.heap.size, 0, none⟩ = some (.int .i64 0) := HR8.out.cell 0 (by omega)
  have n1 : w8.cell? ⟨w.heap.size, 1, none⟩ = some (.int .i64 0) := HR8.out.cell 1 (by omega)
  have n2 : w8.cell? ⟨w.heap.size, 2, none⟩ = some (.int .i64 0) := HR8.out.cell 2 (by omega)
  have n3 : w8.cell? ⟨w.heap.size, 3, none⟩ = some (.int .i64 0) := HR8.out.cell 3 (by omega)
  have fr := HR8.out.fr
  have f0 := fr 0
  have f1 := fr 1
  have f2 := fr 2
  have f3 := fr 3
  clear fr
  go_wp2_with fail
  refine bodyPost_ret (v := .agg #[.int .i64 (1 + r0), .int .i64 (1 + r1), .int .i64 (1 + r2), .int .i64 r3]) (by simp [results, Tryd.results28, go_sem, n0, n1, n2, n3]) rfl ?_
  exact ⟨1 + r0, 1 + r1, 1 + r2, r3, rfl, by rw [cutB_iff]; omega, (((HS8.out.set (by omega)).set (by omega)).set (by omega)).set (by omega), grown_set_new (grown_set_new (grown_set_new (grown_set_new HK8.out (Nat.le_refl _) 0 _) (Nat.le_refl _) 1 _) (Nat.le_refl _) 2 _) (Nat.le_refl _) 3 _⟩
end Go.Proofs.YthemlamdchcicaaDoor
