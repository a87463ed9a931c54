/-
  Contracts of the draws of joins. No condition of its own.
-/
import Derived.Test.YtfkojbkgpbpjhaaGreatDoorGlueDraw
import Derived.StillTailTactics
namespace Go.Proofs.YtfkojbkgpbpjhaaGreatDoor
open Go.ChangeShapes Go.WideShapes Go.ChangeAt Go.RowKit Go.Deep

theorem grown_own {w w1 w2 : World} {p : Nat} {row : Option Nat} (h : w.grownBy w1 (some p)) (k : w1.grownBy w2 row) (hr : ∀ b, row = some b → w.heap.size ≤ b) : w.grownBy w2 (some p) :=
  ⟨k.os.trans h.os, k.tape.trans h.tape, k.output.trans h.output, Nat.le_trans h.size k.size, fun i hi hne => (k.block i (Nat.lt_of_lt_of_le hi h.size) (fun e => by have := hr i e.symm; omega)).trans (h.block i hi hne)⟩
theorem l00Max_j (x y : Int) (w : World) : Calls Tryz.prog 34 #[.int .i64 x, .int .i64 y] w fun e w' => e = .returned (.int .i64 (max x y)) ∧ w = w' := by
  go_enter Tryz.func34, Tryz.ntmps34
  go_wp2
  all_goals
    go_ret
    exact ⟨ret_int (by omega), rfl⟩
/-- A drawn join: its numbers are small. -/
def JoinEnd (w0 w : World) (p : Nat) (ac : Option Addr) (nc cc A : Nat) (e : Ending) (w' : World) : Prop :=
  ∃ a b j t : Int, e = .returned (.agg #[.int .i64 a, .int .i64 b, .int .i64 j, .int .i64 t]) ∧ (0 ≤ a ∧ a ≤ 1000 ∧ 0 ≤ b ∧ b ≤ 1000 ∧ 0 ≤ j ∧ j ≤ 1000 ∧ 0 ≤ t ∧ t ≤ 1000) ∧ SrcAt w' w0.heap.size p ac nc cc A ∧ w.grownBy w' (some p)
set_option maxRecDepth 100000 in
set_option maxHeartbeats 6400000 in
theorem l19New_any (w0 w : World) (p nc cc A : Nat) (ac : Option Addr) (hc : CodeAt w0 ac nc) (hb : Bel w0.heap.size w0 w) (hs : SrcAt w w0.heap.size p ac nc cc A) (hA : A ≤ 100000) :
    Calls Tryz.prog 36 #[.pointer (some ⟨p, 0, none⟩)] w (JoinEnd w0 w p ac nc cc (A + 8)) := by
  obtain ⟨hp1, hp2⟩ := hs.base
  have HC := Lib.hid hc
  have HG := Lib.hid (fun (W W' : World) (h : Bel w0.heap.size w0 W) (hg : W.grownBy W' (some p)) => h.grown hg (fun k h => by cases h; exact hp1))
  have HS0 := Lib.hid (hs.alloc (.cells #[.int .i64 0, .int .i64 0, .int .i64 0, .int .i64 0] 31))
  have HB0 := Lib.hid (hb.alloc (.cells #[.int .i64 0, .int .i64 0, .int .i64 0, .int .i64 0] 31))
  have HR0 := Lib.hid (Obx.new w w.heap.size 31 4 #[.int .i64 0, .int .i64 0, .int .i64 0, .int .i64 0] (Nat.le_refl _) rfl)
  have HK0 := Lib.hid (grown_alloc (World.grownBy.refl w (some p)) (.cells #[.int .i64 0, .int .i64 0, .int .i64 0, .int .i64 0] 31))
  clear hc hb hs
  go_enter Tryz.func36, Tryz.ntmps36
  go_wp2_with fail
  refine (pick_any w0 _ p nc cc A ac 60 HC.out HB0.out HS0.out (by omega) (by omega)).mono ?_
  rintro e w1 ⟨r1, rfl, r1a, r1b, hs1, hg1⟩
  have HR1 := Lib.hid (HR0.out.grown hg1 (fun e => by have h1 : p = w.heap.size := (by simpa using e); omega))
  have HP1 := Lib.hid hs1.base.2
  have hW1 : w.heap.size < w1.heap.size := HR1.out.lt.2
  obtain ⟨q, hq⟩ : ∃ q, w1.heap.size = q := ⟨_, rfl⟩
  obtain ⟨w2, hw2⟩ : ∃ W, w1.alloc (.cells #[.int .i64 r1, .int .i64 0, .int .i64 0, .int .i64 0] 31) = W := ⟨_, rfl⟩
  have HS2 := Lib.hid (show SrcAt w2 w0.heap.size p ac nc cc (A + 2) by rw [← hw2]; exact hs1.alloc _)
  have HB2 := Lib.hid (show Bel w0.heap.size w0 w2 by rw [← hw2]; exact (HG.out _ _ HB0.out hg1).alloc _)
  have HF2 := Lib.hid (show Obx w2 w.heap.size q 31 4 [.int .i64 r1, .int .i64 0, .int .i64 0, .int .i64 0] by rw [← hw2, ← hq]; exact Obx.new w1 w.heap.size 31 4 #[.int .i64 r1, .int .i64 0, .int .i64 0, .int .i64 0] (by omega) rfl)
  have HR2 := Lib.hid (show Obx w2 w.heap.size w.heap.size 31 4 [.int .i64 0, .int .i64 0, .int .i64 0, .int .i64 0] by rw [← hw2]; exact HR1.out.alloc _)
  have HK2 := Lib.hid (show w.grownBy w2 (some p) by rw [← hw2]; exact grown_alloc (grown_more HK0.out hg1) _)
  have r1c : r1 ≤ 59 := by omega
  have hne : p ≠ q := by have := HP1.out; omega
  have hnr : p ≠ w.heap.size := by omega
  have hqr : q ≠ w.heap.size := by omega
  have hqw : w.heap.size ≤ q := HF2.out.lt.1
  have HW2 := Lib.hid hw2
  clear hs1 hg1 hw2 HP1
  go_wp2_with fail
  rw [HW2.out]
  clear hq
  have k0 : w2.cell? ⟨q, 0, none⟩ = some (.int .i64 r1) := HF2.out.cell 0 (by omega)
  have HS3 := Lib.hid (show SrcAt w2.drew w0.heap.size p ac nc cc (A + 2) from HS2.out)
  have HF3 := Lib.hid (show Obx w2.drew w.heap.size q 31 4 [.int .i64 r1, .int .i64 0, .int .i64 0, .int .i64 0] from HF2.out)
  go_region_held3 (fun W => W.cell? ⟨q, 0, none⟩ = some (.int .i64 r1)) (first | (with_reducible exact hK2) | (with_reducible exact hK3) | go_keep)
    (first
      | (go_at_call 27; refine (pick_any w0 _ p nc cc (A + 2) ac 20 HC.out HB2.out.drew HS3.out (by omega) (by omega)).mono ?_; rintro e w3 ⟨r3, rfl, r3a, r3b, hs3, hg3⟩; have r3c : r3 ≤ 19 := (by omega); have v1 : IntKind.i64.wrap (r1 + r3) = r1 + r3 := IntWalk.i64_in _ (by omega); have v2 : IntKind.i64.wrap (r1 + r3 - 10) = r1 + r3 - 10 := IntWalk.i64_in _ (by omega); have HN3 := Lib.hid (And.intro hs3 hg3); have HFq := Lib.hid (HF3.out.grown hg3 (fun e => hne (by simpa using e))); have hK2 : w3.cell? ⟨q, 0, none⟩ = some (.int .i64 r1) := HFq.out.cell 0 (by omega); have hK1 : w3.cell? ⟨q, 1, none⟩ = some (.int .i64 0) := HFq.out.cell 1 (by omega); have hF1 := HFq.out.fr 1; have hK3 : (w3.setCell ⟨q, 1, none⟩ (.int .i64 (max 0 (r1 + r3 - 10)))).cell? ⟨q, 0, none⟩ = some (.int .i64 r1) := (HFq.out.set 1 (.int .i64 (max 0 (r1 + r3 - 10)))).cell 0 (by omega); clear hs3 hg3)
      | (go_at_call 34; refine (l00Max_j _ _ _).mono ?_; rintro e wM ⟨rfl, rfl⟩))
  have hg3 := grown_from_drew HN3.out.2
  obtain ⟨b, hb⟩ : ∃ b, max 0 (r1 + r3 - 10) = b := ⟨_, rfl⟩
  have hbb : 0 ≤ b ∧ b ≤ 68 := by omega
  rw [hb] at hK3 ⊢
  have HS4 := Lib.hid (HN3.out.1.set (q := q) (j := 1) (u := .int .i64 b) (fun e => hne e.symm))
  have HF4 := Lib.hid (show Obx (w3.setCell ⟨q, 1, none⟩ (.int .i64 b)) w.heap.size q 31 4 [.int .i64 r1, .int .i64 b, .int .i64 0, .int .i64 0] from HFq.out.set 1 _)
  have HR4 := Lib.hid ((HR2.out.grown hg3 (fun e => hnr (by simpa using e))).setOther (q' := q) 1 (.int .i64 b) hqr)
  have HK4 := Lib.hid (grown_set_new (grown_more HK2.out hg3) hqw 1 (.int .i64 b))
  have HB4 := Lib.hid ((HG.out _ _ HB2.out hg3).setCell (p := ⟨q, 1, none⟩) (by have := hqw; show w0.heap.size ≤ q; omega) (.int .i64 b))
  generalize w3.setCell ⟨q, 1, none⟩ (.int .i64 b) = w4 at HS4 HF4 HR4 HK4 HB4 hK3 ⊢
  clear hK1 hK2 hK3 hF1 k0 hg3 HN3 HFq v1 v2 HS3 HF3 HF2 HS2 HR2 HK2 HB2 hb
  have k0 : w4.cell? ⟨q, 0, none⟩ = some (.int .i64 r1) := HF4.out.cell 0 (by omega)
  have k1 : w4.cell? ⟨q, 1, none⟩ = some (.int .i64 b) := HF4.out.cell 1 (by omega)
  go_wp2_with fail
  refine (l00Max_j _ _ _).mono ?_
  rintro e wM ⟨rfl, rfl⟩
  obtain ⟨m, hm⟩ : ∃ m, max r1 b = m := ⟨_, rfl⟩
  have hmb : 0 ≤ m ∧ m ≤ 68 := by omega
  rw [hm]
  clear hm k0 k1
  go_wp2_with fail
  refine (pick_any w0 _ p nc cc (A + 2 + 2) ac 50 HC.out HB4.out HS4.out (by omega) (by omega)).mono ?_
  rintro e w5 ⟨r5, rfl, r5a, r5b, hs5, hg5⟩
  have r5c : r5 ≤ 49 := by omega
  have hF5 := HF4.out.grown hg5 (fun e => hne (by simpa using e))
  have hR5 := HR4.out.grown hg5 (fun e => hnr (by simpa using e))
  have k2 : w5.cell? ⟨q, 2, none⟩ = some (.int .i64 0) := hF5.cell 2 (by omega)
  have f2 := hF5.fr 2
  have HF6 := Lib.hid (show Obx (w5.setCell ⟨q, 2, none⟩ (.int .i64 (m + r5))) w.heap.size q 31 4 [.int .i64 r1, .int .i64 b, .int .i64 (m + r5), .int .i64 0] from hF5.set 2 _)
  have HR6 := Lib.hid (hR5.setOther (q' := q) 2 (.int .i64 (m + r5)) hqr)
  have HS6 := Lib.hid (hs5.set (q := q) (j := 2) (u := .int .i64 (m + r5)) (fun e => hne e.symm))
  have HK6 := Lib.hid (grown_set_new (grown_more HK4.out hg5) hqw 2 (.int .i64 (m + r5)))
  have HB6 := Lib.hid ((HG.out _ _ HB4.out hg5).setCell (p := ⟨q, 2, none⟩) (by have := hqw; show w0.heap.size ≤ q; omega) (.int .i64 (m + r5)))
  clear hs5 hg5 hF5 hR5
  go_upto_region 4 with fail
  generalize w5.setCell ⟨q, 2, none⟩ (.int .i64 (m + r5)) = w6 at HS6 HK6 HR6 HF6 HB6 ⊢
  clear k2 f2 HF4 HR4 HS4 HK4 HB4
  have k2 : w6.cell? ⟨q, 2, none⟩ = some (.int .i64 (m + r5)) := HF6.out.cell 2 (by omega)
  have HS7 := Lib.hid (show SrcAt w6.drew w0.heap.size p ac nc cc (A + 2 + 2 + 2) from HS6.out)
  have HF7 := Lib.hid (show Obx w6.drew w.heap.size q 31 4 [.int .i64 r1, .int .i64 b, .int .i64 (m + r5), .int .i64 0] from HF6.out)
  go_region_held3 (fun W => W.cell? ⟨q, 2, none⟩ = some (.int .i64 (m + r5))) (first | (with_reducible exact hK2) | (with_reducible exact hK3) | go_keep)
    ((go_at_call 27; refine (pick_any w0 _ p nc cc (A + 2 + 2 + 2) ac 40 HC.out HB6.out.drew HS7.out (by omega) (by omega)).mono ?_; rintro e w7 ⟨r7, rfl, r7a, r7b, hs7, hg7⟩; have r7c : r7 ≤ 39 := (by omega); have v1 : IntKind.i64.wrap (m + r5 + r7) = m + r5 + r7 := IntWalk.i64_in _ (by omega); have HN7 := Lib.hid (And.intro hs7 hg7); have HFq := Lib.hid (HF7.out.grown hg7 (fun e => hne (by simpa using e))); have hK2 : w7.cell? ⟨q, 2, none⟩ = some (.int .i64 (m + r5)) := HFq.out.cell 2 (by omega); have hK1 : w7.cell? ⟨q, 3, none⟩ = some (.int .i64 0) := HFq.out.cell 3 (by omega); have hF1 := HFq.out.fr 3; have hK3 : (w7.setCell ⟨q, 3, none⟩ (.int .i64 (m + r5 + r7))).cell? ⟨q, 2, none⟩ = some (.int .i64 (m + r5)) := (HFq.out.set 3 (.int .i64 (m + r5 + r7))).cell 2 (by omega); clear hs7 hg7))
  have hg7 := grown_from_drew HN7.out.2
  have HS8 := Lib.hid (HN7.out.1.set (q := q) (j := 3) (u := .int .i64 (m + r5 + r7)) (fun e => hne e.symm))
  have HF8 := Lib.hid (show Obx (w7.setCell ⟨q, 3, none⟩ (.int .i64 (m + r5 + r7))) w.heap.size q 31 4 [.int .i64 r1, .int .i64 b, .int .i64 (m + r5), .int .i64 (m + r5 + r7)] from HFq.out.set 3 _)
  have HR8 := Lib.hid ((HR6.out.grown hg7 (fun e => hnr (by simpa using e))).setOther (q' := q) 3 (.int .i64 (m + r5 + r7)) hqr)
  have HK8 := Lib.hid (grown_set_new (grown_more HK6.out hg7) hqw 3 (.int .i64 (m + r5 + r7)))
  generalize w7.setCell ⟨q, 3, none⟩ (.int .i64 (m + r5 + r7)) = w8 at HS8 HF8 HR8 HK8 hK3 ⊢
  clear hK1 hK2 hK3 hF1 k2 hg7 HN7 HFq v1 HS7 HF7 HF6 HS6 HR6 HK6 HB6
  have m0 : w8.cell? ⟨q, 0, none⟩ = some (.int .i64 r1) := HF8.out.cell 0 (by omega)
  have m1 : w8.cell? ⟨q, 1, none⟩ = some (.int .i64 b) := HF8.out.cell 1 (by omega)
  have m2 : w8.cell? ⟨q, 2, none⟩ = some (.int .i64 (m + r5)) := HF8.out.cell 2 (by omega)
  have m3 : w8.cell? ⟨q, 3, none⟩ = some (.int .i64 (m + r5 + r7)) := HF8.out.cell 3 (by omega)
  have n0 : w8.cell? ⟨w.heap.size, 0, none⟩ = some (.int .i64 0) := HR8.out.cell 0 (by omega)
  have n1 : w8.cell? ⟨w.heap.size, 1, none⟩ = some (.int .i64 0) := HR8.out.cell 1 (by omega)
  have n2 : w8.cell? ⟨w.heap.size, 2, none⟩ = some (.int .i64 0) := HR8.out.cell 2 (by omega)
  have n3 : w8.cell? ⟨w.heap.size, 3, none⟩ = some (.int .i64 0) := HR8.out.cell 3 (by omega)
  have fr := HR8.out.fr
  have f0 := fr 0
  have f1 := fr 1
  have f2 := fr 2
  have f3 := fr 3
  clear fr
  go_wp2_with fail
  refine bodyPost_ret (v := .agg #[.int .i64 r1, .int .i64 b, .int .i64 (m + r5), .int .i64 (m + r5 + r7)]) (by simp [results, Tryz.results36, go_sem, n0, n1, n2, n3]) rfl ?_
  exact ⟨r1, b, m + r5, m + r5 + r7, rfl, by omega, (((HS8.out.set (by omega)).set (by omega)).set (by omega)).set (by omega), grown_set_new (grown_set_new (grown_set_new (grown_set_new HK8.out (Nat.le_refl _) 0 _) (Nat.le_refl _) 1 _) (Nat.le_refl _) 2 _) (Nat.le_refl _) 3 _⟩
end Go.Proofs.YtfkojbkgpbpjhaaGreatDoor
