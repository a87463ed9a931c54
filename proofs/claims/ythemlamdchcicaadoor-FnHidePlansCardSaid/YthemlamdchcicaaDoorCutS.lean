/-
  The laws' own helpers on slices of pieces. No condition of its own.
-/
import Derived.Test.YthemlamdchcicaaDoorCopy
import Derived.Test.YthemlamdchcicaaDoorRow
import Derived.StillTailTactics
namespace Go.Proofs.YthemlamdchcicaaDoor
open Go.ChangeShapes Go.WideShapes Go.ChangeAt Go.RowKit Go.Deep

theorem toCut_any (x0 : Int) (x1 : Int) (x2 : Int) (x3 : Int) (w : World) : Calls Tryd.prog 45 #[.agg #[.int .i64 x0, .int .i64 x1, .int .i64 x2, .int .i64 x3]] w fun e w' => e = .returned (.agg #[.int .i64 x0, .int .i64 x1, .int .i64 x2, .int .i64 x3]) ∧ ((w.alloc (.cells #[.int .i64 x0, .int .i64 x1, .int .i64 x2, .int .i64 x3] 83)).alloc (.cells #[.int .i64 x0, .int .i64 x1, .int .i64 x2, .int .i64 x3] 40)).alloc (.cells #[.int .i64 x0, .int .i64 x1, .int .i64 x2, .int .i64 x3] 40) = w' := by
  go_enter Tryd.func45, Tryd.ntmps45
  go_wp2
  exact bodyPost_ret (v := .agg #[.int .i64 x0, .int .i64 x1, .int .i64 x2, .int .i64 x3]) (by simp [results, Tryd.results45, go_sem]) rfl ⟨rfl, rfl⟩

theorem infoCut : (Tryd.prog.info? 40).map (fun i => (i.zero, i.size, i.bytes)) = some (some (.agg #[.int .i64 0, .int .i64 0, .int .i64 0, .int .i64 0]), 4, 32) := by kernel_rfl
theorem makeCut (n : Nat) (hn : n ≤ 1048576) (w : World) : (Instr.makeSlice 26 (.int .i64 (n : Int)) (.int .i64 (n : Int))).run Tryd.prog w =
    .ok (.slice (some ⟨w.heap.size, 0, none⟩) n n) (w.alloc (.cells (madeCells #[.int .i64 0, .int .i64 0, .int .i64 0, .int .i64 0] (n * 4)) 40)) := by
  obtain ⟨i, hi, h0, h1, h2⟩ := info_parts infoCut
  have hr := run_make (P := Tryd.prog) w 26 40 i _ Tryd.underlying26 hi h0 .i64 .i64 n n (by omega) (Int.le_refl _) (by rw [h2]; omega) (by omega)
  simp only [Int.toNat_natCast, h1, Value.cells] at hr
  exact hr
theorem madeCut (n : Nat) (hn : n ≤ 1048576) (w : World) : (w.alloc (.cells (madeCells #[.int .i64 0, .int .i64 0, .int .i64 0, .int .i64 0] (n * 4)) 40)).ownsRow w.heap.size 40 4 (.slice (some ⟨w.heap.size, 0, none⟩) n n) n (madeCells #[.int .i64 0, .int .i64 0, .int .i64 0, .int .i64 0] (n * 4)).toList :=
  World.ownsRow_lit (size := 4) (e := 40) w _ n (Nat.le_refl _) (by unfold maxLen; omega) (size_madeCells _ _)

set_option maxHeartbeats 1600000 in
theorem toCutS_any (a : Option Addr) (n c : Nat) (zs : List Int) (w : World) (hz : zs.length = n * 4) (hn : n ≤ 1048576) (hc : CellsAt w a (zs.map (Value.int .i64))) :
    Calls Tryd.prog 17 #[.slice a n c] w (NewRow w 40 4 n (zs.map (Value.int .i64))) := by
  have hmk := makeCut n hn
  have hst := madeCut n hn w
  have hzl : (madeCells #[.int .i64 0, .int .i64 0, .int .i64 0, .int .i64 0] (n * 4)).toList.length = n * 4 := by simp [size_madeCells]
  generalize (madeCells #[.int .i64 0, .int .i64 0, .int .i64 0, .int .i64 0] (n * 4)) = zr at hmk hst hzl
  rcases hc with h0 | ⟨b, off, rfl, hb, hcell⟩
  · have h1 : zs = [] := by simpa using h0
    have hn0 : n ≤ 0 := by
      have : n * 4 = 0 := by rw [← hz, h1]; rfl
      omega
    have HS := Lib.hid hst
    have Hz := Lib.hid hz
    have H1 := Lib.hid h1
    have Hl := Lib.hid hzl
    clear hst hz h0 h1 hzl
    go_enter Tryd.func17, Tryd.ntmps17
    go_wp2
    refine wp_loop_once ?_
    go_wp2
    go_ret
    have h1 := H1.out
    subst h1
    have h2 : n = 0 := by omega
    subst h2
    have e : zr.toList = [] := List.eq_nil_of_length_eq_zero (by simpa using Hl.out)
    have h3 := HS.out
    rw [e] at h3
    exact newRow_intro h3 ((Below.refl _ _).alloc (Nat.le_refl _) _)
  · have HS := Lib.hid hst
    have Hz := Lib.hid hz
    have Hc := Lib.hid hcell
    have Hl := Lib.hid hzl
    clear hst hz hcell hzl
    go_enter Tryd.func17, Tryd.ntmps17
    go_wp2
    go_loopw [4] (fun i wr => ∃ k : Nat, k ≤ n ∧ i = .int .i64 k ∧ wr.ownsRow w.heap.size 40 4 (.slice (some ⟨w.heap.size, 0, none⟩) n n) n ((zs.map (Value.int .i64)).take (k * 4) ++ zr.toList.drop (k * 4)) ∧ Below w.heap.size w wr)
      (fun i _ => n - (intOf i).toNat)
    case atStart => exact ⟨0, Nat.zero_le _, rfl, by simpa using HS.out, (Below.refl _ _).alloc (Nat.le_refl _) _⟩
    case round =>
      obtain ⟨k, hk, rfl, hown, hbw⟩ := hrel
      by_cases hlt : k < n
      · have hkz : k * 4 + 4 ≤ zs.length := by rw [Hz.out]; omega
        have hsz : w.heap.size < wr.heap.size := (hown.lt _ rfl).2
        have hsz1 : w.heap.size < wr.heap.size + 1 := by omega
        have hsz2 : w.heap.size < wr.heap.size + 1 + 1 := by omega
        obtain ⟨x0, hx0⟩ : ∃ x, x = zs.getD (k * 4) 0 := ⟨_, rfl⟩
        have hc0 : wr.cell? ⟨b, off + k * 4, none⟩ = some (.int .i64 x0) := by
          have h := (hbw.cell (p := ⟨b, off + (k * 4), none⟩) hb).trans (Hc.out (k * 4) (by simp; omega))
          rw [show off + (k * 4) = off + k * 4 from by omega] at h
          rw [h, hx0]
          simp [List.getElem?_eq_getElem (show k * 4 < zs.length by omega)]
        obtain ⟨u0, hu0⟩ : ∃ u, wr.cell? ⟨w.heap.size, k * 4, none⟩ = some u := by
          rw [hown.cellAt (k * 4) (by omega)]
          exact ⟨_, List.getElem?_eq_getElem (by rw [hown.1]; omega)⟩
        have hf0 := hown.frozenAt (k * 4)
        have Hx0 := Lib.hid hx0
        clear hx0
        obtain ⟨x1, hx1⟩ : ∃ x, x = zs.getD (k * 4 + 1) 0 := ⟨_, rfl⟩
        have hc1 : wr.cell? ⟨b, off + k * 4 + 1, none⟩ = some (.int .i64 x1) := by
          have h := (hbw.cell (p := ⟨b, off + (k * 4 + 1), none⟩) hb).trans (Hc.out (k * 4 + 1) (by simp; omega))
          rw [show off + (k * 4 + 1) = off + k * 4 + 1 from by omega] at h
          rw [h, hx1]
          simp [List.getElem?_eq_getElem (show k * 4 + 1 < zs.length by omega)]
        obtain ⟨u1, hu1⟩ : ∃ u, wr.cell? ⟨w.heap.size, k * 4 + 1, none⟩ = some u := by
          rw [hown.cellAt (k * 4 + 1) (by omega)]
          exact ⟨_, List.getElem?_eq_getElem (by rw [hown.1]; omega)⟩
        have hf1 := hown.frozenAt (k * 4 + 1)
        have Hx1 := Lib.hid hx1
        clear hx1
        obtain ⟨x2, hx2⟩ : ∃ x, x = zs.getD (k * 4 + 2) 0 := ⟨_, rfl⟩
        have hc2 : wr.cell? ⟨b, off + k * 4 + 2, none⟩ = some (.int .i64 x2) := by
          have h := (hbw.cell (p := ⟨b, off + (k * 4 + 2), none⟩) hb).trans (Hc.out (k * 4 + 2) (by simp; omega))
          rw [show off + (k * 4 + 2) = off + k * 4 + 2 from by omega] at h
          rw [h, hx2]
          simp [List.getElem?_eq_getElem (show k * 4 + 2 < zs.length by omega)]
        obtain ⟨u2, hu2⟩ : ∃ u, wr.cell? ⟨w.heap.size, k * 4 + 2, none⟩ = some u := by
          rw [hown.cellAt (k * 4 + 2) (by omega)]
          exact ⟨_, List.getElem?_eq_getElem (by rw [hown.1]; omega)⟩
        have hf2 := hown.frozenAt (k * 4 + 2)
        have Hx2 := Lib.hid hx2
        clear hx2
        obtain ⟨x3, hx3⟩ : ∃ x, x = zs.getD (k * 4 + 3) 0 := ⟨_, rfl⟩
        have hc3 : wr.cell? ⟨b, off + k * 4 + 3, none⟩ = some (.int .i64 x3) := by
          have h := (hbw.cell (p := ⟨b, off + (k * 4 + 3), none⟩) hb).trans (Hc.out (k * 4 + 3) (by simp; omega))
          rw [show off + (k * 4 + 3) = off + k * 4 + 3 from by omega] at h
          rw [h, hx3]
          simp [List.getElem?_eq_getElem (show k * 4 + 3 < zs.length by omega)]
        obtain ⟨u3, hu3⟩ : ∃ u, wr.cell? ⟨w.heap.size, k * 4 + 3, none⟩ = some u := by
          rw [hown.cellAt (k * 4 + 3) (by omega)]
          exact ⟨_, List.getElem?_eq_getElem (by rw [hown.1]; omega)⟩
        have hf3 := hown.frozenAt (k * 4 + 3)
        have Hx3 := Lib.hid hx3
        clear hx3
        have hsd0 := hown.stored (k * 4) (.int .i64 x0)
        have hsd1 := hsd0.1.stored (k * 4 + 1) (.int .i64 x1)
        have hsd2 := hsd1.1.stored (k * 4 + 2) (.int .i64 x2)
        have hsd3 := hsd2.1.stored (k * 4 + 3) (.int .i64 x3)
        have Hs := Lib.hid hsd3.1
        have hbx : Bel w.heap.size w wr := Bel.of hbw
        have Hb := Lib.hid (((((hbx).grown hsd0.2 (fun k h => by cases h; exact Nat.le_refl _)).grown hsd1.2 (fun k h => by cases h; exact Nat.le_refl _)).grown hsd2.2 (fun k h => by cases h; exact Nat.le_refl _)).grown hsd3.2 (fun k h => by cases h; exact Nat.le_refl _))
        clear hsd0 hsd1 hsd2 hsd3 hown hbw hbx
        go_wp2_with (go_at_call 45; refine (toCut_any _ _ _ _ _).mono ?_; rintro e w1 ⟨rfl, rfl⟩)
        go_roundw
        case rel =>
          refine ⟨k + 1, by omega, by go_num, ?_, (((Hb.out.alloc _).alloc _).alloc _).1⟩
          have h := ((Hs.out.alloc (.cells #[.int .i64 x0, .int .i64 x1, .int .i64 x2, .int .i64 x3] 83)).alloc (.cells #[.int .i64 x0, .int .i64 x1, .int .i64 x2, .int .i64 x3] 40)).alloc (.cells #[.int .i64 x0, .int .i64 x1, .int .i64 x2, .int .i64 x3] 40)
          rw [set_fill _ _ (k * 4) _ (by simp; omega) (by simp [Hz.out]; simpa using Hl.out) (by rw [Hx0.out]; simp [List.getElem?_eq_getElem (show k * 4 < zs.length by omega)])] at h
          rw [set_fill _ _ (k * 4 + 1) _ (by simp; omega) (by simp [Hz.out]; simpa using Hl.out) (by rw [Hx1.out]; simp [List.getElem?_eq_getElem (show k * 4 + 1 < zs.length by omega)])] at h
          rw [set_fill _ _ (k * 4 + 2) _ (by simp; omega) (by simp [Hz.out]; simpa using Hl.out) (by rw [Hx2.out]; simp [List.getElem?_eq_getElem (show k * 4 + 2 < zs.length by omega)])] at h
          rw [set_fill _ _ (k * 4 + 3) _ (by simp; omega) (by simp [Hz.out]; simpa using Hl.out) (by rw [Hx3.out]; simp [List.getElem?_eq_getElem (show k * 4 + 3 < zs.length by omega)])] at h
          rw [show (k + 1) * 4 = k * 4 + 4 from by omega]
          exact h
        case measure => simp [intOf]; omega
      · go_wp2
        go_ret
        have e : k = n := by omega
        subst e
        refine newRow_intro ?_ hbw
        have h := hown
        rw [List.take_of_length_le (by simp [Hz.out]), List.drop_of_length_le (by rw [Hl.out]; exact Nat.le_refl _), List.append_nil] at h
        exact h
theorem eqCut_any (x0 x1 x2 x3 : Int) (w : World) : Calls Tryd.prog 46 #[.agg #[.int .i64 x0, .int .i64 x1, .int .i64 x2, .int .i64 x3], .agg #[.int .i64 x0, .int .i64 x1, .int .i64 x2, .int .i64 x3]] w fun e w' => e = .returned (.bool true) ∧ (w.alloc (.cells #[.int .i64 x0, .int .i64 x1, .int .i64 x2, .int .i64 x3] 40)).alloc (.cells #[.int .i64 x0, .int .i64 x1, .int .i64 x2, .int .i64 x3] 40) = w' := by
  go_enter Tryd.func46, Tryd.ntmps46
  go_wp2
  go_ret
  exact ⟨rfl, rfl⟩
set_option maxRecDepth 100000 in
set_option maxHeartbeats 1600000 in
theorem eqCutS_any (a b : Option Addr) (n c d : Nat) (zs : List Int) (w : World) (hz : zs.length = n * 4) (hn : n ≤ 1073741824) (ha : CellsAt w a (zs.map (Value.int .i64))) (hb : CellsAt w b (zs.map (Value.int .i64))) :
    Calls Tryd.prog 20 #[.slice a n c, .slice b n d] w fun e w' => e = .returned (.bool true) ∧ Below w.heap.size w w' := by
  by_cases h0 : n = 0
  · subst h0
    have Hz := Lib.hid hz
    clear hz ha hb
    go_enter Tryd.func20, Tryd.ntmps20
    go_wp2
    refine wp_loop_once ?_
    go_wp2
    go_ret
    exact ⟨rfl, Below.refl _ _⟩
  · obtain ⟨b1, o1, rfl, hb1, hc1⟩ := ha.at_ (by simp; omega)
    obtain ⟨b2, o2, rfl, hb2, hc2⟩ := hb.at_ (by simp; omega)
    have Hz := Lib.hid hz
    have H1 := Lib.hid hc1
    have H2 := Lib.hid hc2
    clear hz hc1 hc2 ha hb
    have hnn : ((n : Int) != (n : Int)) = false := by simp
    go_enter Tryd.func20, Tryd.ntmps20
    go_wp2
    go_loopw [5] (fun i wr => ∃ k : Nat, k ≤ n ∧ i = .int .i64 k ∧ Below w.heap.size w wr) (fun i _ => n - (intOf i).toNat)
    case atStart => exact ⟨0, Nat.zero_le _, rfl, Below.refl _ _⟩
    case round =>
      obtain ⟨k, hk, rfl, hbw⟩ := hrel
      by_cases hlt : k < n
      · have hkz : k * 4 + 4 ≤ zs.length := by rw [Hz.out]; omega
        obtain ⟨x0, hx0⟩ : ∃ x, x = zs.getD (k * 4) 0 := ⟨_, rfl⟩
        have hc10 : wr.cell? ⟨b1, o1 + k * 4, none⟩ = some (.int .i64 x0) := by
          have h := (hbw.cell (p := ⟨b1, o1 + (k * 4), none⟩) hb1).trans (H1.out (k * 4) (by simp; omega))
          rw [show o1 + (k * 4) = o1 + k * 4 from by omega] at h
          rw [h, hx0]
          simp [List.getElem?_eq_getElem (show k * 4 < zs.length by omega)]
        have hc20 : wr.cell? ⟨b2, o2 + k * 4, none⟩ = some (.int .i64 x0) := by
          have h := (hbw.cell (p := ⟨b2, o2 + (k * 4), none⟩) hb2).trans (H2.out (k * 4) (by simp; omega))
          rw [show o2 + (k * 4) = o2 + k * 4 from by omega] at h
          rw [h, hx0]
          simp [List.getElem?_eq_getElem (show k * 4 < zs.length by omega)]
        clear hx0
        obtain ⟨x1, hx1⟩ : ∃ x, x = zs.getD (k * 4 + 1) 0 := ⟨_, rfl⟩
        have hc11 : wr.cell? ⟨b1, o1 + k * 4 + 1, none⟩ = some (.int .i64 x1) := by
          have h := (hbw.cell (p := ⟨b1, o1 + (k * 4 + 1), none⟩) hb1).trans (H1.out (k * 4 + 1) (by simp; omega))
          rw [show o1 + (k * 4 + 1) = o1 + k * 4 + 1 from by omega] at h
          rw [h, hx1]
          simp [List.getElem?_eq_getElem (show k * 4 + 1 < zs.length by omega)]
        have hc21 : wr.cell? ⟨b2, o2 + k * 4 + 1, none⟩ = some (.int .i64 x1) := by
          have h := (hbw.cell (p := ⟨b2, o2 + (k * 4 + 1), none⟩) hb2).trans (H2.out (k * 4 + 1) (by simp; omega))
          rw [show o2 + (k * 4 + 1) = o2 + k * 4 + 1 from by omega] at h
          rw [h, hx1]
          simp [List.getElem?_eq_getElem (show k * 4 + 1 < zs.length by omega)]
        clear hx1
        obtain ⟨x2, hx2⟩ : ∃ x, x = zs.getD (k * 4 + 2) 0 := ⟨_, rfl⟩
        have hc12 : wr.cell? ⟨b1, o1 + k * 4 + 2, none⟩ = some (.int .i64 x2) := by
          have h := (hbw.cell (p := ⟨b1, o1 + (k * 4 + 2), none⟩) hb1).trans (H1.out (k * 4 + 2) (by simp; omega))
          rw [show o1 + (k * 4 + 2) = o1 + k * 4 + 2 from by omega] at h
          rw [h, hx2]
          simp [List.getElem?_eq_getElem (show k * 4 + 2 < zs.length by omega)]
        have hc22 : wr.cell? ⟨b2, o2 + k * 4 + 2, none⟩ = some (.int .i64 x2) := by
          have h := (hbw.cell (p := ⟨b2, o2 + (k * 4 + 2), none⟩) hb2).trans (H2.out (k * 4 + 2) (by simp; omega))
          rw [show o2 + (k * 4 + 2) = o2 + k * 4 + 2 from by omega] at h
          rw [h, hx2]
          simp [List.getElem?_eq_getElem (show k * 4 + 2 < zs.length by omega)]
        clear hx2
        obtain ⟨x3, hx3⟩ : ∃ x, x = zs.getD (k * 4 + 3) 0 := ⟨_, rfl⟩
        have hc13 : wr.cell? ⟨b1, o1 + k * 4 + 3, none⟩ = some (.int .i64 x3) := by
          have h := (hbw.cell (p := ⟨b1, o1 + (k * 4 + 3), none⟩) hb1).trans (H1.out (k * 4 + 3) (by simp; omega))
          rw [show o1 + (k * 4 + 3) = o1 + k * 4 + 3 from by omega] at h
          rw [h, hx3]
          simp [List.getElem?_eq_getElem (show k * 4 + 3 < zs.length by omega)]
        have hc23 : wr.cell? ⟨b2, o2 + k * 4 + 3, none⟩ = some (.int .i64 x3) := by
          have h := (hbw.cell (p := ⟨b2, o2 + (k * 4 + 3), none⟩) hb2).trans (H2.out (k * 4 + 3) (by simp; omega))
          rw [show o2 + (k * 4 + 3) = o2 + k * 4 + 3 from by omega] at h
          rw [h, hx3]
          simp [List.getElem?_eq_getElem (show k * 4 + 3 < zs.length by omega)]
        clear hx3
        have hb' : Bel w.heap.size w wr := Bel.of hbw
        have Hb := Lib.hid hb'
        clear hbw hb'
        have hlt' : (k : Int) < (n : Int) := by omega
        go_wp2_with fail
        go_still_tail 8, (by kernel_rfl)
        go_wp2_with (go_at_call 46; refine (eqCut_any _ _ _ _ _).mono ?_; rintro e w1 ⟨rfl, rfl⟩)
        go_roundw
        case rel => exact ⟨k + 1, by omega, by go_num, (((Hb.out.alloc _).alloc _).drew).1⟩
        case measure => simp [intOf]; omega
      · go_wp2
        go_ret
        exact ⟨rfl, hbw⟩
theorem szCutS_any (a : Option Addr) (n c : Nat) (left : Int) (w : World) (h1 : 0 ≤ left) (h2 : left ≤ 1048576) (hn : n ≤ maxLen) :
    Calls Tryd.prog 14 #[.slice a n c, .int .i64 left] w fun e w' => e = .returned (.int .i64 (if left < n then -1 else left - n)) ∧ w = w' := by
  unfold maxLen at hn
  by_cases h : left < n
  · rw [if_pos h]
    go_enter Tryd.func14, Tryd.ntmps14
    go_wp2
    go_ret
    exact ⟨rfl, rfl⟩
  · rw [if_neg h]
    go_enter Tryd.func14, Tryd.ntmps14
    go_wp2
    go_ret
    exact ⟨rfl, rfl⟩
set_option maxHeartbeats 1600000 in
theorem markCutS_any (a : Option Addr) (n c B : Nat) (k0 : Int) (cs : List Value) (w : World) (hn : n ≤ 1073741824) (h1 : 0 ≤ k0) (h2 : k0 ≤ 1152921504606846976) (ho : w.ownsRow B 40 4 (.slice a n c) n cs) :
    Calls Tryd.prog 22 #[.slice a n c, .int .i64 k0] w (Marked w B 40 4 (.slice a n c) n (n * 4) k0) := by
  rcases own_form ho with h0 | ⟨g, rfl⟩
  · subst h0
    have hz := cells_zero ho rfl
    subst hz
    have Ho := Lib.hid ho
    clear ho
    go_enter Tryd.func22, Tryd.ntmps22
    go_wp2
    refine wp_loop_once ?_
    go_wp2
    go_ret
    exact ⟨ret_int (by simp), by simpa [marks] using Ho.out, World.grownBy.refl _ _⟩
  · have hl := ho.1
    have Hl := Lib.hid hl
    have Ho := Lib.hid ho
    clear hl ho
    go_enter Tryd.func22, Tryd.ntmps22
    go_wp2
    go_loopw [1, 5] (fun y i wr => ∃ k : Nat, k ≤ n ∧ i = .int .i64 k ∧ (∃ z : Int, y = .int .i64 z ∧ Hid (z = k0 + ((k * 4 : Nat) : Int))) ∧ wr.ownsRow B 40 4 (.slice (some ⟨g, 0, none⟩) n c) n (marks k0 (k * 4) ++ cs.drop (k * 4)) ∧ w.grownBy wr (some g))
      (fun _ i _ => n - (intOf i).toNat)
    case atStart => exact ⟨0, Nat.zero_le _, rfl, ⟨k0, rfl, Lib.hid (by simp)⟩, by simpa [marks] using Ho.out, World.grownBy.refl _ _⟩
    case round =>
      obtain ⟨k, hk, rfl, ⟨z, rfl, hzk⟩, hown, hgr⟩ := hrel
      have hzb : 0 ≤ z ∧ z ≤ 2305843009213693952 := by have := hzk.out; omega
      obtain ⟨hz1, hz2⟩ := hzb
      by_cases hlt : k < n
      · have hkz : k * 4 + 4 ≤ cs.length := by rw [Hl.out]; omega
        obtain ⟨u0, hu0⟩ : ∃ u, wr.cell? ⟨g, k * 4, none⟩ = some u := by
          rw [hown.cellAt (k * 4) (by omega)]
          exact ⟨_, List.getElem?_eq_getElem (by rw [hown.1]; omega)⟩
        have hf0 := hown.frozenAt (k * 4)
        obtain ⟨u1, hu1⟩ : ∃ u, wr.cell? ⟨g, k * 4 + 1, none⟩ = some u := by
          rw [hown.cellAt (k * 4 + 1) (by omega)]
          exact ⟨_, List.getElem?_eq_getElem (by rw [hown.1]; omega)⟩
        have hf1 := hown.frozenAt (k * 4 + 1)
        obtain ⟨u2, hu2⟩ : ∃ u, wr.cell? ⟨g, k * 4 + 2, none⟩ = some u := by
          rw [hown.cellAt (k * 4 + 2) (by omega)]
          exact ⟨_, List.getElem?_eq_getElem (by rw [hown.1]; omega)⟩
        have hf2 := hown.frozenAt (k * 4 + 2)
        obtain ⟨u3, hu3⟩ : ∃ u, wr.cell? ⟨g, k * 4 + 3, none⟩ = some u := by
          rw [hown.cellAt (k * 4 + 3) (by omega)]
          exact ⟨_, List.getElem?_eq_getElem (by rw [hown.1]; omega)⟩
        have hf3 := hown.frozenAt (k * 4 + 3)
        have hsd0 := hown.stored (k * 4) (.int .i64 (z))
        have hsd1 := hsd0.1.stored (k * 4 + 1) (.int .i64 (z + 1))
        have hsd2 := hsd1.1.stored (k * 4 + 2) (.int .i64 (z + 1 + 1))
        have hsd3 := hsd2.1.stored (k * 4 + 3) (.int .i64 (z + 1 + 1 + 1))
        have Hs := Lib.hid hsd3.1
        have Hg := Lib.hid (grown_trans_row (grown_trans_row (grown_trans_row (grown_trans_row (hgr) hsd0.2) hsd1.2) hsd2.2) hsd3.2)
        clear hsd0 hsd1 hsd2 hsd3 hown hgr
        go_wp2
        go_roundw
        case rel =>
          refine ⟨k + 1, by omega, by go_num, ⟨z + 1 + 1 + 1 + 1, rfl, Lib.hid (by have := hzk.out; omega)⟩, ?_, Hg.out⟩
          have h := Hs.out
          rw [marks_set' _ _ (k * 4) (z) (by omega) (by have := hzk.out; omega)] at h
          rw [marks_set' _ _ (k * 4 + 1) (z + 1) (by omega) (by have := hzk.out; omega)] at h
          rw [marks_set' _ _ (k * 4 + 2) (z + 1 + 1) (by omega) (by have := hzk.out; omega)] at h
          rw [marks_set' _ _ (k * 4 + 3) (z + 1 + 1 + 1) (by omega) (by have := hzk.out; omega)] at h
          rw [show (k + 1) * 4 = k * 4 + 4 from by omega]
          exact h
        case measure => simp [intOf]; omega
      · go_wp2
        go_ret
        have e : k = n := by omega
        subst e
        have h := hown
        rw [List.drop_of_length_le (by rw [Hl.out]; omega), List.append_nil] at h
        exact ⟨ret_int (by have := hzk.out; omega), h, hgr⟩

end Go.Proofs.YthemlamdchcicaaDoor
