/-
  The differences of seams. No condition of its own.
-/
import Derived.Test.YthemlamdchcicaaGreatDoorGPatD
import Derived.Test.YthemlamdchcicaaGreatDoorGBox
namespace Go.Proofs.YthemlamdchcicaaGreatDoor
open Go.ChangeShapes Go.WideShapes Go.ChangeAt Go.RowKit Go.Deep Go.Shelf Go.ChangeMaps

theorem apart_pat (x y : Int) (w : World) (h1 : -1000000000000 ≤ x) (h2 : x ≤ 1000000000000) (h3 : -1000000000000 ≤ y) (h4 : y ≤ 1000000000000) :
    Calls Tryz.prog 59 #[.int .i64 x, .int .i64 y] w fun e w' => e = .returned (.int .i64 ((x - y).natAbs : Int)) ∧ w = w' := by
  go_enter Tryz.func59, Tryz.ntmps59
  go_wp2
  all_goals
    go_ret
    exact ⟨ret_int (by omega), rfl⟩
def Pat.diff (p : Pat) (k : Nat) : Int := ((p.val (p.a k).1 (p.a k).2 - p.val (p.b k).1 (p.b k).2).natAbs : Int)
def Pat.diffs (p : Pat) (K : Nat) : List Int := (List.range K).map p.diff
theorem Pat.diffs_more (p : Pat) (K : Nat) : p.diffs (K + 1) = p.diffs K ++ [p.diff K] := by simp [Pat.diffs, List.range_succ]
set_option maxRecDepth 100000 in
set_option maxHeartbeats 6400000 in
theorem differences_any (p : Pat) (hp : p.Ok) (aP aS : Option Addr) (cP cS : Nat) (op : Int) (w : World) (h : PatAt w p aP aS) :
    Calls Tryz.prog 34 #[.agg #[.slice aP p.n cP, .slice aS p.m cS, .int .i64 op]] w (OwnRow w 2 1 p.m ((p.diffs p.m).map (Value.int .i64))) := by
  have HP := Lib.hid (PBox.new w aP p.n cP aS p.m cS op)
  have HPa := Lib.hid h
  have HSm := Lib.hid h.2
  have HOk := Lib.hid hp
  have hm8 := hp.m
  obtain ⟨m, hmm⟩ : ∃ m, p.m = m := ⟨_, rfl⟩
  have HM := Lib.hid hmm
  have HLa := Lib.hid (fun (e : Ed) (he : p.on e) (X : World) (hX : PcsAt X p aP) => length_any p aP aS cP cS op e he X hX)
  obtain ⟨n, hnn⟩ : ∃ n, p.n = n := ⟨_, rfl⟩
  rw [hnn] at HP HLa
  rw [hmm] at HP HLa hm8
  rw [hmm, hnn]
  have hO := own_none' (w.alloc (.cells #[.slice aP n cP, .slice aS m cS, .int .i64 op] 41)) w.heap.size 2 1 (by simp)
  have HO := Lib.hid hO
  clear h hp hmm hnn hO
  go_enter Tryz.func34, Tryz.ntmps34
  go_wp2_with fail
  go_loopw [3, 12] (fun v i wr => ∃ k : Nat, k ≤ m ∧ i = .int .i64 k ∧ ∃ g c, v = .slice (some ⟨g, 0, none⟩) k c ∧ Hid (wr.ownsRow w.heap.size 2 1 (.slice (some ⟨g, 0, none⟩) k c) k ((p.diffs k).map (Value.int .i64))) ∧ Hid (w.heap.size < g) ∧ Hid (PBox wr w.heap.size aP n cP aS m cS op) ∧ Hid (Bel w.heap.size w wr)) (fun _ i _ => m - (intOf i).toNat)
  case atStart => exact ⟨0, Nat.zero_le _, rfl, _, 0, rfl, Lib.hid (by simpa [Pat.diffs] using HO.out), Lib.hid (by simp), Lib.hid (HP.out.below (Bel.alloc (Bel.refl _) _).1), Lib.hid (((Bel.refl w).alloc _).alloc _)⟩
  case round =>
    clear HP HO
    obtain ⟨k, hk, rfl, g, c, rfl, hown, hwg, hbx, hbw⟩ := hrel
    by_cases hlt : k < m
    · rcases HSm.out with h0 | ⟨b, off, rfl, hb, hcell⟩
      · exact absurd HM.out (by omega)
      · obtain ⟨c0, c1, c2, c3⟩ := hcell k (by rw [HM.out]; exact hlt)
        have d0 := (hbw.out.1.cell (p := ⟨b, off + k * 4, none⟩) hb).trans c0
        have d1 := (hbw.out.1.cell (p := ⟨b, off + k * 4 + 1, none⟩) hb).trans c1
        have d2 := (hbw.out.1.cell (p := ⟨b, off + k * 4 + 2, none⟩) hb).trans c2
        have d3 := (hbw.out.1.cell (p := ⟨b, off + k * 4 + 3, none⟩) hb).trans c3
        clear c0 c1 c2 c3 hcell
        have hlt' : (k : Int) < (m : Int) := by omega
        have hsm := HOk.out.on k (by rw [HM.out]; exact hlt)
        have hva := HOk.out.val _ _ hsm.1.1 hsm.1.2
        have hvb := HOk.out.val _ _ hsm.2.1 hsm.2.2
        have HA := Lib.hid (fun X (hX : PcsAt X p aP) => HLa.out (p.a k) hsm.1 X hX)
        have HB := Lib.hid (fun X (hX : PcsAt X p aP) => HLa.out (p.b k) hsm.2 X hX)
        have HD := Lib.hid (show p.diff k = ((p.val (p.a k).1 (p.a k).2 - p.val (p.b k).1 (p.b k).2).natAbs : Int) from rfl)
        clear hsm
        unfold edV at HA HB
        generalize p.val (p.a k).1 (p.a k).2 = za at hva HA HD
        generalize p.val (p.b k).1 (p.b k).2 = zb at hvb HB HD
        generalize ((p.a k).1 : Int) = xa at d0 HA
        generalize ((p.a k).2 : Int) = ya at d1 HA
        generalize ((p.b k).1 : Int) = xb at d2 HB
        generalize ((p.b k).2 : Int) = yb at d3 HB
        have HC := Lib.hid (fun X => apart_pat za zb X (by omega) (by omega) (by omega) (by omega))
        generalize ((za - zb).natAbs : Int) = dd at HC HD
        clear hva hvb
        go_wp2_with fail
        refine (sides_any _ _ _ _ _).mono ?_
        rintro e w2 ⟨rfl, hb2⟩
        have HB2 := Lib.hid (Bel.step (B := wr.heap.size) (a := wr) (show Bel wr.heap.size wr _ from (by repeat (first | assumption | exact Bel.refl _ | refine Bel.drew ?_ | refine Bel.drewN ?_ _ | refine Bel.alloc ?_ _ | refine Bel.setCell ?_ (by simp; try omega) _))) hb2)
        clear hb2 d0 d1 d2 d3
        go_upto_region 6 with fail
        obtain ⟨W6, hW6⟩ : ∃ W, (w2.alloc (.cells #[.int .i64 xa, .int .i64 ya] 126)).alloc (.cells #[.int .i64 xb, .int .i64 yb] 126) = W := ⟨_, rfl⟩
        have hB6 : Bel wr.heap.size wr W6 := by rw [← hW6]; exact (HB2.out.alloc _).alloc _
        have x0 : W6.cell? ⟨w2.heap.size, 0, none⟩ = some (.int .i64 xa) := by rw [← hW6]; simp [go_sem]
        have x1 : W6.cell? ⟨w2.heap.size, 1, none⟩ = some (.int .i64 ya) := by rw [← hW6]; simp [go_sem]
        have x2 : W6.cell? ⟨w2.heap.size + 1, 0, none⟩ = some (.int .i64 xb) := by rw [← hW6]; simp [go_sem]
        have x3 : W6.cell? ⟨w2.heap.size + 1, 1, none⟩ = some (.int .i64 yb) := by rw [← hW6]; simp [go_sem]
        have x4 : w2.heap.size + 1 < W6.heap.size := by rw [← hW6]; simp
        have x5 : w2.heap.size < W6.heap.size := by omega
        rw [hW6]
        have HBx6 := Lib.hid (hbx.out.below hB6.1)
        obtain ⟨x6, x7, x8, x9⟩ := HBx6.out
        have HPc := Lib.hid (HPa.out.1.below (hbw.out.step hB6.1).1)
        have HO6 := Lib.hid (own_below hown.out hB6.1)
        have HB6 := Lib.hid (hbw.out.step hB6.1)
        have HSk := Lib.hid (fun (X : World) (hX : Below W6.heap.size W6 X) => (show (X.cell? ⟨w2.heap.size, 0, none⟩ = some (.int .i64 xa) ∧ X.cell? ⟨w2.heap.size, 1, none⟩ = some (.int .i64 ya) ∧ X.cell? ⟨w2.heap.size + 1, 0, none⟩ = some (.int .i64 xb) ∧ X.cell? ⟨w2.heap.size + 1, 1, none⟩ = some (.int .i64 yb) ∧ X.cell? ⟨w.heap.size, 0, none⟩ = some (.slice aP n cP) ∧ X.cell? ⟨w.heap.size, 1, none⟩ = some (.slice (some ⟨b, off, none⟩) m cS) ∧ X.cell? ⟨w.heap.size, 2, none⟩ = some (.int .i64 op)) from
          ⟨(hX.cell (p := ⟨w2.heap.size, 0, none⟩) x5).trans x0, (hX.cell (p := ⟨w2.heap.size, 1, none⟩) x5).trans x1, (hX.cell (p := ⟨w2.heap.size + 1, 0, none⟩) x4).trans x2, (hX.cell (p := ⟨w2.heap.size + 1, 1, none⟩) x4).trans x3, (hX.cell (p := ⟨w.heap.size, 0, none⟩) x9).trans x6, (hX.cell (p := ⟨w.heap.size, 1, none⟩) x9).trans x7, (hX.cell (p := ⟨w.heap.size, 2, none⟩) x9).trans x8⟩))
        have hgr := (own_block (b := g) hown.out rfl).2
        have hw2 := HB2.out.2
        have hwg2 := hwg.out
        have HSk2 := Lib.hid (fun (X : World) (hX : Below W6.heap.size W6 X) (Y : World) (hg : X.grownBy Y (some g)) => (show (Y.cell? ⟨w2.heap.size, 0, none⟩ = some (.int .i64 xa) ∧ Y.cell? ⟨w2.heap.size, 1, none⟩ = some (.int .i64 ya) ∧ Y.cell? ⟨w2.heap.size + 1, 0, none⟩ = some (.int .i64 xb) ∧ Y.cell? ⟨w2.heap.size + 1, 1, none⟩ = some (.int .i64 yb) ∧ Y.cell? ⟨w.heap.size, 0, none⟩ = some (.slice aP n cP) ∧ Y.cell? ⟨w.heap.size, 1, none⟩ = some (.slice (some ⟨b, off, none⟩) m cS) ∧ Y.cell? ⟨w.heap.size, 2, none⟩ = some (.int .i64 op)) from by
          have hs := hX.size
          obtain ⟨c0, c1, c2, c3, c4, c5, c6⟩ := HSk.out X hX
          exact ⟨(hg.cell_far ⟨w2.heap.size, 0, none⟩ (by show w2.heap.size < X.heap.size; omega) (fun e => by have h1 : w2.heap.size = g := (by simpa using e); omega)).trans c0, (hg.cell_far ⟨w2.heap.size, 1, none⟩ (by show w2.heap.size < X.heap.size; omega) (fun e => by have h1 : w2.heap.size = g := (by simpa using e); omega)).trans c1, (hg.cell_far ⟨w2.heap.size + 1, 0, none⟩ (by show w2.heap.size + 1 < X.heap.size; omega) (fun e => by have h1 : w2.heap.size + 1 = g := (by simpa using e); omega)).trans c2, (hg.cell_far ⟨w2.heap.size + 1, 1, none⟩ (by show w2.heap.size + 1 < X.heap.size; omega) (fun e => by have h1 : w2.heap.size + 1 = g := (by simpa using e); omega)).trans c3,
            (hg.cell_far ⟨w.heap.size, 0, none⟩ (by show w.heap.size < X.heap.size; omega) (fun e => by have h1 : w.heap.size = g := (by simpa using e); omega)).trans c4, (hg.cell_far ⟨w.heap.size, 1, none⟩ (by show w.heap.size < X.heap.size; omega) (fun e => by have h1 : w.heap.size = g := (by simpa using e); omega)).trans c5, (hg.cell_far ⟨w.heap.size, 2, none⟩ (by show w.heap.size < X.heap.size; omega) (fun e => by have h1 : w.heap.size = g := (by simpa using e); omega)).trans c6⟩))
        clear hB6 hW6 hown hbx hbw hgr hw2 hwg2
        go_region_held3 (fun X => X.cell? ⟨w2.heap.size, 0, none⟩ = some (.int .i64 xa) ∧ X.cell? ⟨w2.heap.size, 1, none⟩ = some (.int .i64 ya) ∧ X.cell? ⟨w2.heap.size + 1, 0, none⟩ = some (.int .i64 xb) ∧ X.cell? ⟨w2.heap.size + 1, 1, none⟩ = some (.int .i64 yb) ∧ X.cell? ⟨w.heap.size, 0, none⟩ = some (.slice aP n cP) ∧ X.cell? ⟨w.heap.size, 1, none⟩ = some (.slice (some ⟨b, off, none⟩) m cS) ∧ X.cell? ⟨w.heap.size, 2, none⟩ = some (.int .i64 op)) (first | (with_reducible exact hK2) | (with_reducible exact hK3) | (with_reducible exact hK4) | go_keep)
          (first
            | (go_at_call 75; (with_reducible refine (HA.out W6.drew (HPc.out.below (Below.refl _ _).drew)).mono ?_); rintro e w7 ⟨rfl, hb7⟩; have HB7 := Lib.hid (show Below W6.heap.size W6 w7 from (Below.refl _ _).drew.trans hb7); clear hb7; have hK2 := HSk.out w7 HB7.out)
            | (go_at_call 75; (with_reducible refine (HB.out w7 (HPc.out.below HB7.out)).mono ?_); rintro e w8 ⟨rfl, hb8⟩; have HB8 := Lib.hid (show Below W6.heap.size W6 w8 from HB7.out.trans (hb8.mono HB7.out.size)); clear hb8; have hK3 := HSk.out w8 HB8.out)
            | (go_at_call 59; (with_reducible refine (HC.out _).mono ?_); rintro e w9 ⟨rfl, rfl⟩)
            | (refine stepI (by rfl) _ _ (by rfl) w.heap.size _ _ _ (by rfl) ((own_below HO6.out HB8.out).alloc _) [.int .i64 dd] (by rfl) (by simp [Value.oneCell']) 1 w8.heap.size (new_cells (w := w8) (cs := #[.int .i64 dd]) (t := 2) rfl rfl) (by rfl) (by omega) ((HB6.out.step HB8.out).alloc _) ?_; intro g5 cap5 w5 ho5 hb5 hg5 hat5; have hK4 := HSk2.out _ (HB8.out.alloc HB8.out.size _) w5 hg5)
            | fail)
        have HO9 := Lib.hid (show w5.ownsRow w.heap.size 2 1 (.slice (some ⟨g5, 0, none⟩) (k + 1) cap5) (k + 1) ((p.diffs (k + 1)).map (Value.int .i64)) by rw [Pat.diffs_more, HD.out, List.map_append]; exact ho5)
        have HB9 := Lib.hid hb5
        have HG9 := Lib.hid (show w.heap.size < g5 by
          rcases hat5 with h | h
          · have h1 : g = g5 := (by simpa [Value.ownBlock] using h)
            have := hwg.out
            omega
          · have h1 := HB8.out.size
            have h2 : w8.heap.size ≤ (w8.alloc (.cells #[.int .i64 dd] 2)).heap.size := by simp
            omega)
        have HX9 := Lib.hid (show PBox w5 w.heap.size aP n cP (some ⟨b, off, none⟩) m cS op from ⟨hK4.2.2.2.2.1, hK4.2.2.2.2.2.1, hK4.2.2.2.2.2.2, by have h1 := hg5.size; have h2 := HB8.out.size; have h3 : w8.heap.size ≤ (w8.alloc (.cells #[.int .i64 dd] 2)).heap.size := (by simp); omega⟩)
        clear ho5 hb5 hg5 hat5 hK4 x0 x1 x2 x3 x6 x7 x8
        go_wp2_with fail
        go_roundw
        case rel => exact ⟨k + 1, by omega, by go_num, g5, cap5, rfl, HO9, HG9, HX9, HB9⟩
        case measure => simp [intOf]; omega
    · go_wp2
      go_ret
      have e : k = m := by omega
      subst e
      exact ⟨_, c, rfl, hown.out, hbw.out.1⟩
end Go.Proofs.YthemlamdchcicaaGreatDoor
