/-
  Contract of the reference's PressPlan. No condition of its own.
-/
import Derived.Test.YtcajpedhfljhdaaPlanI
namespace Go.Proofs.Ytcajpedhfljhdaa
open Go.ChangeShapes Go.WideShapes Go.ChangeAt Go.RowKit Go.Deep Go.Shelf

def JoinAt (W : World) (B g : Nat) (a b c e : Int) : Prop := W.ownsRow B 45 4 (.slice (some ⟨g, 0, none⟩) 1 1) 1 [.int .i64 a, .int .i64 b, .int .i64 c, .int .i64 e]
theorem join_new (W : World) (B : Nat) (a b c e : Int) (hB : B ≤ W.heap.size) : JoinAt (W.alloc (.cells #[.int .i64 a, .int .i64 b, .int .i64 c, .int .i64 e] 45)) B W.heap.size a b c e :=
  own_base (World.ownsRow_lit (base := W.heap.size) (size := 4) (e := 45) W #[.int .i64 a, .int .i64 b, .int .i64 c, .int .i64 e] 1 (Nat.le_refl _) (by unfold maxLen; omega) (by simp)) hB
theorem JoinAt.cells {W : World} {B g : Nat} {a b c e : Int} (h : JoinAt W B g a b c e) : W.cell? ⟨g, 0, none⟩ = some (.int .i64 a) ∧ W.cell? ⟨g, 1, none⟩ = some (.int .i64 b) ∧ W.cell? ⟨g, 2, none⟩ = some (.int .i64 c) ∧ W.cell? ⟨g, 3, none⟩ = some (.int .i64 e) ∧ W.frozen? ⟨g, 2, none⟩ = false ∧ W.frozen? ⟨g, 3, none⟩ = false :=
  ⟨h.cellAt 0 (by omega), h.cellAt 1 (by omega), h.cellAt 2 (by omega), h.cellAt 3 (by omega), h.frozenAt 2, h.frozenAt 3⟩

set_option maxRecDepth 100000 in
set_option maxHeartbeats 6400000 in
theorem spec_PressPlan (w : World) (d : Int) (_ : (Lit.int .i64 d).wf = true) (o : Int) (_ : (Lit.int .i64 o).wf = true) (p : Int) (_ : (Lit.int .i64 p).wf = true)
    (a : Option Addr) (n c : Nat) (xs : List Int) (hl : xs.length = n) (hn : n ≤ 1048576) (ha : CellsAt w a (xs.map (Value.int .i64))) (_ : ∀ z ∈ xs, (Lit.int .i64 z).wf = true)
    (a' : Option Addr) (m c' : Nat) (ys : List Int) (hl' : ys.length = m) (hn' : m ≤ 1048576) (ha' : CellsAt w a' (ys.map (Value.int .i64))) (_ : ∀ z ∈ ys, (Lit.int .i64 z).wf = true) (pr : Int) (_ : (Lit.int .i64 pr).wf = true) :
    Calls Try.prog 43 #[.agg #[.int .i64 d, .int .i64 o, .int .i64 p], .slice a n c, .slice a' m c', .int .i64 pr] w (RowEnd w 45 4 (planF d o p xs n ys m pr) (planC d o p xs n ys m pr)) := by
  obtain ⟨r, hr⟩ : ∃ r, planF d o p xs n ys m pr = r := ⟨_, rfl⟩
  obtain ⟨q, hq⟩ : ∃ q, planC d o p xs n ys m pr = q := ⟨_, rfl⟩
  rw [hr, hq]
  cases hg : glueB d o p with
  | false =>
    have h1 := plan_glue (pr := pr) (xs := xs) (ys := ys) (n := n) (m := m) hg
    obtain rfl : r = [] := by rw [← hr, h1.1]
    obtain rfl : q = 1 := by rw [← hq, h1.2]
    clear hr hq h1 hl ha hl' ha'
    go_enter Try.func43, Try.ntmps43
    go_wp2_with (go_at_call 54; refine (l19Ok_any _ _ _ _).mono ?_; rintro e w1 ⟨rfl, rfl⟩)
    go_ret2
    exact rowEnd_fail (by repeat (first | exact Below.refl _ _ | assumption | refine Below.drew ?_ | refine below_drewN ?_ _ | refine Below.alloc ?_ (by simp; try omega) _ | refine Below.setCell ?_ (by simp; try omega) _))
  | true =>
    obtain ⟨g1, g2, g3, g4, g5⟩ := glueB_true.1 hg
    have HW := Lib.hid (((Bel.refl w).alloc (.cells #[.int .i64 d, .int .i64 o, .int .i64 p] 25)).alloc (.cells #[.int .i64 d, .int .i64 o, .int .i64 p] 25))
    have hgl0 : GlueAt ((w.alloc (.cells #[.int .i64 d, .int .i64 o, .int .i64 p] 25)).alloc (.cells #[.int .i64 d, .int .i64 o, .int .i64 p] 25)) w.heap.size d o p := by
      refine ⟨?_, ?_, ?_⟩ <;> simp
    have HGl := Lib.hid hgl0
    have hvg := fun W => l19Ok_any d o p W
    simp only [hg] at hvg
    have HVG := Lib.hid hvg
    have HAsk := Lib.hid (fun (h : ¬ askP xs ys n m pr) => (show r = [] ∧ q = 2 by have := plan_ask hg h; rw [← hr, ← hq]; exact this))
    have Hg := Lib.hid hg
    have Hl := Lib.hid hl
    have Hl' := Lib.hid hl'
    have HA := Lib.hid ha
    have HA' := Lib.hid ha'
    have HR := Lib.hid (And.intro hr hq)
    clear hr hq hg hvg hgl0 hl ha hl' ha'
    go_enter Try.func43, Try.ntmps43
    go_wp2_with fail
    refine (HVG.out _).mono ?_
    rintro e w1 ⟨rfl, hw1⟩
    have HW1 := Lib.hid (show Bel w.heap.size w w1 by rw [← hw1]; exact HW.out)
    have HGl1 := Lib.hid (show GlueAt w1 w.heap.size d o p by rw [← hw1]; exact HGl.out)
    have hs1 : w.heap.size < w1.heap.size := by rw [← hw1]; simp; omega
    clear hw1 HW HGl
    go_wp2_with fail
    go_loopw [10] (fun u wr => ∃ i : Nat, i ≤ n ∧ i ≤ m ∧ u = .int .i64 i ∧ Hid (∀ j, j < i → inB (xs.getD j 0) 0 50000 = true) ∧ Hid (∀ j, j < i → inB (ys.getD j 0) 0 50000 = true) ∧ Hid (Bel w1.heap.size w1 wr)) (fun u _ => n - (intOf u).toNat)
    case atStart => exact ⟨0, Nat.zero_le _, Nat.zero_le _, rfl, Lib.hid (fun j hj => by omega), Lib.hid (fun j hj => by omega), Lib.hid (Bel.refl _)⟩
    case round =>
      obtain ⟨i, hi, hi', rfl, hgx, hgy, hbw⟩ := hrel
      have HWr := Lib.hid (HW1.out.step hbw.out.1)
      by_cases hlt : i < n
      · by_cases hlt' : i < m
        · obtain ⟨bx, ox, rfl, hbx, hcx⟩ := HA.out.at_ (by have := Hl.out; simp; omega)
          obtain ⟨by', oy, rfl, hby, hcy⟩ := HA'.out.at_ (by have := Hl'.out; simp; omega)
          obtain ⟨x1, hx1⟩ : ∃ v, xs.getD i 0 = v := ⟨_, rfl⟩
          obtain ⟨y1, hy1⟩ : ∃ v, ys.getD i 0 = v := ⟨_, rfl⟩
          have kx := cell_int hbx HWr.out.1 hcx (by rw [Hl.out]; exact hlt) hx1
          have ky := cell_int hby HWr.out.1 hcy (by rw [Hl'.out]; exact hlt') hy1
          have HX := Lib.hid hx1
          have HY := Lib.hid hy1
          have q1 : (i : Int) < (n : Int) := by omega
          have q2 : (i : Int) < (m : Int) := by omega
          have hix := fun W => l00In_any x1 0 50000 W
          have hiy := fun W => l00In_any y1 0 50000 W
          clear hcx hcy hx1 hy1
          cases hb1 : inB x1 0 50000
          · simp only [hb1] at hix
            have HIX := Lib.hid hix
            obtain ⟨rfl, rfl⟩ := HAsk.out (fun h => by have := outB_bad (by rw [Hl.out]; exact hlt) HX.out hb1; rw [h.2.2.1] at this; cases this)
            clear hix hiy hb1
            go_wp2_with fail
            refine (HIX.out _).mono ?_
            rintro e w2 ⟨rfl, rfl⟩
            go_wp2_with fail
            go_ret2
            exact rowEnd_fail HWr.out.1
          · cases hb2 : inB y1 0 50000
            · simp only [hb1] at hix
              simp only [hb2] at hiy
              have HIX := Lib.hid hix
              have HIY := Lib.hid hiy
              obtain ⟨rfl, rfl⟩ := HAsk.out (fun h => by have := outB_bad (by rw [Hl'.out]; exact hlt') HY.out hb2; rw [h.2.2.2.1] at this; cases this)
              clear hix hiy hb1 hb2
              go_wp2_with fail
              refine (HIX.out _).mono ?_
              rintro e w2 ⟨rfl, rfl⟩
              go_wp2_with fail
              refine (HIY.out _).mono ?_
              rintro e w2 ⟨rfl, rfl⟩
              go_wp2_with fail
              go_ret2
              exact rowEnd_fail HWr.out.1
            · have Hg1 := Lib.hid (inB_more hgx.out HX.out hb1)
              have Hg2 := Lib.hid (inB_more hgy.out HY.out hb2)
              simp only [hb1] at hix
              simp only [hb2] at hiy
              have HIX := Lib.hid hix
              have HIY := Lib.hid hiy
              clear hix hiy hb1 hb2
              go_wp2_with fail
              refine (HIX.out _).mono ?_
              rintro e w2 ⟨rfl, rfl⟩
              go_wp2_with fail
              refine (HIY.out _).mono ?_
              rintro e w2 ⟨rfl, rfl⟩
              go_wp2_with fail
              go_roundw
              case rel => exact ⟨i + 1, by omega, by omega, by go_num, Hg1, Hg2, hbw⟩
              case measure => simp [intOf]; omega
        · obtain rfl : i = m := by omega
          obtain ⟨rfl, rfl⟩ := HAsk.out (fun h => by have := h.1; omega)
          have q1 : (i : Int) < (n : Int) := by omega
          have q3 : (n : Int) ≠ (i : Int) := by omega
          go_wp2_with fail
          go_ret2
          exact rowEnd_fail HWr.out.1
      · obtain rfl : i = n := by omega
        by_cases hnm : i = m
        · subst hnm
          have hbx0 := outB_good (zs := xs) (lo := 0) (hi := 50000) (k := i) (by rw [Hl.out]; omega) hgx.out
          have hby0 := outB_good (zs := ys) (lo := 0) (hi := 50000) (k := i) (by rw [Hl'.out]; omega) hgy.out
          by_cases n20 : i ≤ 20
          · cases b3 : inB pr 1 5
            · have hwi := fun W => l00In_any pr 1 5 W
              simp only [b3] at hwi
              have HWI := Lib.hid hwi
              obtain ⟨rfl, rfl⟩ := HAsk.out (fun h => by have := h.2.2.2.2; rw [b3] at this; cases this)
              clear hwi b3
              go_wp2_with fail
              refine (HWI.out _).mono ?_
              rintro e w2 ⟨rfl, rfl⟩
              go_wp2_with fail
              go_ret2
              exact rowEnd_fail HWr.out.1
            · obtain ⟨p1, p2⟩ := inB_true.1 b3
              obtain ⟨P, rfl⟩ : ∃ P : Nat, pr = (P : Int) := ⟨pr.toNat, by omega⟩
              have hbx := fun j (hj : j < i) => outB_at hbx0 (show j < xs.length by rw [Hl.out]; exact hj)
              have hby := fun j (hj : j < i) => outB_at hby0 (show j < ys.length by rw [Hl'.out]; exact hj)
              have HBx := Lib.hid hbx
              have HBy := Lib.hid hby
              have HBd := Lib.hid (fun (k : Nat) (fs out : List Int) (hi : k ≤ i) (h : planTo d o p xs ys P k = some (fs, out)) => plan_bd (d := d) g3 g4 g5 (fun j hj => hbx j (by omega)) h)
              have HNo := Lib.hid (fun (h : planTo d o p xs ys P i = none) => (show r = [] ∧ q = 3 by
                have := plan_no (m := i) Hg.out ⟨rfl, n20, hbx0, hby0, b3⟩ h
                rw [← HR.out.1, ← HR.out.2]; exact this))
              have HYes := Lib.hid (fun (fs out : List Int) (h : planTo d o p xs ys P i = some (fs, out)) => (show r = out ∧ q = 0 by
                have := plan_yes (m := i) Hg.out ⟨rfl, n20, hbx0, hby0, b3⟩ h
                rw [← HR.out.1, ← HR.out.2]; exact this))
              have hwi := fun W => l00In_any (P : Int) 1 5 W
              simp only [b3] at hwi
              have HWI := Lib.hid hwi
              have hP1 : 1 ≤ P := by omega
              have hP5 : P ≤ 5 := by omega
              have hmk := run_make_row' (P := Try.prog) 58 2 (.int .i64 0) 8 Try.underlying58 infoI rfl .i64 .i64 P (by omega) (by omega)
              have HRF := Lib.hid ((zeros_own wr w1.heap.size P hbw.out.2 (by omega)).alloc (.cells #[] 45))
              have HRJ := Lib.hid (own_none' (wr.alloc (.cells (madeCells #[Value.int .i64 0] P) 2)) w1.heap.size 45 4 (by have := hbw.out.2; simp; omega))
              have HRB := Lib.hid ((hbw.out.alloc (.cells (madeCells #[Value.int .i64 0] P) 2)).alloc (.cells #[] 45))
              clear hwi b3 hbx hby hbx0 hby0 HAsk hgx hgy HWr
              go_wp2_with fail
              refine (HWI.out _).mono ?_
              rintro e w2 ⟨rfl, rfl⟩
              go_wp2_with fail
              rw [World.size_alloc] at HRJ
              generalize hyy : wr.heap.size = y at HRF HRJ ⊢
              go_loopw [12, 13] (fun v u wq => ∃ k : Nat, k ≤ i ∧ u = .int .i64 k ∧ ∃ (gO co : Nat) (fs out : List Int), v = .slice (some ⟨gO, 0, none⟩) k co ∧ gO ≠ y ∧ Hid (planTo d o p xs ys P k = some (fs, out)) ∧ Hid (wq.ownsRow w1.heap.size 45 4 (.slice (some ⟨gO, 0, none⟩) k co) k (out.map (Value.int .i64))) ∧ Hid (wq.ownsRow w1.heap.size 2 1 (.slice (some ⟨y, 0, none⟩) P P) P (fs.map (Value.int .i64))) ∧ Hid (Bel w1.heap.size w1 wq)) (fun _ u _ => i - (intOf u).toNat)
              case atStart => exact ⟨0, Nat.zero_le _, rfl, y + 1, 0, _, [], rfl, by omega, Lib.hid rfl, HRJ, HRF, HRB⟩
              case round =>
                clear hyy hmk HRJ HRF HRB hbw
                obtain ⟨k, hk, rfl, gO, co, fs, out, rfl, hne, hpl, hrowJ, hrowF, hbw⟩ := hrel
                have hbd := HBd.out k fs out (by omega) hpl.out
                obtain ⟨fl, ol, fb⟩ := hbd
                by_cases hlt : k < i
                · have hlt' : (k : Int) < (i : Int) := by omega
                  have HFl := Lib.hid fl
                  have HFb := Lib.hid fb
                  have HCell := Lib.hid (fun (W : World) (h : W.ownsRow w1.heap.size 2 1 (.slice (some ⟨y, 0, none⟩) P P) P (fs.map (Value.int .i64))) (j : Nat) (hj : j < P) (u : Int) (hu : fs.getD j 0 = u) => (show W.cell? ⟨y, j, none⟩ = some (.int .i64 u) by
                    have hjl : j < fs.length := by rw [fl]; exact hj
                    have hu2 : fs[j] = u := by rw [← hu]; simp [List.getElem?_eq_getElem hjl]
                    rw [h.cellAt j (by omega), List.getElem?_map, List.getElem?_eq_getElem hjl, ← hu2]; rfl))
                  clear fl fb
                  go_wp2_with fail
                  go_loopw [14, 15] (fun s t wz => ∃ j : Nat, 1 ≤ j ∧ j ≤ P ∧ t = .int .i64 j ∧ ∃ b : Nat, s = .int .i64 b ∧ b < P ∧ Hid (b = bst fs j) ∧ Hid (wz.ownsRow w1.heap.size 45 4 (.slice (some ⟨gO, 0, none⟩) k co) k (out.map (Value.int .i64))) ∧ Hid (wz.ownsRow w1.heap.size 2 1 (.slice (some ⟨y, 0, none⟩) P P) P (fs.map (Value.int .i64))) ∧ Hid (Bel w1.heap.size w1 wz)) (fun _ t _ => P - (intOf t).toNat)
                  case atStart => exact ⟨1, Nat.le_refl _, hP1, rfl, 0, rfl, by omega, Lib.hid (bst_one _).symm, hrowJ, hrowF, hbw⟩
                  case round =>
                    clear hrowJ hrowF hbw
                    obtain ⟨j, hj1, hj, rfl, b, rfl, hbP, hb, hrowJ, hrowF, hbw⟩ := hrel
                    by_cases hjP : j < P
                    · obtain ⟨u1, hu1⟩ : ∃ v, fs.getD j 0 = v := ⟨_, rfl⟩
                      obtain ⟨v1, hv1⟩ : ∃ v, fs.getD b 0 = v := ⟨_, rfl⟩
                      have c1 := HCell.out _ hrowF.out j hjP u1 hu1
                      have c2 := HCell.out _ hrowF.out b hbP v1 hv1
                      have hjP' : (j : Int) < (P : Int) := by omega
                      have HN := Lib.hid (show bst fs (j + 1) = if u1 < v1 then j else b by simp only [bst]; rw [← hb.out, hu1, hv1])
                      clear hu1 hv1
                      by_cases huv : u1 < v1
                      · go_wp2_with fail
                        go_big_quiet (fail)
                        go_wp2_with fail
                        go_roundw
                        case rel => exact ⟨j + 1, by omega, by omega, by go_num, j, rfl, hjP, Lib.hid (by rw [HN.out, if_pos (by omega)]), Lib.hid hrowJ.out, Lib.hid hrowF.out, Lib.hid (hbw.out.drewN _)⟩
                        case measure => simp [intOf]; omega
                      · go_wp2_with fail
                        go_big_quiet (fail)
                        go_wp2_with fail
                        go_roundw
                        case rel => exact ⟨j + 1, by omega, by omega, by go_num, b, rfl, hbP, Lib.hid (by rw [HN.out, if_neg (by omega)]), Lib.hid hrowJ.out, Lib.hid hrowF.out, Lib.hid (hbw.out.drewN _)⟩
                        case measure => simp [intOf]; omega
                    · have e : P = j := by omega
                      subst e
                      obtain ⟨bx, ox, rfl, hbx, hcx⟩ := HA.out.at_ (by have := Hl.out; simp; omega)
                      obtain ⟨by', oy, rfl, hby, hcy⟩ := HA'.out.at_ (by have := Hl'.out; simp; omega)
                      obtain ⟨v, hv⟩ : ∃ v, fs.getD b 0 = v := ⟨_, rfl⟩
                      obtain ⟨x1, hx1⟩ : ∃ v, xs.getD k 0 = v := ⟨_, rfl⟩
                      obtain ⟨y1, hy1⟩ : ∃ v, ys.getD k 0 = v := ⟨_, rfl⟩
                      have hvb := HFb.out b
                      rw [hv] at hvb
                      have hxb := HBx.out k hlt
                      rw [hx1] at hxb
                      have hyb := HBy.out k hlt
                      rw [hy1] at hyb
                      have HCx := Lib.hid (fun W (h : Bel w.heap.size w W) => cell_int hbx h.1 hcx (by rw [Hl.out]; exact hlt) hx1)
                      have HCy := Lib.hid (fun W (h : Bel w.heap.size w W) => cell_int hby h.1 hcy (by rw [Hl'.out]; exact hlt) hy1)
                      have hm1 := fun W => l00Max_any x1 y1 W
                      have hm2 := fun W => l00Min_any x1 y1 W
                      obtain ⟨M, hM⟩ : ∃ v, max x1 y1 = v := ⟨_, rfl⟩
                      obtain ⟨m0, hm0⟩ : ∃ v, min x1 y1 = v := ⟨_, rfl⟩
                      obtain ⟨J, hJ⟩ : ∃ u, max v (M + d) = u := ⟨_, rfl⟩
                      have hm3 := fun W => l00Max_any v (M + d) W
                      simp only [hM] at hm1
                      simp only [hm0] at hm2
                      simp only [hJ] at hm3
                      have HM1 := Lib.hid hm1
                      have HM2 := Lib.hid hm2
                      have HM3 := Lib.hid hm3
                      have hJb : 0 ≤ J ∧ J ≤ 200000 := by omega
                      have hMb : 0 ≤ M ∧ M ≤ 50000 := by omega
                      have hmb : 0 ≤ m0 ∧ m0 ≤ 50000 := by omega
                      have hJ2 : max (max x1 y1 + d) v = J := by rw [hM]; omega
                      have HNone := Lib.hid (fun (h : m0 + o < J) => plan_stays (plan_none (x := x1) (y := y1) (v := v) (J := J) hpl.out hx1 hy1 (by rw [← hb.out]; exact hv) hJ2 (by rw [hm0]; exact h)) (show k + 1 ≤ i by omega))
                      have HSome := Lib.hid (fun (h : ¬ m0 + o < J) => plan_some (x := x1) (y := y1) (v := v) (J := J) hpl.out hx1 hy1 hb.out.symm hv hJ2 (by rw [hm0]; exact h))
                      have HV := Lib.hid hv
                      have w5 : IntKind.i64.wrap (M + d) = M + d := IntWalk.i64_in _ (by omega)
                      have w6 : IntKind.i64.wrap (J + p) = J + p := IntWalk.i64_in _ (by omega)
                      have w7 : IntKind.i64.wrap (m0 + o) = m0 + o := IntWalk.i64_in _ (by omega)
                      clear hcx hcy hv hx1 hy1 hM hm0 hJ hm1 hm2 hm3 hJ2 hxb hyb hvb hpl
                      have kx := HCx.out _ (HW1.out.step hbw.out.1)
                      have ky := HCy.out _ (HW1.out.step hbw.out.1)
                      go_wp2_with fail
                      go_region_held3 (fun W => W.cell? ⟨bx, ox + k, none⟩ = some (.int .i64 x1) ∧ W.cell? ⟨by', oy + k, none⟩ = some (.int .i64 y1)) (first | go_keep | trivial) (fail)
                      go_wp2_with fail
                      have HZ5 := Lib.hid (join_new wr w1.heap.size x1 y1 0 0 hbw.out.2)
                      have HJ5 := Lib.hid (hrowJ.out.alloc (.cells #[.int .i64 x1, .int .i64 y1, .int .i64 0, .int .i64 0] 45))
                      have HF5 := Lib.hid (hrowF.out.alloc (.cells #[.int .i64 x1, .int .i64 y1, .int .i64 0, .int .i64 0] 45))
                      have HB5 := Lib.hid ((hbw.out.alloc (.cells #[.int .i64 x1, .int .i64 y1, .int .i64 0, .int .i64 0] 45)).drew)
                      have hyz : y < wr.heap.size := (own_block hrowF.out rfl).2
                      have hgz : gO < wr.heap.size := (own_block hrowJ.out rfl).2
                      have hwz := Nat.lt_of_lt_of_le hs1 hbw.out.1.size
                      generalize wr.heap.size = z at HZ5 hyz hgz hwz ⊢
                      generalize hw5 : (wr.alloc _).drew = w5
                      have HZ := Lib.hid (show JoinAt w5 w1.heap.size z x1 y1 0 0 by rw [← hw5]; exact HZ5.out)
                      have HJ := Lib.hid (show w5.ownsRow w1.heap.size 45 4 (.slice (some ⟨gO, 0, none⟩) k co) k (out.map (Value.int .i64)) by rw [← hw5]; exact HJ5.out)
                      have HF := Lib.hid (show w5.ownsRow w1.heap.size 2 1 (.slice (some ⟨y, 0, none⟩) P P) P (fs.map (Value.int .i64)) by rw [← hw5]; exact HF5.out)
                      have HB := Lib.hid (show Bel w1.heap.size w1 w5 by rw [← hw5]; exact HB5.out)
                      clear hw5 HZ5 HJ5 HF5 HB5 kx ky hrowJ hrowF hbw
                      have kx := HCx.out _ (HW1.out.step HB.out.1)
                      have ky := HCy.out _ (HW1.out.step HB.out.1)
                      obtain ⟨k0, k1, k2⟩ := HGl1.out.below HB.out.1 hs1
                      have kv := HCell.out _ HF.out b hbP v HV.out
                      obtain ⟨z0, z1, z2, z3, zf2, zf3⟩ := HZ.out.cells
                      have hst6 := (show w5.ownsRow w1.heap.size 45 4 (.slice (some ⟨z, 0, none⟩) 1 1) 1 [.int .i64 x1, .int .i64 y1, .int .i64 0, .int .i64 0] from HZ.out).stored 2 (.int .i64 J)
                      have HZ6 := Lib.hid (show JoinAt (w5.setCell ⟨z, 2, none⟩ (.int .i64 J)).drew w1.heap.size z x1 y1 J 0 from hst6.1)
                      have hj6 := own_grown_ne HJ.out hst6.2 (fun j hj e => by have h1 : gO = j := (by simpa [Value.ownBlock] using hj); have h2 : z = j := (by simpa [Value.ownBlock] using e); omega)
                      have HJ6 := Lib.hid (show (w5.setCell ⟨z, 2, none⟩ (.int .i64 J)).drew.ownsRow w1.heap.size 45 4 (.slice (some ⟨gO, 0, none⟩) k co) k (out.map (Value.int .i64)) from hj6)
                      have hf6 := own_grown_ne HF.out hst6.2 (fun j hj e => by have h1 : y = j := (by simpa [Value.ownBlock] using hj); have h2 : z = j := (by simpa [Value.ownBlock] using e); omega)
                      have HF6 := Lib.hid (show (w5.setCell ⟨z, 2, none⟩ (.int .i64 J)).drew.ownsRow w1.heap.size 2 1 (.slice (some ⟨y, 0, none⟩) P P) P (fs.map (Value.int .i64)) from hf6)
                      have HB6 := Lib.hid ((HB.out.grown hst6.2 (fun j hj => (own_block (show w5.ownsRow w1.heap.size 45 4 (.slice (some ⟨z, 0, none⟩) 1 1) 1 [.int .i64 x1, .int .i64 y1, .int .i64 0, .int .i64 0] from HZ.out) hj).1)).drew)
                      have hS6 := And.intro (HGl1.out.below HB6.out.1 hs1).1 (And.intro (HCx.out _ (HW1.out.step HB6.out.1)) (And.intro (HCy.out _ (HW1.out.step HB6.out.1)) (HCell.out _ HF6.out b hbP v HV.out)))
                      clear hst6 hj6 hf6
                      go_region_held3 (fun W => W.cell? ⟨w.heap.size, 0, none⟩ = some (.int .i64 d) ∧ W.cell? ⟨bx, ox + k, none⟩ = some (.int .i64 x1) ∧ W.cell? ⟨by', oy + k, none⟩ = some (.int .i64 y1) ∧ W.cell? ⟨y, b, none⟩ = some (.int .i64 v)) (first | go_keep | exact hS6)
                        ((go_at_call 57; (first | refine (HM1.out _).mono ?_ | refine (HM3.out _).mono ?_); rintro e w9 ⟨rfl, rfl⟩))
                      generalize (w5.setCell _ _).drew = w6 at HZ6 HJ6 HF6 HB6 ⊢
                      clear hS6 z0 z1 z2 z3 zf2 zf3 kx ky k0 k1 k2 kv HZ HJ HF HB
                      obtain ⟨z0, z1, z2, z3, zf2, zf3⟩ := HZ6.out.cells
                      obtain ⟨k0, k1, k2⟩ := HGl1.out.below HB6.out.1 hs1
                      go_wp2_with fail
                      have hst7 := (show w6.ownsRow w1.heap.size 45 4 (.slice (some ⟨z, 0, none⟩) 1 1) 1 [.int .i64 x1, .int .i64 y1, .int .i64 J, .int .i64 0] from HZ6.out).stored 3 (.int .i64 (J + p))
                      have HZ7 := Lib.hid (show JoinAt (w6.setCell ⟨z, 3, none⟩ (.int .i64 (J + p))) w1.heap.size z x1 y1 J (J + p) from hst7.1)
                      have HJ7 := Lib.hid (own_grown_ne HJ6.out hst7.2 (fun j hj e => by have h1 : gO = j := (by simpa [Value.ownBlock] using hj); have h2 : z = j := (by simpa [Value.ownBlock] using e); omega))
                      have HF7 := Lib.hid (own_grown_ne HF6.out hst7.2 (fun j hj e => by have h1 : y = j := (by simpa [Value.ownBlock] using hj); have h2 : z = j := (by simpa [Value.ownBlock] using e); omega))
                      have HB7 := Lib.hid (HB6.out.grown hst7.2 (fun j hj => (own_block (show w6.ownsRow w1.heap.size 45 4 (.slice (some ⟨z, 0, none⟩) 1 1) 1 [.int .i64 x1, .int .i64 y1, .int .i64 J, .int .i64 0] from HZ6.out) hj).1))
                      clear hst7
                      generalize w6.setCell _ _ = w7 at HZ7 HJ7 HF7 HB7 ⊢
                      clear z0 z1 z2 z3 zf2 zf3 k0 k1 k2 HZ6 HJ6 HF6 HB6
                      have kx := HCx.out _ (HW1.out.step HB7.out.1)
                      have ky := HCy.out _ (HW1.out.step HB7.out.1)
                      obtain ⟨z0, z1, z2, z3, zf2, zf3⟩ := HZ7.out.cells
                      obtain ⟨k0, k1, k2⟩ := HGl1.out.below HB7.out.1 hs1
                      by_cases hJm : m0 + o < J
                      · obtain ⟨rfl, rfl⟩ := HNo.out (HNone.out hJm)
                        go_wp2_with fail
                        go_region_held3 (fun W => W.cell? ⟨z, 2, none⟩ = some (.int .i64 J) ∧ W.cell? ⟨bx, ox + k, none⟩ = some (.int .i64 x1) ∧ W.cell? ⟨by', oy + k, none⟩ = some (.int .i64 y1) ∧ W.cell? ⟨w.heap.size, 1, none⟩ = some (.int .i64 o)) (first | go_keep | trivial) ((go_at_call 59; refine (HM2.out _).mono ?_; rintro e w9 ⟨rfl, rfl⟩))
                        go_wp2_with fail
                        go_ret2
                        exact rowEnd_fail (HW1.out.step HB7.out.drew.1).1
                      · go_wp2_with fail
                        go_region_held3 (fun W => W.cell? ⟨z, 2, none⟩ = some (.int .i64 J) ∧ W.cell? ⟨bx, ox + k, none⟩ = some (.int .i64 x1) ∧ W.cell? ⟨by', oy + k, none⟩ = some (.int .i64 y1) ∧ W.cell? ⟨w.heap.size, 1, none⟩ = some (.int .i64 o)) (first | go_keep | trivial) ((go_at_call 59; refine (HM2.out _).mono ?_; rintro e w9 ⟨rfl, rfl⟩))
                        generalize hw8 : w7.drew = w8
                        have HZ8 := Lib.hid (show JoinAt w8 w1.heap.size z x1 y1 J (J + p) by rw [← hw8]; exact HZ7.out)
                        have HJ8 := Lib.hid (show w8.ownsRow w1.heap.size 45 4 (.slice (some ⟨gO, 0, none⟩) k co) k (out.map (Value.int .i64)) by rw [← hw8]; exact HJ7.out)
                        have HF8 := Lib.hid (show w8.ownsRow w1.heap.size 2 1 (.slice (some ⟨y, 0, none⟩) P P) P (fs.map (Value.int .i64)) by rw [← hw8]; exact HF7.out)
                        have HB8 := Lib.hid (show Bel w1.heap.size w1 w8 by rw [← hw8]; exact HB7.out.drew)
                        clear hw8 z0 z1 z2 z3 zf2 zf3 k0 k1 k2 kx ky HZ7 HJ7 HF7 HB7
                        obtain ⟨z0, z1, z2, z3, zf2, zf3⟩ := HZ8.out.cells
                        have f1 := HF8.out.frozenAt b
                        have cF := HCell.out _ HF8.out b hbP v HV.out
                        have hst9 := HF8.out.stored b (.int .i64 (J + p))
                        rw [← List.map_set] at hst9
                        have HF9 := Lib.hid hst9.1
                        have HZ9 := Lib.hid (show JoinAt (w8.setCell ⟨y, b, none⟩ (.int .i64 (J + p))) w1.heap.size z x1 y1 J (J + p) from own_grown_ne HZ8.out hst9.2 (fun j hj e => by have h1 : z = j := (by simpa [Value.ownBlock] using hj); have h2 : y = j := (by simpa [Value.ownBlock] using e); omega))
                        have HJ9 := Lib.hid (own_grown_ne HJ8.out hst9.2 (fun j hj e => by have h1 : gO = j := (by simpa [Value.ownBlock] using hj); have h2 : y = j := (by simpa [Value.ownBlock] using e); omega))
                        have HB9 := Lib.hid (HB8.out.grown hst9.2 (fun j hj => (own_block HF8.out hj).1))
                        clear hst9
                        obtain ⟨q0, q1, q2, q3, _, _⟩ := HZ9.out.cells
                        have hYl : y < (w8.setCell ⟨y, b, none⟩ (.int .i64 (J + p))).heap.size := (own_block HF9.out rfl).2
                        have HYl := Lib.hid hYl
                        clear hYl
                        go_wp2_with (at_builtin; go_loud (refine appJoin (by rfl) _ _ (by rfl) w1.heap.size _ _ _ (by rfl) HJ9.out _ _ _ _ 1 w8.heap.size (by simp) (by rfl) (by omega) HB9.out ?_; intro g9 cap9 w9 ho9 hb9 hg9 hat9))
                        have Ho9 := Lib.hid ho9
                        have Hb9 := Lib.hid hb9
                        have HF10 := Lib.hid (own_grown_ne HF9.out hg9 (fun j hj e => hne (by have h1 : gO = j := (by simpa [Value.ownBlock] using e); have h2 : y = j := (by simpa [Value.ownBlock] using hj); omega)))
                        have Hn9 := Lib.hid (show g9 ≠ y by rcases hat9 with h | h; (have h1 : gO = g9 := (by simpa [Value.ownBlock] using h); omega); have := HYl.out; omega)
                        clear ho9 hb9 hg9 hat9
                        go_wp2
                        go_roundw
                        case rel => exact ⟨k + 1, by omega, by go_num, g9, cap9, fs.set b (J + p), out ++ [x1, y1, J, J + p], rfl, Hn9.out, Lib.hid (HSome.out (by omega)), Lib.hid (by rw [List.map_append]; exact Ho9.out), HF10, Hb9⟩
                        case measure => simp [intOf]; omega
                · obtain rfl : k = i := by omega
                  obtain ⟨rfl, rfl⟩ := HYes.out fs out hpl.out
                  go_wp2_with fail
                  go_ret2
                  exact ⟨some ⟨gO, 0, none⟩, k, co, rfl, by omega, by omega, own_base hrowJ.out HW1.out.2, (HW1.out.step hbw.out.1).1⟩
          · obtain ⟨rfl, rfl⟩ := HAsk.out (fun h => n20 h.2.1)
            go_wp2_with fail
            go_ret2
            exact rowEnd_fail HWr.out.1
        · obtain ⟨rfl, rfl⟩ := HAsk.out (fun h => hnm h.1)
          have q3 : (i : Int) ≠ (m : Int) := by omega
          have q4 : (i : Int) < (m : Int) := by omega
          go_wp2_with fail
          go_ret2
          exact rowEnd_fail HWr.out.1
end Go.Proofs.Ytcajpedhfljhdaa
