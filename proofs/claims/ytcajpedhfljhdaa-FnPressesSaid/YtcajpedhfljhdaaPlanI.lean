/-
  Contract of the program's PressPlan. No condition of its own.
-/
import Derived.Test.YtcajpedhfljhdaaPlan
import Derived.BigQuiet
import Derived.Deep.DeepCutAuto
namespace Go.Proofs.Ytcajpedhfljhdaa
open Go.ChangeShapes Go.WideShapes Go.ChangeAt Go.RowKit Go.Deep Go.Shelf

/-- A glue that lies in memory. -/
def GlueAt (W : World) (q : Nat) (d o p : Int) : Prop := W.cell? ⟨q, 0, none⟩ = some (.int .i64 d) ∧ W.cell? ⟨q, 1, none⟩ = some (.int .i64 o) ∧ W.cell? ⟨q, 2, none⟩ = some (.int .i64 p)
theorem GlueAt.below {W W' : World} {q B : Nat} {d o p : Int} (h : GlueAt W q d o p) (hb : Below B W W') (hq : q < B) : GlueAt W' q d o p :=
  ⟨(hb.cell (p := ⟨q, 0, none⟩) hq).trans h.1, (hb.cell (p := ⟨q, 1, none⟩) hq).trans h.2.1, (hb.cell (p := ⟨q, 2, none⟩) hq).trans h.2.2⟩
theorem zeros_own (W : World) (B n : Nat) (hB : B ≤ W.heap.size) (hn : n ≤ 1048576) : (W.alloc (.cells (madeCells #[Value.int .i64 0] n) 2)).ownsRow B 2 1 (.slice (some ⟨W.heap.size, 0, none⟩) n n) n ((List.replicate n (0 : Int)).map (Value.int .i64)) := by
  have h := World.ownsRow_lit (base := W.heap.size) (size := 1) (e := 2) W (madeCells #[Value.int .i64 0] n) n (Nat.le_refl _) (by unfold maxLen; omega) (by rw [size_madeCells]; omega)
  rw [toList_madeCells_one] at h
  rw [List.map_replicate]
  exact own_base h hB

set_option maxRecDepth 100000 in
set_option maxHeartbeats 6400000 in
theorem impl_PressPlan (w : World) (d : Int) (_ : (Lit.int .i64 d).wf = true) (o : Int) (_ : (Lit.int .i64 o).wf = true) (p : Int) (_ : (Lit.int .i64 p).wf = true)
    (a : Option Addr) (n c : Nat) (xs : List Int) (hl : xs.length = n) (hn : n ≤ 1048576) (ha : CellsAt w a (xs.map (Value.int .i64))) (_ : ∀ z ∈ xs, (Lit.int .i64 z).wf = true)
    (a' : Option Addr) (m c' : Nat) (ys : List Int) (hl' : ys.length = m) (hn' : m ≤ 1048576) (ha' : CellsAt w a' (ys.map (Value.int .i64))) (_ : ∀ z ∈ ys, (Lit.int .i64 z).wf = true) (pr : Int) (_ : (Lit.int .i64 pr).wf = true) :
    Calls Try.prog 45 #[.agg #[.int .i64 d, .int .i64 o, .int .i64 p], .slice a n c, .slice a' m c', .int .i64 pr] w (RowEnd w 45 4 (planF d o p xs n ys m pr) (planC d o p xs n ys m pr)) := by
  obtain ⟨r, hr⟩ : ∃ r, planF d o p xs n ys m pr = r := ⟨_, rfl⟩
  obtain ⟨q, hq⟩ : ∃ q, planC d o p xs n ys m pr = q := ⟨_, rfl⟩
  rw [hr, hq]
  have HG1 := Lib.hid (Bel.refl w)
  cases hg : glueB d o p with
  | false =>
    have h1 := plan_glue (pr := pr) (xs := xs) (ys := ys) (n := n) (m := m) hg
    obtain rfl : r = [] := by rw [← hr, h1.1]
    obtain rfl : q = 1 := by rw [← hq, h1.2]
    clear hr hq h1 hl ha hl' ha'
    go_enter Try.func45, Try.ntmps45
    go_wp2_with (go_at_call 16; refine (validGlue_any _ _ _ _).mono ?_; rintro e w1 ⟨rfl, rfl⟩)
    go_ret2
    exact rowEnd_fail (by repeat (first | exact Below.refl _ _ | assumption | refine Below.drew ?_ | refine below_drewN ?_ _ | refine Below.alloc ?_ (by simp; try omega) _ | refine Below.setCell ?_ (by simp; try omega) _))
  | true =>
    have O1 := fun W (h : Below w.heap.size w W) => outside_any a n c xs 0 50000 W hl (by omega) (ha.below h)
    have O2 := fun W (h : Below w.heap.size w W) => outside_any a' m c' ys 0 50000 W hl' (by omega) (ha'.below h)
    have HW := Lib.hid (((Bel.refl w).alloc (.cells #[.int .i64 d, .int .i64 o, .int .i64 p] 25)).alloc (.cells #[.int .i64 d, .int .i64 o, .int .i64 p] 25))
    by_cases hask : askP xs ys n m pr
    · obtain ⟨rfl, n20, b1, b2, b3⟩ := hask
      obtain ⟨p1, p2⟩ := inB_true.1 b3
      obtain ⟨P, rfl⟩ : ∃ P : Nat, pr = (P : Int) := ⟨pr.toNat, by omega⟩
      obtain ⟨g1, g2, g3, g4, g5⟩ := glueB_true.1 hg
      have hbx := fun j (hj : j < n) => outB_at b1 (show j < xs.length by omega)
      have hby := fun j (hj : j < n) => outB_at b2 (show j < ys.length by omega)
      have HBx := Lib.hid hbx
      have HBy := Lib.hid hby
      have HBd := Lib.hid (fun (i : Nat) (fs out : List Int) (hi : i ≤ n) (h : planTo d o p xs ys P i = some (fs, out)) => plan_bd (d := d) g3 g4 g5 (fun j hj => hbx j (by omega)) h)
      have HNo := Lib.hid (fun (h : planTo d o p xs ys P n = none) => (show r = [] ∧ q = 3 by
        have := plan_no (m := n) hg ⟨rfl, n20, b1, b2, b3⟩ h
        rw [← hr, ← hq]; exact this))
      have HYes := Lib.hid (fun (fs out : List Int) (h : planTo d o p xs ys P n = some (fs, out)) => (show r = out ∧ q = 0 by
        have := plan_yes (m := n) hg ⟨rfl, n20, b1, b2, b3⟩ h
        rw [← hr, ← hq]; exact this))
      have hvg := fun W => validGlue_any d o p W
      have hwi := fun W => within_any (P : Int) 1 5 W
      simp only [hg] at hvg
      simp only [b3] at hwi
      have HVG := Lib.hid hvg
      have HWI := Lib.hid hwi
      clear hvg hwi
      rw [b1] at O1
      rw [b2] at O2
      have H1 := Lib.hid O1
      have H2 := Lib.hid O2
      have Hl := Lib.hid hl
      have Hl' := Lib.hid hl'
      have HA := Lib.hid ha
      have HA' := Lib.hid ha'
      have hgl0 : GlueAt ((w.alloc (.cells #[.int .i64 d, .int .i64 o, .int .i64 p] 25)).alloc (.cells #[.int .i64 d, .int .i64 o, .int .i64 p] 25)) w.heap.size d o p := by
        refine ⟨?_, ?_, ?_⟩ <;> simp
      have HGl := Lib.hid hgl0
      have hP1 : 1 ≤ P := by omega
      have hP5 : P ≤ 5 := by omega
      clear hr hq hg b3 O1 O2 hl ha hl' ha' hbx hby b1 b2 hgl0 HG1
      go_enter Try.func45, Try.ntmps45
      go_wp2_with fail
      refine (HVG.out _).mono ?_
      rintro e w1 ⟨rfl, hw1⟩
      have HW1 := Lib.hid (show Bel w.heap.size w w1 by rw [← hw1]; exact HW.out)
      have HGl1 := Lib.hid (show GlueAt w1 w.heap.size d o p by rw [← hw1]; exact HGl.out)
      have hs1 : w.heap.size < w1.heap.size := by rw [← hw1]; simp; omega
      clear hw1 HW HGl
      go_wp2_with fail
      refine (H1.out _ HW1.out.1).mono ?_
      rintro e w2 ⟨rfl, hb2⟩
      have HW2 := Lib.hid (HW1.out.step hb2)
      have HGl2 := Lib.hid (HGl1.out.below hb2 hs1)
      have hs2 : w.heap.size < w2.heap.size := Nat.lt_of_lt_of_le hs1 hb2.size
      clear hb2
      go_wp2_with fail
      refine (H2.out _ HW2.out.1).mono ?_
      rintro e w3 ⟨rfl, hb3⟩
      have HW3 := Lib.hid (HW2.out.step hb3)
      have HGl3 := Lib.hid (HGl2.out.below hb3 hs2)
      have hs3 : w.heap.size < w3.heap.size := Nat.lt_of_lt_of_le hs2 hb3.size
      clear hb3
      go_wp2_with fail
      refine (HWI.out _).mono ?_
      rintro e w4 ⟨rfl, rfl⟩
      have hmk := run_make_row' (P := Try.prog) 58 2 (.int .i64 0) 8 Try.underlying58 infoI rfl .i64 .i64 P (by omega) (by omega)
      have hmk := run_make_row' (P := Try.prog) 58 2 (.int .i64 0) 8 Try.underlying58 infoI rfl .i64 .i64 P (by omega) (by omega)
      have HXA := Lib.hid (show ((w3.alloc (.cells #[] 45)).alloc (.cells (madeCells #[Value.int .i64 0] P) 2)).ownsRow w3.heap.size 45 4 (.slice (some ⟨w3.heap.size, 0, none⟩) 0 0) 0 [] ∧ ((w3.alloc (.cells #[] 45)).alloc (.cells (madeCells #[Value.int .i64 0] P) 2)).ownsRow w3.heap.size 2 1 (.slice (some ⟨w3.heap.size + 1, 0, none⟩) P P) P ((List.replicate P (0 : Int)).map (Value.int .i64)) ∧ Bel w3.heap.size w3 ((w3.alloc (.cells #[] 45)).alloc (.cells (madeCells #[Value.int .i64 0] P) 2)) from
        ⟨(own_none' w3 _ _ _ (Nat.le_refl _)).alloc _, by have h := zeros_own (w3.alloc (.cells #[] 45)) w3.heap.size P (by simp) (by omega); rw [World.size_alloc] at h; exact h, ((Bel.refl w3).alloc _).alloc _⟩)
      have HXB := Lib.hid (show ((w3.alloc (.cells (madeCells #[Value.int .i64 0] P) 2)).alloc (.cells #[] 45)).ownsRow w3.heap.size 45 4 (.slice (some ⟨w3.heap.size + 1, 0, none⟩) 0 0) 0 [] ∧ ((w3.alloc (.cells (madeCells #[Value.int .i64 0] P) 2)).alloc (.cells #[] 45)).ownsRow w3.heap.size 2 1 (.slice (some ⟨w3.heap.size, 0, none⟩) P P) P ((List.replicate P (0 : Int)).map (Value.int .i64)) ∧ Bel w3.heap.size w3 ((w3.alloc (.cells (madeCells #[Value.int .i64 0] P) 2)).alloc (.cells #[] 45)) from
        ⟨by have h := own_none' (w3.alloc (.cells (madeCells #[Value.int .i64 0] P) 2)) w3.heap.size 45 4 (by simp); rw [World.size_alloc] at h; exact h, (zeros_own w3 w3.heap.size P (Nat.le_refl _) (by omega)).alloc _, ((Bel.refl w3).alloc _).alloc _⟩)
      go_wp2_with fail
      go_upto_region 5 with fail
      go_cut [10, 11] (fun t10 t11 W => ∃ x y : Nat, t10 = .slice (some ⟨x, 0, none⟩) 0 0 ∧ t11 = .slice (some ⟨y, 0, none⟩) P P ∧ x ≠ y ∧ Hid (W.ownsRow w3.heap.size 45 4 (.slice (some ⟨x, 0, none⟩) 0 0) 0 []) ∧ Hid (W.ownsRow w3.heap.size 2 1 (.slice (some ⟨y, 0, none⟩) P P) P ((List.replicate P (0 : Int)).map (Value.int .i64))) ∧ Hid (Bel w3.heap.size w3 W))
      case first =>
        go_region_held3 (fun _ => True) (first | go_keep | trivial) (fail)
        all_goals (go_wp2_with fail; go_meet)
        all_goals first
          | exact ⟨_, _, rfl, rfl, by omega, Lib.hid HXA.out.1, Lib.hid HXA.out.2.1, Lib.hid HXA.out.2.2.drew⟩
          | exact ⟨_, _, rfl, rfl, by omega, Lib.hid HXB.out.1, Lib.hid HXB.out.2.1, Lib.hid HXB.out.2.2.drew⟩
      case rest =>
        obtain ⟨x, y, rfl, rfl, hxy, hrowJ, hrowF, hbw⟩ := hcut
        clear hmk HXA HXB
        go_wp2_with fail
        go_loopw [10, 50] (fun v u wr => ∃ k : Nat, k ≤ n ∧ u = .int .i64 k ∧ ∃ (gO co : Nat) (fs out : List Int), v = .slice (some ⟨gO, 0, none⟩) k co ∧ gO ≠ y ∧ Hid (planTo d o p xs ys P k = some (fs, out)) ∧ Hid (wr.ownsRow w3.heap.size 45 4 (.slice (some ⟨gO, 0, none⟩) k co) k (out.map (Value.int .i64))) ∧ Hid (wr.ownsRow w3.heap.size 2 1 (.slice (some ⟨y, 0, none⟩) P P) P (fs.map (Value.int .i64))) ∧ Hid (Bel w3.heap.size w3 wr)) (fun _ u _ => n - (intOf u).toNat)
        case atStart => exact ⟨0, Nat.zero_le _, rfl, x, 0, _, [], rfl, hxy, Lib.hid rfl, hrowJ, hrowF, hbw⟩
        case round =>
          obtain ⟨k, hk, rfl, gO, co, fs, out, rfl, hne, hpl, hrowJ, hrowF, hbw⟩ := hrel
          have hbd := HBd.out k fs out (by omega) hpl.out
          obtain ⟨fl, ol, fb⟩ := hbd
          by_cases hlt : k < n
          · obtain ⟨bx, ox, rfl, hbx, hcx⟩ := HA.out.at_ (by have := Hl.out; simp; omega)
            obtain ⟨by', oy, rfl, hby, hcy⟩ := HA'.out.at_ (by have := Hl'.out; simp; omega)
            obtain ⟨b, hb⟩ : ∃ b, bst fs P = b := ⟨_, rfl⟩
            obtain ⟨v, hv⟩ : ∃ v, fs.getD b 0 = v := ⟨_, rfl⟩
            obtain ⟨x1, hx1⟩ : ∃ v, xs.getD k 0 = v := ⟨_, rfl⟩
            obtain ⟨y1, hy1⟩ : ∃ v, ys.getD k 0 = v := ⟨_, rfl⟩
            have hbP : b < P := by rw [← hb]; exact bst_lt fs hP1
            have hvb := fb b
            rw [hv] at hvb
            have hxb := HBx.out k hlt
            rw [hx1] at hxb
            have hyb := HBy.out k hlt
            rw [hy1] at hyb
            have hmin := fun W (h : CellsAt W (some ⟨y, 0, none⟩) (fs.map (Value.int .i64))) => minI_any (some ⟨y, 0, none⟩) P P fs W fl hP1 (by omega) h
            simp only [hb, hv] at hmin
            have HMin := Lib.hid hmin
            have HIdx := Lib.hid (fun W (h : CellsAt W (some ⟨y, 0, none⟩) (fs.map (Value.int .i64))) => indexI_any (some ⟨y, 0, none⟩) P P b fs v W fl (by omega) hbP hv (fun j hj => by rw [← hv]; have := bst_first fs (k := P) (j := j) (by rw [hb]; exact hj); rw [hb] at this; exact this) h)
            have HCx := Lib.hid (fun W (h : Bel w.heap.size w W) => cell_int hbx h.1 hcx (by rw [Hl.out]; exact hlt) hx1)
            have HCy := Lib.hid (fun W (h : Bel w.heap.size w W) => cell_int hby h.1 hcy (by rw [Hl'.out]; exact hlt) hy1)
            have hwin := fun W => window_any d o p x1 y1 W g1 g2 g3 hxb.1 (by omega) hyb.1 (by omega)
            obtain ⟨lo, hlo⟩ : ∃ v, max x1 y1 + d = v := ⟨_, rfl⟩
            obtain ⟨hi, hhi⟩ : ∃ v, min x1 y1 + o = v := ⟨_, rfl⟩
            obtain ⟨J, hJ⟩ : ∃ u, max lo v = u := ⟨_, rfl⟩
            simp only [hlo, hhi] at hwin
            have HWin := Lib.hid hwin
            have hJb : 0 ≤ J ∧ J ≤ 200000 := by omega
            have hhib : hi ≤ 60000 := by omega
            have HNone := Lib.hid (fun (h : hi < J) => plan_stays (plan_none (x := x1) (y := y1) (v := v) (J := J) hpl.out hx1 hy1 (by rw [hb]; exact hv) (by rw [hlo]; exact hJ) (by rw [hhi]; exact h)) (show k + 1 ≤ n by omega))
            have HSome := Lib.hid (fun (h : ¬ hi < J) => plan_some (x := x1) (y := y1) (v := v) (J := J) hpl.out hx1 hy1 hb hv (by rw [hlo]; exact hJ) (by rw [hhi]; exact h))
            have HV := Lib.hid hv
            have HFl := Lib.hid fl
            have HOl := Lib.hid ol
            have hlt' : (k : Int) < (n : Int) := by omega
            clear hcx hcy hb hv hx1 hy1 hlo hhi hwin hmin hxb hyb fb fl ol hpl
            go_wp2_with fail
            refine (HMin.out _ (CellsAt.of_own hrowF.out)).mono ?_
            rintro e w5 ⟨rfl, hb5⟩
            have HJ5 := Lib.hid (own_below hrowJ.out hb5)
            have HF5 := Lib.hid (own_below hrowF.out hb5)
            have HB5 := Lib.hid (hbw.out.step hb5)
            clear hb5
            go_wp2_with fail
            refine (HIdx.out _ (CellsAt.of_own HF5.out)).mono ?_
            rintro e w6 ⟨rfl, hb6⟩
            have HJ6 := Lib.hid (own_below HJ5.out hb6)
            have HF6 := Lib.hid (own_below HF5.out hb6)
            have HB6 := Lib.hid (HB5.out.step hb6)
            clear hb6
            have kx := HCx.out _ (HW3.out.step HB6.out.1)
            have ky := HCy.out _ (HW3.out.step HB6.out.1)
            have kg := HGl3.out.below HB6.out.1 hs3
            obtain ⟨k0, k1, k2⟩ := kg
            go_wp2_with fail
            go_region_held3 (fun W => W.cell? ⟨w.heap.size, 0, none⟩ = some (.int .i64 d) ∧ W.cell? ⟨w.heap.size, 1, none⟩ = some (.int .i64 o) ∧ W.cell? ⟨w.heap.size, 2, none⟩ = some (.int .i64 p) ∧ W.cell? ⟨bx, ox + k, none⟩ = some (.int .i64 x1) ∧ W.cell? ⟨by', oy + k, none⟩ = some (.int .i64 y1))
              (first | go_keep | exact hS7)
              ((go_at_call 61; refine (HWin.out _).mono ?_; rintro e w7 ⟨rfl, hw7⟩; have HB7 := Lib.hid (show Bel w3.heap.size w3 w7 by rw [← hw7]; exact (HB6.out.drew.alloc _).drew); have HJ7 := Lib.hid (show w7.ownsRow w3.heap.size 45 4 (.slice (some ⟨gO, 0, none⟩) k co) k (out.map (Value.int .i64)) by rw [← hw7]; exact (show w6.drew.ownsRow w3.heap.size 45 4 (.slice (some ⟨gO, 0, none⟩) k co) k (out.map (Value.int .i64)) from HJ6.out).alloc _); have HF7 := Lib.hid (show w7.ownsRow w3.heap.size 2 1 (.slice (some ⟨y, 0, none⟩) P P) P (fs.map (Value.int .i64)) by rw [← hw7]; exact (show w6.drew.ownsRow w3.heap.size 2 1 (.slice (some ⟨y, 0, none⟩) P P) P (fs.map (Value.int .i64)) from HF6.out).alloc _); have hS7 := And.intro (HGl3.out.below HB7.out.1 hs3).1 (And.intro (HGl3.out.below HB7.out.1 hs3).2.1 (And.intro (HGl3.out.below HB7.out.1 hs3).2.2 (And.intro (HCx.out _ (HW3.out.step HB7.out.1)) (HCy.out _ (HW3.out.step HB7.out.1))))); clear hw7))
            have f1 := HF7.out.frozenAt b
            have cF := (show w7.cell? ⟨y, b, none⟩ = some (.int .i64 v) by rw [HF7.out.cellAt b (by omega), List.getElem?_map]; simp [List.getElem?_eq_getElem (show b < fs.length by rw [HFl.out]; exact hbP)]; have := HV.out; simpa [List.getElem?_eq_getElem (show b < fs.length by rw [HFl.out]; exact hbP)] using this)
            have kg := HGl3.out.below HB7.out.1 hs3
            obtain ⟨k0, k1, k2⟩ := kg
            clear kx ky hS7
            by_cases hlv : lo < v
            · have e : J = v := by omega
              subst e
              by_cases hhJ : hi < J
              · have hnone := HNone.out hhJ
                obtain ⟨rfl, rfl⟩ := HNo.out hnone
                clear hnone
                go_wp2_with fail
                go_ret2
                exact rowEnd_fail (HW3.out.step HB7.out.1).1
              · have hwr : IntKind.i64.wrap (J + p) = J + p := IntWalk.i64_in _ (by omega)
                have hst := HF7.out.stored b (.int .i64 (J + p))
                rw [← List.map_set] at hst
                have Hst := Lib.hid hst
                clear hst
                go_wp2_with fail
                generalize hw8 : w7.setCell _ _ = w8
                rw [hw8] at Hst
                clear hw8
                have HF8 := Lib.hid Hst.out.1
                have HJ8 := Lib.hid (own_grown_ne HJ7.out Hst.out.2 (fun j hj e => hne (by have h1 : gO = j := (by simpa [Value.ownBlock] using hj); have h2 : y = j := (by simpa [Value.ownBlock] using e); omega)))
                have HB8 := Lib.hid (HB7.out.grown Hst.out.2 (fun j hj => (own_block HF7.out hj).1))
                have HS8 := Lib.hid (fun W (h : Bel w3.heap.size w3 W) => (⟨HCx.out W (HW3.out.step h.1), HCy.out W (HW3.out.step h.1)⟩ : W.cell? ⟨bx, ox + k, none⟩ = some (.int .i64 x1) ∧ W.cell? ⟨by', oy + k, none⟩ = some (.int .i64 y1)))
                have HFc := Lib.hid (fun (W : World) (h : W.ownsRow w3.heap.size 2 1 (.slice (some ⟨y, 0, none⟩) P P) P ((fs.set b (J + p)).map (Value.int .i64))) => (show W.cell? ⟨y, b, none⟩ = some (.int .i64 (J + p)) by rw [h.cellAt b (by omega), List.getElem?_map, List.getElem?_set_self (by rw [HFl.out]; exact hbP)]; rfl))
                have hFc := HFc.out _ HF8.out
                have hS8 := HS8.out _ HB8.out
                obtain ⟨kx8, ky8⟩ := hS8
                have hyl := (own_block HF8.out rfl).2
                have HYl := Lib.hid (show y < w8.heap.size from hyl)
                clear k0 k1 k2 cF f1 hyl Hst
                go_region_held3 (fun W => W.cell? ⟨bx, ox + k, none⟩ = some (.int .i64 x1) ∧ W.cell? ⟨by', oy + k, none⟩ = some (.int .i64 y1) ∧ W.cell? ⟨y, b, none⟩ = some (.int .i64 (J + p)))
                  (first | go_keep | exact hS9)
                  ((refine stepJoin (by rfl) _ _ (by rfl) w3.heap.size _ _ _ (by rfl) ((HJ8.out.alloc _).drew) [.int .i64 x1, .int .i64 y1, .int .i64 J, .int .i64 (J + p)] (by rfl) (by simp [Value.oneCell']) 1 w8.heap.size (new_cells (w := w8) (cs := #[.int .i64 x1, .int .i64 y1, .int .i64 J, .int .i64 (J + p)]) (t := 45) rfl rfl) (by rfl) (by omega) (HB8.out.alloc _).drew ?_; intro g9 cap9 w9 ho9 hb9 hg9 hat9; have hF9 := own_grown_ne ((HF8.out.alloc (.cells #[.int .i64 x1, .int .i64 y1, .int .i64 J, .int .i64 (J + p)] 45)).drew) hg9 (fun j hj e => hne (by have h1 : gO = j := (by simpa [Value.ownBlock] using e); have h2 : y = j := (by simpa [Value.ownBlock] using hj); omega)); have hS9 := And.intro (HS8.out _ hb9).1 (And.intro (HS8.out _ hb9).2 (HFc.out _ hF9))))
                have Ho9 := Lib.hid ho9
                have Hb9 := Lib.hid hb9
                have HF9 := Lib.hid hF9
                have Hn9 := Lib.hid (show g9 ≠ y by rcases hat9 with h | h; (have h1 : gO = g9 := (by simpa [Value.ownBlock] using h); omega); have := HYl.out; simp at h; omega)
                clear ho9 hb9 hg9 hat9 hF9 hS9
                go_wp2
                go_roundw
                case rel => exact ⟨k + 1, by omega, by go_num, g9, cap9, fs.set b (J + p), out ++ [x1, y1, J, J + p], rfl, Hn9.out, Lib.hid (HSome.out hhJ), Lib.hid (by rw [List.map_append]; exact Ho9.out), HF9, Hb9⟩
                case measure => simp [intOf]; omega
            · have e : J = lo := by omega
              subst e
              by_cases hhJ : hi < J
              · have hnone := HNone.out hhJ
                obtain ⟨rfl, rfl⟩ := HNo.out hnone
                clear hnone
                go_wp2_with fail
                go_ret2
                exact rowEnd_fail (HW3.out.step HB7.out.1).1
              · have hwr : IntKind.i64.wrap (J + p) = J + p := IntWalk.i64_in _ (by omega)
                have hst := HF7.out.stored b (.int .i64 (J + p))
                rw [← List.map_set] at hst
                have Hst := Lib.hid hst
                clear hst
                go_wp2_with fail
                generalize hw8 : w7.setCell _ _ = w8
                rw [hw8] at Hst
                clear hw8
                have HF8 := Lib.hid Hst.out.1
                have HJ8 := Lib.hid (own_grown_ne HJ7.out Hst.out.2 (fun j hj e => hne (by have h1 : gO = j := (by simpa [Value.ownBlock] using hj); have h2 : y = j := (by simpa [Value.ownBlock] using e); omega)))
                have HB8 := Lib.hid (HB7.out.grown Hst.out.2 (fun j hj => (own_block HF7.out hj).1))
                have HS8 := Lib.hid (fun W (h : Bel w3.heap.size w3 W) => (⟨HCx.out W (HW3.out.step h.1), HCy.out W (HW3.out.step h.1)⟩ : W.cell? ⟨bx, ox + k, none⟩ = some (.int .i64 x1) ∧ W.cell? ⟨by', oy + k, none⟩ = some (.int .i64 y1)))
                have HFc := Lib.hid (fun (W : World) (h : W.ownsRow w3.heap.size 2 1 (.slice (some ⟨y, 0, none⟩) P P) P ((fs.set b (J + p)).map (Value.int .i64))) => (show W.cell? ⟨y, b, none⟩ = some (.int .i64 (J + p)) by rw [h.cellAt b (by omega), List.getElem?_map, List.getElem?_set_self (by rw [HFl.out]; exact hbP)]; rfl))
                have hFc := HFc.out _ HF8.out
                have hS8 := HS8.out _ HB8.out
                obtain ⟨kx8, ky8⟩ := hS8
                have hyl := (own_block HF8.out rfl).2
                have HYl := Lib.hid (show y < w8.heap.size from hyl)
                clear k0 k1 k2 cF f1 hyl Hst
                go_region_held3 (fun W => W.cell? ⟨bx, ox + k, none⟩ = some (.int .i64 x1) ∧ W.cell? ⟨by', oy + k, none⟩ = some (.int .i64 y1) ∧ W.cell? ⟨y, b, none⟩ = some (.int .i64 (J + p)))
                  (first | go_keep | exact hS9)
                  ((refine stepJoin (by rfl) _ _ (by rfl) w3.heap.size _ _ _ (by rfl) ((HJ8.out.alloc _).drew) [.int .i64 x1, .int .i64 y1, .int .i64 J, .int .i64 (J + p)] (by rfl) (by simp [Value.oneCell']) 1 w8.heap.size (new_cells (w := w8) (cs := #[.int .i64 x1, .int .i64 y1, .int .i64 J, .int .i64 (J + p)]) (t := 45) rfl rfl) (by rfl) (by omega) (HB8.out.alloc _).drew ?_; intro g9 cap9 w9 ho9 hb9 hg9 hat9; have hF9 := own_grown_ne ((HF8.out.alloc (.cells #[.int .i64 x1, .int .i64 y1, .int .i64 J, .int .i64 (J + p)] 45)).drew) hg9 (fun j hj e => hne (by have h1 : gO = j := (by simpa [Value.ownBlock] using e); have h2 : y = j := (by simpa [Value.ownBlock] using hj); omega)); have hS9 := And.intro (HS8.out _ hb9).1 (And.intro (HS8.out _ hb9).2 (HFc.out _ hF9))))
                have Ho9 := Lib.hid ho9
                have Hb9 := Lib.hid hb9
                have HF9 := Lib.hid hF9
                have Hn9 := Lib.hid (show g9 ≠ y by rcases hat9 with h | h; (have h1 : gO = g9 := (by simpa [Value.ownBlock] using h); omega); have := HYl.out; simp at h; omega)
                clear ho9 hb9 hg9 hat9 hF9 hS9
                go_wp2
                go_roundw
                case rel => exact ⟨k + 1, by omega, by go_num, g9, cap9, fs.set b (J + p), out ++ [x1, y1, J, J + p], rfl, Hn9.out, Lib.hid (HSome.out hhJ), Lib.hid (by rw [List.map_append]; exact Ho9.out), HF9, Hb9⟩
                case measure => simp [intOf]; omega
          · obtain rfl : k = n := by omega
            obtain ⟨rfl, rfl⟩ := HYes.out fs out hpl.out
            go_wp2_with fail
            go_ret2
            exact ⟨some ⟨gO, 0, none⟩, k, co, rfl, by omega, by omega, own_base hrowJ.out HW3.out.2, (HW3.out.step hbw.out.1).1⟩
    · have hp := plan_ask hg hask
      obtain rfl : r = [] := by rw [← hr, hp.1]
      obtain rfl : q = 2 := by rw [← hq, hp.2]
      have hvg := fun W => validGlue_any d o p W
      have hwi := fun W => within_any pr 1 5 W
      simp only [hg] at hvg
      have HVG := Lib.hid hvg
      unfold askP at hask
      generalize outB xs 0 50000 = b1 at O1 hask
      generalize outB ys 0 50000 = b2 at O2 hask
      generalize inB pr 1 5 = b3 at hwi hask
      have H1 := Lib.hid O1
      have H2 := Lib.hid O2
      have HWI := Lib.hid hwi
      clear hr hq hg hp O1 O2 hl ha hl' ha' hvg hwi HG1
      by_cases e1 : n = m
      · subst e1
        by_cases e2 : n ≤ 20
        · cases b1
          · cases b2
            · cases b3
              · clear hask
                go_enter Try.func45, Try.ntmps45
                go_wp2_with fail
                refine (HVG.out _).mono ?_
                rintro e w1 ⟨rfl, hw1⟩
                have HW1 := Lib.hid (show Bel w.heap.size w w1 by rw [← hw1]; exact HW.out)
                clear hw1 HW
                go_wp2_with fail
                refine (H1.out _ HW1.out.1).mono ?_
                rintro e w2 ⟨rfl, hb2⟩
                have HW2 := Lib.hid (HW1.out.step hb2)
                clear hb2
                go_wp2_with fail
                refine (H2.out _ HW2.out.1).mono ?_
                rintro e w3 ⟨rfl, hb3⟩
                have HW3 := Lib.hid (HW2.out.step hb3)
                clear hb3
                go_wp2_with fail
                refine (HWI.out _).mono ?_
                rintro e w4 ⟨rfl, rfl⟩
                go_wp2_with fail
                go_ret2
                exact rowEnd_fail HW3.out.1
              · exact absurd ⟨rfl, e2, rfl, rfl, rfl⟩ hask
            · clear hask
              go_enter Try.func45, Try.ntmps45
              go_wp2_with fail
              refine (HVG.out _).mono ?_
              rintro e w1 ⟨rfl, hw1⟩
              have HW1 := Lib.hid (show Bel w.heap.size w w1 by rw [← hw1]; exact HW.out)
              clear hw1 HW
              go_wp2_with fail
              refine (H1.out _ HW1.out.1).mono ?_
              rintro e w2 ⟨rfl, hb2⟩
              have HW2 := Lib.hid (HW1.out.step hb2)
              clear hb2
              go_wp2_with fail
              refine (H2.out _ HW2.out.1).mono ?_
              rintro e w3 ⟨rfl, hb3⟩
              have HW3 := Lib.hid (HW2.out.step hb3)
              clear hb3
              go_wp2_with fail
              go_ret2
              exact rowEnd_fail HW3.out.1
          · clear hask
            go_enter Try.func45, Try.ntmps45
            go_wp2_with fail
            refine (HVG.out _).mono ?_
            rintro e w1 ⟨rfl, hw1⟩
            have HW1 := Lib.hid (show Bel w.heap.size w w1 by rw [← hw1]; exact HW.out)
            clear hw1 HW
            go_wp2_with fail
            refine (H1.out _ HW1.out.1).mono ?_
            rintro e w2 ⟨rfl, hb2⟩
            have HW2 := Lib.hid (HW1.out.step hb2)
            clear hb2
            go_wp2_with fail
            go_ret2
            exact rowEnd_fail HW2.out.1
        · clear hask
          go_enter Try.func45, Try.ntmps45
          go_wp2_with fail
          refine (HVG.out _).mono ?_
          rintro e w1 ⟨rfl, hw1⟩
          have HW1 := Lib.hid (show Bel w.heap.size w w1 by rw [← hw1]; exact HW.out)
          clear hw1 HW
          go_wp2_with fail
          go_ret2
          exact rowEnd_fail HW1.out.1
      · clear hask
        have e1' : (n : Int) ≠ (m : Int) := by omega
        go_enter Try.func45, Try.ntmps45
        go_wp2_with fail
        refine (HVG.out _).mono ?_
        rintro e w1 ⟨rfl, hw1⟩
        have HW1 := Lib.hid (show Bel w.heap.size w w1 by rw [← hw1]; exact HW.out)
        clear hw1 HW
        go_wp2_with fail
        go_ret2
        exact rowEnd_fail HW1.out.1
end Go.Proofs.Ytcajpedhfljhdaa
