/-
  Contracts of the makings of the table of the fewest lifts, both sides. No condition of its own.
-/
import Derived.Test.YtlaapndncejlgaaTab
namespace Go.Proofs.Ytlaapndncejlgaa
open Go.ChangeShapes Go.WideShapes Go.ChangeAt Go.RowKit Go.Deep Go.Shelf

theorem own_rowL {w w' : World} {B g : Nat} {c : Nat} {v : Nat → Int} {h : Nat} {x : Int} (ho : w.ownsRow B 2 1 (.slice (some ⟨g, 0, none⟩) 1201 c) 1201 (rowL v)) (e : w' = w.setCell ⟨g, h, none⟩ (.int .i64 x)) :
    w'.ownsRow B 2 1 (.slice (some ⟨g, 0, none⟩) 1201 c) 1201 (rowL (upd v h x)) ∧ w.grownBy w' (some g) := by
  subst e
  have := ho.stored h (.int .i64 x)
  rw [rowL_set] at this
  exact this
theorem row_cell {w : World} {B g c h : Nat} {v : Nat → Int} (ho : w.ownsRow B 2 1 (.slice (some ⟨g, 0, none⟩) 1201 c) 1201 (rowL v)) (hh : h < 1201) : w.cell? ⟨g, h, none⟩ = some (.int .i64 (v h)) := by
  rw [ho.cellAt h (by omega), rowL_get hh]
theorem box_two {W : World} {bl : Nat} (h : W.heap.size = bl) (x y : Int) (T : Nat) : bl < (W.alloc (.cells #[.int .i64 x, .int .i64 y] T)).heap.size ∧ (W.alloc (.cells #[.int .i64 x, .int .i64 y] T)).cell? ⟨bl, 0, none⟩ = some (.int .i64 x) ∧ (W.alloc (.cells #[.int .i64 x, .int .i64 y] T)).cell? ⟨bl, 1, none⟩ = some (.int .i64 y) := by
  subst h
  exact ⟨by simp, by simp, by simp⟩
theorem upd_more {v F : Nat → Int} {h : Nat} {x : Int} (hv : ∀ i, i < h → v i = F i) (hx : x = F h) : ∀ i, i < h + 1 → upd v h x i = F i := fun i hi => by
  by_cases e : i = h
  · subst e; rw [upd_eq]; exact hx
  · rw [upd_lt (by omega)]; exact hv i (by omega)
theorem upd_keep {v F : Nat → Int} {h : Nat} {x : Int} (hv : ∀ i, i < h → v i = F i) : ∀ i, i < h → upd v h x i = F i := fun i hi => by
  rw [upd_lt hi]; exact hv i hi
theorem upd_upd (v : Nat → Int) (h : Nat) (x y : Int) : upd (upd v h x) h y = upd v h y := by
  funext i; simp only [upd]; split <;> rfl
theorem more_one {v F : Nat → Int} {h : Nat} (hv : ∀ i, i < h → v i = F i) (hx : v h = F h) : ∀ i, i < h + 1 → v i = F i := fun i hi => by
  by_cases e : i = h
  · subst e; exact hx
  · exact hv i (by omega)

set_option maxRecDepth 100000 in
set_option maxHeartbeats 6400000 in
theorem l18Few_any (w : World) (g n c : Nat) (zs : List Int) (t : Int) (hl : zs.length = n * 2) (hc : CellsAt w (some ⟨g, 0, none⟩) (zs.map (Value.int .i64))) (hok : stockB zs n = true) (t1 : 1 ≤ t) (t2 : t ≤ 2) :
    Calls Try.prog 69 #[.slice (some ⟨g, 0, none⟩) n c, .int .i64 t] w (TabEnd w n (fewT zs n t)) := by
  have n6 : n ≤ 6 := by
    simp only [stockB, Bool.and_eq_true, decide_eq_true_eq] at hok
    exact hok.2
  have hmkO := run_make_row' (P := Try.prog) 75 33 (.slice none 0 0) 24 Try.underlying75 infoRows rfl .i64 .i64 (n + 1) (by omega) (by omega)
  have hmkR := run_make_row' (P := Try.prog) 33 2 (.int .i64 0) 8 Try.underlying33 infoI rfl .i64 .i64 1201 (by omega) (by omega)
  rw [show (((n + 1 : Nat) : Int)) = (n : Int) + 1 from by omega] at hmkO
  rw [show (((1201 : Nat) : Int)) = 1201 from rfl] at hmkR
  have HNew := Lib.hid (fun (W : World) => (show (W.alloc (.cells (madeCells #[Value.int .i64 0] 1201) 2)).ownsRow W.heap.size 2 1 (.slice (some ⟨W.heap.size, 0, none⟩) 1201 1201) 1201 (rowL fun _ => 0) by
    have h := World.ownsRow_lit (base := W.heap.size) (size := 1) (e := 2) W (madeCells #[Value.int .i64 0] 1201) 1201 (Nat.le_refl _) (by unfold maxLen; omega) (by rw [size_madeCells])
    rw [toList_madeCells_one] at h
    rw [rowL_const]
    exact h))
  have HT0 := Lib.hid (tab_start w n n6 (fewT zs n t))
  have HBd := Lib.hid (fun k h => fewT_bd (t := t) hok k h)
  have HAt := Lib.hid (fun k (hk : k < n) => stockB_at hok hk)
  have Hz := Lib.hid hl
  have HA := Lib.hid hc
  clear hl hc hok
  go_enter Try.func69, Try.ntmps69
  go_wp2
  go_loopw [7] (fun u wr => ∃ r : Nat, r ≤ n + 1 ∧ ∃ k' : Int, u = .int .i64 k' ∧ Hid (k' = (r : Int) - 1) ∧ ∃ S, Hid (S ≤ wr.heap.size ∧ Tab wr w.heap.size S w.heap.size n r (fewT zs n t)) ∧ Hid (Bel w.heap.size w wr)) (fun u _ => (intOf u + 1).toNat)
  case atStart => exact ⟨n + 1, Nat.le_refl _, (n : Int), rfl, Lib.hid (by omega), w.heap.size + 1, Lib.hid ⟨by simp, HT0.out⟩, Lib.hid ((Bel.refl w).alloc _)⟩
  case round =>
    obtain ⟨r, hr, k', rfl, hk', S, htab, hbw⟩ := hrel
    rcases Nat.eq_zero_or_pos r with rfl | hr0
    · have hk0 : k' < 0 := by have := hk'.out; omega
      go_wp2
      go_ret
      exact ⟨w.heap.size, S, rfl, htab.out.2, hbw.out.1⟩
    · obtain ⟨q, rfl⟩ : ∃ q, r = q + 1 := ⟨r - 1, by omega⟩
      obtain rfl : k' = (q : Int) := by have := hk'.out; omega
      have hqn : q ≤ n := by omega
      have HO := HNew.out wr
      have HO1 := Lib.hid (own_base HO hbw.out.2)
      have HT1 := Lib.hid (htab.out.2.alloc (.cells (madeCells #[Value.int .i64 0] 1201) 2))
      have HB1 := Lib.hid (hbw.out.alloc (.cells (madeCells #[Value.int .i64 0] 1201) 2))
      obtain ⟨gR, hgR⟩ : ∃ gR, wr.heap.size = gR := ⟨_, rfl⟩
      have HS := Lib.hid (show S ≤ gR ∧ w.heap.size ≤ gR by rw [← hgR]; exact ⟨htab.out.1, hbw.out.2⟩)
      have HgR := Lib.hid hgR
      clear HO hgR
      go_wp2
      rw [HgR.out] at HO1 ⊢
      go_loopw [9] (fun u wi => ∃ h : Nat, h ≤ 1201 ∧ u = .int .i64 h ∧ ∃ v : Nat → Int, Hid (∀ i, i < h → v i = fewT zs n t q i) ∧ Hid (wi.ownsRow w.heap.size 2 1 (.slice (some ⟨gR, 0, none⟩) 1201 1201) 1201 (rowL v)) ∧ Hid (Tab wi w.heap.size S w.heap.size n (q + 1) (fewT zs n t)) ∧ Hid (Bel w.heap.size w wi)) (fun u _ => 1201 - (intOf u).toNat)
      case atStart => exact ⟨0, Nat.zero_le _, rfl, fun _ => 0, Lib.hid (fun i hi => absurd hi (by omega)), HO1, HT1, HB1⟩
      case round =>
        obtain ⟨h, hh, rfl, v, hv, hown, htab, hbw⟩ := hrel
        by_cases hlt : h < 1201
        · have hcl := row_cell hown.out hlt
          have hfz := hown.out.frozenAt h
          by_cases hqe : q = n
          · subst hqe
            have hq1 : ((q : Int) == (q : Int)) = true := by simp
            have hst := own_rowL hown.out (h := h) (x := -1) rfl
            by_cases h0 : h = 0
            · subst h0
              have hcl2 := row_cell hst.1 (h := 0) (by omega)
              have hfz2 := hst.1.frozenAt 0
              have hst2 := own_rowL hst.1 (h := 0) (x := 0) rfl
              have HO2 := Lib.hid hst2.1
              have HT2 := Lib.hid ((htab.out.grown hst.2 HS.out.1).grown hst2.2 HS.out.1)
              have HB2 := Lib.hid ((hbw.out.grown hst.2 (fun k h => by cases h; exact HS.out.2)).grown hst2.2 (fun k h => by cases h; exact HS.out.2))
              have HV := Lib.hid (upd_more (v := upd v 0 (-1)) (F := fewT zs q t q) (h := 0) (x := 0) (fun i hi => absurd hi (by omega)) (by rw [fewT_end]; rfl))
              clear hst hst2
              go_wp2
              go_roundw
              case rel => exact ⟨1, by omega, by go_num, _, HV, HO2, HT2, HB2⟩
              case measure => simp [intOf]
            · have HO2 := Lib.hid hst.1
              have HT2 := Lib.hid (htab.out.grown hst.2 HS.out.1)
              have HB2 := Lib.hid (hbw.out.grown hst.2 (fun k h => by cases h; exact HS.out.2))
              have HV := Lib.hid (upd_more (F := fewT zs q t q) (x := -1) hv.out (by rw [fewT_end, if_neg h0]))
              have h00 : ((h : Int) == 0) = false := by simp; omega
              clear hst
              go_wp2
              go_roundw
              case rel => exact ⟨h + 1, by omega, by go_num, _, HV, HO2, HT2, HB2⟩
              case measure => simp [intOf]; omega
          · have hqn2 : q < n := by omega
            have hq1 : ((q : Int) == (n : Int)) = false := by simp; omega
            obtain ⟨T, hT⟩ : ∃ T : Nat, zs.getD (q * 2) 0 = (T : Int) := ⟨(zs.getD (q * 2) 0).toNat, by have := HAt.out q hqn2; omega⟩
            obtain ⟨y, hy⟩ : ∃ y, zs.getD (q * 2 + 1) 0 = y := ⟨_, rfl⟩
            have hat := HAt.out q hqn2
            rw [hT, hy] at hat
            obtain ⟨T1, T2, y1, y2⟩ := hat
            have yd := Int.ediv_nonneg y1 (show 0 ≤ t by omega)
            have ye : y / t ≤ y := Int.ediv_le_self _ y1
            obtain ⟨C, hC⟩ : ∃ C : Nat, y / t = (C : Int) := ⟨(y / t).toNat, by omega⟩
            have HF := Lib.hid (fun h => fewT_step (t := t) (T := T) (C := C) hqn2 (by rw [thN, hT]; simp) (by rw [ctN, hy, hC]; simp) h)
            have HTy := Lib.hid (And.intro hT hy)
            have hC20 : C ≤ 20 := by omega
            have HCC := Lib.hid hC
            have hst := own_rowL hown.out (h := h) (x := -1) rfl
            have HO2 := Lib.hid hst.1
            have HT2 := Lib.hid (htab.out.grown hst.2 HS.out.1)
            have HB2 := Lib.hid (hbw.out.grown hst.2 (fun k h => by cases h; exact HS.out.2))
            have HV := Lib.hid (upd_keep (x := -1) hv.out)
            clear hst hT hy hC
            have hT0 : 1 ≤ T := by omega
            go_wp2
            go_loopw [10] (fun u wj => ∃ a : Nat, a ≤ min C (h / T) + 1 ∧ u = .int .i64 a ∧ ∃ v : Nat → Int, Hid (v h = scanZ (fewT zs n t (q + 1)) T h a) ∧ Hid (∀ i, i < h → v i = fewT zs n t q i) ∧ Hid (wj.ownsRow w.heap.size 2 1 (.slice (some ⟨gR, 0, none⟩) 1201 1201) 1201 (rowL v)) ∧ Hid (Tab wj w.heap.size S w.heap.size n (q + 1) (fewT zs n t)) ∧ Hid (Bel w.heap.size w wj)) (fun u _ => 22 - (intOf u).toNat)
            case atStart => exact ⟨0, Nat.zero_le _, rfl, _, Lib.hid (upd_eq _ _ _), HV, HO2, HT2, HB2⟩
            case round =>
              obtain ⟨a, ha, rfl, v, hvh, hv, hown, htab, hbw⟩ := hrel
              obtain ⟨hc1, hc2⟩ := cell_two Hz.out HA.out hbw.out.1 hqn2 HTy.out.1 HTy.out.2
              have ha21 : a ≤ 21 := by omega
              have hdiv : t ≠ 0 := by omega
              have hyt := HCC.out
              have pT : (a : Int) * (T : Int) = ((a * T : Nat) : Int) := by simp
              have pB : a * T ≤ 21 * 100 := Nat.mul_le_mul ha21 (by omega)
              obtain ⟨P, hP⟩ : ∃ P, a * T = P := ⟨_, rfl⟩
              rw [hP] at pT pB
              by_cases hin : a < min C (h / T) + 1
              · obtain ⟨haC, haT⟩ := (many_iff hT0).1 hin
                obtain ⟨m, hm⟩ : ∃ m, h - a * T = m := ⟨_, rfl⟩
                rw [hP] at haT hm
                obtain ⟨gx, cx, k1, k2⟩ := htab.out.get (j := q + 1) (Nat.le_refl _) (by omega)
                have k3 := k2 m (by omega)
                obtain ⟨x, hx⟩ : ∃ x, fewT zs n t (q + 1) m = x := ⟨_, rfl⟩
                have xb := HBd.out (q + 1) m
                rw [hx] at k3 xb
                obtain ⟨b, hb⟩ : ∃ b, v h = b := ⟨_, rfl⟩
                have bb := scanZ_bd (f := fewT zs n t (q + 1)) (T := T) (h := h) (A := 126) (by omega) (fun i => HBd.out (q + 1) i) a
                rw [← hvh.out, hb] at bb
                obtain ⟨xb1, xb2⟩ := xb
                obtain ⟨bb1, bb2⟩ := bb
                have HX := Lib.hid (show fewT zs n t (q + 1) (h - a * T) = x by rw [hP, hm, hx])
                have HVH := Lib.hid (show scanZ (fewT zs n t (q + 1)) T h a = b by rw [← hvh.out, hb])
                have HBv := Lib.hid hb
                have f1 : (a : Int) ≤ (C : Int) := by omega
                have f2 : (P : Int) ≤ (h : Int) := by omega
                have f3 : (0 : Int) ≤ (q : Int) + 1 := by omega
                have f4 : (q : Int) + 1 < (n : Int) + 1 := by omega
                have f5 : (m : Int) < 1201 := by omega
                have f6 : (q : Int) < (n : Int) := by omega
                have w1 : IntKind.i64.wrap (P : Int) = (P : Int) := IntWalk.i64_in _ (by omega)
                have w2 : IntKind.i64.wrap ((h : Int) - (P : Int)) = (m : Int) := by rw [IntWalk.i64_in _ (by omega)]; omega
                have w3 : IntKind.i64.wrap ((q : Int) + 1) = (q : Int) + 1 := IntWalk.i64_in _ (by omega)
                have w4 : ((q : Int) + 1).toNat = q + 1 := by omega
                clear k2 hx hb hm hP haT
                go_wp2_with fail
                go_big_quiet (fail)
                generalize hwq : wr.drewN _ = wq
                have Ho4 := Lib.hid (show wq.ownsRow w.heap.size 2 1 (.slice (some ⟨gR, 0, none⟩) 1201 1201) 1201 (rowL v) by rw [← hwq]; exact hown.out)
                have Ht4 := Lib.hid (show Tab wq w.heap.size S w.heap.size n (q + 1) (fewT zs n t) by rw [← hwq]; exact htab.out)
                have Hb4 := Lib.hid (show Bel w.heap.size w wq by rw [← hwq]; exact hbw.out.drewN _)
                have kb : wq.cell? ⟨gR, h, none⟩ = some (.int .i64 b) := by rw [row_cell Ho4.out hlt, HBv.out]
                have kf := Ho4.out.frozenAt h
                clear hwq hc1 hc2 k1 k3 w1 w2 w3 w4 hcl hfz
                have hst := own_rowL Ho4.out (h := h) (x := x + (a : Int)) rfl
                have HO5 := Lib.hid hst.1
                have HT5 := Lib.hid (Ht4.out.grown hst.2 HS.out.1)
                have HB5 := Lib.hid (Hb4.out.grown hst.2 (fun k h => by cases h; exact HS.out.2))
                have HV5 := Lib.hid (upd_keep (x := x + (a : Int)) hv.out)
                clear hst
                by_cases x0 : 0 ≤ x
                · by_cases b0 : b < 0
                  · have HN := Lib.hid (scan_yes HVH.out HX.out ⟨x0, .inl b0⟩)
                    go_wp2
                    go_roundw
                    case rel => exact ⟨a + 1, by omega, by go_num, _, Lib.hid ((upd_eq _ _ _).trans HN.out.symm), HV5, HO5, HT5, HB5⟩
                    case measure => simp [intOf]; omega
                  · by_cases b1 : x + (a : Int) < b
                    · have HN := Lib.hid (scan_yes HVH.out HX.out ⟨x0, .inr b1⟩)
                      go_wp2
                      go_roundw
                      case rel => exact ⟨a + 1, by omega, by go_num, _, Lib.hid ((upd_eq _ _ _).trans HN.out.symm), HV5, HO5, HT5, HB5⟩
                      case measure => simp [intOf]; omega
                    · have HN := Lib.hid (scan_no HVH.out HX.out (by omega))
                      go_wp2
                      go_roundw
                      case rel => exact ⟨a + 1, by omega, by go_num, v, Lib.hid (by rw [HBv.out, HN.out]), hv, Ho4, Ht4, Hb4⟩
                      case measure => simp [intOf]; omega
                · have HN := Lib.hid (scan_no HVH.out HX.out (by omega))
                  go_wp2
                  go_roundw
                  case rel => exact ⟨a + 1, by omega, by go_num, v, Lib.hid (by rw [HBv.out, HN.out]), hv, Ho4, Ht4, Hb4⟩
                  case measure => simp [intOf]; omega
              · have hnot : ¬ (a ≤ C ∧ P ≤ h) := by rw [← hP]; exact fun hh => hin ((many_iff hT0).2 hh)
                obtain rfl : a = min C (h / T) + 1 := by omega
                have HE := Lib.hid (more_one hv.out (by rw [hvh.out, HF.out h]))
                generalize min C (h / T) + 1 = a at *
                have f6 : (q : Int) < (n : Int) := by omega
                clear hP
                by_cases haC : a ≤ C
                · have f1 : (a : Int) ≤ (C : Int) := by omega
                  have f2 : ¬ (P : Int) ≤ (h : Int) := by omega
                  go_wp2
                  go_roundw
                  case rel => exact ⟨h + 1, by omega, by go_num, v, HE, hown, htab, hbw⟩
                  case measure => simp [intOf]; omega
                · have f1 : ¬ (a : Int) ≤ (C : Int) := by omega
                  go_wp2
                  go_roundw
                  case rel => exact ⟨h + 1, by omega, by go_num, v, HE, hown, htab, hbw⟩
                  case measure => simp [intOf]; omega
        · obtain rfl : h = 1201 := by omega
          obtain ⟨⟨u, hu⟩, hfz⟩ := htab.out.spot hqn
          have hlen : gR < wr.heap.size := (own_block hown.out rfl).2
          have hput := htab.out.put (S' := wr.heap.size) hqn hown.out (fun i hi => hv.out i hi) HS.out.1 hlen
          have HT5 := Lib.hid (And.intro (show wr.heap.size ≤ (wr.setCell ⟨w.heap.size, q, none⟩ (.slice (some ⟨gR, 0, none⟩) 1201 1201)).heap.size by exact hput.2.size) hput.1)
          have HB5 := Lib.hid (hbw.out.grown hput.2 (fun k h => by cases h; exact Nat.le_refl _))
          have f6 : (q : Int) < (n : Int) + 1 := by omega
          clear hput
          go_wp2
          go_roundw
          case rel => exact ⟨q, by omega, _, rfl, Lib.hid rfl, wr.heap.size, HT5, HB5⟩
          case measure => simp [intOf]

set_option maxRecDepth 100000 in
set_option maxHeartbeats 6400000 in
theorem fewest_any (w : World) (g n c : Nat) (zs : List Int) (hl : zs.length = n * 2) (hc : CellsAt w (some ⟨g, 0, none⟩) (zs.map (Value.int .i64))) (hok : stockB zs n = true) :
    Calls Try.prog 86 #[.slice (some ⟨g, 0, none⟩) n c] w (TabEnd w n (fewT zs n 1)) := by
  have n6 : n ≤ 6 := by
    simp only [stockB, Bool.and_eq_true, decide_eq_true_eq] at hok
    exact hok.2
  have hmkO := run_make_row' (P := Try.prog) 75 33 (.slice none 0 0) 24 Try.underlying75 infoRows rfl .i64 .i64 (n + 1) (by omega) (by omega)
  rw [show (((n + 1 : Nat) : Int)) = (n : Int) + 1 from by omega] at hmkO
  have hRep := fun g W => repeatI_any g 1 1201 (-1) W (by omega) (by omega)
  rw [show (((1201 : Nat) : Int)) = 1201 from rfl] at hRep
  have HRep := Lib.hid hRep
  clear hRep
  have HT0 := Lib.hid (tab_start w n n6 (fewT zs n 1))
  have HBd := Lib.hid (fun k h => fewT_bd (t := 1) hok k h)
  have HAt := Lib.hid (fun k (hk : k < n) => stockB_at hok hk)
  have Hz := Lib.hid hl
  have HA := Lib.hid hc
  clear hl hc hok
  go_enter Try.func86, Try.ntmps86
  go_wp2
  go_loopw [4] (fun u wr => ∃ r : Nat, r ≤ n + 1 ∧ ∃ k' : Int, u = .int .i64 k' ∧ Hid (k' = (r : Int) - 1) ∧ ∃ S, Hid (S ≤ wr.heap.size ∧ Tab wr w.heap.size S w.heap.size n r (fewT zs n 1)) ∧ Hid (Bel w.heap.size w wr)) (fun u _ => (intOf u + 1).toNat)
  case atStart => exact ⟨n + 1, Nat.le_refl _, (n : Int), rfl, Lib.hid (by omega), w.heap.size + 1, Lib.hid ⟨by simp, HT0.out⟩, Lib.hid ((Bel.refl w).alloc _)⟩
  case round =>
    obtain ⟨r, hr, k', rfl, hk', S, htab, hbw⟩ := hrel
    rcases Nat.eq_zero_or_pos r with rfl | hr0
    · have hk0 : k' < 0 := by have := hk'.out; omega
      go_wp2
      go_ret
      exact ⟨w.heap.size, S, rfl, htab.out.2, hbw.out.1⟩
    · obtain ⟨q, rfl⟩ : ∃ q, r = q + 1 := ⟨r - 1, by omega⟩
      obtain rfl : k' = (q : Int) := by have := hk'.out; omega
      have hqn : q ≤ n := by omega
      have htab2 := Lib.hid htab.out.2
      have hS0 := Lib.hid htab.out.1
      go_wp2_with fail
      refine (HRep.out _ _ (by simp)).mono ?_
      rintro e w2 ⟨aL, capL, rfl, hoL, hb2⟩
      rcases own_form hoL with h0 | ⟨gR, rfl⟩
      · omega
      have hgR := (own_block hoL rfl).1
      have HB1 := Lib.hid ((hbw.out.alloc _).step hb2)
      have HT1 := Lib.hid ((htab2.out.alloc _).below hb2)
      have HS := Lib.hid (show S ≤ gR ∧ w.heap.size ≤ gR by have h1 := hS0.out; have h2 := hbw.out.2; simp at hgR; omega)
      rw [← rowL_const] at hoL
      have ho0 := own_base hoL (hbw.out.alloc (.cells #[.int .i64 (-1)] 2)).2
      have hcl0 := row_cell ho0 (h := 0) (by omega)
      have hfz0 := ho0.frozenAt 0
      have hst0 := own_rowL ho0 (h := 0) (x := 0) rfl
      have HO1 := Lib.hid hst0.1
      have HT3 := Lib.hid (HT1.out.grown hst0.2 HS.out.1)
      have HB3 := Lib.hid (HB1.out.grown hst0.2 (fun k h => by cases h; exact HS.out.2))
      clear hoL hb2 hgR ho0 hst0
      go_wp2
      go_loopw [24] (fun u wi => ∃ h : Nat, h ≤ 1201 ∧ u = .int .i64 h ∧ ∃ v : Nat → Int, Hid (∀ i, i < h → v i = fewT zs n 1 q i) ∧ Hid (q = n → ∀ i, i < 1201 → v i = fewT zs n 1 q i) ∧ Hid (wi.ownsRow w.heap.size 2 1 (.slice (some ⟨gR, 0, none⟩) 1201 capL) 1201 (rowL v)) ∧ Hid (Tab wi w.heap.size S w.heap.size n (q + 1) (fewT zs n 1)) ∧ Hid (Bel w.heap.size w wi)) (fun u _ => 1201 - (intOf u).toNat)
      case atStart =>
        refine ⟨0, Nat.zero_le _, rfl, upd (fun _ => -1) 0 0, Lib.hid (fun i hi => absurd hi (by omega)), Lib.hid (fun e i _ => ?_), HO1, HT3, HB3⟩
        rw [e, fewT_end]
        rfl
      case round =>
        obtain ⟨h, hh, rfl, v, hv, hve, hown, htab, hbw⟩ := hrel
        by_cases hlt : h < 1201 ∧ q < n
        · obtain ⟨hlt, hqn2⟩ := hlt
          have hcl := row_cell hown.out hlt
          have hfz := hown.out.frozenAt h
          have hq1 : ((q : Int) == (n : Int)) = false := by simp; omega
          obtain ⟨T, hT⟩ : ∃ T : Nat, zs.getD (q * 2) 0 = (T : Int) := ⟨(zs.getD (q * 2) 0).toNat, by have := HAt.out q hqn2; omega⟩
          obtain ⟨C, hC⟩ : ∃ C : Nat, zs.getD (q * 2 + 1) 0 = (C : Int) := ⟨(zs.getD (q * 2 + 1) 0).toNat, by have := HAt.out q hqn2; omega⟩
          have hat := HAt.out q hqn2
          rw [hT, hC] at hat
          obtain ⟨T1, T2, y1, y2⟩ := hat
          have HF := Lib.hid (fun h => fewT_step (t := 1) (T := T) (C := C) hqn2 (by rw [thN, hT]; simp) (by rw [ctN, hC]; simp) h)
          have hC20 : C ≤ 20 := by omega
          have hst := own_rowL hown.out (h := h) (x := -1) rfl
          have HO2 := Lib.hid hst.1
          have HT2 := Lib.hid (htab.out.grown hst.2 HS.out.1)
          have HB2 := Lib.hid (hbw.out.grown hst.2 (fun k h => by cases h; exact HS.out.2))
          have HV := Lib.hid (upd_keep (x := -1) hv.out)
          obtain ⟨hc1, hc2⟩ := cell_two Hz.out HA.out HB2.out.1 hqn2 hT hC
          have hlg : gR < wr.heap.size := (own_block hown.out rfl).2
          obtain ⟨bl, hbl⟩ : ∃ bl, wr.heap.size = bl := ⟨_, rfl⟩
          have hsz : (wr.setCell ⟨gR, h, none⟩ (.int .i64 (-1))).heap.size = bl := by rw [← hbl]; simp [World.setCell]
          have HX := Lib.hid (show bl < ((wr.setCell ⟨gR, h, none⟩ (.int .i64 (-1))).alloc (.cells #[.int .i64 (T : Int), .int .i64 (C : Int)] 50)).heap.size ∧ ((wr.setCell ⟨gR, h, none⟩ (.int .i64 (-1))).alloc (.cells #[.int .i64 (T : Int), .int .i64 (C : Int)] 50)).cell? ⟨bl, 0, none⟩ = some (.int .i64 (T : Int)) ∧ ((wr.setCell ⟨gR, h, none⟩ (.int .i64 (-1))).alloc (.cells #[.int .i64 (T : Int), .int .i64 (C : Int)] 50)).cell? ⟨bl, 1, none⟩ = some (.int .i64 (C : Int)) from box_two hsz _ _ _)
          have Hbl := Lib.hid hbl
          have Hne := Lib.hid (show gR ≠ bl by omega)
          clear hst hsz hT hC hbl hlg
          have hT0 : 1 ≤ T := by omega
          have hqn' : (q : Int) < (n : Int) := by omega
          go_wp2
          rw [Hbl.out]
          go_loopw [8] (fun u wj => ∃ a : Nat, a ≤ min C (h / T) + 1 ∧ u = .int .i64 a ∧ ∃ v : Nat → Int, Hid (v h = scanZ (fewT zs n 1 (q + 1)) T h a) ∧ Hid (∀ i, i < h → v i = fewT zs n 1 q i) ∧ Hid (bl < wj.heap.size ∧ wj.cell? ⟨bl, 0, none⟩ = some (.int .i64 (T : Int)) ∧ wj.cell? ⟨bl, 1, none⟩ = some (.int .i64 (C : Int))) ∧ Hid (wj.ownsRow w.heap.size 2 1 (.slice (some ⟨gR, 0, none⟩) 1201 capL) 1201 (rowL v)) ∧ Hid (Tab wj w.heap.size S w.heap.size n (q + 1) (fewT zs n 1)) ∧ Hid (Bel w.heap.size w wj)) (fun u _ => 22 - (intOf u).toNat)
          case atStart => exact ⟨0, Nat.zero_le _, rfl, _, Lib.hid (upd_eq _ _ _), HV, HX, Lib.hid (HO2.out.alloc _), Lib.hid (HT2.out.alloc _), Lib.hid (HB2.out.alloc _)⟩
          case round =>
            obtain ⟨a, ha, rfl, v, hvh, hv, hbox, hown, htab, hbw⟩ := hrel
            have hb0 := hbox.out.2.1
            have hb1 := hbox.out.2.2
            have ha21 : a ≤ 21 := by omega
            have pT : (a : Int) * (T : Int) = ((a * T : Nat) : Int) := by simp
            have pB : a * T ≤ 21 * 100 := Nat.mul_le_mul ha21 (by omega)
            obtain ⟨P, hP⟩ : ∃ P, a * T = P := ⟨_, rfl⟩
            rw [hP] at pT pB
            by_cases hin : a < min C (h / T) + 1
            · obtain ⟨haC, haT⟩ := (many_iff hT0).1 hin
              obtain ⟨m, hm⟩ : ∃ m, h - a * T = m := ⟨_, rfl⟩
              rw [hP] at haT hm
              obtain ⟨gx, cx, k1, k2⟩ := htab.out.get (j := q + 1) (Nat.le_refl _) (by omega)
              have k3 := k2 m (by omega)
              obtain ⟨x, hx⟩ : ∃ x, fewT zs n 1 (q + 1) m = x := ⟨_, rfl⟩
              have xb := HBd.out (q + 1) m
              rw [hx] at k3 xb
              obtain ⟨b, hb⟩ : ∃ b, v h = b := ⟨_, rfl⟩
              have bb := scanZ_bd (f := fewT zs n 1 (q + 1)) (T := T) (h := h) (A := 126) (by omega) (fun i => HBd.out (q + 1) i) a
              rw [← hvh.out, hb] at bb
              obtain ⟨xb1, xb2⟩ := xb
              obtain ⟨bb1, bb2⟩ := bb
              have HX := Lib.hid (show fewT zs n 1 (q + 1) (h - a * T) = x by rw [hP, hm, hx])
              have HVH := Lib.hid (show scanZ (fewT zs n 1 (q + 1)) T h a = b by rw [← hvh.out, hb])
              have HBv := Lib.hid hb
              have f1 : (a : Int) ≤ (C : Int) := by omega
              have f2 : (P : Int) ≤ (h : Int) := by omega
              have f3 : (0 : Int) ≤ (q : Int) + 1 := by omega
              have f4 : (q : Int) + 1 < (n : Int) + 1 := by omega
              have f5 : (m : Int) < 1201 := by omega
              have w1 : IntKind.i64.wrap (P : Int) = (P : Int) := IntWalk.i64_in _ (by omega)
              have w2 : IntKind.i64.wrap ((h : Int) - (P : Int)) = (m : Int) := by rw [IntWalk.i64_in _ (by omega)]; omega
              have w3 : IntKind.i64.wrap ((q : Int) + 1) = (q : Int) + 1 := IntWalk.i64_in _ (by omega)
              have w4 : ((q : Int) + 1).toNat = q + 1 := by omega
              clear k2 hx hb hm hP haT
              go_wp2_with fail
              go_big_quiet (fail)
              generalize hwq : wr.drewN _ = wq
              have Ho4 := Lib.hid (show wq.ownsRow w.heap.size 2 1 (.slice (some ⟨gR, 0, none⟩) 1201 capL) 1201 (rowL v) by rw [← hwq]; exact hown.out)
              have Ht4 := Lib.hid (show Tab wq w.heap.size S w.heap.size n (q + 1) (fewT zs n 1) by rw [← hwq]; exact htab.out)
              have Hb4 := Lib.hid (show Bel w.heap.size w wq by rw [← hwq]; exact hbw.out.drewN _)
              have Hx4 := Lib.hid (show bl < wq.heap.size ∧ wq.cell? ⟨bl, 0, none⟩ = some (.int .i64 (T : Int)) ∧ wq.cell? ⟨bl, 1, none⟩ = some (.int .i64 (C : Int)) by rw [← hwq]; exact hbox.out)
              have kb : wq.cell? ⟨gR, h, none⟩ = some (.int .i64 b) := by rw [row_cell Ho4.out hlt, HBv.out]
              have kf := Ho4.out.frozenAt h
              clear hwq hc1 hc2 k1 k3 w1 w2 w3 w4 hcl hfz hb0 hb1
              have hst := own_rowL Ho4.out (h := h) (x := x + (a : Int)) rfl
              have HO5 := Lib.hid hst.1
              have HT5 := Lib.hid (Ht4.out.grown hst.2 HS.out.1)
              have HB5 := Lib.hid (Hb4.out.grown hst.2 (fun k h => by cases h; exact HS.out.2))
              have HX5 := Lib.hid (show bl < (wq.setCell ⟨gR, h, none⟩ (.int .i64 (x + (a : Int)))).heap.size ∧ (wq.setCell ⟨gR, h, none⟩ (.int .i64 (x + (a : Int)))).cell? ⟨bl, 0, none⟩ = some (.int .i64 (T : Int)) ∧ (wq.setCell ⟨gR, h, none⟩ (.int .i64 (x + (a : Int)))).cell? ⟨bl, 1, none⟩ = some (.int .i64 (C : Int)) by
                have hne : some bl ≠ some gR := fun e => Hne.out (by cases e; rfl)
                exact ⟨Nat.lt_of_lt_of_le Hx4.out.1 hst.2.size, (hst.2.cell_far ⟨bl, 0, none⟩ Hx4.out.1 hne).trans Hx4.out.2.1, (hst.2.cell_far ⟨bl, 1, none⟩ Hx4.out.1 hne).trans Hx4.out.2.2⟩)
              have HV5 := Lib.hid (upd_keep (x := x + (a : Int)) hv.out)
              clear hst
              by_cases x0 : 0 ≤ x
              · by_cases b0 : b < 0
                · have HN := Lib.hid (scan_yes HVH.out HX.out ⟨x0, .inl b0⟩)
                  go_wp2
                  go_roundw
                  case rel => exact ⟨a + 1, by omega, by go_num, _, Lib.hid ((upd_eq _ _ _).trans HN.out.symm), HV5, HX5, HO5, HT5, HB5⟩
                  case measure => simp [intOf]; omega
                · by_cases b1 : x + (a : Int) < b
                  · have HN := Lib.hid (scan_yes HVH.out HX.out ⟨x0, .inr b1⟩)
                    go_wp2
                    go_roundw
                    case rel => exact ⟨a + 1, by omega, by go_num, _, Lib.hid ((upd_eq _ _ _).trans HN.out.symm), HV5, HX5, HO5, HT5, HB5⟩
                    case measure => simp [intOf]; omega
                  · have HN := Lib.hid (scan_no HVH.out HX.out (by omega))
                    go_wp2
                    go_roundw
                    case rel => exact ⟨a + 1, by omega, by go_num, v, Lib.hid (by rw [HBv.out, HN.out]), hv, Hx4, Ho4, Ht4, Hb4⟩
                    case measure => simp [intOf]; omega
              · have HN := Lib.hid (scan_no HVH.out HX.out (by omega))
                go_wp2
                go_roundw
                case rel => exact ⟨a + 1, by omega, by go_num, v, Lib.hid (by rw [HBv.out, HN.out]), hv, Hx4, Ho4, Ht4, Hb4⟩
                case measure => simp [intOf]; omega
            · have hnot : ¬ (a ≤ C ∧ P ≤ h) := by rw [← hP]; exact fun hh => hin ((many_iff hT0).2 hh)
              obtain rfl : a = min C (h / T) + 1 := by omega
              have HE := Lib.hid (more_one hv.out (by rw [hvh.out, HF.out h]))
              generalize min C (h / T) + 1 = a at *
              clear hP
              by_cases haC : a ≤ C
              · have f1 : (a : Int) ≤ (C : Int) := by omega
                have f2 : ¬ (P : Int) ≤ (h : Int) := by omega
                go_wp2
                go_roundw
                case rel => exact ⟨h + 1, by omega, by go_num, v, HE, Lib.hid (fun e => by omega), hown, htab, hbw⟩
                case measure => simp [intOf]; omega
              · have f1 : ¬ (a : Int) ≤ (C : Int) := by omega
                go_wp2
                go_roundw
                case rel => exact ⟨h + 1, by omega, by go_num, v, HE, Lib.hid (fun e => by omega), hown, htab, hbw⟩
                case measure => simp [intOf]; omega
        · have HVV := Lib.hid (show ∀ i, i < 1201 → v i = fewT zs n 1 q i by
            by_cases e : h < 1201
            · exact hve.out (by omega)
            · exact fun i hi => hv.out i (by omega))
          obtain ⟨⟨u, hu⟩, hfz⟩ := htab.out.spot hqn
          have hlen : gR < wr.heap.size := (own_block hown.out rfl).2
          have hput := htab.out.put (S' := wr.heap.size) hqn hown.out HVV.out HS.out.1 hlen
          have HT5 := Lib.hid (And.intro (show wr.heap.size ≤ (wr.setCell ⟨w.heap.size, q, none⟩ (.slice (some ⟨gR, 0, none⟩) 1201 capL)).heap.size by exact hput.2.size) hput.1)
          have HB5 := Lib.hid (hbw.out.grown hput.2 (fun k h => by cases h; exact Nat.le_refl _))
          have f6 : (q : Int) < (n : Int) + 1 := by omega
          clear hput hlen
          by_cases e : h < 1201
          · obtain rfl : q = n := by omega
            have hq1 : ((q : Int) == (q : Int)) = true := by simp
            go_wp2
            go_roundw
            case rel => exact ⟨q, by omega, _, rfl, Lib.hid rfl, wr.heap.size, HT5, HB5⟩
            case measure => simp [intOf]
          · obtain rfl : h = 1201 := by omega
            go_wp2
            go_roundw
            case rel => exact ⟨q, by omega, _, rfl, Lib.hid rfl, wr.heap.size, HT5, HB5⟩
            case measure => simp [intOf]
end Go.Proofs.Ytlaapndncejlgaa
