/-
  The draw of a plan: the plan is sound. No condition of its own.
-/
import Derived.Test.YthemlamdchcicaaGreatDoorGHideW
import Derived.Test.YthemlamdchcicaaGreatDoorHideDraw
namespace Go.Proofs.YthemlamdchcicaaGreatDoor
open Go.ChangeShapes Go.WideShapes Go.ChangeAt Go.RowKit Go.Deep

theorem soundB_app {rows : List ByteArray} {n m : Nat} (d : Cut × Int) (ds : List (Cut × Int)) : ∀ done, soundB rows n m done (ds ++ [d]) = (soundB rows n m done ds && okB rows n m (done ++ ds) d) := by
  induction ds with
  | nil => intro done; simp [soundB]
  | cons x ds ih =>
    intro done
    rw [List.cons_append]
    simp only [soundB]
    rw [ih, Bool.and_assoc, List.append_assoc]
    rfl
theorem okB_none (rows : List ByteArray) (n m : Nat) (done : List (Cut × Int)) (c : Cut) : okB rows n m done (c, -1) = true := by
  unfold okB
  simp
/-- What a drawn plan is so far. -/
def PlanSo (rows : List ByteArray) (n m : Nat) (zs ps : List Int) (i : Nat) : Prop :=
  (∀ k, k < i → -1 ≤ ps.getD k 0 ∧ ps.getD k 0 < ((n * m : Nat) : Int)) ∧ soundB rows n m [] (doneL zs ps i) = true
theorem planSo_app {rows : List ByteArray} {n m i : Nat} {zs ps : List Int} {x : Int} (h : PlanSo rows n m zs ps i) (hl : ps.length = i) (h1 : -1 ≤ x) (h2 : x < ((n * m : Nat) : Int)) (hk : okB rows n m (doneL zs ps i) (cutAt zs i, x) = true) : PlanSo rows n m zs (ps ++ [x]) (i + 1) := by
  refine ⟨fun k hk2 => ?_, ?_⟩
  · by_cases e : k = i
    · subst e
      rw [getD_last hl]
      exact ⟨h1, h2⟩
    · have hki : k < i := by omega
      have e2 : (ps ++ [x]).getD k 0 = ps.getD k 0 := by simp [List.getD, List.getElem?_append_left (show k < ps.length by omega)]
      rw [e2]
      exact h.1 k hki
  · rw [doneL_app hl, soundB_app, h.2, List.nil_append, hk]
    rfl
def PlanDrawn (w0 : World) (rows : List ByteArray) (n m : Nat) (zs : List Int) (nl : Nat) (e : Ending) (w' : World) : Prop :=
  ∃ (g c : Nat) (ps : List Int), e = .returned (.slice (some ⟨g, 0, none⟩) nl c) ∧ ps.length = nl ∧ PlanSo rows n m zs ps nl ∧ CellsAt w' (some ⟨g, 0, none⟩) (ps.map (Value.int .i64)) ∧ Bel w0.heap.size w0 w'
set_option maxRecDepth 100000 in
set_option maxHeartbeats 6400000 in
theorem a2Plan_any (w : World) (nc cc : Nat) (ac : Option Addr) (hc : CodeAt w ac nc) (a al : Option Addr) (rows : List ByteArray) (n m ca nl cl : Nat) (zs : List Int) (hok : HideOk rows n m) (hr : CellsAt w a (strs rows)) (hz : zs.length = nl * 4) (hcl : CellsAt w al (zs.map (Value.int .i64))) (hcuts : cutsB zs nl = true) :
    Calls Tryz.prog 19 #[.slice ac nc cc, .slice a n ca, .slice al nl cl] w (PlanDrawn w rows n m zs nl) := by
  have hn4 := cutsB_n hcuts
  have hnm : n * m ≤ 36 := Nat.mul_le_mul hok.n6 hok.m6
  have hnm1 : 1 ≤ n * m := Nat.mul_le_mul hok.n1 hok.m1
  have HC := Lib.hid hc
  have HR := Lib.hid hr
  have HL := Lib.hid hcl
  have HOk := Lib.hid hok
  have HZ := Lib.hid hz
  have HCu := Lib.hid hcuts
  clear hc hr hcl hok hz hcuts
  go_enter Tryz.func19, Tryz.ntmps19
  go_wp2_with fail
  refine (l00From_any w w.heap.size ac nc cc (Nat.le_refl _)).mono ?_
  rintro e w1 ⟨rfl, hs1, hb1⟩
  obtain ⟨p, hpe⟩ : ∃ p, w.heap.size = p := ⟨_, rfl⟩
  have hp0 : w.heap.size ≤ p := by omega
  have hp1 : p < w1.heap.size := by have := hs1.base.2; omega
  have HS1 := Lib.hid (show SrcAt (w1.alloc (.cells #[] 2)) w.heap.size p ac nc cc 0 by rw [← hpe]; exact hs1.alloc _)
  have HB1 := Lib.hid ((Bel.of hb1).alloc (.cells #[] 2))
  have HO1 := Lib.hid (own_none' w1 w.heap.size 2 1 (Bel.of hb1).2)
  clear hs1 hb1
  go_wp2_with fail
  go_loopw [8, 9, 10] (fun v u _ wr => ∃ i : Nat, i ≤ nl ∧ u = .int .i64 i ∧ ∃ (g co : Nat) (pre : List Int), v = .slice (some ⟨g, 0, none⟩) i co ∧ p < g ∧ Hid (pre.length = i) ∧ Hid (PlanSo rows n m zs pre i) ∧ Hid (SrcAt wr w.heap.size p ac nc cc (2 * i)) ∧ Hid (wr.ownsRow w.heap.size 2 1 (.slice (some ⟨g, 0, none⟩) i co) i (nints pre)) ∧ Hid (Bel w.heap.size w wr)) (fun _ u _ _ => nl - (intOf u).toNat)
  case atStart => exact ⟨0, by omega, rfl, w1.heap.size, 0, [], rfl, hp1, Lib.hid rfl, Lib.hid ⟨fun k hk => by omega, rfl⟩, HS1, HO1, HB1⟩
  case round =>
    clear HS1 HB1 HO1
    obtain ⟨i, hi, rfl, g, co, pre, rfl, hpg, hpl, hso, hsrc, hown, hbw⟩ := hrel
    by_cases hlt : i < nl
    · have hps := hsrc.out.base.2
      have i1 : (i : Int) < (nl : Int) := by omega
      go_upto_region 7 with (at_builtin; refine appJ (by rfl) _ _ (by rfl) w.heap.size _ _ _ (by rfl) hown.out (-1) 1 wr.heap.size (by simp) (by rfl) (by omega) hbw.out ?_; intro g1 cap1 w2 ho1 hb1 hg1 hat1; have HO2 := Lib.hid (show w2.ownsRow w.heap.size 2 1 (.slice (some ⟨g1, 0, none⟩) (i + 1) cap1) (i + 1) (nints (pre ++ [-1])) by rw [nints, List.map_append]; exact ho1); have HB2 := Lib.hid hb1; have HS2 := Lib.hid (hsrc.out.grown hg1 (fun e => by have h1 : g = p := (by simpa [Value.ownBlock] using e); omega)); have HG2 := Lib.hid (grow_far hat1 hpg hps); clear ho1 hb1 hg1 hat1)
      have hpg1 := HG2.out
      have hg1s := (own_block HO2.out rfl).2
      obtain ⟨bL, oL, rfl, hbL, hcL⟩ := HL.out.at_ (by simp [HZ.out]; omega)
      obtain ⟨_, hck, hx0, hx1⟩ := cutsB_at HCu.out hlt
      obtain ⟨e0, e1, e2, e3⟩ := cut_cells hbL HB2.out.1 hcL HZ.out hlt hx0 hx1
      have HPc := Lib.hid (l10Places_any a rows n m ca (cutAt zs i) w2 HOk.out (HR.out.below HB2.out.1) hck)
      have HP3 := Lib.hid (fun k (h : k < (plI rows n m (cutAt zs i) (n * m)).length) => plI_at h)
      have HP4 := Lib.hid (plI_len rows n m (cutAt zs i) (n * m))
      clear hsrc hown hbw hps hcL hck hx0 hx1
      obtain ⟨c, hcc⟩ : ∃ c, cutAt zs i = c := ⟨_, rfl⟩
      rw [hcc] at e0 e1 e2 e3 HPc HP3 HP4
      have HCc := Lib.hid hcc
      obtain ⟨ws, hs, q, v⟩ := c
      generalize hpp : plI rows n m ⟨ws, hs, q, v⟩ (n * m) = P at HPc HP3 HP4
      clear hcc hpp
      go_wp2_with fail
      refine HPc.out.mono ?_
      rintro e w3 ⟨ap, cp, rfl, ho3, hb3⟩
      have HO3 := Lib.hid (own_below HO2.out hb3)
      have HS3 := Lib.hid (HS2.out.below hb3)
      have HB3 := Lib.hid (HB2.out.step hb3)
      have HI3 := Lib.hid ho3
      have hp3 : p < w2.heap.size := by omega
      have hg3 : g1 < w2.heap.size := hg1s
      have hpl36 : P.length ≤ 36 := by have := HP4.out; omega
      clear hb3 ho3 e0 e1 e2 e3 HPc HO2 HS2 HB2 HP4
      by_cases h0 : P.length = 0
      · have hq0 : ((P.length : Int) == 0) = true := by rw [h0]; rfl
        go_wp2_with fail
        go_roundw
        case rel => exact ⟨i + 1, by omega, by go_num, g1, cap1, pre ++ [-1], rfl, hpg1, Lib.hid (by simp [hpl.out]), Lib.hid (planSo_app hso.out hpl.out (by omega) (by omega) (okB_none _ _ _ _ _)), Lib.hid (HS3.out.more (by omega)), HO3, HB3⟩
        case measure => simp [intOf]; omega
      · have hq0 : ((P.length : Int) == 0) = false := by simpa using h0
        rcases own_form HI3.out with h1 | ⟨gI, rfl⟩
        · exact absurd h1 h0
        have hgI : w2.heap.size ≤ gI := (own_block HI3.out rfl).1
        go_wp2_with fail
        refine (pick_any w w3 p nc cc (2 * i) ac (P.length : Int) HC.out HB3.out HS3.out (by omega) (by omega)).mono ?_
        rintro e w4 ⟨r, rfl, r0, r1, hs4, hg4⟩
        obtain ⟨k, rfl⟩ : ∃ k : Nat, r = (k : Int) := ⟨r.toNat, by omega⟩
        have hkl : k < P.length := by omega
        have hO4 := own_drawn HO3.out hg4 (fun e => by have h1 : g1 = p := (by simpa [Value.ownBlock] using e); omega)
        have hI4 := own_drawn HI3.out hg4 (fun e => by have h1 : gI = p := (by simpa [Value.ownBlock] using e); omega)
        have hB4 := HB3.out.grown hg4 (fun k h => by cases h; exact hp0)
        obtain ⟨f, _, hf2, hf3, hf4⟩ := HP3.out k hkl
        have hcI : w4.cell? ⟨gI, k, none⟩ = some (.int .i64 (f : Int)) := by
          rw [hI4.cellAt k (by omega), nints, List.getElem?_map, List.getElem?_eq_getElem hkl, ← hf2]
          simp [List.getD, List.getElem?_eq_getElem hkl]
        obtain ⟨u, hu⟩ : ∃ u, w4.cell? ⟨g1, i, none⟩ = some u := by
          rw [hO4.cellAt i (by omega)]
          exact ⟨_, List.getElem?_eq_getElem (by simp [nints, hpl.out])⟩
        have hfz := hO4.frozenAt i
        have hst := hO4.stored i (.int .i64 (f : Int))
        have e5 : (nints (pre ++ [-1])).set i (.int .i64 (f : Int)) = nints (pre ++ [(f : Int)]) := by
          rw [nints, ← List.map_set, set_last _ _ hpl.out]
        rw [e5] at hst
        have HO5 := Lib.hid hst.1
        have HS5 := Lib.hid (hs4.grown hst.2 (fun e => by have h1 : g1 = p := (by simpa [Value.ownBlock] using e); omega))
        have HB5 := Lib.hid (hB4.grown hst.2 (fun k h => by cases h; exact (own_block (b := g1) hO4 rfl).1))
        have hf36 : f < 36 := by omega
        have hi1 : (i : Int) < (i : Int) + 1 := by omega
        have Hf4 := Lib.hid hf4
        clear hs4 hg4 hO4 hI4 hB4 hst e5 HI3 HO3 HS3 HB3 HP3 hf2 hf4 r0 r1
        go_upto_region 10 with fail
        generalize w4.setCell _ _ = w5 at HO5 HS5 HB5 ⊢
        clear hcI hu hfz
        have hwr := l10Wrong_any a (some ⟨bL, oL, none⟩) (some ⟨g1, 0, none⟩) rows n m ca nl cl (i + 1) cap1 zs (pre ++ [(f : Int)]) i w5 HOk.out (HR.out.below HB5.out.1) HZ.out (HL.out.below HB5.out.1) HCu.out (by simp [hpl.out]) (CellsAt.of_own HO5.out) hlt (by omega) (fun j hj => by
          by_cases e : j = i
          · subst e
            rw [getD_last hpl.out]
            omega
          · have e2 : (pre ++ [(f : Int)]).getD j 0 = pre.getD j 0 := by simp [List.getD, List.getElem?_append_left (show j < pre.length by rw [hpl.out]; omega)]
            rw [e2]
            exact (hso.out.1 j (by omega)).2)
        rw [doneL_pre hpl.out, getD_last hpl.out] at hwr
        cases hfr : okB rows n m (doneL zs pre i) (cutAt zs i, (f : Int)) with
        | true =>
          rw [hfr] at hwr
          have HW := Lib.hid hwr
          have HFR := Lib.hid hfr
          clear hwr hfr
          go_wp2_with fail
          refine HW.out.mono ?_
          rintro e w6 ⟨rfl, hb6⟩
          have HO6 := Lib.hid (own_below HO5.out hb6)
          have HS6 := Lib.hid (HS5.out.below hb6)
          have HB6 := Lib.hid (HB5.out.step hb6)
          clear hb6
          go_wp2_with fail
          go_roundw
          case rel => exact ⟨i + 1, by omega, by go_num, g1, cap1, pre ++ [(f : Int)], rfl, hpg1, Lib.hid (by simp [hpl.out]), Lib.hid (planSo_app hso.out hpl.out (by omega) (by omega) HFR.out), Lib.hid (HS6.out.more (by omega)), HO6, HB6⟩
          case measure => simp [intOf]; omega
        | false =>
          rw [hfr] at hwr
          have HW := Lib.hid hwr
          clear hwr hfr
          go_wp2_with fail
          refine HW.out.mono ?_
          rintro e w6 ⟨rfl, hb6⟩
          have hO6 := own_below HO5.out hb6
          have hS6 := HS5.out.below hb6
          have hB6 := HB5.out.step hb6
          obtain ⟨u, hu⟩ : ∃ u, w6.cell? ⟨g1, i, none⟩ = some u := by
            rw [hO6.cellAt i (by omega)]
            exact ⟨_, List.getElem?_eq_getElem (by simp [nints, hpl.out])⟩
          have hfz := hO6.frozenAt i
          have hst := hO6.stored i (.int .i64 (-1))
          have e5 : (nints (pre ++ [(f : Int)])).set i (.int .i64 (-1)) = nints (pre ++ [-1]) := by
            rw [nints, ← List.map_set, set_last _ _ hpl.out]
          rw [e5] at hst
          have HO7 := Lib.hid hst.1
          have HS7 := Lib.hid (hS6.grown hst.2 (fun e => by have h1 : g1 = p := (by simpa [Value.ownBlock] using e); omega))
          have HB7 := Lib.hid (hB6.grown hst.2 (fun k h => by cases h; exact (own_block (b := g1) hO6 rfl).1))
          clear hb6 hO6 hS6 hB6 hst e5
          go_wp2_with fail
          go_roundw
          case rel => exact ⟨i + 1, by omega, by go_num, g1, cap1, pre ++ [-1], rfl, hpg1, Lib.hid (by simp [hpl.out]), Lib.hid (planSo_app hso.out hpl.out (by omega) (by omega) (okB_none _ _ _ _ _)), Lib.hid (HS7.out.more (by omega)), HO7, HB7⟩
          case measure => simp [intOf]; omega
    · obtain rfl : i = nl := by omega
      go_wp2_with fail
      go_ret
      exact ⟨g, co, pre, rfl, hpl.out, hso.out, CellsAt.of_own hown.out, hbw.out⟩
end Go.Proofs.YthemlamdchcicaaGreatDoor
