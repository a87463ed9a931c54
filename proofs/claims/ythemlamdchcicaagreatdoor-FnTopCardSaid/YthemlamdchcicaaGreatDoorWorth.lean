/-
  impl.PlanFault, impl.PlanWorth at sound plans; the best plan is sound and worth most. No condition of its own.
-/
import Derived.Test.YthemlamdchcicaaGreatDoorGHideX
import Derived.Test.YthemlamdchcicaaGreatDoorHideSound
namespace Go.Proofs.YthemlamdchcicaaGreatDoor
open Go.ChangeShapes Go.WideShapes Go.ChangeAt Go.RowKit Go.Deep

theorem worth_app (ds : List (Cut × Int)) (d : Cut × Int) : worthD (ds ++ [d]) = worthD ds + (if d.2 < 0 then 0 else d.1.v) := by
  induction ds with
  | nil => simp [worthD]
  | cons x ds ih =>
    rw [List.cons_append, worthD_cons, worthD_cons, ih]
    omega
theorem worth_succ (zs ps : List Int) (i : Nat) : worthD (doneL zs ps (i + 1)) = worthD (doneL zs ps i) + (if ps.getD i 0 < 0 then 0 else (cutAt zs i).v) := by
  rw [doneL_succ, worth_app]
theorem hide_m {rows : List ByteArray} {n m : Nat} (h : HideOk rows n m) : (rows.getD 0 ⟨#[]⟩).size = m := by
  obtain ⟨r, _, h2, h3, _⟩ := hide_row h (show 0 < n from h.n1)
  rw [h2, h3]
theorem planOk_of {rows : List ByteArray} {n m nl : Nat} {zs : List Int} (h : HideOk rows n m) (hc : cutsB zs nl = true) : planOk rows zs nl = true := by
  unfold planOk
  rw [hideB_of h, hc]
  rfl
theorem doneL_eq {zs ps : List Int} {nl : Nat} {ds : List (Cut × Int)} (h1 : ds.map (·.1) = cutsL zs nl) (h2 : ds.map (·.2) = ps) : doneL zs ps nl = ds := by
  have hl : ds.length = nl := by
    have h := congrArg List.length h1
    rw [List.length_map, cutsL_len] at h
    exact h
  apply List.ext_getElem
  · simp [doneL, hl]
  · intro k k1 k2
    have hk : k < nl := by omega
    have a1 : (ds.map (·.1))[k]? = some (cutAt zs k) := by rw [h1]; exact cutsL_at hk
    have a2 : (ds.map (·.2))[k]? = some ds[k].2 := by simp [k2]
    rw [h2] at a2
    rw [List.getElem?_map, List.getElem?_eq_getElem k2] at a1
    simp only [Option.map_some, Option.some.injEq] at a1
    simp only [doneL, List.getElem_map, List.getElem_range]
    rw [← a1]
    simp [List.getD, a2]
/-- The best plan: sound, of the told worth, worth most. -/
theorem best_plan {rows : List ByteArray} {n m nl : Nat} {zs : List Int} (h : HideOk rows n m) (hc : cutsB zs nl = true) :
    (planL rows zs nl).length = nl ∧ PlanSo rows n m zs (planL rows zs nl) nl ∧ planC rows zs nl = 0 ∧ planW rows zs nl = worthD (doneL zs (planL rows zs nl) nl) ∧ ∀ ps, PlanSo rows n m zs ps nl → worthD (doneL zs ps nl) ≤ planW rows zs nl := by
  have h1 := planOk_of h hc
  have e1 : planL rows zs nl = (best0 rows n m (cutsL zs nl)).1 := by rw [planL, if_pos h1, hide_m h, h.len]
  have e2 : planW rows zs nl = (best0 rows n m (cutsL zs nl)).2 := by rw [planW, if_pos h1, hide_m h, h.len]
  obtain ⟨ds, d1, d2, d3, d4⟩ := best0_sound (rows := rows) (n := n) (m := m) (cutsL zs nl)
  rw [e1, e2, d4]
  have hd := doneL_eq d1 (rfl : ds.map (·.2) = ds.map (·.2))
  have hl : ds.length = nl := by
    have h := congrArg List.length d1
    rw [List.length_map, cutsL_len] at h
    exact h
  refine ⟨by simp [hl], ⟨fun k hk => ?_, by rw [hd]; exact d3⟩, by rw [planC, if_pos h1], by rw [hd], fun ps hps => ?_⟩
  · have hk2 : k < ds.length := by omega
    have e : (ds.map (·.2)).getD k 0 = ds[k].2 := by simp [List.getD, hk2]
    rw [e]
    exact d2 _ (List.getElem_mem hk2)
  · have hg := best0_ge (rows := rows) (n := n) (m := m) (ds := doneL zs ps nl) (fun d hd => by
      simp only [doneL, List.mem_map, List.mem_range] at hd
      obtain ⟨k, hk, rfl⟩ := hd
      exact (hps.1 k hk).1) hps.2
    have e3 : (doneL zs ps nl).map (·.1) = cutsL zs nl := by simp [doneL, cutsL]
    rw [e3, d4] at hg
    exact hg
set_option maxRecDepth 100000 in
theorem planFaultTop (w : World) (a al ap : Option Addr) (rows : List ByteArray) (n m ca nl cl cp : Nat) (zs ps : List Int) (hok : HideOk rows n m) (hr : CellsAt w a (strs rows)) (hz : zs.length = nl * 4) (hcl : CellsAt w al (zs.map (Value.int .i64))) (hcuts : cutsB zs nl = true)
    (hpl : ps.length = nl) (hcp : CellsAt w ap (ps.map (Value.int .i64))) (hso : PlanSo rows n m zs ps nl) :
    Calls Tryz.prog 17 #[.slice a n ca, .slice al nl cl, .slice ap nl cp] w fun e w' => e = .returned (.tuple #[.int .i64 (-1), .int .i64 0]) ∧ Below w.heap.size w w' := by
  have H1 := Lib.hid (planCode_ok w a al ap rows n m ca nl cl cp zs ps hok hr hz hcl hcuts hpl hcp hso)
  have H2 := Lib.hid (fun W (hb : Below w.heap.size w W) => planFault_ok W a al ap rows n m ca nl cl cp zs ps hok (hr.below hb) hz (hcl.below hb) hcuts hpl (hcp.below hb) hso)
  clear hok hr hz hcl hcuts hpl hcp hso
  go_enter Tryz.func17, Tryz.ntmps17
  go_wp2_with fail
  refine H1.out.mono ?_
  rintro e w1 ⟨rfl, hb1⟩
  have HB1 := Lib.hid hb1
  clear hb1
  go_wp2_with fail
  refine (H2.out _ HB1.out).mono ?_
  rintro e w2 ⟨rfl, hb2⟩
  have HB2 := Lib.hid (HB1.out.trans (hb2.mono HB1.out.size))
  clear hb2
  go_wp2_with fail
  go_ret2
  exact ⟨rfl, HB2.out⟩
set_option maxRecDepth 100000 in
set_option maxHeartbeats 3200000 in
theorem planWorth_any (w : World) (a al ap : Option Addr) (rows : List ByteArray) (n m ca nl cl cp : Nat) (zs ps : List Int) (hok : HideOk rows n m) (hr : CellsAt w a (strs rows)) (hz : zs.length = nl * 4) (hcl : CellsAt w al (zs.map (Value.int .i64))) (hcuts : cutsB zs nl = true)
    (hpl : ps.length = nl) (hcp : CellsAt w ap (ps.map (Value.int .i64))) (hso : PlanSo rows n m zs ps nl) :
    Calls Tryz.prog 18 #[.slice a n ca, .slice al nl cl, .slice ap nl cp] w fun e w' => e = .returned (.tuple #[.int .i64 (worthD (doneL zs ps nl)), .int .i64 0]) ∧ Below w.heap.size w w' := by
  have hn4 := cutsB_n hcuts
  have H1 := Lib.hid (soundCode_ok w a al ap rows n m ca nl cl cp zs ps hok hr hz hcl hcuts hpl hcp hso)
  have HL := Lib.hid hcl
  have HP := Lib.hid hcp
  have HZ := Lib.hid hz
  have HPl := Lib.hid hpl
  have HCu := Lib.hid hcuts
  obtain ⟨V, hV⟩ : ∃ V, worthD (doneL zs ps nl) = V := ⟨_, rfl⟩
  rw [hV]
  have HV := Lib.hid hV
  clear hok hr hz hcl hcuts hpl hcp hso hV
  go_enter Tryz.func18, Tryz.ntmps18
  go_wp2_with fail
  refine H1.out.mono ?_
  rintro e w1 ⟨rfl, hb1⟩
  have HB1 := Lib.hid hb1
  clear hb1
  go_wp2_with fail
  go_loopw [9, 10, 11, 21] (fun t _ _ u wr => ∃ i : Nat, i ≤ nl ∧ u = .int .i64 i ∧ ∃ U : Int, t = .int .i64 U ∧ 0 ≤ U ∧ U ≤ 1000 * i ∧ Hid (worthD (doneL zs ps i) = U) ∧ Hid (Below w.heap.size w wr)) (fun _ _ _ u _ => nl - (intOf u).toNat)
  case atStart => exact ⟨0, by omega, rfl, 0, rfl, by omega, by omega, Lib.hid rfl, HB1⟩
  case round =>
    obtain ⟨i, hi, rfl, U, rfl, hU0, hU36, hU, hbw⟩ := hrel
    by_cases hlt : i < nl
    · have i1 : (i : Int) < (nl : Int) := by omega
      obtain ⟨bP, oP, rfl, hbP, hcP⟩ := HP.out.at_ (by simp [HPl.out]; omega)
      obtain ⟨x, hx⟩ : ∃ x, ps.getD i 0 = x := ⟨_, rfl⟩
      have hcx := int_cell hbP hbw.out hcP (by rw [HPl.out]; exact hlt) hx
      have hus := worth_succ zs ps i
      rw [hx, hU.out] at hus
      clear hx hcP
      by_cases h0 : x < 0
      · rw [if_pos h0] at hus
        have HUS := Lib.hid hus
        clear hus
        go_wp2_with fail
        go_roundw
        case rel => exact ⟨i + 1, by omega, by go_num, U, rfl, hU0, by omega, Lib.hid (by rw [HUS.out]; omega), hbw⟩
        case measure => simp [intOf]; omega
      · rw [if_neg h0] at hus
        obtain ⟨bL, oL, rfl, hbL, hcL⟩ := HL.out.at_ (by simp [HZ.out]; omega)
        obtain ⟨_, hck, hx0, hx1⟩ := cutsB_at HCu.out hlt
        obtain ⟨_, _, _, e3⟩ := cut_cells hbL hbw.out hcL HZ.out hlt hx0 hx1
        obtain ⟨c, hcc⟩ : ∃ c, cutAt zs i = c := ⟨_, rfl⟩
        rw [hcc] at e3 hck hus
        obtain ⟨ws, hs, cq, v⟩ := c
        obtain ⟨_, _, _, v0, v1⟩ := hck
        have HUS := Lib.hid (show worthD (doneL zs ps (i + 1)) = U + v from hus)
        have v0' : 0 ≤ v := v0
        have v1' : v ≤ 1000 := v1
        have e3' : wr.cell? ⟨bL, oL + i * 4 + 3, none⟩ = some (.int .i64 v) := e3
        clear hus hcc hx0 hx1 hcL e3 v0 v1
        go_wp2_with fail
        go_roundw
        case rel => exact ⟨i + 1, by omega, by go_num, U + v, rfl, by omega, by omega, HUS, hbw⟩
        case measure => simp [intOf]; omega
    · obtain rfl : i = nl := by omega
      obtain rfl : U = V := by rw [← hU.out]; exact HV.out
      go_wp2_with fail
      go_ret2
      exact ⟨rfl, hbw.out⟩
end Go.Proofs.YthemlamdchcicaaGreatDoor
