/-
  The program's tests of a plan, where the plan is sound: no fault, code 0. No condition of its own.
-/
import Derived.Test.YthemlamdchcicaaGreatDoorHideZ
import Derived.Test.YthemlamdchcicaaGreatDoorHideF
import Derived.Test.YthemlamdchcicaaGreatDoorHideI
import Derived.Test.YthemlamdchcicaaGreatDoorPlanDraw
namespace Go.Proofs.YthemlamdchcicaaGreatDoor
open Go.ChangeShapes Go.WideShapes Go.ChangeAt Go.RowKit Go.Deep

theorem sound_at {rows : List ByteArray} {n m : Nat} {zs ps : List Int} : ∀ {nl : Nat}, soundB rows n m [] (doneL zs ps nl) = true → ∀ i, i < nl → okB rows n m (doneL zs ps i) (cutAt zs i, ps.getD i 0) = true := by
  intro nl
  induction nl with
  | zero => intro _ i hi; omega
  | succ k ih =>
    intro h i hi
    rw [doneL_succ, soundB_app, List.nil_append, Bool.and_eq_true] at h
    by_cases e : i = k
    · subst e; exact h.2
    · exact ih h.1 i (by omega)
theorem okB_yes {rows : List ByteArray} {n m : Nat} {done : List (Cut × Int)} {c : Cut} {x : Int} (h : okB rows n m done (c, x) = true) (h0 : 0 ≤ x) : x.toNat < n * m ∧ fitsB rows n m c x.toNat = true ∧ freeB m done c x.toNat = true := by
  unfold okB at h
  simp only [Bool.or_eq_true, Bool.and_eq_true, decide_eq_true_eq] at h
  rcases h with h | h
  · omega
  · exact ⟨h.1.1, h.1.2, h.2⟩
theorem sound_lie {rows : List ByteArray} {n m nl : Nat} {zs ps : List Int} (hc : cutsB zs nl = true) (h : soundB rows n m [] (doneL zs ps nl) = true) (i : Nat) (hi : i ≤ nl) : Lie n m (doneL zs ps i) := fun d hd h0 => by
  simp only [doneL, List.mem_map, List.mem_range] at hd
  obtain ⟨k, hk, rfl⟩ := hd
  obtain ⟨_, hck, _, _⟩ := cutsB_at hc (show k < nl by omega)
  have h2 := fits_lie (okB_yes (sound_at h k (by omega)) h0).2.1
  exact ⟨h2.1, h2.2, hck.1.1, hck.2.1.1⟩
set_option maxRecDepth 100000 in
set_option maxHeartbeats 3200000 in
theorem planFault_ok (w : World) (a al ap : Option Addr) (rows : List ByteArray) (n m ca nl cl cp : Nat) (zs ps : List Int) (hok : HideOk rows n m) (hr : CellsAt w a (strs rows)) (hz : zs.length = nl * 4) (hcl : CellsAt w al (zs.map (Value.int .i64))) (hcuts : cutsB zs nl = true)
    (hpl : ps.length = nl) (hcp : CellsAt w ap (ps.map (Value.int .i64))) (hso : PlanSo rows n m zs ps nl) :
    Calls Tryz.prog 44 #[.slice a n ca, .slice al nl cl, .slice ap nl cp] w fun e w' => e = .returned (.int .i64 (-1)) ∧ Below w.heap.size w w' := by
  have hn4 := cutsB_n hcuts
  have HR := Lib.hid hr
  have HL := Lib.hid hcl
  have HP := Lib.hid hcp
  have HOk := Lib.hid hok
  have HZ := Lib.hid hz
  have HPl := Lib.hid hpl
  have HCu := Lib.hid hcuts
  have HSo := Lib.hid hso
  clear hr hcl hcp hok hz hpl hcuts hso
  go_enter Tryz.func44, Tryz.ntmps44
  go_wp2_with fail
  go_loopw [7, 8, 9, 10, 11, 14] (fun t _ _ _ _ u wr => ∃ i : Nat, i ≤ nl ∧ u = .int .i64 i ∧ ∃ T : Nat, t = .int .u64 (T : Int) ∧ T < 2 ^ 36 ∧ Hid (takenN m (doneL zs ps i) = T) ∧ Hid (Below w.heap.size w wr)) (fun _ _ _ _ _ u _ => nl - (intOf u).toNat)
  case atStart => exact ⟨0, by omega, rfl, 0, rfl, by decide, Lib.hid rfl, Lib.hid (Below.refl _ _)⟩
  case round =>
    obtain ⟨i, hi, rfl, T, rfl, hT36, hT, hbw⟩ := hrel
    by_cases hlt : i < nl
    · have i1 : (i : Int) < (nl : Int) := by omega
      obtain ⟨bP, oP, rfl, hbP, hcP⟩ := HP.out.at_ (by simp [HPl.out]; omega)
      obtain ⟨x, hx⟩ : ∃ x, ps.getD i 0 = x := ⟨_, rfl⟩
      have hcx := int_cell hbP hbw.out hcP (by rw [HPl.out]; exact hlt) hx
      have HX := Lib.hid hx
      have hxb := HSo.out.1 i hlt
      rw [hx] at hxb
      obtain ⟨hxb1, hxb2⟩ := hxb
      clear hx hcP
      by_cases h0 : x < 0
      · go_wp2_with fail
        go_roundw
        case rel => exact ⟨i + 1, by omega, by go_num, T, rfl, hT36, Lib.hid (by rw [doneL_succ, takenN_app, if_pos (by rw [HX.out]; exact h0)]; exact hT.out), hbw⟩
        case measure => simp [intOf]; omega
      · obtain ⟨f, rfl⟩ : ∃ f : Nat, x = (f : Int) := ⟨x.toNat, by omega⟩
        have hf : f < n * m := by omega
        obtain ⟨bL, oL, rfl, hbL, hcL⟩ := HL.out.at_ (by simp [HZ.out]; omega)
        obtain ⟨_, hck, hx0, hx1⟩ := cutsB_at HCu.out hlt
        obtain ⟨e0, e1, e2, e3⟩ := cut_cells hbL hbw.out hcL HZ.out hlt hx0 hx1
        have hyes := okB_yes (sound_at HSo.out.2 i hlt) (by rw [HX.out]; omega)
        rw [HX.out] at hyes
        obtain ⟨_, hfit, hfree⟩ := hyes
        rw [show ((f : Nat) : Int).toNat = f by omega] at hfit hfree
        have hand0 := (free_iff HOk.out.n6 HOk.out.m6 HOk.out.m1 ⟨hck.1.1, hck.2.1.1⟩ (fits_lie hfit) (sound_lie HCu.out HSo.out.2 i hi)).2 hfree
        rw [hT.out] at hand0
        have HFl := Lib.hid (fieldsOf_any a rows n m ca (cutAt zs i) f wr HOk.out (HR.out.below hbw.out) hck hf)
        have hfld : fldT rows n m (cutAt zs i) f = .tuple #[.int .u64 (maskN m (cutAt zs i) f : Int), .bool true] := by unfold fldT; rw [hfit, if_pos rfl]
        rw [hfld] at HFl
        obtain ⟨M, hM⟩ : ∃ M, maskN m (cutAt zs i) f = M := ⟨_, rfl⟩
        have hM36 : M < 2 ^ 36 := by rw [← hM]; exact mask_lt
        rw [hM] at HFl hand0
        have hand := and_u64 hM36 hT36
        rw [hand0] at hand
        have hor := or_u64 hT36 hM36
        obtain ⟨Y, hY⟩ : ∃ Y, T ||| M = Y := ⟨_, rfl⟩
        have hY36 : Y < 2 ^ 36 := by rw [← hY]; exact or_lt hT36 hM36
        rw [hY] at hor
        have HT2 := Lib.hid (show takenN m (doneL zs ps (i + 1)) = Y by
          rw [doneL_succ, takenN_app, if_neg (by rw [HX.out]; omega), HX.out, hT.out, show ((f : Nat) : Int).toNat = f by omega, hM, hY])
        obtain ⟨c, hcc⟩ : ∃ c, cutAt zs i = c := ⟨_, rfl⟩
        rw [hcc] at e0 e1 e2 e3 HFl
        obtain ⟨ws, hs, q, v⟩ := c
        clear hcc hY hM hfld hck hx0 hx1 hfit hfree hand0 hcL
        go_wp2_with fail
        refine HFl.out.mono ?_
        rintro e w2 ⟨rfl, hb2⟩
        have HB2 := Lib.hid (hbw.out.trans (hb2.mono hbw.out.size))
        clear hb2 e0 e1 e2 e3 hcx
        go_wp2_with fail
        go_roundw
        case rel => exact ⟨i + 1, by omega, by go_num, Y, rfl, hY36, HT2, HB2⟩
        case measure => simp [intOf]; omega
    · obtain rfl : i = nl := by omega
      go_wp2_with fail
      go_ret
      exact ⟨rfl, hbw.out⟩
set_option maxRecDepth 100000 in
set_option maxHeartbeats 3200000 in
theorem planCode_ok (w : World) (a al ap : Option Addr) (rows : List ByteArray) (n m ca nl cl cp : Nat) (zs ps : List Int) (hok : HideOk rows n m) (hr : CellsAt w a (strs rows)) (hz : zs.length = nl * 4) (hcl : CellsAt w al (zs.map (Value.int .i64))) (hcuts : cutsB zs nl = true)
    (hpl : ps.length = nl) (hcp : CellsAt w ap (ps.map (Value.int .i64))) (hso : PlanSo rows n m zs ps nl) :
    Calls Tryz.prog 43 #[.slice a n ca, .slice al nl cl, .slice ap nl cp] w fun e w' => e = .returned (.int .i64 0) ∧ Below w.heap.size w w' := by
  have hn4 := cutsB_n hcuts
  obtain ⟨r0, hr0, _, hr0s, _⟩ := hide_row hok (show 0 < n from hok.n1)
  have hn1 := hok.n1
  have hn6 := hok.n6
  have hm6 := hok.m6
  obtain ⟨b, o, rfl, hb, hcc⟩ := hr.at_ (by rw [strs_len, hok.len]; omega)
  have HH := Lib.hid (validHide_any (some ⟨b, o, none⟩) rows n ca w hok.len (by omega) (fun r h => by rw [hok.size r h]; unfold maxLen; omega) hr)
  rw [hideB_of hok] at HH
  have HV := Lib.hid (fun W (hb : Below w.heap.size w W) => validCuts_any al nl cl zs W hz (by omega) (hcl.below hb))
  rw [hcuts] at HV
  have hr00 : (strs rows)[0]? = some (.string r0) := by simp [strs, hr0]
  have HSz := Lib.hid (fun W (hbW : Below w.heap.size w W) => sizeOf_any b o n m ca r0 W hn1 ((hbW.cell (p := ⟨b, o, none⟩) hb).trans ((hcc 0 (by rw [strs_len, hok.len]; omega)).trans hr00)) hr0s hm6 hn6)
  have hnm : n * m ≤ 36 := Nat.mul_le_mul hn6 hm6
  obtain ⟨N, hN⟩ : ∃ N, n * m = N := ⟨_, rfl⟩
  have hNI : (n : Int) * (m : Int) = (N : Int) := by rw [← hN]; simp
  have HO := Lib.hid (fun W (hb : Below w.heap.size w W) => outside_any ap nl cp ps (-1) ((N : Int) - 1) W hpl (by omega) (hcp.below hb))
  have hob : outB ps (-1) ((N : Int) - 1) = false := by
    rw [outB_false]
    intro z hz
    obtain ⟨k, hk, rfl⟩ := List.getElem_of_mem hz
    have h1 := hso.1 k (by omega)
    rw [show ps.getD k 0 = ps[k] by simp [List.getD, List.getElem?_eq_getElem hk]] at h1
    omega
  rw [hob] at HO
  have hN1 : 1 ≤ N := by rw [← hN]; exact Nat.mul_le_mul hok.n1 hok.m1
  rw [hN] at hnm
  clear hob hr hcl hcp hok hz hpl hcuts hso hr0 hr0s hcc hr00 hN
  go_enter Tryz.func43, Tryz.ntmps43
  go_wp2_with fail
  refine HH.out.mono ?_
  rintro e w1 ⟨rfl, hb1⟩
  have HB1 := Lib.hid hb1
  clear hb1
  go_wp2_with fail
  refine (HV.out _ HB1.out).mono ?_
  rintro e w2 ⟨rfl, hb2⟩
  have HB2 := Lib.hid (HB1.out.trans (hb2.mono HB1.out.size))
  clear hb2
  go_wp2_with fail
  refine (HSz.out _ HB2.out).mono ?_
  rintro e w3 ⟨rfl, hb3⟩
  have HB3 := Lib.hid (HB2.out.trans (hb3.mono HB2.out.size))
  clear hb3
  go_wp2_with fail
  refine (HO.out _ HB3.out).mono ?_
  rintro e w4 ⟨rfl, hb4⟩
  have HB4 := Lib.hid (HB3.out.trans (hb4.mono HB3.out.size))
  clear hb4
  go_wp2_with fail
  go_ret
  exact ⟨rfl, HB4.out⟩
set_option maxRecDepth 100000 in
theorem soundCode_ok (w : World) (a al ap : Option Addr) (rows : List ByteArray) (n m ca nl cl cp : Nat) (zs ps : List Int) (hok : HideOk rows n m) (hr : CellsAt w a (strs rows)) (hz : zs.length = nl * 4) (hcl : CellsAt w al (zs.map (Value.int .i64))) (hcuts : cutsB zs nl = true)
    (hpl : ps.length = nl) (hcp : CellsAt w ap (ps.map (Value.int .i64))) (hso : PlanSo rows n m zs ps nl) :
    Calls Tryz.prog 45 #[.slice a n ca, .slice al nl cl, .slice ap nl cp] w fun e w' => e = .returned (.int .i64 0) ∧ Below w.heap.size w w' := by
  have H1 := Lib.hid (planCode_ok w a al ap rows n m ca nl cl cp zs ps hok hr hz hcl hcuts hpl hcp hso)
  have H2 := Lib.hid (fun W (hb : Below w.heap.size w W) => planFault_ok W a al ap rows n m ca nl cl cp zs ps hok (hr.below hb) hz (hcl.below hb) hcuts hpl (hcp.below hb) hso)
  clear hok hr hz hcl hcuts hpl hcp hso
  go_enter Tryz.func45, Tryz.ntmps45
  go_wp2_with fail
  refine H1.out.mono ?_
  rintro e w1 ⟨rfl, hb1⟩
  have HB1 := Lib.hid hb1
  clear hb1
  go_wp2_with fail
  refine (H2.out _ HB1.out).mono ?_
  rintro e w2 ⟨rfl, hb2⟩
  have HB2 := Lib.hid (HB1.out.trans (hb2.mono HB1.out.size))
  clear hb2
  go_wp2_with fail
  go_ret
  exact ⟨rfl, HB2.out⟩
end Go.Proofs.YthemlamdchcicaaGreatDoor
