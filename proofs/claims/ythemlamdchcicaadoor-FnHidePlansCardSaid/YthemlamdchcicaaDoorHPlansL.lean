/-
  The law FnHidePlans: it returns true for all arguments (the walk).
-/
import Derived.Test.YthemlamdchcicaaDoorHPlansP
import Derived.Test.YthemlamdchcicaaDoorHideK
import Derived.Test.YthemlamdchcicaaDoorRow
namespace Go.Proofs.YthemlamdchcicaaDoor
open Go.ChangeShapes Go.WideShapes Go.ChangeAt Go.RowKit Go.Deep

theorem code_at {w : World} {a : Option Addr} {n : Nat} {zs : List Int} (l : zs.length = n) (h : CellsAt w a (zs.map (Value.int .u8))) (hw : ∀ z ∈ zs, (Lit.int .u8 z).wf = true) (hn : n ≤ 1048576) : CodeAt w a n :=
  ⟨zs, h, l, fun z hz => by
    have h := hw z hz
    have e1 : IntKind.u8.min = 0 := by rfl
    have e2 : IntKind.u8.max = 255 := by rfl
    simp [Lit.wf, e1, e2] at h; omega, hn⟩
theorem cells_g {w W : World} {g : Nat} {cs : List Value} (h : CellsAt w (some ⟨g, 0, none⟩) cs) (hb : Below w.heap.size w W) (i : Nat) (hi : i < cs.length) : W.cell? ⟨g, i, none⟩ = cs[i]? := by
  obtain ⟨b, o, he, hbb, hc⟩ := h.at_ (by omega)
  cases he
  have h2 := (hb.cell (p := ⟨g, 0 + i, none⟩) hbb).trans (hc i hi)
  rwa [Nat.zero_add] at h2
theorem strs_get {l : List ByteArray} {i : Nat} {r : ByteArray} (h : l[i]? = some r) : (strs l)[i]? = some (.string r) := by simp [strs, h]
theorem lt_of_get {α : Type} {l : List α} {i : Nat} {r : α} (h : l[i]? = some r) : i < l.length := (List.getElem?_eq_some_iff.1 h).1
theorem ints_get {l : List Int} {i : Nat} (h : i < l.length) : (l.map (Value.int .i64))[i]? = some (.int .i64 (l.getD i 0)) := by
  rw [List.getElem?_map, List.getElem?_eq_getElem h]
  simp [List.getD, List.getElem?_eq_getElem h]
theorem rev_rev (rows : List ByteArray) : (rows.map revB).map revB = rows := by
  rw [List.map_map]
  conv => rhs; rw [← List.map_id rows]
  apply List.map_congr_left
  intro r _
  exact revB_revB r
theorem hide_m {rows : List ByteArray} {n m : Nat} (h : HideOk rows n m) : (rows.getD 0 ⟨#[]⟩).size = m := by
  obtain ⟨r, _, h2, h3, _⟩ := hide_row h (show 0 < n from h.n1)
  rw [h2, h3]
theorem planOk_of {rows : List ByteArray} {n m nl : Nat} {zs : List Int} (h : HideOk rows n m) (hc : cutsB zs nl = true) : planOk rows zs nl = true := by
  unfold planOk
  rw [hideB_of h, hc]
  rfl
theorem plan_vals {rows : List ByteArray} {n m nl : Nat} {zs : List Int} (h : HideOk rows n m) (hc : cutsB zs nl = true) : planC rows zs nl = 0 ∧ (planL rows zs nl).length = nl ∧ planC (rows.map revB) zs nl = 0 ∧ planW (rows.map revB) zs nl = planW rows zs nl := by
  have h1 := planOk_of h hc
  have h2 := planOk_of (hide_rev h) hc
  refine ⟨by rw [planC, if_pos h1], by rw [planL, if_pos h1, best0_len, cutsL_len], by rw [planC, if_pos h2], ?_⟩
  rw [planW, if_pos h2, planW, if_pos h1, hide_m h, hide_m (hide_rev h), List.length_map, h.len]
  exact best0_rev h.len h.size h.m1 (fun c hcc => (cutsL_ok hc c hcc).1.1)
set_option maxRecDepth 100000 in
set_option maxHeartbeats 12800000 in
theorem fnHidePlans_walk (w : World) (a0 : Option Addr) (n0 c0 : Nat) (z0 : List Int) (l0 : z0.length = n0) (_ : n0 ≤ maxLen) (s0 : CellsAt w a0 (z0.map (Value.int .u8))) (w0 : ∀ z ∈ z0, (Lit.int .u8 z).wf = true)
    (a1 : Option Addr) (n1 c1 : Nat) (z1 : List Int) (l1 : z1.length = n1) (_ : n1 ≤ maxLen) (s1 : CellsAt w a1 (z1.map (Value.int .u8))) (w1 : ∀ z ∈ z1, (Lit.int .u8 z).wf = true) :
    Calls Tryd.prog 3 #[.slice a0 n0 c0, .slice a1 n1 c1] w fun e w' => e = .returned (.bool true) ∧ Below w.heap.size w w' := by
  by_cases g0 : n0 ≤ 3000
  · by_cases g1 : n1 ≤ 3000
    · have HC0 := Lib.hid (code_at l0 s0 w0 (by omega))
      have HC1 := Lib.hid (code_at l1 s1 w1 (by omega))
      clear l0 s0 w0 l1 s1 w1
      go_enter Tryd.func3, Tryd.ntmps3
      go_wp2_with (go_at_call 5; go_in)
      refine (a2Hide_any w n0 c0 a0 HC0.out).mono ?_
      rintro e w1 ⟨gr, n, cr, m, rows, rfl, hncr, hok, hr1, hb1⟩
      have HOk := Lib.hid hok
      have hn1 := hok.n1
      have hn6 := hok.n6
      have hm1 := hok.m1
      have hm6 := hok.m6
      have hsz := Lib.hid (fun r (h : r ∈ rows) => show r.size ≤ maxLen by rw [hok.size r h]; unfold maxLen; omega)
      have HB1 := Lib.hid hb1
      have HR1 := Lib.hid hr1
      clear hok hr1 hb1
      go_wp2_with fail
      refine (a2Cuts_any w1 n1 c1 a1 (HC1.out.below HB1.out.1)).mono ?_
      rintro e w2 ⟨gz, nl, cz, zs, rfl, hzl, hcuts, hz2, hb2⟩
      have HZ := Lib.hid hzl
      have HCu := Lib.hid hcuts
      have hn4 := cutsB_n hcuts
      have HB2 := Lib.hid (HB1.out.1.trans (hb2.1.mono HB1.out.1.size))
      have HR2 := Lib.hid (HR1.out.below hb2.1)
      have HZ2 := Lib.hid hz2
      obtain ⟨v1, v2, v3, v4⟩ := plan_vals HOk.out hcuts
      obtain ⟨wt, hwt⟩ : ∃ wt, planW rows zs nl = wt := ⟨_, rfl⟩
      rw [hwt] at v4
      have HP1 := Lib.hid (impl_BestPlan w2 (some ⟨gr, 0, none⟩) n cr rows HOk.out.len (by omega) hsz.out HR2.out (some ⟨gz, 0, none⟩) nl cz zs HZ.out (by omega) HZ2.out)
      rw [v1, hwt] at HP1
      have V2 := Lib.hid v2
      have V3 := Lib.hid v3
      have V4 := Lib.hid v4
      clear hzl hcuts hz2 hb2 v1 v2 v3 v4 hwt HR1 HB1
      go_wp2_with fail
      refine HP1.out.mono ?_
      rintro e w3 ⟨ap1, kp1, cp1, rfl, hk1, _, _, hb3⟩
      obtain rfl : nl = kp1 := by rw [← hk1]; exact V2.out.symm
      have HB3 := Lib.hid (HB2.out.trans (hb3.mono HB2.out.size))
      have HR3 := Lib.hid (HR2.out.below hb3)
      have HZ3 := Lib.hid (HZ2.out.below hb3)
      clear hb3 hk1 HP1 HR2 HZ2 HB2
      go_wp2_with fail
      refine (mirror_any w3 (some ⟨gr, 0, none⟩) rows n m cr HOk.out HR3.out).mono ?_
      rintro e w4 ⟨go, co, rfl, ho4, hb4⟩
      have HB4 := Lib.hid (HB3.out.trans (hb4.mono HB3.out.size))
      have HR4 := Lib.hid (HR3.out.below hb4)
      have HZ4 := Lib.hid (HZ3.out.below hb4)
      have HO4 := Lib.hid ho4
      have HP2 := Lib.hid (impl_BestPlan w4 (some ⟨go, 0, none⟩) n co (rows.map revB) (by rw [List.length_map]; exact HOk.out.len) (by omega) (fun r h => by rw [(hide_rev HOk.out).size r h]; unfold maxLen; omega) ho4 (some ⟨gz, 0, none⟩) nl cz zs HZ.out (by omega) HZ4.out)
      rw [V3.out, V4.out] at HP2
      clear hb4 ho4 HR3 HZ3 HB3
      go_wp2_with fail
      refine HP2.out.mono ?_
      rintro e w5 ⟨ap2, kp2, cp2, rfl, _, _, _, hb5⟩
      have HB5 := Lib.hid (HB4.out.trans (hb5.mono HB4.out.size))
      have HR5 := Lib.hid (HR4.out.below hb5)
      have HZ5 := Lib.hid (HZ4.out.below hb5)
      have HO5 := Lib.hid (HO4.out.below hb5)
      clear hb5 HP2 HR4 HZ4 HB4 HO4
      go_wp2_with fail
      refine (mirror_any w5 (some ⟨go, 0, none⟩) (rows.map revB) n m co (hide_rev HOk.out) HO5.out).mono ?_
      rintro e w6 ⟨ga, ca, rfl, hg6, hb6⟩
      rw [rev_rev] at hg6
      have HB6 := Lib.hid (HB5.out.trans (hb6.mono HB5.out.size))
      have HR6 := Lib.hid (HR5.out.below hb6)
      have HZ6 := Lib.hid (HZ5.out.below hb6)
      have HG6 := Lib.hid hg6
      have hww : (wt != wt) = false := by simp
      clear hb6 hg6 HR5 HZ5 HB5 HO5
      go_wp2_with fail
      go_loopw [17] (fun u wr => ∃ i : Nat, i ≤ n ∧ u = .int .i64 i ∧ Hid (Below w6.heap.size w6 wr)) (fun u _ => n - (intOf u).toNat)
      case atStart => exact ⟨0, by omega, rfl, Lib.hid (Below.refl _ _)⟩
      case round =>
        obtain ⟨i, hi, rfl, hbw⟩ := hrel
        by_cases hlt : i < n
        · obtain ⟨r, hr, _, _, _⟩ := hide_row HOk.out hlt
          have hil : i < (strs rows).length := by rw [strs_len]; exact lt_of_get hr
          have hc0 := (cells_g HR6.out hbw.out i hil).trans (strs_get hr)
          have hd0 := (cells_g HG6.out hbw.out i hil).trans (strs_get hr)
          have hxx := str_ne r
          have i1 : (i : Int) < (n : Int) := by omega
          clear hr hil
          go_wp2_with fail
          go_quiet (fail)
          go_wp2_with fail
          go_roundw
          case rel => exact ⟨i + 1, by omega, by go_num, Lib.hid (below_drewN hbw.out _)⟩
          case measure => simp [intOf]; omega
        · obtain rfl : i = n := by omega
          have HB7 := Lib.hid (HB6.out.trans (hbw.out.mono HB6.out.size))
          have HR7 := Lib.hid (HR6.out.below hbw.out)
          have HZ7 := Lib.hid (HZ6.out.below hbw.out)
          clear HR6 HZ6 HB6 HG6 hbw
          go_wp2_with fail
          refine (a2Plan_any wr n1 c1 a1 (HC1.out.below HB7.out) (some ⟨gr, 0, none⟩) (some ⟨gz, 0, none⟩) rows i m cr nl cz zs HOk.out HR7.out HZ.out HZ7.out HCu.out).mono ?_
          rintro e w8 ⟨gp, cp, ps, rfl, hpl, hso, hp8, hb8⟩
          have HPl := Lib.hid hpl
          have HSo := Lib.hid hso
          have HB8 := Lib.hid (HB7.out.trans (hb8.1.mono HB7.out.size))
          have HR8 := Lib.hid (HR7.out.below hb8.1)
          have HZ8 := Lib.hid (HZ7.out.below hb8.1)
          have HP8 := Lib.hid hp8
          clear hb8 hp8 hpl hso HR7 HZ7 HB7
          go_wp2_with fail
          refine (planLines_any w8 (some ⟨gr, 0, none⟩) (some ⟨gz, 0, none⟩) (some ⟨gp, 0, none⟩) rows i m cr nl cz cp zs ps hncr HOk.out HR8.out HZ.out HZ8.out HCu.out HPl.out HP8.out HSo.out).mono ?_
          rintro e w9 ⟨gl, cl, rfl, hl9, hb9⟩
          have HB9 := Lib.hid (HB8.out.trans (hb9.mono HB8.out.size))
          have HR9 := Lib.hid (HR8.out.below hb9)
          have HZ9 := Lib.hid (HZ8.out.below hb9)
          have HP9 := Lib.hid (HP8.out.below hb9)
          have HL9 := Lib.hid hl9
          clear hb9 hl9 HR8 HZ8 HB8 HP8
          have HSh := Lib.hid (usedShare_any w9 (some ⟨gr, 0, none⟩) (some ⟨gz, 0, none⟩) (some ⟨gp, 0, none⟩) rows i m cr nl cz cp zs ps HOk.out HR9.out HZ.out HZ9.out HCu.out HPl.out HP9.out HSo.out)
          obtain ⟨UU, hUU⟩ : ∃ U, usedD (doneL zs ps nl) = U := ⟨_, rfl⟩
          obtain ⟨GG, hGG⟩ : ∃ G, goodR rows = G := ⟨_, rfl⟩
          have hG36 : GG ≤ 36 := by rw [← hGG]; exact good_le HOk.out
          have hUG : UU ≤ GG := by rw [← hUU, ← hGG]; exact shown_le_good HOk.out HCu.out HSo.out
          have HUU := Lib.hid hUU
          have HGG := Lib.hid hGG
          rw [hUU, hGG] at HSh
          unfold ShareEnd at HSh
          obtain ⟨fx, hfx⟩ : ∃ x : Int, (if GG = 0 then 0 else (UU : Int) / Int.gcd UU GG) = x := ⟨_, rfl⟩
          obtain ⟨fy, hfy⟩ : ∃ x : Int, (if GG = 0 then 0 else (GG : Int) / Int.gcd UU GG) = x := ⟨_, rfl⟩
          obtain ⟨fc, hfc⟩ : ∃ x : Int, (if GG = 0 then 3 else 0) = x := ⟨_, rfl⟩
          rw [hfx, hfy, hfc] at HSh
          have HFX := Lib.hid (And.intro hfx (And.intro hfy hfc))
          clear hUU hGG hfx hfy hfc
          go_wp2_with fail
          refine HSh.out.mono ?_
          rintro e w10 ⟨rfl, hb10⟩
          obtain ⟨q, hq⟩ : ∃ q, w10.heap.size = q := ⟨_, rfl⟩
          obtain ⟨wB, hwB⟩ : ∃ W, w10.alloc (.cells #[.int .i64 fx, .int .i64 fy] 36) = W := ⟨_, rfl⟩
          have hbB : Below w9.heap.size w9 wB := by rw [← hwB]; exact hb10.alloc hb10.size _
          have HBB := Lib.hid (HB9.out.trans (hbB.mono HB9.out.size))
          have HRB := Lib.hid (HR9.out.below hbB)
          have HZB := Lib.hid (HZ9.out.below hbB)
          have HPB := Lib.hid (HP9.out.below hbB)
          have HLB := Lib.hid (HL9.out.below hbB)
          have HQ := Lib.hid (show Obx wB q q 36 2 [.int .i64 fx, .int .i64 fy] by rw [← hwB, ← hq]; exact Obx.new w10 w10.heap.size 36 2 #[.int .i64 fx, .int .i64 fy] (Nat.le_refl _) rfl)
          have HWB := Lib.hid hwB
          clear hb10 hbB hwB HSh HR9 HZ9 HP9 HL9 HB9
          go_wp2_with fail
          rw [HWB.out]
          clear HWB hq
          go_loopw [23, 24] (fun t u wx => ∃ j : Nat, j ≤ nl ∧ u = .int .i64 j ∧ ∃ U : Nat, t = .int .i64 U ∧ U ≤ 36 * j ∧ Hid (usedD (doneL zs ps j) = U) ∧ Hid (Below wB.heap.size wB wx)) (fun _ u _ => nl - (intOf u).toNat)
          case atStart => exact ⟨0, by omega, rfl, 0, rfl, by omega, Lib.hid rfl, Lib.hid (Below.refl _ _)⟩
          case round =>
            obtain ⟨j, hj, rfl, U, rfl, hU36, hU, hbw⟩ := hrel
            by_cases hlt : j < nl
            · have i1 : (j : Int) < (nl : Int) := by omega
              obtain ⟨x, hx⟩ : ∃ x, ps.getD j 0 = x := ⟨_, rfl⟩
              have hcx := (cells_g HPB.out hbw.out j (by simp [HPl.out]; omega)).trans (ints_get (by rw [HPl.out]; exact hlt))
              rw [hx] at hcx
              have hus := used_succ zs ps j
              rw [hx, hU.out] at hus
              clear hx
              by_cases h0 : x < 0
              · rw [if_pos h0] at hus
                have HUS := Lib.hid hus
                clear hus
                go_wp2_with fail
                go_roundw
                case rel => exact ⟨j + 1, by omega, by go_num, U, rfl, by omega, HUS, hbw⟩
                case measure => simp [intOf]; omega
              · rw [if_neg h0] at hus
                obtain ⟨_, hck, hx0, hx1⟩ := cutsB_at HCu.out hlt
                have e0 := (cells_g HZB.out hbw.out (j * 4) (by simp [HZ.out]; omega)).trans (ints_get (by rw [HZ.out]; omega))
                have e1 := (cells_g HZB.out hbw.out (j * 4 + 1) (by simp [HZ.out]; omega)).trans (ints_get (by rw [HZ.out]; omega))
                rw [hx0] at e0
                rw [hx1] at e1
                obtain ⟨c, hcc⟩ : ∃ c, cutAt zs j = c := ⟨_, rfl⟩
                rw [hcc] at e0 e1 hck hus
                obtain ⟨ws, hs, cq, v⟩ := c
                obtain ⟨⟨k1, k2⟩, ⟨k3, k4⟩, _⟩ := hck
                obtain ⟨A, hA⟩ : ∃ A, ws * hs = A := ⟨_, rfl⟩
                have hA36 : A ≤ 36 := by rw [← hA]; exact Nat.mul_le_mul k2 k4
                have hmul : (ws : Int) * (hs : Int) = (A : Int) := by rw [← hA]; simp
                rw [show (⟨ws, hs, cq, v⟩ : Cut).w * (⟨ws, hs, cq, v⟩ : Cut).h = A from hA] at hus
                have HUS := Lib.hid hus
                clear hus hcc hx0 hx1 hA k1 k2 k3 k4
                go_wp2_with fail
                go_quiet (fail)
                go_wp2_with fail
                go_roundw
                case rel => exact ⟨j + 1, by omega, by go_num, U + A, by go_num, by omega, HUS, Lib.hid (below_drewN hbw.out _)⟩
                case measure => simp [intOf]; omega
            · obtain rfl : j = nl := by omega
              obtain rfl : U = UU := by rw [← hU.out]; exact HUU.out
              obtain ⟨F, hF⟩ : ∃ F, flatB rows = F := ⟨_, rfl⟩
              obtain ⟨L, hL⟩ : ∃ L, paintP F m zs ps j = L := ⟨_, rfl⟩
              have hfa := flat_at rows HOk.out.size
              rw [HOk.out.len, hF] at hfa
              have HFa := Lib.hid hfa
              have hLl : L.length = i * m := by rw [← hL, paintP_len]; exact hfa.1
              have HLl := Lib.hid hLl
              rw [hF, hL] at HLB
              have HLat := Lib.hid (fun k (hk : k < i * m) => by
                have h := paintP_at (l := F) (m := m) (zs := zs) (ps := ps) (j := k) (by rw [hfa.1]; exact hk) j hn4
                rw [hL] at h
                exact h)
              have HFb := Lib.hid (fun k (hk : k < i * m) => show 97 ≤ (F.getD k 0).toNat by rw [← hF]; exact flat_byte HOk.out hk)
              have HCg := Lib.hid (fun k (hk : k < i * m) (hc : coverB m (doneL zs ps j) k = true) => show F.getD k 0 ≠ 120 by rw [← hF]; exact cover_good HOk.out HCu.out HSo.out hk hc)
              have HGe := Lib.hid (show goodTo F (i * m) = GG by rw [← hF, goodTo_end HOk.out]; exact HGG.out)
              have HSe := Lib.hid (show shownTo m (doneL zs ps j) (i * m) = U by rw [shownTo_end HOk.out HSo.out]; exact HUU.out)
              have him : i * m ≤ 36 := Nat.mul_le_mul hn6 hm6
              clear hF hL hfa hLl hU
              go_wp2_with fail
              go_loopw [25, 26, 27, 28] (fun tS tG u _ wx => ∃ y : Nat, y ≤ i ∧ u = .int .i64 y ∧ ∃ S G : Nat, tS = .int .i64 S ∧ tG = .int .i64 G ∧ S ≤ 36 ∧ G ≤ 36 ∧ Hid (S = shownTo m (doneL zs ps j) (y * m)) ∧ Hid (G = goodTo F (y * m)) ∧ Hid (Below wB.heap.size wB wx)) (fun _ _ u _ _ => i - (intOf u).toNat)
              case atStart => exact ⟨0, by omega, rfl, 0, 0, rfl, rfl, by omega, by omega, Lib.hid (by rw [Nat.zero_mul]; rfl), Lib.hid (by rw [Nat.zero_mul]; rfl), hbw⟩
              case round =>
                clear hbw
                obtain ⟨y, hy, rfl, S, G, rfl, rfl, hS36, hGG36, hS, hG, hbw⟩ := hrel
                by_cases hyn : y < i
                · have i1 : (y : Int) < (i : Int) := by omega
                  obtain ⟨r, hr, hrg, hrs, hrm⟩ := hide_row HOk.out hyn
                  obtain ⟨s, hs, hss, hsat⟩ := rowsOf_at HLl.out hyn
                  have hc0 := (cells_g HRB.out hbw.out y (by rw [strs_len]; exact lt_of_get hr)).trans (strs_get hr)
                  have hd0 := (cells_g HLB.out hbw.out y (by rw [strs_len]; exact lt_of_get hs)).trans (strs_get hs)
                  have hmm : ((m : Int) != (m : Int)) = false := by simp
                  have HRg := Lib.hid hrg
                  have HSat := Lib.hid hsat
                  have HRc := Lib.hid hr
                  have HSc := Lib.hid hs
                  clear hr hs hrg hsat hrm
                  go_wp2_with fail
                  go_quiet (fail)
                  go_wp2_with fail
                  have HBq := Lib.hid (below_drewN hbw.out 2)
                  go_loopw [25, 26, 28] (fun tS tG u wx => ∃ x : Nat, x ≤ m ∧ u = .int .i64 x ∧ ∃ S G : Nat, tS = .int .i64 S ∧ tG = .int .i64 G ∧ S ≤ 36 ∧ G ≤ 36 ∧ Hid (S = shownTo m (doneL zs ps j) (y * m + x)) ∧ Hid (G = goodTo F (y * m + x)) ∧ Hid (Below wB.heap.size wB wx)) (fun _ _ u _ => m - (intOf u).toNat)
                  case atStart => exact ⟨0, by omega, rfl, S, G, rfl, rfl, hS36, hGG36, Lib.hid hS.out, Lib.hid hG.out, Lib.hid (below_drewN hbw.out _)⟩
                  case round =>
                    clear hc0 hd0 hS hG hS36 hGG36 HBq
                    have hbw0 := hbw
                    clear hbw
                    obtain ⟨x, hx, rfl, S2, G2, rfl, rfl, hS36, hGG36, hS, hG, hbw⟩ := hrel
                    have hc0 := (cells_g HRB.out hbw.out y (by rw [strs_len]; exact lt_of_get HRc.out)).trans (strs_get HRc.out)
                    have hd0 := (cells_g HLB.out hbw.out y (by rw [strs_len]; exact lt_of_get HSc.out)).trans (strs_get HSc.out)
                    by_cases hxm : x < m
                    · have x1 : (x : Int) < (m : Int) := by omega
                      have hxr : x < r.size := by omega
                      have hxs : x < s.size := by omega
                      have hk : y * m + x < i * m := field_lt hyn hxm
                      obtain ⟨B, hB⟩ : ∃ B, (r[x]'hxr).toNat = B := ⟨_, rfl⟩
                      obtain ⟨D, hD⟩ : ∃ D, (s[x]'hxs).toNat = D := ⟨_, rfl⟩
                      have hFx : F.getD (y * m + x) 0 = r[x]'hxr := by
                        rw [HFa.out.2 y x hyn hxm, HRg.out, byte_at hxr]
                      have hLx : L.getD (y * m + x) 0 = s[x]'hxs := by
                        rw [← HSat.out x hxm, byte_at hxs]
                      have hB97 : 97 ≤ B := by rw [← hB, ← hFx]; exact HFb.out _ hk
                      have hBlt : B < 256 := by rw [← hB]; exact UInt8.toNat_lt _
                      have hgs := goodTo_succ F (y * m + x)
                      have hss2 := shownTo_succ m (doneL zs ps j) (y * m + x)
                      have hl2 := HLat.out _ hk
                      have hgl := goodTo_le F (y * m + x + 1)
                      have hsl := shownTo_le m (doneL zs ps j) (y * m + x + 1)
                      have hb120 : F.getD (y * m + x) 0 = 120 ↔ B = 120 := by
                        rw [hFx, ← hB]
                        constructor
                        · intro e; rw [e]; rfl
                        · intro e; exact UInt8.toNat_inj.1 (by rw [e]; rfl)
                      have hcg := HCg.out _ hk
                      cases hcv : coverB m (doneL zs ps j) (y * m + x) with
                      | true =>
                        have hne : ¬ B = 120 := fun e => hcg hcv (hb120.2 e)
                        have hD1 := hl2.2 hcv
                        rw [hLx, hD] at hD1
                        obtain ⟨d1, d2⟩ := hD1
                        rw [if_pos hcv, ← hS.out] at hss2
                        rw [if_neg (fun e => hne (hb120.1 e)), ← hG.out] at hgs
                        have hS1 : S2 + 1 ≤ 36 := by rw [← hss2]; omega
                        have hG1 : G2 + 1 ≤ 36 := by rw [← hgs]; omega
                        have HS1 := Lib.hid hss2
                        have HG1 := Lib.hid hgs
                        have hb0 : ((B : Int) != 120) = true := by simp; omega
                        clear hgs hss2 hl2 hgl hsl hb120 hcg hcv hFx hLx hk
                        go_wp2_with fail
                        go_roundw
                        case rel => exact ⟨x + 1, by omega, by go_num, S2 + 1, G2 + 1, by go_num, by go_num, hS1, hG1, Lib.hid HS1.out.symm, Lib.hid HG1.out.symm, hbw⟩
                        case measure => simp [intOf]; omega
                      | false =>
                        have hDB : D = B := by rw [← hD, ← hB, ← hLx, ← hFx, hl2.1 hcv]
                        subst hDB
                        rw [if_neg (by rw [hcv]; simp), ← hS.out] at hss2
                        have HS1 := Lib.hid hss2
                        have hdd : ((D : Int) != (D : Int)) = false := by simp
                        by_cases he : D = 120
                        · rw [if_pos (hb120.2 he), ← hG.out] at hgs
                          have HG1 := Lib.hid hgs
                          have hb0 : ((D : Int) != 120) = false := by simp; omega
                          clear hgs hss2 hl2 hgl hsl hb120 hcg hcv hFx hLx hk he
                          go_wp2_with fail
                          go_quiet (fail)
                          go_wp2_with fail
                          go_roundw
                          case rel => exact ⟨x + 1, by omega, by go_num, S2, G2, rfl, rfl, hS36, hGG36, Lib.hid HS1.out.symm, Lib.hid HG1.out.symm, Lib.hid (below_drewN hbw.out _)⟩
                          case measure => simp [intOf]; omega
                        · rw [if_neg (fun e => he (hb120.1 e)), ← hG.out] at hgs
                          have hG1 : G2 + 1 ≤ 36 := by rw [← hgs]; omega
                          have HG1 := Lib.hid hgs
                          have hb0 : ((D : Int) != 120) = true := by simp; omega
                          clear hgs hss2 hl2 hgl hsl hb120 hcg hcv hFx hLx hk he
                          go_wp2_with fail
                          go_quiet (fail)
                          go_wp2_with fail
                          go_roundw
                          case rel => exact ⟨x + 1, by omega, by go_num, S2, G2 + 1, rfl, by go_num, hS36, hG1, Lib.hid HS1.out.symm, Lib.hid HG1.out.symm, Lib.hid (below_drewN hbw.out _)⟩
                          case measure => simp [intOf]; omega
                    · obtain rfl : x = m := by omega
                      have e : y * x + x = (y + 1) * x := by rw [Nat.succ_mul]
                      rw [e] at hS hG
                      clear e
                      go_wp2_with fail
                      go_roundw
                      case rel => exact ⟨y + 1, by omega, by go_num, S2, G2, rfl, rfl, hS36, hGG36, hS, hG, hbw⟩
                      case measure => simp [intOf]; omega
                · obtain rfl : y = i := by omega
                  obtain rfl : S = U := by rw [hS.out]; exact HSe.out
                  obtain rfl : G = GG := by rw [hG.out]; exact HGe.out
                  have hO := Obx.below HQ.out hbw.out
                  have m0 : wr.cell? ⟨q, 0, none⟩ = some (.int .i64 fx) := hO.cell 0 (by omega)
                  have m1 : wr.cell? ⟨q, 1, none⟩ = some (.int .i64 fy) := hO.cell 1 (by omega)
                  obtain ⟨hfx, hfy, hfc⟩ := HFX.out
                  have HE := Lib.hid (HBB.out.trans (hbw.out.mono HBB.out.size))
                  by_cases hG0 : G = 0
                  · subst hG0
                    obtain rfl : S = 0 := by omega
                    obtain rfl : fc = 3 := by rw [← hfc]; rfl
                    clear hfx hfy hfc hO
                    go_wp2_with fail
                    go_ret
                    exact ⟨rfl, HE.out⟩
                  · rw [if_neg hG0] at hfx hfy hfc
                    obtain rfl : fc = 0 := hfc.symm
                    obtain ⟨X, Y, P, x1, x2, x3, x4, x5, x6, x7, x8⟩ := share_law (show 1 ≤ G by omega) hGG36 hUG
                    obtain rfl : fx = (X : Int) := by rw [← hfx, x1]
                    obtain rfl : fy = (Y : Int) := by rw [← hfy, x2]
                    have hgz : ((G : Int) == 0) = false := by simpa using hG0
                    clear hfx hfy hO x1 x2
                    go_wp2_with fail
                    go_ret
                    exact ⟨rfl, HE.out⟩
    · go_enter Tryd.func3, Tryd.ntmps3
      go_wp2_with (go_at_call 5; go_in)
      go_ret
      exact ⟨rfl, (by repeat (first | exact Below.refl _ _ | assumption | refine Below.drew ?_ | refine below_drewN ?_ _ | refine Below.alloc ?_ (by simp; try omega) _ | refine Below.setCell ?_ (by simp; try omega) _))⟩
  · go_enter Tryd.func3, Tryd.ntmps3
    go_wp2_with (go_at_call 5; go_in)
    go_ret
    exact ⟨rfl, (by repeat (first | exact Below.refl _ _ | assumption | refine Below.drew ?_ | refine below_drewN ?_ _ | refine Below.alloc ?_ (by simp; try omega) _ | refine Below.setCell ?_ (by simp; try omega) _))⟩
end Go.Proofs.YthemlamdchcicaaDoor
