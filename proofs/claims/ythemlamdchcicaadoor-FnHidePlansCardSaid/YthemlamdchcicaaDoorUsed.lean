/-
  impl.UsedShare at a sound plan. No condition of its own.
-/
import Derived.Test.YthemlamdchcicaaDoorPlanLines
import Derived.Test.YthemlamdchcicaaDoorFrac
import Derived.Test.YthemlamdchcicaaDoorCutDraw
namespace Go.Proofs.YthemlamdchcicaaDoor
open Go.ChangeShapes Go.WideShapes Go.ChangeAt Go.RowKit Go.Deep

/-- The fields that are no hole. -/
def goodR (rows : List ByteArray) : Nat := (rows.map fun r => r.size - Lib.countByte r.data.toList 120).sum
theorem goodR_app (rows : List ByteArray) (r : ByteArray) : goodR (rows ++ [r]) = goodR rows + (r.size - Lib.countByte r.data.toList 120) := by simp [goodR]
theorem used_succ (zs ps : List Int) (i : Nat) : usedD (doneL zs ps (i + 1)) = usedD (doneL zs ps i) + (if ps.getD i 0 < 0 then 0 else (cutAt zs i).w * (cutAt zs i).h) := by
  rw [doneL_succ]
  simp [usedD]
/-- The share: used, good and the code. -/
def ShareEnd (w : World) (U G : Nat) (e : Ending) (w' : World) : Prop :=
  e = .returned (.tuple #[.agg #[.int .i64 (if G = 0 then 0 else (U : Int) / Int.gcd U G), .int .i64 (if G = 0 then 0 else (G : Int) / Int.gcd U G)], .int .i64 (if G = 0 then 3 else 0)]) ∧ Below w.heap.size w w'
set_option maxRecDepth 100000 in
set_option maxHeartbeats 6400000 in
theorem usedShare_any (w : World) (a al ap : Option Addr) (rows : List ByteArray) (n m ca nl cl cp : Nat) (zs ps : List Int) (hok : HideOk rows n m) (hr : CellsAt w a (strs rows)) (hz : zs.length = nl * 4) (hcl : CellsAt w al (zs.map (Value.int .i64))) (hcuts : cutsB zs nl = true)
    (hpl : ps.length = nl) (hcp : CellsAt w ap (ps.map (Value.int .i64))) (hso : PlanSo rows n m zs ps nl) :
    Calls Tryd.prog 12 #[.slice a n ca, .slice al nl cl, .slice ap nl cp] w (ShareEnd w (usedD (doneL zs ps nl)) (goodR rows)) := by
  have hn4 := cutsB_n hcuts
  have hn1 := hok.n1
  have hn6 := hok.n6
  have hm6 := hok.m6
  have hm1 := hok.m1
  have HSd := Lib.hid (fun W (hb : Below w.heap.size w W) => soundCode_ok W a al ap rows n m ca nl cl cp zs ps hok (hr.below hb) hz (hcl.below hb) hcuts hpl (hcp.below hb) hso)
  obtain ⟨b, o, rfl, hb, hcc⟩ := hr.at_ (by rw [strs_len, hok.len]; omega)
  have HC := Lib.hid hcc
  have HOk := Lib.hid hok
  have HL := Lib.hid hcl
  have HP := Lib.hid hcp
  have HZ := Lib.hid hz
  have HPl := Lib.hid hpl
  have HCu := Lib.hid hcuts
  have HSo := Lib.hid hso
  obtain ⟨W0, hW0⟩ : ∃ W, w.alloc (.cells #[.int .i64 0, .int .i64 0] 36) = W := ⟨_, rfl⟩
  have HR0 := Lib.hid (show Obx W0 w.heap.size w.heap.size 36 2 [.int .i64 0, .int .i64 0] by rw [← hW0]; exact Obx.new w w.heap.size 36 2 #[.int .i64 0, .int .i64 0] (Nat.le_refl _) rfl)
  have HW0 := Lib.hid (show Below w.heap.size w W0 by rw [← hW0]; exact (Below.refl _ _).alloc (Nat.le_refl _) _)
  have HW := Lib.hid hW0
  clear hr hcl hcp hok hz hpl hcuts hso hcc hW0
  go_enter Tryd.func12, Tryd.ntmps12
  go_wp2_with fail
  rw [HW.out]
  refine (HSd.out _ HW0.out).mono ?_
  rintro e w1 ⟨rfl, hb1⟩
  have HB1 := Lib.hid hb1
  clear hb1
  go_wp2_with fail
  go_loopw [9, 11, 12, 25] (fun t _ _ u wr => ∃ i : Nat, i ≤ nl ∧ u = .int .i64 i ∧ ∃ U : Nat, t = .int .i64 U ∧ U ≤ 36 * i ∧ Hid (usedD (doneL zs ps i) = U) ∧ Hid (Below W0.heap.size W0 wr)) (fun _ _ _ u _ => nl - (intOf u).toNat)
  case atStart => exact ⟨0, by omega, rfl, 0, rfl, by omega, Lib.hid rfl, HB1⟩
  case round =>
    obtain ⟨i, hi, rfl, U, rfl, hU36, hU, hbw⟩ := hrel
    have HBw := Lib.hid (HW0.out.trans (hbw.out.mono HW0.out.size))
    by_cases hlt : i < nl
    · have i1 : (i : Int) < (nl : Int) := by omega
      obtain ⟨bP, oP, rfl, hbP, hcP⟩ := HP.out.at_ (by simp [HPl.out]; omega)
      obtain ⟨x, hx⟩ : ∃ x, ps.getD i 0 = x := ⟨_, rfl⟩
      have hcx := int_cell hbP HBw.out hcP (by rw [HPl.out]; exact hlt) hx
      have HX := Lib.hid hx
      have hus := used_succ zs ps i
      rw [hx, hU.out] at hus
      clear hx hcP
      by_cases h0 : x < 0
      · rw [if_pos h0] at hus
        have HUS := Lib.hid hus
        clear hus
        go_wp2_with fail
        go_roundw
        case rel => exact ⟨i + 1, by omega, by go_num, U, rfl, by omega, HUS, hbw⟩
        case measure => simp [intOf]; omega
      · rw [if_neg h0] at hus
        obtain ⟨bL, oL, rfl, hbL, hcL⟩ := HL.out.at_ (by simp [HZ.out]; omega)
        obtain ⟨_, hck, hx0, hx1⟩ := cutsB_at HCu.out hlt
        obtain ⟨e0, e1, e2, e3⟩ := cut_cells hbL HBw.out hcL HZ.out hlt hx0 hx1
        obtain ⟨c, hcc⟩ : ∃ c, cutAt zs i = c := ⟨_, rfl⟩
        rw [hcc] at e0 e1 e2 e3 hck hus
        obtain ⟨ws, hs, cq, v⟩ := c
        obtain ⟨⟨k1, k2⟩, ⟨k3, k4⟩, _⟩ := hck
        obtain ⟨A, hA⟩ : ∃ A, ws * hs = A := ⟨_, rfl⟩
        have hA36 : A ≤ 36 := by rw [← hA]; exact Nat.mul_le_mul k2 k4
        have hmul : (ws : Int) * (hs : Int) = (A : Int) := by rw [← hA]; simp
        rw [show (⟨ws, hs, cq, v⟩ : Cut).w * (⟨ws, hs, cq, v⟩ : Cut).h = A from hA] at hus
        have HUS := Lib.hid hus
        clear hus hcc hx0 hx1 hcL hA k1 k2 k3 k4
        go_wp2_with fail
        go_quiet (fail)
        go_wp2_with fail
        go_roundw
        case rel => exact ⟨i + 1, by omega, by go_num, U + A, by go_num, by omega, HUS, Lib.hid (below_drewN hbw.out _)⟩
        case measure => simp [intOf]; omega
    · obtain rfl : i = nl := by omega
      go_wp2_with fail
      go_loopw [10, 14, 48] (fun t _ u wx => ∃ y : Nat, y ≤ n ∧ u = .int .i64 y ∧ ∃ G : Nat, t = .int .i64 G ∧ G ≤ 6 * y ∧ Hid (goodR (rows.take y) = G) ∧ Hid (Below W0.heap.size W0 wx)) (fun _ _ u _ => n - (intOf u).toNat)
      case atStart => exact ⟨0, by omega, rfl, 0, rfl, by omega, Lib.hid rfl, hbw⟩
      case round =>
        clear hbw HBw
        obtain ⟨y, hy, rfl, G, rfl, hG6, hG, hbw⟩ := hrel
        have HBw := Lib.hid (HW0.out.trans (hbw.out.mono HW0.out.size))
        by_cases hlt : y < n
        · have i1 : (y : Int) < (n : Int) := by omega
          obtain ⟨r, hr, _, hrs, _⟩ := hide_row HOk.out hlt
          have hc0 := str_cell hb HBw.out HC.out hr
          have HK := Lib.hid (Tryd.strings_Count_one r 120 wr)
          have hK : Lib.countByte r.data.toList 120 ≤ m := by rw [← hrs]; unfold Lib.countByte; exact Nat.le_trans List.count_le_length (by rw [Array.length_toList]; exact Nat.le_refl _)
          have HG2 := Lib.hid (show goodR (rows.take (y + 1)) = G + (m - Lib.countByte r.data.toList 120) by rw [List.take_add_one, hr]; simp only [Option.toList_some]; rw [goodR_app, hG.out, hrs])
          obtain ⟨K, hKe⟩ : ∃ K, Lib.countByte r.data.toList 120 = K := ⟨_, rfl⟩
          rw [hKe] at HK hK HG2
          clear hr hKe
          go_wp2_with fail
          refine HK.out.mono ?_
          rintro e w5 ⟨rfl, rfl⟩
          go_wp2_with fail
          go_roundw
          case rel => exact ⟨y + 1, by omega, by go_num, G + (m - K), by go_num, by omega, HG2, hbw⟩
          case measure => simp [intOf]; omega
        · obtain rfl : y = n := by omega
          have hGe : goodR rows = G := by
            have h := hG.out
            rw [List.take_of_length_le (by rw [HOk.out.len]; exact Nat.le_refl _)] at h
            exact h
          have hO := own_below HR0.out hbw.out
          have HO := Lib.hid (show Obx wr w.heap.size w.heap.size 36 2 [.int .i64 0, .int .i64 0] from hO)
          have HE := Lib.hid (show ∀ e w', (∃ f c, e = .returned (.tuple #[f, .int .i64 c]) ∧ f = .agg #[.int .i64 (if G = 0 then 0 else (U : Int) / Int.gcd U G), .int .i64 (if G = 0 then 0 else (G : Int) / Int.gcd U G)] ∧ c = (if G = 0 then 3 else 0) ∧ Below w.heap.size w w') → ShareEnd w (usedD (doneL zs ps i)) (goodR rows) e w' from by
            rintro e w' ⟨f, c, rfl, rfl, rfl, h⟩
            rw [hU.out, hGe]
            exact ⟨rfl, h⟩)
          have n0 : wr.cell? ⟨w.heap.size, 0, none⟩ = some (.int .i64 0) := HO.out.cell 0 (by omega)
          have n1 : wr.cell? ⟨w.heap.size, 1, none⟩ = some (.int .i64 0) := HO.out.cell 1 (by omega)
          have f0 := HO.out.fr 0
          have f1 := HO.out.fr 1
          clear hGe hO
          by_cases hG0 : G = 0
          · subst hG0
            go_wp2_with fail
            refine bodyPost_ret (v := .tuple #[.agg #[.int .i64 0, .int .i64 0], .int .i64 3]) (by simp [results, Tryd.results12, go_sem, n0, n1]) rfl ?_
            exact HE.out _ _ ⟨_, _, rfl, rfl, rfl, (Bel.of HBw.out |>.setCell (p := ⟨w.heap.size, 0, none⟩) (Nat.le_refl _) _ |>.setCell (p := ⟨w.heap.size, 1, none⟩) (Nat.le_refl _) _).1⟩
          · have hgz : ((G : Int) == 0) = false := by simpa using hG0
            have HLow := Lib.hid (lowest_any (U : Int) (G : Int) wr (by omega) (by omega) (by omega) (by omega))
            go_wp2_with fail
            refine HLow.out.mono ?_
            rintro e w6 ⟨rfl, hb6⟩
            have HB6 := Lib.hid ((Bel.of HBw.out).step hb6)
            have HO6 := Lib.hid (show Obx w6 w.heap.size w.heap.size 36 2 [.int .i64 0, .int .i64 0] from own_below HO.out hb6)
            clear hb6 n0 n1 f0 f1
            have n0 : w6.cell? ⟨w.heap.size, 0, none⟩ = some (.int .i64 0) := HO6.out.cell 0 (by omega)
            have n1 : w6.cell? ⟨w.heap.size, 1, none⟩ = some (.int .i64 0) := HO6.out.cell 1 (by omega)
            have f0 := HO6.out.fr 0
            have f1 := HO6.out.fr 1
            obtain ⟨X, hX⟩ : ∃ X, (U : Int) / Int.gcd U G = X := ⟨_, rfl⟩
            obtain ⟨Y, hY⟩ : ∃ Y, (G : Int) / Int.gcd U G = Y := ⟨_, rfl⟩
            rw [hX, hY]
            rw [if_neg hG0, if_neg hG0, if_neg hG0, hX, hY] at HE
            clear hX hY
            go_wp2_with fail
            refine bodyPost_ret (v := .tuple #[.agg #[.int .i64 X, .int .i64 Y], .int .i64 0]) (by simp [results, Tryd.results12, go_sem, n0, n1]) rfl ?_
            exact HE.out _ _ ⟨_, _, rfl, rfl, rfl, (HB6.out.setCell (p := ⟨w.heap.size, 0, none⟩) (Nat.le_refl _) _ |>.setCell (p := ⟨w.heap.size, 1, none⟩) (Nat.le_refl _) _).1⟩
end Go.Proofs.YthemlamdchcicaaDoor
