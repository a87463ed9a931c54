/-
  impl.fitCost: the cost of a last and whether it is allowed. impl.FitCost at a valid last, foot and fit. The names of the drawn lasts. No condition of its own.
-/
import Derived.Test.YthemlamdchcicaaGreatDoorGLast
import Derived.Test.YthemlamdchcicaaGreatDoorGHideS

namespace Go.Proofs.YthemlamdchcicaaGreatDoor
open Go.ChangeShapes Go.WideShapes Go.ChangeAt Go.RowKit Go.Deep

theorem apart_any (x y : Int) (w : World) (h1 : -1000000000000 ≤ x) (h2 : x ≤ 1000000000000) (h3 : -1000000000000 ≤ y) (h4 : y ≤ 1000000000000) :
    Calls Tryz.prog 59 #[.int .i64 x, .int .i64 y] w fun e w' => e = .returned (.int .i64 ((x - y).natAbs : Int)) ∧ w = w' := by
  go_enter Tryz.func59, Tryz.ntmps59
  go_wp2
  all_goals
    go_ret
    exact ⟨ret_int (by omega), rfl⟩
theorem below_undrew {n q : Nat} {W W' : World} (h : Below n (W.drewN q) W') : Below n W W' := ⟨h.os, h.tape, h.output, h.size, h.block⟩
/-- The cost over the first k measures, and whether they fit. -/
def costTo (c0 : Int) (ms fs ws : List Int) : Nat → Int
  | 0 => c0
  | k + 1 => if k = 0 then costTo c0 ms fs ws k else costTo c0 ms fs ws k + ws.getD k 0 * ((ms.getD k 0 - fs.getD k 0).natAbs : Int)
def okTo (o0 : Bool) (gi : Int) (ms fs : List Int) : Nat → Bool
  | 0 => o0
  | k + 1 => if k = 0 then okTo o0 gi ms fs k else okTo o0 gi ms fs k && decide (((ms.getD k 0 - fs.getD k 0).natAbs : Int) ≤ gi)
set_option maxRecDepth 100000 in
set_option maxHeartbeats 6400000 in
theorem fitCost_any (s : ByteArray) (l b i h p fl fb fi fh mn mx gi w0 w1 w2 w3 : Int) (aw : Option Addr) (cw : Nat) (w : World) (hm : ∀ z ∈ [l, b, i, h], 500 ≤ z ∧ z ≤ 5000) (hf : ∀ z ∈ [fl, fb, fi, fh], 500 ≤ z ∧ z ≤ 5000)
    (hk : FitOk mn mx gi [w0, w1, w2, w3]) (hc : CellsAt w aw ([w0, w1, w2, w3].map (Value.int .i64))) :
    Calls Tryz.prog 29 #[.agg #[.string s, .int .i64 l, .int .i64 b, .int .i64 i, .int .i64 h, .int .i64 p], .agg #[.int .i64 fl, .int .i64 fb, .int .i64 fi, .int .i64 fh], .agg #[.int .i64 mn, .int .i64 mx, .int .i64 gi, .slice aw 4 cw]] w
      fun e w' => e = .returned (.tuple #[.int .i64 (costTo (w0 * (l - fl - mn)) [l, b, i, h] [fl, fb, fi, fh] [w0, w1, w2, w3] 4), .bool (okTo (inB (l - fl) mn mx) gi [l, b, i, h] [fl, fb, fi, fh] 4)]) ∧ Below w.heap.size w w' := by
  obtain ⟨⟨k1, k2, k3⟩, ⟨k4, k5⟩, _, kz⟩ := hk
  have hz := kz w0 (by simp)
  have hl1 := hm l (by simp)
  have hfl1 := hf fl (by simp)
  obtain ⟨c0, hc0⟩ : ∃ c, w0 * (l - fl - mn) = c := ⟨_, rfl⟩
  have hcb : -600000 ≤ c0 ∧ c0 ≤ 600000 := by
    rw [← hc0]
    have a1 : -6000 ≤ l - fl - mn := by omega
    have a2 : l - fl - mn ≤ 6000 := by omega
    obtain ⟨z1, z2⟩ := hz
    constructor
    · have := Int.mul_le_mul_of_nonneg_left a1 z1
      have h2 : w0 * (-6000) ≥ -600000 := by omega
      omega
    · have := Int.mul_le_mul_of_nonneg_left a2 z1
      have h2 : w0 * 6000 ≤ 600000 := by omega
      omega
  obtain ⟨cb1, cb2⟩ := hcb
  obtain ⟨bw, ow, rfl, hbw, hcw⟩ := hc.at_ (by simp)
  obtain ⟨W3, hW3⟩ : ∃ W, ((w.alloc (.cells #[.string s, .int .i64 l, .int .i64 b, .int .i64 i, .int .i64 h, .int .i64 p] 37)).alloc (.cells #[.int .i64 fl, .int .i64 fb, .int .i64 fi, .int .i64 fh] 25)).alloc (.cells #[.int .i64 mn, .int .i64 mx, .int .i64 gi, .slice (some ⟨bw, ow, none⟩) 4 cw] 31) = W := ⟨_, rfl⟩
  have HL := Lib.hid (show Obx W3 w.heap.size w.heap.size 37 6 [.string s, .int .i64 l, .int .i64 b, .int .i64 i, .int .i64 h, .int .i64 p] by rw [← hW3]; exact ((Obx.new w w.heap.size 37 6 #[.string s, .int .i64 l, .int .i64 b, .int .i64 i, .int .i64 h, .int .i64 p] (Nat.le_refl _) rfl).alloc _).alloc _)
  have HF := Lib.hid (show Obx W3 w.heap.size (w.heap.size + 1) 25 4 [.int .i64 fl, .int .i64 fb, .int .i64 fi, .int .i64 fh] by
    rw [← hW3]
    have h := (Obx.new (w.alloc (.cells #[.string s, .int .i64 l, .int .i64 b, .int .i64 i, .int .i64 h, .int .i64 p] 37)) w.heap.size 25 4 #[.int .i64 fl, .int .i64 fb, .int .i64 fi, .int .i64 fh] (by simp) rfl).alloc (.cells #[.int .i64 mn, .int .i64 mx, .int .i64 gi, .slice (some ⟨bw, ow, none⟩) 4 cw] 31)
    simpa using h)
  have HT := Lib.hid (show Obx W3 w.heap.size (w.heap.size + 1 + 1) 31 4 [.int .i64 mn, .int .i64 mx, .int .i64 gi, .slice (some ⟨bw, ow, none⟩) 4 cw] by
    rw [← hW3]
    have h := Obx.new ((w.alloc (.cells #[.string s, .int .i64 l, .int .i64 b, .int .i64 i, .int .i64 h, .int .i64 p] 37)).alloc (.cells #[.int .i64 fl, .int .i64 fb, .int .i64 fi, .int .i64 fh] 25)) w.heap.size 31 4 #[.int .i64 mn, .int .i64 mx, .int .i64 gi, .slice (some ⟨bw, ow, none⟩) 4 cw] (by simp; omega) rfl
    simpa using h)
  have HB3 := Lib.hid (show Below w.heap.size w W3 by rw [← hW3]; exact ((((Bel.refl w).alloc _).alloc _).alloc _).1)
  have HW3 := Lib.hid hW3
  have HCw := Lib.hid hcw
  clear hW3 hcw
  go_enter Tryz.func29, Tryz.ntmps29
  go_upto_region 1 with fail
  rw [HW3.out]
  have a1 : W3.cell? ⟨w.heap.size, 1, none⟩ = some (.int .i64 l) := HL.out.cell 1 (by omega)
  have b0 : W3.cell? ⟨w.heap.size + 1, 0, none⟩ = some (.int .i64 fl) := HF.out.cell 0 (by omega)
  have b1 : W3.cell? ⟨w.heap.size + 1, 1, none⟩ = some (.int .i64 fb) := HF.out.cell 1 (by omega)
  have b2 : W3.cell? ⟨w.heap.size + 1, 2, none⟩ = some (.int .i64 fi) := HF.out.cell 2 (by omega)
  have b3 : W3.cell? ⟨w.heap.size + 1, 3, none⟩ = some (.int .i64 fh) := HF.out.cell 3 (by omega)
  have t0 : W3.cell? ⟨w.heap.size + 1 + 1, 0, none⟩ = some (.int .i64 mn) := HT.out.cell 0 (by omega)
  have t1 : W3.cell? ⟨w.heap.size + 1 + 1, 1, none⟩ = some (.int .i64 mx) := HT.out.cell 1 (by omega)
  have t3 : W3.cell? ⟨w.heap.size + 1 + 1, 3, none⟩ = some (.slice (some ⟨bw, ow, none⟩) 4 cw) := HT.out.cell 3 (by omega)
  have d0 : W3.cell? ⟨bw, ow, none⟩ = some (.int .i64 w0) := (HB3.out.cell (p := ⟨bw, ow, none⟩) hbw).trans (HCw.out 0 (by simp))
  have q0 := HL.out.lt.2
  have q1 := HF.out.lt.2
  have q2 := HT.out.lt.2
  have q3 : bw < W3.heap.size := Nat.lt_of_lt_of_le hbw HB3.out.size
  have HSk := Lib.hid (fun (W : World) (h : Below W3.heap.size W3 W) => (show (W.cell? ⟨w.heap.size + 1, 0, none⟩ = some (.int .i64 fl) ∧ W.cell? ⟨w.heap.size + 1, 1, none⟩ = some (.int .i64 fb) ∧ W.cell? ⟨w.heap.size + 1, 2, none⟩ = some (.int .i64 fi) ∧ W.cell? ⟨w.heap.size + 1, 3, none⟩ = some (.int .i64 fh) ∧ W.cell? ⟨w.heap.size + 1 + 1, 0, none⟩ = some (.int .i64 mn) ∧ W.cell? ⟨w.heap.size + 1 + 1, 1, none⟩ = some (.int .i64 mx) ∧ W.cell? ⟨w.heap.size + 1 + 1, 3, none⟩ = some (.slice (some ⟨bw, ow, none⟩) 4 cw) ∧ W.cell? ⟨bw, ow, none⟩ = some (.int .i64 w0)) from
    ⟨(h.cell (p := ⟨w.heap.size + 1, 0, none⟩) q1).trans b0, (h.cell (p := ⟨w.heap.size + 1, 1, none⟩) q1).trans b1, (h.cell (p := ⟨w.heap.size + 1, 2, none⟩) q1).trans b2, (h.cell (p := ⟨w.heap.size + 1, 3, none⟩) q1).trans b3, (h.cell (p := ⟨w.heap.size + 1 + 1, 0, none⟩) q2).trans t0, (h.cell (p := ⟨w.heap.size + 1 + 1, 1, none⟩) q2).trans t1, (h.cell (p := ⟨w.heap.size + 1 + 1, 3, none⟩) q2).trans t3, (h.cell (p := ⟨bw, ow, none⟩) q3).trans d0⟩))
  have HC0 := Lib.hid hc0
  have hr1 : l - fl - mn ≤ 6000 := by omega
  have HM := Lib.hid hm
  have HFs := Lib.hid hf
  have HKz := Lib.hid kz
  clear hm hf kz hz hc
  go_upto_region 2 with fail
  go_region_held3 (fun W => W.cell? ⟨w.heap.size + 1, 0, none⟩ = some (.int .i64 fl) ∧ W.cell? ⟨w.heap.size + 1, 1, none⟩ = some (.int .i64 fb) ∧ W.cell? ⟨w.heap.size + 1, 2, none⟩ = some (.int .i64 fi) ∧ W.cell? ⟨w.heap.size + 1, 3, none⟩ = some (.int .i64 fh) ∧ W.cell? ⟨w.heap.size + 1 + 1, 0, none⟩ = some (.int .i64 mn) ∧ W.cell? ⟨w.heap.size + 1 + 1, 1, none⟩ = some (.int .i64 mx) ∧ W.cell? ⟨w.heap.size + 1 + 1, 3, none⟩ = some (.slice (some ⟨bw, ow, none⟩) 4 cw) ∧ W.cell? ⟨bw, ow, none⟩ = some (.int .i64 w0)) (first | (with_reducible exact hK2) | go_keep)
    (first
      | (go_at_call 53; refine (within_any _ _ _ _).mono ?_; rintro e w4 ⟨rfl, rfl⟩)
      | (go_at_call 52; refine (measures_any fl fb fi fh _).mono ?_; rintro e w5 ⟨aD, cD, rfl, hoD, hbD⟩; have hB5 : Below W3.heap.size W3 w5 := (by first | with_reducible exact hbD | exact below_undrew hbD); have hK2 := HSk.out w5 hB5)
      | fail)
  have v1 : IntKind.i64.wrap (l - fl - mn) = l - fl - mn := IntWalk.i64_in _ (by omega)
  rw [v1, HC0.out, IntWalk.i64_in c0 (by omega)]
  have HB5 := Lib.hid hB5
  have HD5 := Lib.hid (CellsAt.of_own hoD)
  have e0 : w5.cell? ⟨w.heap.size, 0, none⟩ = some (.string s) := (hB5.cell (p := ⟨w.heap.size, 0, none⟩) q0).trans (HL.out.cell 0 (by omega))
  have e1 : w5.cell? ⟨w.heap.size, 1, none⟩ = some (.int .i64 l) := (hB5.cell (p := ⟨w.heap.size, 1, none⟩) q0).trans (HL.out.cell 1 (by omega))
  have e2 : w5.cell? ⟨w.heap.size, 2, none⟩ = some (.int .i64 b) := (hB5.cell (p := ⟨w.heap.size, 2, none⟩) q0).trans (HL.out.cell 2 (by omega))
  have e3 : w5.cell? ⟨w.heap.size, 3, none⟩ = some (.int .i64 i) := (hB5.cell (p := ⟨w.heap.size, 3, none⟩) q0).trans (HL.out.cell 3 (by omega))
  have e4 : w5.cell? ⟨w.heap.size, 4, none⟩ = some (.int .i64 h) := (hB5.cell (p := ⟨w.heap.size, 4, none⟩) q0).trans (HL.out.cell 4 (by omega))
  have e5 : w5.cell? ⟨w.heap.size, 5, none⟩ = some (.int .i64 p) := (hB5.cell (p := ⟨w.heap.size, 5, none⟩) q0).trans (HL.out.cell 5 (by omega))
  clear v1 hB5 hoD hbD hK2 a1 b0 b1 b2 b3 t0 t1 t3 d0 hc0
  go_wp2_with fail
  refine (foot_any s l b i h p w5).mono ?_
  rintro e w6 ⟨rfl, hb6⟩
  have HB6 := Lib.hid (HB5.out.trans (hb6.mono HB5.out.size))
  have HD6 := Lib.hid (HD5.out.below hb6)
  clear hb6 e0 e1 e2 e3 e4 e5 HB5 HD5
  go_wp2_with fail
  refine (measures_any l b i h w6).mono ?_
  rintro e w7 ⟨aM, cM, rfl, hoM, hb7⟩
  have HB7 := Lib.hid (HB6.out.trans (hb7.mono HB6.out.size))
  have HD7 := Lib.hid (HD6.out.below hb7)
  have HM7 := Lib.hid (CellsAt.of_own hoM)
  clear hb7 hoM HB6 HD6
  go_wp2_with fail
  obtain ⟨ms, hms⟩ : ∃ ms, [l, b, i, h] = ms := ⟨_, rfl⟩
  obtain ⟨fs, hfs⟩ : ∃ fs, [fl, fb, fi, fh] = fs := ⟨_, rfl⟩
  obtain ⟨ws, hws⟩ : ∃ ws, [w0, w1, w2, w3] = ws := ⟨_, rfl⟩
  have hml : ms.length = 4 := by rw [← hms]; rfl
  have hfl2 : fs.length = 4 := by rw [← hfs]; rfl
  have hwl : ws.length = 4 := by rw [← hws]; rfl
  rw [hms] at HM HM7
  rw [hfs] at HFs HD7
  rw [hws] at HKz HCw
  have HE := Lib.hid (And.intro hms (And.intro hfs hws))
  clear hms hfs hws
  go_loopw [9, 10, 12, 13, 14, 41] (fun tc tb _ _ _ u wr => ∃ k : Nat, k ≤ 4 ∧ u = .int .i64 k ∧ ∃ (C : Int) (o : Bool), tc = .int .i64 C ∧ tb = .bool o ∧ -600000 ≤ C ∧ C ≤ 600000 + 450000 * k ∧ Hid (C = costTo c0 ms fs ws k) ∧ Hid (o = okTo (inB (l - fl) mn mx) gi ms fs k) ∧ Hid (Below w7.heap.size w7 wr)) (fun _ _ _ _ _ u _ => 4 - (intOf u).toNat)
  case atStart => exact ⟨0, by omega, rfl, c0, _, rfl, rfl, cb1, by omega, Lib.hid rfl, Lib.hid rfl, Lib.hid (Below.refl _ _)⟩
  case round =>
    obtain ⟨k, hk4, rfl, C, o, rfl, rfl, hC0, hC1, hC, ho, hbw2⟩ := hrel
    by_cases hlt : k < 4
    · have i1 : (k : Int) < 4 := by omega
      obtain ⟨bM, oM, rfl, hbM, hcM⟩ := HM7.out.at_ (by simp [hml])
      obtain ⟨x, hx⟩ : ∃ x, ms.getD k 0 = x := ⟨_, rfl⟩
      have cx := int_cell hbM hbw2.out hcM (by omega) hx
      have hc1 : costTo c0 ms fs ws (k + 1) = if k = 0 then costTo c0 ms fs ws k else costTo c0 ms fs ws k + ws.getD k 0 * ((ms.getD k 0 - fs.getD k 0).natAbs : Int) := rfl
      have ho1 : okTo (inB (l - fl) mn mx) gi ms fs (k + 1) = if k = 0 then okTo (inB (l - fl) mn mx) gi ms fs k else okTo (inB (l - fl) mn mx) gi ms fs k && decide (((ms.getD k 0 - fs.getD k 0).natAbs : Int) ≤ gi) := rfl
      rw [← hC.out, hx] at hc1
      rw [← ho.out, hx] at ho1
      by_cases hk0 : k = 0
      · subst hk0
        rw [Nat.add_zero] at cx
        rw [if_pos rfl] at hc1 ho1
        have HC1 := Lib.hid hc1
        have HO1 := Lib.hid ho1
        clear hc1 ho1 hx hcM
        go_wp2_with fail
        go_roundw
        case rel => exact ⟨1, by omega, by go_num, C, o, rfl, rfl, hC0, by omega, Lib.hid HC1.out.symm, Lib.hid HO1.out.symm, hbw2⟩
        case measure => simp [intOf]
      · rw [if_neg hk0] at hc1 ho1
        have hkz : ((k : Int) == 0) = false := by simpa using hk0
        obtain ⟨bD, oD, rfl, hbD2, hcD⟩ := HD7.out.at_ (by simp [hfl2])
        obtain ⟨y, hy⟩ : ∃ y, fs.getD k 0 = y := ⟨_, rfl⟩
        have cy := int_cell hbD2 hbw2.out hcD (by omega) hy
        obtain ⟨v, hv⟩ : ∃ v, ws.getD k 0 = v := ⟨_, rfl⟩
        have hBw : Below w.heap.size w wr := HB3.out.trans ((HB7.out.trans (hbw2.out.mono HB7.out.size)).mono HB3.out.size)
        have cv := int_cell hbw hBw HCw.out (by omega) hv
        have hB3w : Below W3.heap.size W3 wr := HB7.out.trans (hbw2.out.mono HB7.out.size)
        have t2 : wr.cell? ⟨w.heap.size + 1 + 1, 2, none⟩ = some (.int .i64 gi) := (hB3w.cell (p := ⟨w.heap.size + 1 + 1, 2, none⟩) q2).trans (HT.out.cell 2 (by omega))
        have t3 : wr.cell? ⟨w.heap.size + 1 + 1, 3, none⟩ = some (.slice (some ⟨bw, ow, none⟩) 4 cw) := (hB3w.cell (p := ⟨w.heap.size + 1 + 1, 3, none⟩) q2).trans (HT.out.cell 3 (by omega))
        have mem : ∀ (zs : List Int) (z : Int), zs.length = 4 → zs.getD k 0 = z → z ∈ zs := fun zs z hl hz => by
          rw [← hz]
          simp [List.getD, List.getElem?_eq_getElem (show k < zs.length by omega)]
        have bx := HM.out x (mem ms x hml hx)
        have by1 := HFs.out y (mem fs y hfl2 hy)
        have bv := HKz.out v (mem ws v hwl hv)
        obtain ⟨bx1, bx2⟩ := bx
        obtain ⟨by2, by3⟩ := by1
        obtain ⟨bv1, bv2⟩ := bv
        rw [hy, hv] at hc1
        rw [hy] at ho1
        obtain ⟨d, hd⟩ : ∃ d : Nat, (x - y).natAbs = d := ⟨_, rfl⟩
        have hd1 : d ≤ 4500 := by omega
        obtain ⟨ee, hee⟩ : ∃ e, v * (d : Int) = e := ⟨_, rfl⟩
        have hAp := apart_any x y wr (by omega) (by omega) (by omega) (by omega)
        rw [hd] at hAp hc1 ho1
        rw [hee] at hc1
        have hee1 : 0 ≤ ee ∧ ee ≤ 450000 := by
          rw [← hee]
          constructor
          · exact Int.mul_nonneg bv1 (by omega)
          · have h1 := Int.mul_le_mul bv2 (show (d : Int) ≤ 4500 by omega) (by omega) (by omega)
            omega
        obtain ⟨ee1, ee2⟩ := hee1
        have HA := Lib.hid hAp
        have HC1 := Lib.hid hc1
        clear hc1 hAp hx hy hv hd mem hcM hcD hBw hB3w
        cases o with
        | false =>
          have HO1 := Lib.hid (show okTo (inB (l - fl) mn mx) gi ms fs (k + 1) = false from ho1)
          clear ho1
          go_wp2_with fail
          refine HA.out.mono ?_
          rintro e w9 ⟨rfl, rfl⟩
          go_wp2_with fail
          go_quiet (fail)
          go_wp2_with fail
          go_roundw
          case rel => exact ⟨k + 1, by omega, by go_num, C + ee, false, rfl, rfl, by omega, by omega, Lib.hid HC1.out.symm, Lib.hid HO1.out.symm, Lib.hid (below_drewN hbw2.out _)⟩
          case measure => simp [intOf]; omega
        | true =>
          have HO1 := Lib.hid (show okTo (inB (l - fl) mn mx) gi ms fs (k + 1) = decide ((d : Int) ≤ gi) from ho1)
          clear ho1
          go_wp2_with fail
          refine HA.out.mono ?_
          rintro e w9 ⟨rfl, rfl⟩
          go_wp2_with fail
          go_quiet (fail)
          go_wp2_with fail
          go_roundw
          case rel => exact ⟨k + 1, by omega, by go_num, C + ee, decide ((d : Int) ≤ gi), rfl, rfl, by omega, by omega, Lib.hid HC1.out.symm, Lib.hid HO1.out.symm, Lib.hid (below_drewN hbw2.out _)⟩
          case measure => simp [intOf]; omega
    · obtain rfl : k = 4 := by omega
      go_wp2_with fail
      go_ret2
      obtain ⟨g1, g2, g3⟩ := HE.out
      exact ⟨by rw [HC0.out, g1, g2, g3, ← hC.out, ← ho.out]; rfl, HB3.out.trans ((HB7.out.trans (hbw2.out.mono HB7.out.size)).mono HB3.out.size)⟩
end Go.Proofs.YthemlamdchcicaaGreatDoor

namespace Go.Proofs.YthemlamdchcicaaGreatDoor
open Go.ChangeShapes Go.WideShapes Go.ChangeAt Go.RowKit Go.Deep

theorem footB_of {l b i h : Int} (hm : ∀ z ∈ [l, b, i, h], 500 ≤ z ∧ z ≤ 5000) : footB l b i h = true := by
  have h1 := hm l (by simp)
  have h2 := hm b (by simp)
  have h3 := hm i (by simp)
  have h4 := hm h (by simp)
  unfold footB
  rw [inB_true.2 h1, inB_true.2 h2, inB_true.2 h3, inB_true.2 h4]
  rfl
theorem lastB_foot {s : ByteArray} {l b i h p : Int} (hl : lastB s l b i h p = true) : ∀ z ∈ [l, b, i, h], 500 ≤ z ∧ z ≤ 5000 := by
  unfold lastB footB at hl
  simp only [Bool.and_eq_true] at hl
  obtain ⟨_, ⟨h1, h2, h3, h4⟩, _⟩ := hl
  intro z hz
  simp only [List.mem_cons, List.not_mem_nil, or_false] at hz
  rcases hz with rfl | rfl | rfl | rfl
  · exact inB_true.1 h1
  · exact inB_true.1 h2
  · exact inB_true.1 h3
  · exact inB_true.1 h4
set_option maxRecDepth 100000 in
set_option maxHeartbeats 6400000 in
theorem topFitCost_any (s : ByteArray) (l b i h p fl fb fi fh mn mx gi w0 w1 w2 w3 : Int) (aw : Option Addr) (cw : Nat) (w : World) (hs : s.size ≤ maxLen) (hlast : lastB s l b i h p = true) (hf : ∀ z ∈ [fl, fb, fi, fh], 500 ≤ z ∧ z ≤ 5000)
    (hk : FitOk mn mx gi [w0, w1, w2, w3]) (hc : CellsAt w aw ([w0, w1, w2, w3].map (Value.int .i64))) :
    Calls Tryz.prog 9 #[.agg #[.string s, .int .i64 l, .int .i64 b, .int .i64 i, .int .i64 h, .int .i64 p], .agg #[.int .i64 fl, .int .i64 fb, .int .i64 fi, .int .i64 fh], .agg #[.int .i64 mn, .int .i64 mx, .int .i64 gi, .slice aw 4 cw]] w
      fun e w' => e = .returned (.tuple #[.int .i64 (if okTo (inB (l - fl) mn mx) gi [l, b, i, h] [fl, fb, fi, fh] 4 = true then costTo (w0 * (l - fl - mn)) [l, b, i, h] [fl, fb, fi, fh] [w0, w1, w2, w3] 4 else 0), .int .i64 (if okTo (inB (l - fl) mn mx) gi [l, b, i, h] [fl, fb, fi, fh] 4 = true then 0 else 10)]) ∧ Below w.heap.size w w' := by
  have hm := lastB_foot hlast
  have H1 := Lib.hid (fun W => validLast_any s l b i h p W hs)
  rw [hlast] at H1
  have H2 := Lib.hid (fun W => validFoot_any fl fb fi fh W)
  rw [footB_of hf] at H2
  have H3 := Lib.hid (fun W (hb : Below w.heap.size w W) => validFit_ok mn mx gi aw cw [w0, w1, w2, w3] W hk (hc.below hb))
  have H4 := Lib.hid (fun W (hb : Below w.heap.size w W) => fitCost_any s l b i h p fl fb fi fh mn mx gi w0 w1 w2 w3 aw cw W hm hf hk (hc.below hb))
  obtain ⟨C, hC⟩ : ∃ C, costTo (w0 * (l - fl - mn)) [l, b, i, h] [fl, fb, fi, fh] [w0, w1, w2, w3] 4 = C := ⟨_, rfl⟩
  obtain ⟨O, hO⟩ : ∃ O, okTo (inB (l - fl) mn mx) gi [l, b, i, h] [fl, fb, fi, fh] 4 = O := ⟨_, rfl⟩
  rw [hC, hO] at H4 ⊢
  obtain ⟨bw, ow, rfl, hbw, hcw⟩ := hc.at_ (by simp)
  clear hC hO hlast hf hk hc hcw hm
  obtain ⟨W3, hW3⟩ : ∃ W, ((w.alloc (.cells #[.string s, .int .i64 l, .int .i64 b, .int .i64 i, .int .i64 h, .int .i64 p] 37)).alloc (.cells #[.int .i64 fl, .int .i64 fb, .int .i64 fi, .int .i64 fh] 25)).alloc (.cells #[.int .i64 mn, .int .i64 mx, .int .i64 gi, .slice (some ⟨bw, ow, none⟩) 4 cw] 31) = W := ⟨_, rfl⟩
  have HL := Lib.hid (show Obx W3 w.heap.size w.heap.size 37 6 [.string s, .int .i64 l, .int .i64 b, .int .i64 i, .int .i64 h, .int .i64 p] by rw [← hW3]; exact ((Obx.new w w.heap.size 37 6 #[.string s, .int .i64 l, .int .i64 b, .int .i64 i, .int .i64 h, .int .i64 p] (Nat.le_refl _) rfl).alloc _).alloc _)
  have HF := Lib.hid (show Obx W3 w.heap.size (w.heap.size + 1) 25 4 [.int .i64 fl, .int .i64 fb, .int .i64 fi, .int .i64 fh] by
    rw [← hW3]
    have h := (Obx.new (w.alloc (.cells #[.string s, .int .i64 l, .int .i64 b, .int .i64 i, .int .i64 h, .int .i64 p] 37)) w.heap.size 25 4 #[.int .i64 fl, .int .i64 fb, .int .i64 fi, .int .i64 fh] (by simp) rfl).alloc (.cells #[.int .i64 mn, .int .i64 mx, .int .i64 gi, .slice (some ⟨bw, ow, none⟩) 4 cw] 31)
    simpa using h)
  have HT := Lib.hid (show Obx W3 w.heap.size (w.heap.size + 1 + 1) 31 4 [.int .i64 mn, .int .i64 mx, .int .i64 gi, .slice (some ⟨bw, ow, none⟩) 4 cw] by
    rw [← hW3]
    have h := Obx.new ((w.alloc (.cells #[.string s, .int .i64 l, .int .i64 b, .int .i64 i, .int .i64 h, .int .i64 p] 37)).alloc (.cells #[.int .i64 fl, .int .i64 fb, .int .i64 fi, .int .i64 fh] 25)) w.heap.size 31 4 #[.int .i64 mn, .int .i64 mx, .int .i64 gi, .slice (some ⟨bw, ow, none⟩) 4 cw] (by simp; omega) rfl
    simpa using h)
  have HB3 := Lib.hid (show Below w.heap.size w W3 by rw [← hW3]; exact ((((Bel.refl w).alloc _).alloc _).alloc _).1)
  have HW3 := Lib.hid hW3
  have q0 := HL.out.lt.2
  have q1 := HF.out.lt.2
  have q2 := HT.out.lt.2
  have HSk := Lib.hid (fun (W : World) (hBW : Below W3.heap.size W3 W) => (show (W.cell? ⟨w.heap.size, 0, none⟩ = some (.string s) ∧ W.cell? ⟨w.heap.size, 1, none⟩ = some (.int .i64 l) ∧ W.cell? ⟨w.heap.size, 2, none⟩ = some (.int .i64 b) ∧ W.cell? ⟨w.heap.size, 3, none⟩ = some (.int .i64 i) ∧ W.cell? ⟨w.heap.size, 4, none⟩ = some (.int .i64 h) ∧ W.cell? ⟨w.heap.size, 5, none⟩ = some (.int .i64 p) ∧ W.cell? ⟨w.heap.size + 1, 0, none⟩ = some (.int .i64 fl) ∧ W.cell? ⟨w.heap.size + 1, 1, none⟩ = some (.int .i64 fb) ∧ W.cell? ⟨w.heap.size + 1, 2, none⟩ = some (.int .i64 fi) ∧ W.cell? ⟨w.heap.size + 1, 3, none⟩ = some (.int .i64 fh) ∧ W.cell? ⟨w.heap.size + 1 + 1, 0, none⟩ = some (.int .i64 mn) ∧ W.cell? ⟨w.heap.size + 1 + 1, 1, none⟩ = some (.int .i64 mx) ∧ W.cell? ⟨w.heap.size + 1 + 1, 2, none⟩ = some (.int .i64 gi) ∧ W.cell? ⟨w.heap.size + 1 + 1, 3, none⟩ = some (.slice (some ⟨bw, ow, none⟩) 4 cw)) from
    ⟨(hBW.cell (p := ⟨w.heap.size, 0, none⟩) q0).trans (HL.out.cell 0 (by omega)), (hBW.cell (p := ⟨w.heap.size, 1, none⟩) q0).trans (HL.out.cell 1 (by omega)), (hBW.cell (p := ⟨w.heap.size, 2, none⟩) q0).trans (HL.out.cell 2 (by omega)), (hBW.cell (p := ⟨w.heap.size, 3, none⟩) q0).trans (HL.out.cell 3 (by omega)), (hBW.cell (p := ⟨w.heap.size, 4, none⟩) q0).trans (HL.out.cell 4 (by omega)), (hBW.cell (p := ⟨w.heap.size, 5, none⟩) q0).trans (HL.out.cell 5 (by omega)), (hBW.cell (p := ⟨w.heap.size + 1, 0, none⟩) q1).trans (HF.out.cell 0 (by omega)), (hBW.cell (p := ⟨w.heap.size + 1, 1, none⟩) q1).trans (HF.out.cell 1 (by omega)), (hBW.cell (p := ⟨w.heap.size + 1, 2, none⟩) q1).trans (HF.out.cell 2 (by omega)), (hBW.cell (p := ⟨w.heap.size + 1, 3, none⟩) q1).trans (HF.out.cell 3 (by omega)), (hBW.cell (p := ⟨w.heap.size + 1 + 1, 0, none⟩) q2).trans (HT.out.cell 0 (by omega)), (hBW.cell (p := ⟨w.heap.size + 1 + 1, 1, none⟩) q2).trans (HT.out.cell 1 (by omega)), (hBW.cell (p := ⟨w.heap.size + 1 + 1, 2, none⟩) q2).trans (HT.out.cell 2 (by omega)), (hBW.cell (p := ⟨w.heap.size + 1 + 1, 3, none⟩) q2).trans (HT.out.cell 3 (by omega))⟩))
  clear hW3
  go_enter Tryz.func9, Tryz.ntmps9
  go_upto_region 1 with fail
  rw [HW3.out]
  obtain ⟨e0, e1, e2, e3, e4, e5, e6, e7, e8, e9, e10, e11, e12, e13⟩ := HSk.out W3 (Below.refl _ _)
  go_wp2_with fail
  refine (H1.out _).mono ?_
  rintro e w4 ⟨rfl, hb4⟩
  have HB4 := Lib.hid hb4
  clear hb4 e0 e1 e2 e3 e4 e5 e6 e7 e8 e9 e10 e11 e12 e13
  obtain ⟨e0, e1, e2, e3, e4, e5, e6, e7, e8, e9, e10, e11, e12, e13⟩ := HSk.out w4 HB4.out
  go_wp2_with fail
  refine (H2.out _).mono ?_
  rintro e w5 ⟨rfl, hb5⟩
  have HB5 := Lib.hid (HB4.out.trans (hb5.mono HB4.out.size))
  clear hb5 e0 e1 e2 e3 e4 e5 e6 e7 e8 e9 e10 e11 e12 e13
  obtain ⟨e0, e1, e2, e3, e4, e5, e6, e7, e8, e9, e10, e11, e12, e13⟩ := HSk.out w5 HB5.out
  go_wp2_with fail
  refine (H3.out _ (HB3.out.trans (HB5.out.mono HB3.out.size))).mono ?_
  rintro e w6 ⟨rfl, hb6⟩
  have HB6 := Lib.hid (HB5.out.trans (hb6.mono HB5.out.size))
  clear hb6 e0 e1 e2 e3 e4 e5 e6 e7 e8 e9 e10 e11 e12 e13
  obtain ⟨e0, e1, e2, e3, e4, e5, e6, e7, e8, e9, e10, e11, e12, e13⟩ := HSk.out w6 HB6.out
  go_wp2_with fail
  refine (H4.out _ (HB3.out.trans (HB6.out.mono HB3.out.size))).mono ?_
  rintro e w7 ⟨rfl, hb7⟩
  have HB7 := Lib.hid (HB3.out.trans ((HB6.out.trans (hb7.mono HB6.out.size)).mono HB3.out.size))
  clear hb7 e0 e1 e2 e3 e4 e5 e6 e7 e8 e9 e10 e11 e12 e13
  cases O
  · go_wp2_with fail
    go_ret2
    exact ⟨rfl, HB7.out⟩
  · go_wp2_with fail
    go_ret2
    exact ⟨rfl, HB7.out⟩
end Go.Proofs.YthemlamdchcicaaGreatDoor

namespace Go.Proofs.YthemlamdchcicaaGreatDoor
open Go.ChangeShapes Go.WideShapes Go.ChangeAt Go.RowKit Go.Deep

def names7 : List ByteArray := [⟨#[97]⟩, ⟨#[98, 45, 50]⟩, ⟨#[100, 101, 114, 98, 121]⟩, ⟨#[111, 120, 102, 111, 114, 100]⟩, ⟨#[112, 117, 109, 112]⟩, ⟨#[119]⟩, ⟨#[122]⟩]
set_option maxRecDepth 100000 in
theorem l04Names_any (w : World) : Calls Tryz.prog 48 #[] w (OwnRow w 9 1 7 (strs names7)) := by
  have ho := World.ownsRow_lit (base := w.heap.size) (size := 1) (e := 9) w #[.string ⟨#[97]⟩, .string ⟨#[98, 45, 50]⟩, .string ⟨#[100, 101, 114, 98, 121]⟩, .string ⟨#[111, 120, 102, 111, 114, 100]⟩, .string ⟨#[112, 117, 109, 112]⟩, .string ⟨#[119]⟩, .string ⟨#[122]⟩] 7 (Nat.le_refl _) (by unfold maxLen; omega) rfl
  have HO := Lib.hid ho
  clear ho
  go_enter Tryz.func48, Tryz.ntmps48
  go_wp2
  go_ret
  exact ⟨some ⟨w.heap.size, 0, none⟩, 7, rfl, HO.out, (Below.refl _ _).alloc (Nat.le_refl _) _⟩
end Go.Proofs.YthemlamdchcicaaGreatDoor
