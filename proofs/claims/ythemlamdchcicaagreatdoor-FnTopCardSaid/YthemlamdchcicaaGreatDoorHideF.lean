/-
  Contracts of a hide's fields and places, the program. No condition of its own.
-/
import Derived.Test.YthemlamdchcicaaGreatDoorHideZ
import Derived.Laws.Bits64b
namespace Go.Proofs.YthemlamdchcicaaGreatDoor
open Go.ChangeShapes Go.WideShapes Go.ChangeAt Go.RowKit Go.Deep Go.Shelf

set_option maxHeartbeats 1600000 in
theorem sizeOf_any (b o n m ca : Nat) (r0 : ByteArray) (w : World) (hn : 0 < n) (hb : w.cell? ⟨b, o, none⟩ = some (.string r0)) (hm : r0.size = m) (_ : m ≤ 6) (_ : n ≤ 6) :
    Calls Tryz.prog 85 #[.slice (some ⟨b, o, none⟩) n ca] w fun e w' => e = .returned (.tuple #[.int .i64 (n : Int), .int .i64 (m : Int)]) ∧ Below w.heap.size w w' := by
  go_enter Tryz.func85, Tryz.ntmps85
  go_wp2_with fail
  go_big_quiet (fail)
  go_wp2_with fail
  go_ret2
  exact ⟨rfl, below_drewN (Below.refl _ _) _⟩
theorem qualityOf_any (b : UInt8) (w : World) (h : 0 ≤ qualU b) : Calls Tryz.prog 86 #[.int .u8 (b.toNat : Int)] w fun e w' => e = .returned (.int .i64 (qualU b)) ∧ w = w' := by
  rcases qual_ways b with ⟨h, e⟩ | ⟨h, e⟩ | ⟨h, e⟩ | ⟨h, e⟩ | ⟨h1, h2, h3, h4, e⟩
  · rw [e, h]
    go_enter Tryz.func86, Tryz.ntmps86
    go_wp2
    go_ret
    exact ⟨rfl, rfl⟩
  · rw [e, h]
    go_enter Tryz.func86, Tryz.ntmps86
    go_wp2
    go_ret
    exact ⟨rfl, rfl⟩
  · rw [e, h]
    go_enter Tryz.func86, Tryz.ntmps86
    go_wp2
    go_ret
    exact ⟨rfl, rfl⟩
  · rw [e, h]
    go_enter Tryz.func86, Tryz.ntmps86
    go_wp2
    go_ret
    exact ⟨rfl, rfl⟩
  · omega
theorem pow_lt36 {F : Nat} (h : F < 36) : 2 ^ F < 2 ^ 36 := Nat.pow_lt_pow_right (by omega) h
theorem or_bit {Y F : Nat} (hY : Y < 2 ^ 36) (hF : F < 36) : bits BinOp.or IntKind.u64 (Y : Int) (IntKind.u64.wrap (2 ^ F)) = ((Y ||| 2 ^ F : Nat) : Int) := by
  have h1 := pow_lt36 hF
  have h36 : (2 : Nat) ^ 36 = 68719476736 := rfl
  rw [show (2 : Int) ^ F = ((2 ^ F : Nat) : Int) by simp]
  generalize 2 ^ F = P at h1 ⊢
  rw [IntWalk.u64_in _ (by omega)]
  exact bits_or_u64_nat Y P (by omega) (by omega)
/-- What fieldsOf answers. -/
def fldT (rows : List ByteArray) (n m : Nat) (c : Cut) (f : Nat) : Value := .tuple #[.int .u64 (if fitsB rows n m c f then (maskN m c f : Int) else 0), .bool (fitsB rows n m c f)]
set_option maxRecDepth 100000 in
set_option maxHeartbeats 3200000 in
theorem fieldsOf_any (a : Option Addr) (rows : List ByteArray) (n m ca : Nat) (c : Cut) (f : Nat) (w : World) (hok : HideOk rows n m) (hc : CellsAt w a (strs rows)) (hcut : CutOk c) (hf : f < n * m) :
    Calls Tryz.prog 41 #[.slice a n ca, cutV c, .int .i64 (f : Int)] w fun e w' => e = .returned (fldT rows n m c f) ∧ Below w.heap.size w w' := by
  have hnm : n * m ≤ 36 := Nat.mul_le_mul hok.n6 hok.m6
  obtain ⟨k1, k2, k3, k4, k5⟩ := hok
  have hok : HideOk rows n m := ⟨k1, k2, k3, k4, k5, by assumption, by assumption⟩
  obtain ⟨b, o, rfl, hb, hcell⟩ := hc.at_ (by rw [strs_len]; omega)
  have hck := hcut
  obtain ⟨⟨w1, w6⟩, ⟨h1, h6⟩, ⟨q1, q3⟩, v0, v1⟩ := hcut
  obtain ⟨r0, hr0, _, hs0, _⟩ := hide_row hok (y := 0) (by omega)
  have hc0 := str_cell hb (Below.refl _ w) hcell hr0
  rw [Nat.add_zero] at hc0
  obtain ⟨row, hrow⟩ : ∃ row, f / m = row := ⟨_, rfl⟩
  obtain ⟨col, hcol⟩ : ∃ col, f % m = col := ⟨_, rfl⟩
  have hrn : row < n := by rw [← hrow]; exact (Nat.div_lt_iff_lt_mul (by omega)).2 hf
  have hcm : col < m := by rw [← hcol]; exact Nat.mod_lt _ (by omega)
  have hq : ((f : Int)) / (m : Int) = (row : Int) := by rw [← hrow]; rfl
  have hq2 : ((f : Int)) % (m : Int) = (col : Int) := by rw [← hcol]; rfl
  obtain ⟨wb, hwb⟩ : ∃ wb, wb = w.alloc (.cells #[.int .i64 (c.w : Int), .int .i64 (c.h : Int), .int .i64 c.q, .int .i64 c.v] 75) := ⟨_, rfl⟩
  have HB0 := Lib.hid (show wb.cell? ⟨w.heap.size, 0, none⟩ = some (.int .i64 (c.w : Int)) by rw [hwb]; simp)
  have HB1 := Lib.hid (show wb.cell? ⟨w.heap.size, 1, none⟩ = some (.int .i64 (c.h : Int)) by rw [hwb]; simp)
  have HB2 := Lib.hid (show wb.cell? ⟨w.heap.size, 2, none⟩ = some (.int .i64 c.q) by rw [hwb]; simp)
  have HBs := Lib.hid (show w.heap.size < wb.heap.size by rw [hwb]; simp)
  have hBw : Below w.heap.size w wb := by rw [hwb]; exact (Below.refl _ _).alloc (Nat.le_refl _) _
  have HSz := Lib.hid (sizeOf_any b o n m ca r0 wb (by omega) ((hBw.cell (p := ⟨b, o, none⟩) hb).trans hc0) hs0 k5 k3)
  have HBw := Lib.hid hBw
  have HOk := Lib.hid hok
  have HCe := Lib.hid hcell
  have HWb := Lib.hid hwb
  have Hrow := Lib.hid hrow
  have Hcol := Lib.hid hcol
  have HR0 := Lib.hid hr0
  obtain ⟨r, hr⟩ : ∃ r, fitsB rows n m c f = r := ⟨_, rfl⟩
  have HR := Lib.hid hr
  clear hok hcell hc hwb hBw k1 k4 hr hrow hcol hr0 hc0
  have hdm : ((m : Int) == 0) = false := by simp; omega
  by_cases g : row + c.h ≤ n ∧ col + c.w ≤ m
  · obtain ⟨g1, g2⟩ := g
    have g1' : (row : Int) + (c.h : Int) ≤ (n : Int) := by omega
    have g2' : (col : Int) + (c.w : Int) ≤ (m : Int) := by omega
    go_enter Tryz.func41, Tryz.ntmps41
    go_wp2_with fail
    rw [← HWb.out]
    refine HSz.out.mono ?_
    rintro e w2 ⟨rfl, hb2⟩
    have HB2' := Lib.hid hb2
    have d0 := (hb2.cell (p := ⟨w.heap.size, 0, none⟩) HBs.out).trans HB0.out
    have d1 := (hb2.cell (p := ⟨w.heap.size, 1, none⟩) HBs.out).trans HB1.out
    have dl : w.heap.size < w2.heap.size := Nat.lt_of_lt_of_le HBs.out hb2.size
    clear hb2
    go_wp2_with fail
    go_big_quiet (fail)
    go_wp2_with fail
    have HB3 := Lib.hid (below_drewN HB2'.out nq)
    clear d0 d1 dl
    generalize w2.drewN nq = w3 at HB3 ⊢
    go_loopw [12, 13, 14] (fun s u _ wr => ∃ y Z : Nat, row ≤ y ∧ y ≤ row + c.h ∧ u = .int .i64 (y : Int) ∧ s = .int .u64 (Z : Int) ∧ Hid (Z = scanN m c f (y - row) 0) ∧ Hid (∀ y', row ≤ y' → y' < y → ∀ x', col ≤ x' → x' < col + c.w → c.q ≤ fieldQ rows y' x') ∧ Hid (Below wb.heap.size wb wr)) (fun _ u _ _ => row + c.h - (intOf u).toNat)
    case atStart => exact ⟨row, 0, Nat.le_refl _, Nat.le_add_right _ _, rfl, rfl, Lib.hid (by rw [Nat.sub_self, scan_zero]), Lib.hid (fun y' h1 h2 => by omega), HB3⟩
    case round =>
      obtain ⟨y, Z, hy1, hy2, rfl, rfl, hZ, hall, hbw⟩ := hrel
      have c0 := (hbw.out.cell (p := ⟨w.heap.size, 0, none⟩) HBs.out).trans HB0.out
      have c1 := (hbw.out.cell (p := ⟨w.heap.size, 1, none⟩) HBs.out).trans HB1.out
      have hsz : w.heap.size < wr.heap.size := Nat.lt_of_lt_of_le HBs.out hbw.out.size
      have hsz2 : b < wr.heap.size := Nat.lt_of_lt_of_le hb (Nat.le_trans HBw.out.size hbw.out.size)
      by_cases hlt : y < row + c.h
      · have hlt' : (y : Int) < (row : Int) + (c.h : Int) := by omega
        obtain ⟨s, hs, hs', hss, hsm⟩ := hide_row HOk.out (y := y) (by omega)
        have hyn : (y : Int) < (n : Int) := by omega
        have HS' := Lib.hid hs'
        have HSs := Lib.hid hs
        have HSm := Lib.hid hsm
        obtain ⟨ym, hym⟩ : ∃ ym, y * m = ym := ⟨_, rfl⟩
        have hym1 : (y : Int) * (m : Int) = (ym : Int) := by rw [← hym]; rfl
        have Hym := Lib.hid hym
        have hym36 : ym ≤ 36 := by rw [← hym]; exact Nat.le_trans (Nat.mul_le_mul_right m (by omega)) hnm
        clear hs' hs hsm hym
        go_wp2_with fail
        go_loopw [12, 14] (fun s' u wq => ∃ x Z : Nat, col ≤ x ∧ x ≤ col + c.w ∧ u = .int .i64 (x : Int) ∧ s' = .int .u64 (Z : Int) ∧ Hid (Z = scanN m c f (y - row) (x - col)) ∧ Hid (∀ x', col ≤ x' → x' < x → c.q ≤ fieldQ rows y x') ∧ Hid (Below wb.heap.size wb wq)) (fun _ u _ => col + c.w - (intOf u).toNat)
        case atStart => exact ⟨col, Z, Nat.le_refl _, Nat.le_add_right _ _, rfl, rfl, Lib.hid (by rw [Nat.sub_self]; exact hZ.out), Lib.hid (fun x' h1 h2 => by omega), hbw⟩
        case round =>
          obtain ⟨x, Y, hx1, hx2, rfl, rfl, hY, hin, hbq⟩ := hrel
          clear c0 c1 hsz hsz2
          have c0 := (hbq.out.cell (p := ⟨w.heap.size, 0, none⟩) HBs.out).trans HB0.out
          have c2 := (hbq.out.cell (p := ⟨w.heap.size, 2, none⟩) HBs.out).trans HB2.out
          have hsz : w.heap.size < wr.heap.size := Nat.lt_of_lt_of_le HBs.out hbq.out.size
          have hsz2 : b < wr.heap.size := Nat.lt_of_lt_of_le hb (Nat.le_trans HBw.out.size hbq.out.size)
          by_cases hlj : x < col + c.w
          · have hlj' : (x : Int) < (col : Int) + (c.w : Int) := by omega
            have hcs := str_cell hb (HBw.out.trans (hbq.out.mono HBw.out.size)) HCe.out HSs.out
            have hxs : x < s.size := by omega
            have HQ := Lib.hid (fun W => qualityOf_any s[x] W (HOk.out.good s HSm.out _ (byte_mem hxs)))
            obtain ⟨q, hq⟩ : ∃ q, qualU s[x] = q := ⟨_, rfl⟩
            have Hq := Lib.hid (show fieldQ rows y x = q by rw [fieldQ_at HS'.out hxs, hq])
            rw [hq] at HQ
            clear hq hss
            by_cases hbad : q < c.q
            · obtain rfl : r = false := by
                rw [← HR.out]
                exact fits_bad' (y := y) (x := x) (by rw [Hrow.out]; exact hy1) (by rw [Hrow.out]; exact hlt) (by rw [Hcol.out]; exact hx1) (by rw [Hcol.out]; exact hlj) (by rw [Hq.out]; exact hbad)
              go_wp2_with fail
              go_big_quiet ((go_at_call 86; first | with_reducible exact quiet_left (HQ.out _) | with_reducible exact quiet_add_left (HQ.out _)))
              go_wp2_with fail
              go_ret2
              exact ⟨by unfold fldT; rw [HR.out]; rfl, below_drewN (HBw.out.trans (hbq.out.mono HBw.out.size)) _⟩
            · obtain ⟨F, hF⟩ : ∃ F, ym + x = F := ⟨_, rfl⟩
              have hF1 : (ym : Int) + (x : Int) = (F : Int) := by omega
              have hF36 : F < 36 := by
                have h1 := field_lt (n := n) (m := m) (show y < n by omega) (show x < m by omega)
                rw [Hym.out, hF] at h1
                omega
              have HF := Lib.hid hF
              clear hF
              go_wp2_with fail
              go_big_quiet ((go_at_call 86; first | with_reducible exact quiet_left (HQ.out _) | with_reducible exact quiet_add_left (HQ.out _)))
              go_wp2_with fail
              refine ⟨⟨x + 1, Y ||| 2 ^ F, by omega, by omega, by go_num, ?_, Lib.hid ?_, Lib.hid (fun x' h1 h2 => ?_), Lib.hid (below_drewN hbq.out _)⟩, by simp [intOf]; omega⟩
              · rw [or_bit (by rw [hY.out]; exact scan_lt _ _) hF36]
              · have h := scan_step (n := n) (f := f) (c := c) (i := y - row) (j := x - col) k3 k5 (by rw [Hrow.out]; exact g1) (by rw [Hcol.out]; exact g2) (by omega) (by omega)
                rw [Hrow.out, Hcol.out, show row + (y - row) = y by omega, show col + (x - col) = x by omega, Hym.out, HF.out, ← hY.out] at h
                rw [h, show x + 1 - col = x - col + 1 by omega]
              · by_cases e : x' = x
                · subst e; rw [Hq.out]; omega
                · exact hin.out x' h1 (by omega)
          · obtain rfl : x = col + c.w := by omega
            have HY := Lib.hid (show Y = scanN m c f (y + 1 - row) 0 by rw [hY.out, show col + c.w - col = c.w by omega, scan_row, show y - row + 1 = y + 1 - row by omega])
            go_wp2_with fail
            go_roundw
            case rel => exact ⟨y + 1, Y, by omega, by omega, by go_num, rfl, HY, Lib.hid (fun y' h1 h2 x' h3 h4 => by
                by_cases e : y' = y
                · subst e; exact hin.out x' h3 h4
                · exact hall.out y' h1 (by omega) x' h3 h4), hbq⟩
            case measure => simp [intOf]; omega
      · obtain rfl : r = true := by
          rw [← HR.out]
          refine fits_all' (by rw [Hrow.out]; exact g1) (by rw [Hcol.out]; exact g2) ?_
          rw [Hrow.out, Hcol.out]
          intro y' h1 h2
          exact hall.out y' h1 (by omega)
        have HZ := Lib.hid (show Z = maskN m c f by rw [hZ.out, show y - row = c.h by omega, scan_end])
        go_wp2_with fail
        go_ret2
        exact ⟨by unfold fldT; rw [HR.out, HZ.out]; rfl, HBw.out.trans (hbw.out.mono HBw.out.size)⟩
  · obtain rfl : r = false := by
      rw [← HR.out]
      exact fits_out (by rw [Hrow.out, Hcol.out]; exact g)
    by_cases g1 : row + c.h ≤ n
    · have g2' : (m : Int) < (col : Int) + (c.w : Int) := by omega
      have g1' : (row : Int) + (c.h : Int) ≤ (n : Int) := by omega
      go_enter Tryz.func41, Tryz.ntmps41
      go_wp2_with fail
      rw [← HWb.out]
      refine HSz.out.mono ?_
      rintro e w2 ⟨rfl, hb2⟩
      have HB2' := Lib.hid hb2
      have d0 := (hb2.cell (p := ⟨w.heap.size, 0, none⟩) HBs.out).trans HB0.out
      have d1 := (hb2.cell (p := ⟨w.heap.size, 1, none⟩) HBs.out).trans HB1.out
      have dl : w.heap.size < w2.heap.size := Nat.lt_of_lt_of_le HBs.out hb2.size
      clear hb2
      go_wp2_with fail
      go_big_quiet (fail)
      go_wp2_with fail
      go_ret2
      exact ⟨by unfold fldT; rw [HR.out]; rfl, below_drewN (HBw.out.trans (HB2'.out.mono HBw.out.size)) _⟩
    · have g1' : (n : Int) < (row : Int) + (c.h : Int) := by omega
      go_enter Tryz.func41, Tryz.ntmps41
      go_wp2_with fail
      rw [← HWb.out]
      refine HSz.out.mono ?_
      rintro e w2 ⟨rfl, hb2⟩
      have HB2' := Lib.hid hb2
      have d0 := (hb2.cell (p := ⟨w.heap.size, 0, none⟩) HBs.out).trans HB0.out
      have d1 := (hb2.cell (p := ⟨w.heap.size, 1, none⟩) HBs.out).trans HB1.out
      have dl : w.heap.size < w2.heap.size := Nat.lt_of_lt_of_le HBs.out hb2.size
      clear hb2
      go_wp2_with fail
      go_big_quiet (fail)
      go_wp2_with fail
      go_ret2
      exact ⟨by unfold fldT; rw [HR.out]; rfl, below_drewN (HBw.out.trans (HB2'.out.mono HBw.out.size)) _⟩
set_option maxRecDepth 100000 in
set_option maxHeartbeats 3200000 in
theorem placesOf_any (a : Option Addr) (rows : List ByteArray) (n m ca : Nat) (c : Cut) (w : World) (hok : HideOk rows n m) (hc : CellsAt w a (strs rows)) (hcut : CutOk c) :
    Calls Tryz.prog 40 #[.slice a n ca, cutV c] w (OwnRow w 2 1 (plI rows n m c (n * m)).length (nints (plI rows n m c (n * m)))) := by
  have hnm : n * m ≤ 36 := Nat.mul_le_mul hok.n6 hok.m6
  obtain ⟨N, hN⟩ : ∃ N, n * m = N := ⟨_, rfl⟩
  have hmul : (n : Int) * (m : Int) = (N : Int) := by rw [← hN]; rfl
  have HC := Lib.hid hc
  obtain ⟨b, o, rfl, hb, hcell⟩ := hc.at_ (by rw [strs_len, hok.len]; have := hok.n1; omega)
  obtain ⟨r0, hr0, _, hs0, _⟩ := hide_row hok (y := 0) (by have := hok.n1; omega)
  have hn0 := hok.n1
  have hc0 := str_cell hb (Below.refl _ w) hcell hr0
  rw [Nat.add_zero] at hc0
  obtain ⟨wb, hwb⟩ : ∃ wb, wb = w.alloc (.cells #[.int .i64 (c.w : Int), .int .i64 (c.h : Int), .int .i64 c.q, .int .i64 c.v] 75) := ⟨_, rfl⟩
  have HB0 := Lib.hid (show wb.cell? ⟨w.heap.size, 0, none⟩ = some (.int .i64 (c.w : Int)) by rw [hwb]; simp)
  have HB1 := Lib.hid (show wb.cell? ⟨w.heap.size, 1, none⟩ = some (.int .i64 (c.h : Int)) by rw [hwb]; simp)
  have HB2 := Lib.hid (show wb.cell? ⟨w.heap.size, 2, none⟩ = some (.int .i64 c.q) by rw [hwb]; simp)
  have HB3 := Lib.hid (show wb.cell? ⟨w.heap.size, 3, none⟩ = some (.int .i64 c.v) by rw [hwb]; simp)
  have HBs := Lib.hid (show w.heap.size < wb.heap.size by rw [hwb]; simp)
  have hBw : Below w.heap.size w wb := by rw [hwb]; exact (Below.refl _ _).alloc (Nat.le_refl _) _
  have HSz := Lib.hid (sizeOf_any b o n m ca r0 wb (by omega) ((hBw.cell (p := ⟨b, o, none⟩) hb).trans hc0) hs0 hok.m6 hok.n6)
  have HBw := Lib.hid hBw
  have HWb := Lib.hid hwb
  have HF := Lib.hid (fun (f : Nat) (hf : f < N) (W : World) (hW : Below w.heap.size w W) => fieldsOf_any (some ⟨b, o, none⟩) rows n m ca c f W hok (HC.out.below hW) hcut (by rw [hN]; exact hf))
  clear hcut hc hcell hwb hr0 hc0 hBw
  obtain ⟨P, hP⟩ : ∃ P, plI rows n m c = P := ⟨_, rfl⟩
  have HPy := Lib.hid (fun (k : Nat) (h : fitsB rows n m c k = true) => show P (k + 1) = P k ++ [(k : Int)] by rw [← hP]; exact plI_yes h)
  have HPn := Lib.hid (fun (k : Nat) (h : fitsB rows n m c k = false) => show P (k + 1) = P k by rw [← hP]; exact plI_no h)
  have HP0 := Lib.hid (show P 0 = [] by rw [← hP]; rfl)
  have HPl := Lib.hid (fun (k : Nat) => show (P k).length ≤ k by rw [← hP]; exact plI_len rows n m c k)
  rw [hN, hP]
  clear hN hP hok hs0
  go_enter Tryz.func40, Tryz.ntmps40
  go_wp2_with fail
  rw [← HWb.out]
  refine HSz.out.mono ?_
  rintro e w2 ⟨rfl, hb2⟩
  have HB2' := Lib.hid hb2
  have Hw2 := Lib.hid (Nat.lt_of_lt_of_le HBs.out hb2.size)
  clear hb2
  go_wp2_with fail
  go_loopw [7, 20] (fun u x wr => ∃ (k : Nat), k ≤ N ∧ x = .int .i64 k ∧ Hid (wr.ownsRow w2.heap.size 2 1 u (P k).length (nints (P k))) ∧ Hid (Bel w2.heap.size w2 wr)) (fun _ x _ => N - (intOf x).toNat)
  case atStart =>
    refine ⟨0, Nat.zero_le _, rfl, Lib.hid ?_, Lib.hid ((Bel.refl w2).alloc _)⟩
    rw [HP0.out]
    exact own_none' w2 _ _ _ (Nat.le_refl _)
  case round =>
    obtain ⟨k, hk, rfl, hown, hbw⟩ := hrel
    have hlen := HPl.out k
    obtain ⟨l, hl⟩ : ∃ l, (P k).length = l := ⟨_, rfl⟩
    rw [hl] at hown hlen
    have Hl := Lib.hid hl
    clear hl
    obtain ⟨ao, co, rfl⟩ := own_cap hown.out
    have hb3 := HB2'.out.trans (hbw.out.1.mono HB2'.out.size)
    have c0 := (hb3.cell (p := ⟨w.heap.size, 0, none⟩) HBs.out).trans HB0.out
    have c1 := (hb3.cell (p := ⟨w.heap.size, 1, none⟩) HBs.out).trans HB1.out
    have c2 := (hb3.cell (p := ⟨w.heap.size, 2, none⟩) HBs.out).trans HB2.out
    have c3 := (hb3.cell (p := ⟨w.heap.size, 3, none⟩) HBs.out).trans HB3.out
    have hsz : w.heap.size < wr.heap.size := Nat.lt_of_lt_of_le HBs.out hb3.size
    have HBel := Lib.hid (HBw.out.trans (hb3.mono HBw.out.size))
    have Hw3 := Lib.hid (show w.heap.size ≤ w2.heap.size from Nat.le_of_lt Hw2.out)
    clear hb3
    by_cases hlt : k < N
    · have hlt' : (k : Int) < (N : Int) := by omega
      have HC1 := Lib.hid (HF.out k hlt wr HBel.out)
      cases hfit : fitsB rows n m c k with
      | false =>
        simp only [fldT, hfit] at HC1
        have HN := Lib.hid (HPn.out k hfit)
        clear hfit
        go_wp2_with fail
        refine HC1.out.mono ?_
        rintro e w1 ⟨rfl, hb1⟩
        have HB5 := Lib.hid (Bel.step hbw.out hb1)
        have HO5 := Lib.hid (own_below hown.out hb1)
        clear hb1
        go_wp2_with fail
        go_roundw
        case rel => exact ⟨k + 1, by omega, by go_num, by rw [HN.out, Hl.out]; exact HO5, HB5⟩
        case measure => simp [intOf]; omega
      | true =>
        simp only [fldT, hfit] at HC1
        have HN := Lib.hid (HPy.out k hfit)
        clear hfit
        go_wp2_with fail
        refine HC1.out.mono ?_
        rintro e w1 ⟨rfl, hb1⟩
        have HB5 := Lib.hid (Bel.step hbw.out hb1)
        have HO5 := Lib.hid (own_below hown.out hb1)
        clear hb1
        go_wp2_with (at_builtin; refine appI (by rfl) _ _ (by rfl) w2.heap.size _ _ _ (by rfl) HO5.out _ 1 (by rfl) (by omega) HB5.out ?_; intro g cap w3 ho3 hb3; have Ho3 := Lib.hid ho3; have Hb3 := Lib.hid hb3; clear ho3 hb3)
        go_roundw
        case rel => exact ⟨k + 1, by omega, by go_num, Lib.hid (by rw [HN.out, List.length_append, Hl.out, nints, List.map_append]; exact Ho3.out), Hb3⟩
        case measure => simp [intOf]; omega
    · obtain rfl : k = N := by omega
      have HE := Lib.hid (show OwnRow w 2 1 (P k).length (nints (P k)) (.returned (.slice ao l co)) wr from ⟨ao, co, by rw [Hl.out], by rw [Hl.out]; exact own_base hown.out Hw3.out, HBel.out⟩)
      go_wp2_with fail
      go_ret
      exact HE.out
end Go.Proofs.YthemlamdchcicaaGreatDoor
