/-
  Contracts on hides of the reference: qualities, fields, places, meetings. Contracts on plans of the reference: meetings, a piece that is wrong. No condition of its own.
-/
import Derived.Test.YthemlamdchcicaaGreatDoorGHideP
import Derived.Test.YthemlamdchcicaaGreatDoorGBase
import Derived.Test.YthemlamdchcicaaGreatDoorGBox
import Derived.StillTailTactics
import Derived.BigQuiet

namespace Go.Proofs.YthemlamdchcicaaGreatDoor
open Go.ChangeShapes Go.WideShapes Go.ChangeAt Go.RowKit Go.Deep

def strs (l : List ByteArray) : List Value := l.map Value.string
theorem strs_len (l : List ByteArray) : (strs l).length = l.length := by simp [strs]
theorem str_cell {w W : World} {b o y : Nat} {rows : List ByteArray} {r : ByteArray} (hb : b < w.heap.size) (hbw : Below w.heap.size w W) (hc : ∀ i, i < (strs rows).length → w.cell? ⟨b, o + i, none⟩ = (strs rows)[i]?) (hr : rows[y]? = some r) : W.cell? ⟨b, o + y, none⟩ = some (.string r) := by
  have hy : y < rows.length := by
    rcases Nat.lt_or_ge y rows.length with h | h
    · exact h
    · rw [List.getElem?_eq_none h] at hr; cases hr
  rw [(hbw.cell (p := ⟨b, o + y, none⟩) hb).trans (hc y (by rw [strs_len]; exact hy))]
  simp [strs, hr]
theorem qual_ways (b : UInt8) : ((b.toNat : Int) = 97 ∧ qualU b = 3) ∨ ((b.toNat : Int) = 98 ∧ qualU b = 2) ∨ ((b.toNat : Int) = 99 ∧ qualU b = 1) ∨ ((b.toNat : Int) = 120 ∧ qualU b = 0) ∨ ((b.toNat : Int) ≠ 97 ∧ (b.toNat : Int) ≠ 98 ∧ (b.toNat : Int) ≠ 99 ∧ (b.toNat : Int) ≠ 120 ∧ qualU b = -1) := by
  have key : ∀ k : UInt8, b ≠ k → (b.toNat : Int) ≠ (k.toNat : Int) := fun k h e => h (UInt8.toNat_inj.1 (by omega))
  unfold qualU
  by_cases h1 : b = 97
  · subst h1; left; exact ⟨rfl, rfl⟩
  by_cases h2 : b = 98
  · subst h2; right; left; exact ⟨rfl, rfl⟩
  by_cases h3 : b = 99
  · subst h3; right; right; left; exact ⟨rfl, rfl⟩
  by_cases h4 : b = 120
  · subst h4; right; right; right; left; exact ⟨rfl, rfl⟩
  right; right; right; right
  exact ⟨key 97 h1, key 98 h2, key 99 h3, key 120 h4, by simp [h1, h2, h3, h4]⟩
theorem l10Quality_any (b : UInt8) (w : World) : Calls Tryz.prog 116 #[.int .u8 (b.toNat : Int)] w fun e w' => e = .returned (.int .i64 (qualU b)) ∧ w = w' := by
  rcases qual_ways b with ⟨h, e⟩ | ⟨h, e⟩ | ⟨h, e⟩ | ⟨h, e⟩ | ⟨h1, h2, h3, h4, e⟩
  all_goals rw [e]; clear e
  · rw [h]
    go_enter Tryz.func116, Tryz.ntmps116
    go_wp2
    go_ret
    exact ⟨rfl, rfl⟩
  · rw [h]
    go_enter Tryz.func116, Tryz.ntmps116
    go_wp2
    go_ret
    exact ⟨rfl, rfl⟩
  · rw [h]
    go_enter Tryz.func116, Tryz.ntmps116
    go_wp2
    go_ret
    exact ⟨rfl, rfl⟩
  · rw [h]
    go_enter Tryz.func116, Tryz.ntmps116
    go_wp2
    go_ret
    exact ⟨rfl, rfl⟩
  · have g1 : ((b.toNat : Int) == 97) = false := by simpa using h1
    have g2 : ((b.toNat : Int) == 98) = false := by simpa using h2
    have g3 : ((b.toNat : Int) == 99) = false := by simpa using h3
    have g4 : ((b.toNat : Int) == 120) = false := by simpa using h4
    clear h1 h2 h3 h4
    go_enter Tryz.func116, Tryz.ntmps116
    go_wp2
    go_ret
    exact ⟨rfl, rfl⟩
/-- A piece in memory. -/
abbrev cutV (c : Cut) : Value := .agg #[.int .i64 (c.w : Int), .int .i64 (c.h : Int), .int .i64 c.q, .int .i64 c.v]
theorem fits_bad' {rows : List ByteArray} {n m f y x : Nat} {c : Cut} (h1 : f / m ≤ y) (h2 : y < f / m + c.h) (h3 : f % m ≤ x) (h4 : x < f % m + c.w) (h : fieldQ rows y x < c.q) : fitsB rows n m c f = false :=
  fits_bad (y := y - f / m) (x := x - f % m) (by omega) (by omega) (by rw [show f / m + (y - f / m) = y by omega, show f % m + (x - f % m) = x by omega]; exact h)
theorem fits_all' {rows : List ByteArray} {n m f : Nat} {c : Cut} (h1 : f / m + c.h ≤ n) (h2 : f % m + c.w ≤ m) (h : ∀ y, f / m ≤ y → y < f / m + c.h → ∀ x, f % m ≤ x → x < f % m + c.w → c.q ≤ fieldQ rows y x) : fitsB rows n m c f = true :=
  fits_all h1 h2 fun y hy x hx => h _ (by omega) (by omega) _ (by omega) (by omega)
set_option maxRecDepth 100000 in
set_option maxHeartbeats 3200000 in
theorem l10Fits_any (a : Option Addr) (rows : List ByteArray) (n m ca : Nat) (c : Cut) (f : Nat) (w : World) (hok : HideOk rows n m) (hc : CellsAt w a (strs rows)) (hcut : CutOk c) (hf : f < n * m) :
    Calls Tryz.prog 88 #[.slice a n ca, cutV c, .int .i64 (f : Int)] w fun e w' => e = .returned (.bool (fitsB rows n m c f)) ∧ Below w.heap.size w w' := by
  have hnm : n * m ≤ 36 := Nat.mul_le_mul hok.n6 hok.m6
  obtain ⟨k1, k2, k3, k4, k5⟩ := hok
  have hok : HideOk rows n m := ⟨k1, k2, k3, k4, k5, by assumption, by assumption⟩
  obtain ⟨b, o, rfl, hb, hcell⟩ := hc.at_ (by rw [strs_len]; omega)
  obtain ⟨⟨w1, w6⟩, ⟨h1, h6⟩, ⟨q1, q3⟩, v0, v1⟩ := hcut
  obtain ⟨r0, hr0, _, hs0, _⟩ := hide_row hok (y := 0) (by omega)
  have hc0 := str_cell hb (Below.refl _ w) hcell hr0
  rw [Nat.add_zero] at hc0
  obtain ⟨row, hrow⟩ : ∃ row, f / m = row := ⟨_, rfl⟩
  obtain ⟨col, hcol⟩ : ∃ col, f % m = col := ⟨_, rfl⟩
  have hrn : row < n := by rw [← hrow]; exact (Nat.div_lt_iff_lt_mul (by omega)).2 hf
  have hcm : col < m := by rw [← hcol]; exact Nat.mod_lt _ (by omega)
  obtain ⟨r, hr⟩ : ∃ r, fitsB rows n m c f = r := ⟨_, rfl⟩
  have hq : ((f : Int)) / (m : Int) = (row : Int) := by rw [← hrow]; rfl
  have hq2 : ((f : Int)) % (m : Int) = (col : Int) := by rw [← hcol]; rfl
  obtain ⟨wb, hwb⟩ : ∃ wb, wb = w.alloc (.cells #[.int .i64 (c.w : Int), .int .i64 (c.h : Int), .int .i64 c.q, .int .i64 c.v] 75) := ⟨_, rfl⟩
  have B0 : wb.cell? ⟨w.heap.size, 0, none⟩ = some (.int .i64 (c.w : Int)) := by rw [hwb]; simp
  have B1 : wb.cell? ⟨w.heap.size, 1, none⟩ = some (.int .i64 (c.h : Int)) := by rw [hwb]; simp
  have B2 : wb.cell? ⟨w.heap.size, 2, none⟩ = some (.int .i64 c.q) := by rw [hwb]; simp
  have Bs : w.heap.size < wb.heap.size := by rw [hwb]; simp
  have Bw : Below w.heap.size w wb := by rw [hwb]; exact (Below.refl _ _).alloc (Nat.le_refl _) _
  rw [hr]
  have HR := Lib.hid hr
  have HOk := Lib.hid hok
  have HCe := Lib.hid hcell
  have HB0 := Lib.hid B0
  have HB1 := Lib.hid B1
  have HB2 := Lib.hid B2
  have HBs := Lib.hid Bs
  have HBw := Lib.hid Bw
  have HWb := Lib.hid hwb
  have Hrow := Lib.hid hrow
  have Hcol := Lib.hid hcol
  clear hok hcell hc B0 B1 B2 Bs Bw hwb k1 k4 hr hrow hcol hr0
  by_cases g : row + c.h ≤ n ∧ col + c.w ≤ m
  · obtain ⟨g1, g2⟩ := g
    have g1' : (row : Int) + (c.h : Int) ≤ (n : Int) := by omega
    have g2' : (col : Int) + (c.w : Int) ≤ (m : Int) := by omega
    go_enter Tryz.func88, Tryz.ntmps88
    go_wp2_with fail
    rw [← HWb.out]
    go_loopw [10, 11] (fun u _ wr => ∃ y : Nat, row ≤ y ∧ y ≤ row + c.h ∧ u = .int .i64 (y : Int) ∧ Hid (∀ y', row ≤ y' → y' < y → ∀ x', col ≤ x' → x' < col + c.w → c.q ≤ fieldQ rows y' x') ∧ Hid (Below wb.heap.size wb wr)) (fun u _ _ => row + c.h - (intOf u).toNat)
    case atStart => exact ⟨row, Nat.le_refl _, Nat.le_add_right _ _, rfl, Lib.hid (fun y' h1 h2 => by omega), Lib.hid (Below.refl _ _)⟩
    case round =>
      obtain ⟨y, hy1, hy2, rfl, hall, hbw⟩ := hrel
      have c0 := (hbw.out.cell (p := ⟨w.heap.size, 0, none⟩) HBs.out).trans HB0.out
      have c1 := (hbw.out.cell (p := ⟨w.heap.size, 1, none⟩) HBs.out).trans HB1.out
      have hsz : w.heap.size < wr.heap.size := Nat.lt_of_lt_of_le HBs.out hbw.out.size
      have hsz2 : b < wr.heap.size := Nat.lt_of_lt_of_le hb (Nat.le_trans HBw.out.size hbw.out.size)
      by_cases hlt : y < row + c.h
      · have hlt' : (y : Int) < (row : Int) + (c.h : Int) := by omega
        obtain ⟨s, hs, hs', hss, hsm⟩ := hide_row HOk.out (y := y) (by omega)
        have hyn : (y : Int) < (n : Int) := by omega
        have HS' := Lib.hid hs'
        have HSs := Lib.hid hs
        clear hs' hs hsm
        go_wp2_with fail
        go_loopw [11] (fun u wq => ∃ x : Nat, col ≤ x ∧ x ≤ col + c.w ∧ u = .int .i64 (x : Int) ∧ Hid (∀ x', col ≤ x' → x' < x → c.q ≤ fieldQ rows y x') ∧ Hid (Below wb.heap.size wb wq)) (fun u _ => col + c.w - (intOf u).toNat)
        case atStart => exact ⟨col, Nat.le_refl _, Nat.le_add_right _ _, rfl, Lib.hid (fun x' h1 h2 => by omega), hbw⟩
        case round =>
          obtain ⟨x, hx1, hx2, rfl, hin, hbq⟩ := hrel
          clear c0 c1 hsz hsz2
          have c0 := (hbq.out.cell (p := ⟨w.heap.size, 0, none⟩) HBs.out).trans HB0.out
          have c2 := (hbq.out.cell (p := ⟨w.heap.size, 2, none⟩) HBs.out).trans HB2.out
          have hsz : w.heap.size < wr.heap.size := Nat.lt_of_lt_of_le HBs.out hbq.out.size
          have hsz2 : b < wr.heap.size := Nat.lt_of_lt_of_le hb (Nat.le_trans HBw.out.size hbq.out.size)
          by_cases hlj : x < col + c.w
          · have hlj' : (x : Int) < (col : Int) + (c.w : Int) := by omega
            have hcs := str_cell hb (HBw.out.trans (hbq.out.mono HBw.out.size)) HCe.out HSs.out
            have hxs : x < s.size := by omega
            have HQ := Lib.hid (fun W => l10Quality_any s[x] W)
            obtain ⟨q, hq⟩ : ∃ q, qualU s[x] = q := ⟨_, rfl⟩
            have Hq := Lib.hid (show fieldQ rows y x = q by rw [fieldQ_at HS'.out hxs, hq])
            rw [hq] at HQ
            clear hq hss
            by_cases hbad : q < c.q
            · obtain rfl : r = false := by
                rw [← HR.out]
                exact fits_bad' (y := y) (x := x) (by rw [Hrow.out]; exact hy1) (by rw [Hrow.out]; exact hlt) (by rw [Hcol.out]; exact hx1) (by rw [Hcol.out]; exact hlj) (by rw [Hq.out]; exact hbad)
              go_wp2_with fail
              go_big_quiet ((go_at_call 116; first | with_reducible exact quiet_left (HQ.out _) | with_reducible exact quiet_add_left (HQ.out _)))
              go_wp2_with fail
              go_ret
              exact ⟨rfl, below_drewN (HBw.out.trans (hbq.out.mono HBw.out.size)) _⟩
            · go_wp2_with fail
              go_big_quiet ((go_at_call 116; first | with_reducible exact quiet_left (HQ.out _) | with_reducible exact quiet_add_left (HQ.out _)))
              go_wp2_with fail
              go_roundw
              case rel => exact ⟨x + 1, by omega, by omega, by go_num, Lib.hid (fun x' h1 h2 => by
                by_cases e : x' = x
                · subst e; rw [Hq.out]; omega
                · exact hin.out x' h1 (by omega)), Lib.hid (below_drewN hbq.out _)⟩
              case measure => simp [intOf]; omega
          · obtain rfl : x = col + c.w := by omega
            go_wp2_with fail
            go_roundw
            case rel => exact ⟨y + 1, by omega, by omega, by go_num, Lib.hid (fun y' h1 h2 x' h3 h4 => by
                by_cases e : y' = y
                · subst e; exact hin.out x' h3 h4
                · exact hall.out y' h1 (by omega) x' h3 h4), hbq⟩
            case measure => simp [intOf]; omega
      · have hye : y = row + c.h := by omega
        obtain rfl : r = true := by
          rw [← HR.out]
          refine fits_all' (by rw [Hrow.out]; exact g1) (by rw [Hcol.out]; exact g2) ?_
          rw [Hrow.out, Hcol.out]
          intro y' h1 h2
          exact hall.out y' h1 (by omega)
        clear hye
        go_wp2_with fail
        go_ret
        exact ⟨rfl, HBw.out.trans (hbw.out.mono HBw.out.size)⟩
  · obtain rfl : r = false := by
      rw [← HR.out]
      exact fits_out (by rw [Hrow.out, Hcol.out]; exact g)
    by_cases g1 : row + c.h ≤ n
    · have g2' : (m : Int) < (col : Int) + (c.w : Int) := by omega
      have g1' : (row : Int) + (c.h : Int) ≤ (n : Int) := by omega
      go_enter Tryz.func88, Tryz.ntmps88
      go_wp2_with fail
      go_ret
      exact ⟨rfl, by rw [← HWb.out]; exact HBw.out⟩
    · have g1' : (n : Int) < (row : Int) + (c.h : Int) := by omega
      go_enter Tryz.func88, Tryz.ntmps88
      go_wp2_with fail
      go_ret
      exact ⟨rfl, by rw [← HWb.out]; exact HBw.out⟩
/-- The places below k, as numbers of Go. -/
def plI (rows : List ByteArray) (n m : Nat) (c : Cut) (k : Nat) : List Int := ((List.range k).filter (fitsB rows n m c)).map fun (x : Nat) => (x : Int)
theorem plI_len (rows : List ByteArray) (n m : Nat) (c : Cut) (k : Nat) : (plI rows n m c k).length ≤ k := by
  have := List.length_filter_le (fitsB rows n m c) (List.range k)
  simpa [plI] using this
theorem plI_yes {rows : List ByteArray} {n m k : Nat} {c : Cut} (h : fitsB rows n m c k = true) : plI rows n m c (k + 1) = plI rows n m c k ++ [(k : Int)] := by
  unfold plI
  rw [places_yes h]
  simp
theorem plI_no {rows : List ByteArray} {n m k : Nat} {c : Cut} (h : fitsB rows n m c k = false) : plI rows n m c (k + 1) = plI rows n m c k := by
  unfold plI
  rw [places_no h]
abbrev nints (zs : List Int) : List Value := zs.map (Value.int .i64)
set_option maxRecDepth 100000 in
set_option maxHeartbeats 3200000 in
theorem l10Places_any (a : Option Addr) (rows : List ByteArray) (n m ca : Nat) (c : Cut) (w : World) (hok : HideOk rows n m) (hc : CellsAt w a (strs rows)) (hcut : CutOk c) :
    Calls Tryz.prog 46 #[.slice a n ca, cutV c] w (OwnRow w 2 1 (plI rows n m c (n * m)).length (nints (plI rows n m c (n * m)))) := by
  have hnm : n * m ≤ 36 := Nat.mul_le_mul hok.n6 hok.m6
  obtain ⟨N, hN⟩ : ∃ N, n * m = N := ⟨_, rfl⟩
  have hmul : (n : Int) * (m : Int) = (N : Int) := by rw [← hN]; rfl
  have HC := Lib.hid hc
  obtain ⟨b, o, rfl, hb, hcell⟩ := hc.at_ (by rw [strs_len, hok.len]; have := hok.n1; omega)
  obtain ⟨r0, hr0, _, hs0, _⟩ := hide_row hok (y := 0) (by have := hok.n1; omega)
  have hn0 := hok.n1
  obtain ⟨wb, hwb⟩ : ∃ wb, wb = w.alloc (.cells #[.int .i64 (c.w : Int), .int .i64 (c.h : Int), .int .i64 c.q, .int .i64 c.v] 75) := ⟨_, rfl⟩
  have HB0 := Lib.hid (show wb.cell? ⟨w.heap.size, 0, none⟩ = some (.int .i64 (c.w : Int)) by rw [hwb]; simp)
  have HB1 := Lib.hid (show wb.cell? ⟨w.heap.size, 1, none⟩ = some (.int .i64 (c.h : Int)) by rw [hwb]; simp)
  have HB2 := Lib.hid (show wb.cell? ⟨w.heap.size, 2, none⟩ = some (.int .i64 c.q) by rw [hwb]; simp)
  have HB3 := Lib.hid (show wb.cell? ⟨w.heap.size, 3, none⟩ = some (.int .i64 c.v) by rw [hwb]; simp)
  have HBs := Lib.hid (show w.heap.size < wb.heap.size by rw [hwb]; simp)
  have HBw := Lib.hid (show Below w.heap.size w wb by rw [hwb]; exact (Below.refl _ _).alloc (Nat.le_refl _) _)
  have HWb := Lib.hid hwb
  have HF := Lib.hid (fun (f : Nat) (hf : f < N) (W : World) (hW : Below w.heap.size w W) => l10Fits_any (some ⟨b, o, none⟩) rows n m ca c f W hok (HC.out.below hW) hcut (by rw [hN]; exact hf))
  have HCe := Lib.hid hcell
  have HR0 := Lib.hid hr0
  clear hcut hc hcell hwb hr0
  obtain ⟨P, hP⟩ : ∃ P, plI rows n m c = P := ⟨_, rfl⟩
  have HPy := Lib.hid (fun (k : Nat) (h : fitsB rows n m c k = true) => show P (k + 1) = P k ++ [(k : Int)] by rw [← hP]; exact plI_yes h)
  have HPn := Lib.hid (fun (k : Nat) (h : fitsB rows n m c k = false) => show P (k + 1) = P k by rw [← hP]; exact plI_no h)
  have HP0 := Lib.hid (show P 0 = [] by rw [← hP]; rfl)
  have HPl := Lib.hid (fun (k : Nat) => show (P k).length ≤ k by rw [← hP]; exact plI_len rows n m c k)
  rw [hN, hP]
  clear hN hP hok
  go_enter Tryz.func46, Tryz.ntmps46
  go_wp2_with fail
  rw [← HWb.out]
  go_loopw [5, 6] (fun u x wr => ∃ (k : Nat), k ≤ N ∧ x = .int .i64 k ∧ Hid (wr.ownsRow wb.heap.size 2 1 u (P k).length (nints (P k))) ∧ Hid (Bel wb.heap.size wb wr)) (fun _ x _ => N - (intOf x).toNat)
  case atStart =>
    refine ⟨0, Nat.zero_le _, rfl, Lib.hid ?_, Lib.hid ((Bel.refl wb).alloc _)⟩
    rw [HP0.out, show w.heap.size + 1 = wb.heap.size by rw [HWb.out]; simp]
    exact own_none' wb _ _ _ (Nat.le_refl _)
  case round =>
    obtain ⟨k, hk, rfl, hown, hbw⟩ := hrel
    have hlen := HPl.out k
    obtain ⟨l, hl⟩ : ∃ l, (P k).length = l := ⟨_, rfl⟩
    rw [hl] at hown hlen
    have Hl := Lib.hid hl
    clear hl
    obtain ⟨ao, co, rfl⟩ := own_cap hown.out
    have c0 := (hbw.out.1.cell (p := ⟨w.heap.size, 0, none⟩) HBs.out).trans HB0.out
    have c1 := (hbw.out.1.cell (p := ⟨w.heap.size, 1, none⟩) HBs.out).trans HB1.out
    have c2 := (hbw.out.1.cell (p := ⟨w.heap.size, 2, none⟩) HBs.out).trans HB2.out
    have c3 := (hbw.out.1.cell (p := ⟨w.heap.size, 3, none⟩) HBs.out).trans HB3.out
    have hsz : w.heap.size < wr.heap.size := Nat.lt_of_lt_of_le HBs.out hbw.out.1.size
    have hsz2 : b < wr.heap.size := Nat.lt_of_lt_of_le hb (Nat.le_trans HBw.out.size hbw.out.1.size)
    have HBel := Lib.hid (HBw.out.trans (hbw.out.1.mono HBw.out.size))
    have hr0 := str_cell hb HBel.out HCe.out HR0.out
    rw [Nat.add_zero] at hr0
    by_cases hlt : k < N
    · have hlt' : (k : Int) < (N : Int) := by omega
      have HC1 := Lib.hid (HF.out k hlt wr HBel.out)
      cases hfit : fitsB rows n m c k with
      | false =>
        rw [hfit] at HC1
        have HN := Lib.hid (HPn.out k hfit)
        clear hfit
        go_wp2_with fail
        refine HC1.out.mono ?_
        rintro e w1 ⟨rfl, hb1⟩
        have HB5 := Lib.hid (Bel.step hbw.out hb1)
        have HO5 := Lib.hid (own_below hown.out hb1)
        clear hb1
        go_wp2_with fail
        go_roundw
        case rel => exact ⟨k + 1, by omega, by go_num, by rw [HN.out, Hl.out]; exact HO5, HB5⟩
        case measure => simp [intOf]; omega
      | true =>
        rw [hfit] at HC1
        have HN := Lib.hid (HPy.out k hfit)
        clear hfit
        go_wp2_with fail
        refine HC1.out.mono ?_
        rintro e w1 ⟨rfl, hb1⟩
        have HB5 := Lib.hid (Bel.step hbw.out hb1)
        have HO5 := Lib.hid (own_below hown.out hb1)
        clear hb1
        go_wp2_with (at_builtin; refine appI (by rfl) _ _ (by rfl) wb.heap.size _ _ _ (by rfl) HO5.out _ 1 (by rfl) (by omega) HB5.out ?_; intro g cap w3 ho3 hb3; have Ho3 := Lib.hid ho3; have Hb3 := Lib.hid hb3; clear ho3 hb3)
        go_roundw
        case rel => exact ⟨k + 1, by omega, by go_num, Lib.hid (by rw [HN.out, List.length_append, Hl.out, nints, List.map_append]; exact Ho3.out), Hb3⟩
        case measure => simp [intOf]; omega
    · obtain rfl : k = N := by omega
      have HE := Lib.hid (show OwnRow w 2 1 (P k).length (nints (P k)) (.returned (.slice ao l co)) wr from ⟨ao, co, by rw [Hl.out], by rw [Hl.out]; exact own_base hown.out HBw.out.size, HBel.out⟩)
      go_wp2_with fail
      go_ret
      exact HE.out
end Go.Proofs.YthemlamdchcicaaGreatDoor

namespace Go.Proofs.YthemlamdchcicaaGreatDoor
open Go.ChangeShapes Go.WideShapes Go.ChangeAt Go.RowKit Go.Deep

set_option maxRecDepth 100000 in
set_option maxHeartbeats 1600000 in
theorem l10Meet_any (m : Nat) (a : Cut) (f : Nat) (b : Cut) (g : Nat) (w : World) (hm : 1 ≤ m) (hm6 : m ≤ 6) (hf : f ≤ 36) (hg : g ≤ 36) (ha : CutOk a) (hb : CutOk b) :
    Calls Tryz.prog 89 #[.int .i64 (m : Int), cutV a, .int .i64 (f : Int), cutV b, .int .i64 (g : Int)] w fun e w' => e = .returned (.bool (meetB m a f b g)) ∧ Below w.heap.size w w' := by
  obtain ⟨y, hy⟩ : ∃ y, f / m = y := ⟨_, rfl⟩
  obtain ⟨x, hx⟩ : ∃ x, f % m = x := ⟨_, rfl⟩
  obtain ⟨v, hv⟩ : ∃ v, g / m = v := ⟨_, rfl⟩
  obtain ⟨u, hu⟩ : ∃ u, g % m = u := ⟨_, rfl⟩
  have e1 : (f : Int) / (m : Int) = (y : Int) := by rw [← hy]; rfl
  have e2 : (f : Int) % (m : Int) = (x : Int) := by rw [← hx]; rfl
  have e3 : (g : Int) / (m : Int) = (v : Int) := by rw [← hv]; rfl
  have e4 : (g : Int) % (m : Int) = (u : Int) := by rw [← hu]; rfl
  have b1 : y ≤ 36 := by rw [← hy]; exact Nat.le_trans (Nat.div_le_self _ _) hf
  have b2 : x < m := by rw [← hx]; exact Nat.mod_lt _ hm
  have b3 : v ≤ 36 := by rw [← hv]; exact Nat.le_trans (Nat.div_le_self _ _) hg
  have b4 : u < m := by rw [← hu]; exact Nat.mod_lt _ hm
  have hr : meetB m a f b g = decide (x < u + b.w ∧ u < x + a.w ∧ y < v + b.h ∧ v < y + a.h) := by unfold meetB; rw [hx, hy, hv, hu]
  obtain ⟨⟨aw1, aw6⟩, ⟨ah1, ah6⟩, _⟩ := ha
  obtain ⟨⟨bw1, bw6⟩, ⟨bh1, bh6⟩, _⟩ := hb
  obtain ⟨r, hr'⟩ : ∃ r, meetB m a f b g = r := ⟨_, rfl⟩
  rw [hr']
  have HR := Lib.hid (hr'.symm.trans hr)
  clear hr hr' hy hx hv hu
  by_cases g1 : x < u + b.w
  · by_cases g2 : u < x + a.w
    · by_cases g3 : y < v + b.h
      · by_cases g4 : v < y + a.h
        · obtain rfl : r = true := by rw [HR.out]; exact decide_eq_true ⟨g1, g2, g3, g4⟩
          go_enter Tryz.func89, Tryz.ntmps89
          go_wp2_with fail
          go_ret
          exact ⟨ret_bool (by simp <;> omega), (by repeat (first | exact Below.refl _ _ | assumption | refine Below.drew ?_ | refine below_drewN ?_ _ | refine Below.alloc ?_ (by simp; try omega) _ | refine Below.setCell ?_ (by simp; try omega) _))⟩
        · obtain rfl : r = false := by rw [HR.out]; exact decide_eq_false (fun h => g4 h.2.2.2)
          go_enter Tryz.func89, Tryz.ntmps89
          go_wp2_with fail
          go_ret
          exact ⟨ret_bool (by simp <;> omega), (by repeat (first | exact Below.refl _ _ | assumption | refine Below.drew ?_ | refine below_drewN ?_ _ | refine Below.alloc ?_ (by simp; try omega) _ | refine Below.setCell ?_ (by simp; try omega) _))⟩
      · obtain rfl : r = false := by rw [HR.out]; exact decide_eq_false (fun h => g3 h.2.2.1)
        go_enter Tryz.func89, Tryz.ntmps89
        go_wp2_with fail
        go_ret
        exact ⟨ret_bool (by simp <;> omega), (by repeat (first | exact Below.refl _ _ | assumption | refine Below.drew ?_ | refine below_drewN ?_ _ | refine Below.alloc ?_ (by simp; try omega) _ | refine Below.setCell ?_ (by simp; try omega) _))⟩
    · obtain rfl : r = false := by rw [HR.out]; exact decide_eq_false (fun h => g2 h.2.1)
      go_enter Tryz.func89, Tryz.ntmps89
      go_wp2_with fail
      go_ret
      exact ⟨ret_bool (by simp <;> omega), (by repeat (first | exact Below.refl _ _ | assumption | refine Below.drew ?_ | refine below_drewN ?_ _ | refine Below.alloc ?_ (by simp; try omega) _ | refine Below.setCell ?_ (by simp; try omega) _))⟩
  · obtain rfl : r = false := by rw [HR.out]; exact decide_eq_false (fun h => g1 h.1)
    go_enter Tryz.func89, Tryz.ntmps89
    go_wp2_with fail
    go_ret
    exact ⟨ret_bool (by simp <;> omega), (by repeat (first | exact Below.refl _ _ | assumption | refine Below.drew ?_ | refine below_drewN ?_ _ | refine Below.alloc ?_ (by simp; try omega) _ | refine Below.setCell ?_ (by simp; try omega) _))⟩
/-- The pieces ahead of i with their places. -/
def doneL (zs ps : List Int) (i : Nat) : List (Cut × Int) := (List.range i).map fun k => (cutAt zs k, ps.getD k 0)
theorem doneL_succ (zs ps : List Int) (i : Nat) : doneL zs ps (i + 1) = doneL zs ps i ++ [(cutAt zs i, ps.getD i 0)] := by
  simp [doneL, List.range_succ]
theorem free_bad {m : Nat} {zs ps : List Int} {i k f : Nat} {c : Cut} (hk : k < i) (h0 : 0 ≤ ps.getD k 0) (h : meetB m c f (cutAt zs k) (ps.getD k 0).toNat = true) : freeB m (doneL zs ps i) c f = false := by
  cases e : freeB m (doneL zs ps i) c f with
  | false => rfl
  | true =>
    simp only [freeB, List.all_eq_true, Bool.or_eq_true, decide_eq_true_eq, Bool.not_eq_true'] at e
    rcases e (cutAt zs k, ps.getD k 0) (List.mem_map.2 ⟨k, List.mem_range.2 hk, rfl⟩) with e | e
    · simp only at e; omega
    · simp only at e; rw [h] at e; cases e
theorem free_all {m : Nat} {zs ps : List Int} {i f : Nat} {c : Cut} (h : ∀ k, k < i → ps.getD k 0 < 0 ∨ meetB m c f (cutAt zs k) (ps.getD k 0).toNat = false) : freeB m (doneL zs ps i) c f = true := by
  simp only [freeB, List.all_eq_true, Bool.or_eq_true, decide_eq_true_eq, Bool.not_eq_true']
  intro d hd
  obtain ⟨k, hk, rfl⟩ := List.mem_map.1 hd
  exact h k (List.mem_range.1 hk)
theorem cut_cells {w W : World} {b o n k : Nat} {zs : List Int} (hb : b < w.heap.size) (hbw : Below w.heap.size w W) (hc : ∀ i, i < (zs.map (Value.int .i64)).length → w.cell? ⟨b, o + i, none⟩ = (zs.map (Value.int .i64))[i]?) (hz : zs.length = n * 4) (hk : k < n)
    (h0 : zs.getD (k * 4) 0 = ((cutAt zs k).w : Int)) (h1 : zs.getD (k * 4 + 1) 0 = ((cutAt zs k).h : Int)) :
    W.cell? ⟨b, o + k * 4, none⟩ = some (.int .i64 ((cutAt zs k).w : Int)) ∧ W.cell? ⟨b, o + k * 4 + 1, none⟩ = some (.int .i64 ((cutAt zs k).h : Int)) ∧ W.cell? ⟨b, o + k * 4 + 2, none⟩ = some (.int .i64 (cutAt zs k).q) ∧ W.cell? ⟨b, o + k * 4 + 3, none⟩ = some (.int .i64 (cutAt zs k).v) := by
  have hat : ∀ j, j < n * 4 → W.cell? ⟨b, o + j, none⟩ = some (.int .i64 (zs.getD j 0)) := fun j hj => by
    rw [(hbw.cell (p := ⟨b, o + j, none⟩) hb).trans (hc j (by simp; omega))]
    simp [List.getElem?_eq_getElem (show j < zs.length by omega)]
  refine ⟨?_, ?_, ?_, ?_⟩
  · rw [hat (k * 4) (by omega), h0]
  · rw [Nat.add_assoc, hat (k * 4 + 1) (by omega), h1]
  · rw [Nat.add_assoc, hat (k * 4 + 2) (by omega)]; rfl
  · rw [Nat.add_assoc, hat (k * 4 + 3) (by omega)]; rfl
theorem int_cell {w W : World} {b o k : Nat} {zs : List Int} {u : Int} (hb : b < w.heap.size) (hbw : Below w.heap.size w W) (hc : ∀ i, i < (zs.map (Value.int .i64)).length → w.cell? ⟨b, o + i, none⟩ = (zs.map (Value.int .i64))[i]?) (hk : k < zs.length) (hu : zs.getD k 0 = u) :
    W.cell? ⟨b, o + k, none⟩ = some (.int .i64 u) := by
  rw [(hbw.cell (p := ⟨b, o + k, none⟩) hb).trans (hc k (by simpa using hk)), ← hu]
  simp [List.getElem?_eq_getElem hk]
set_option maxRecDepth 100000 in
set_option maxHeartbeats 3200000 in
theorem l10Wrong_any (a al ap : Option Addr) (rows : List ByteArray) (n m ca nl cl np cp : Nat) (zs ps : List Int) (i : Nat) (w : World) (hok : HideOk rows n m) (hc : CellsAt w a (strs rows)) (hzl : zs.length = nl * 4) (hcl : CellsAt w al (zs.map (Value.int .i64))) (hcuts : cutsB zs nl = true)
    (hpl : ps.length = np) (hcp : CellsAt w ap (ps.map (Value.int .i64))) (hin : i < nl) (hip : i < np) (hps : ∀ k, k ≤ i → ps.getD k 0 < ((n * m : Nat) : Int)) :
    Calls Tryz.prog 47 #[.slice a n ca, .slice al nl cl, .slice ap np cp, .int .i64 (i : Int)] w fun e w' => e = .returned (.bool (!okB rows n m (doneL zs ps i) (cutAt zs i, ps.getD i 0))) ∧ Below w.heap.size w w' := by
  have hnm : n * m ≤ 36 := Nat.mul_le_mul hok.n6 hok.m6
  have hn4 := cutsB_n hcuts
  obtain ⟨f, hf⟩ : ∃ f, ps.getD i 0 = f := ⟨_, rfl⟩
  obtain ⟨r, hr⟩ : ∃ r, (!okB rows n m (doneL zs ps i) (cutAt zs i, f)) = r := ⟨_, rfl⟩
  obtain ⟨bP, oP, rfl, hbP, hcP⟩ := hcp.at_ (by simp; omega)
  obtain ⟨bL, oL, rfl, hbL, hcL⟩ := hcl.at_ (by simp; omega)
  obtain ⟨bR, oR, rfl, hbR, hcR⟩ := hc.at_ (by rw [strs_len, hok.len]; have := hok.n1; omega)
  obtain ⟨r0, hr0, _, hs0, _⟩ := hide_row hok (y := 0) (by have := hok.n1; omega)
  have hn0 := hok.n1
  have hm0 := hok.m1
  have hm6 := hok.m6
  have hfi := hps i (Nat.le_refl _)
  rw [hf] at hfi
  rw [hf, hr]
  have cP := int_cell hbP (Below.refl _ _) hcP (by omega) hf
  have hin' : (i : Int) < (nl : Int) := by omega
  have hip' : (i : Int) < (np : Int) := by omega
  by_cases hneg : f < 0
  · obtain rfl : r = false := by rw [← hr]; simp [okB, hneg]
    clear hr hok hc hcR hr0 hcuts hcL hcl hcp hcP hps hzl hpl hf
    go_enter Tryz.func47, Tryz.ntmps47
    go_wp2_with fail
    go_ret
    exact ⟨rfl, Below.refl _ _⟩
  · obtain ⟨F, hF⟩ : ∃ F : Nat, f = (F : Int) := ⟨f.toNat, by omega⟩
    subst hF
    obtain ⟨_, hcok, e0, e1⟩ := cutsB_at hcuts hin
    obtain ⟨x0, x1, x2, x3⟩ := cut_cells hbL (Below.refl _ w) hcL hzl hin e0 e1
    have HFit := Lib.hid (l10Fits_any (some ⟨bR, oR, none⟩) rows n m ca (cutAt zs i) F w.drew hok hc hcok (by omega))
    have hr' : r = (!(fitsB rows n m (cutAt zs i) F && freeB m (doneL zs ps i) (cutAt zs i) F)) := by
      rw [← hr]
      have h1 : (F : Int).toNat = F := by omega
      unfold okB
      rw [decide_eq_false hneg]
      simp only [h1, Bool.false_or]
      rw [decide_eq_true (show F < n * m by omega), Bool.true_and]
    obtain ⟨c, hcc⟩ : ∃ c, cutAt zs i = c := ⟨_, rfl⟩
    rw [hcc] at x0 x1 x2 x3 HFit hr'
    have HR := Lib.hid hr'
    have HC := Lib.hid hcuts
    have HL := Lib.hid hcL
    have HP := Lib.hid hcP
    have HZ := Lib.hid hzl
    have HPl := Lib.hid hpl
    have HPs := Lib.hid hps
    have HF0 := Lib.hid hf
    have Hcc := Lib.hid hcc
    have HOk := Lib.hid hok
    have HRw := Lib.hid hcR
    have HR0 := Lib.hid hr0
    clear hcR hr0
    clear hr hr' hcuts hcL hcP hps hzl hpl hf hcc hcl hcp hc hok e0 e1
    cases hfit : fitsB rows n m c F with
    | false =>
      obtain rfl : r = true := by rw [HR.out, hfit]; rfl
      rw [hfit] at HFit
      clear hfit
      go_enter Tryz.func47, Tryz.ntmps47
      go_wp2_with fail
      go_still_tail 9, (by kernel_rfl)
      go_wp2_with fail
      refine HFit.out.mono ?_
      rintro e w1 ⟨rfl, hb1⟩
      have HB1 := Lib.hid ((Bel.refl w).drew.step hb1)
      clear hb1
      go_wp2_with fail
      go_ret
      exact ⟨rfl, HB1.out.1⟩
    | true =>
      rw [hfit] at HFit HR
      clear hfit
      go_enter Tryz.func47, Tryz.ntmps47
      go_wp2_with fail
      go_still_tail 9, (by kernel_rfl)
      go_wp2_with fail
      refine HFit.out.mono ?_
      rintro e w1 ⟨rfl, hb1⟩
      have HB1 := Lib.hid ((Bel.refl w).drew.step hb1)
      have Hsz := Lib.hid (Nat.lt_of_lt_of_le hbP HB1.out.2)
      clear hb1 x0 x1 x2 x3 cP
      go_wp2_with fail
      go_loopw [9] (fun u wr => ∃ k : Nat, k ≤ i ∧ u = .int .i64 (k : Int) ∧ Hid (∀ j, j < k → ps.getD j 0 < 0 ∨ meetB m c F (cutAt zs j) (ps.getD j 0).toNat = false) ∧ Hid (Bel w.heap.size w wr)) (fun u _ => i - (intOf u).toNat)
      case atStart => exact ⟨0, Nat.zero_le _, rfl, Lib.hid (fun j h => absurd h (Nat.not_lt_zero _)), HB1⟩
      case round =>
        obtain ⟨k, hk, rfl, hno, hbw⟩ := hrel
        have hp1 : bP < wr.heap.size := Nat.lt_of_lt_of_le hbP hbw.out.2
        have hp2 : bL < wr.heap.size := Nat.lt_of_lt_of_le hbL hbw.out.2
        by_cases hlt : k < i
        · have hlt' : (k : Int) < (i : Int) := by omega
          have hkp' : (k : Int) < (np : Int) := by omega
          have hn0' : 0 < n := by omega
          have hkl' : (k : Int) < (nl : Int) := by omega
          obtain ⟨g, hg⟩ : ∃ g, ps.getD k 0 = g := ⟨_, rfl⟩
          have hgk := HPs.out k (by omega)
          rw [hg] at hgk
          have ck := int_cell hbP hbw.out.1 HP.out (by have := HPl.out; omega) hg
          have Hg := Lib.hid hg
          clear hg
          by_cases hgn : g < 0
          · have hgd : decide (0 ≤ g) = false := decide_eq_false (by omega)
            have HN := Lib.hid (show ∀ j, j < k + 1 → ps.getD j 0 < 0 ∨ meetB m c F (cutAt zs j) (ps.getD j 0).toNat = false from fun j hj => by
              by_cases e : j = k
              · subst e; exact .inl (by rw [Hg.out]; exact hgn)
              · exact hno.out j (by omega))
            go_wp2_with fail
            go_big_quiet (fail)
            go_wp2_with fail
            go_roundw
            case rel => exact ⟨k + 1, by omega, by go_num, HN, Lib.hid (hbw.out.drewN _)⟩
            case measure => simp [intOf]; omega
          · obtain ⟨G, hG⟩ : ∃ G : Nat, g = (G : Int) := ⟨g.toNat, by omega⟩
            subst hG
            have hgd : decide (0 ≤ (G : Int)) = true := decide_eq_true (by omega)
            have ci := int_cell hbP hbw.out.1 HP.out (k := i) (u := (F : Int)) (by have := HPl.out; omega) HF0.out
            obtain ⟨_, hdok, e0, e1⟩ := cutsB_at HC.out (show k < nl by omega)
            obtain ⟨_, _, e2, e3⟩ := cutsB_at HC.out hin
            obtain ⟨z0, z1, z2, z3⟩ := cut_cells hbL hbw.out.1 HL.out HZ.out (show k < nl by omega) e0 e1
            obtain ⟨x0, x1, x2, x3⟩ := cut_cells hbL hbw.out.1 HL.out HZ.out hin e2 e3
            rw [Hcc.out] at x0 x1 x2 x3
            obtain ⟨d, hd⟩ : ∃ d, cutAt zs k = d := ⟨_, rfl⟩
            rw [hd] at z0 z1 z2 z3 hdok
            have hr0 := str_cell hbR hbw.out.1 HRw.out HR0.out
            rw [Nat.add_zero] at hr0
            have hp3 : bR < wr.heap.size := Nat.lt_of_lt_of_le hbR hbw.out.2
            have HMt := Lib.hid (l10Meet_any m c F d G wr.drew hm0 hm6 (by omega) (by omega) (by rw [← Hcc.out]; exact hcok) hdok)
            have Hd := Lib.hid hd
            clear hd e0 e1 e2 e3 hdok
            cases hmt : meetB m c F d G with
            | true =>
              rw [hmt] at HMt
              obtain rfl : r = true := by
                rw [HR.out, free_bad hlt (by rw [Hg.out]; omega) (by rw [Hd.out, Hg.out]; exact hmt)]
                rfl
              clear hmt
              go_wp2_with fail
              go_still_tail 26, (by kernel_rfl)
              go_wp2_with fail
              refine HMt.out.mono ?_
              rintro e w2 ⟨rfl, hb2⟩
              have HB2 := Lib.hid (hbw.out.drew.step hb2)
              clear hb2
              go_wp2_with fail
              go_ret
              exact ⟨rfl, HB2.out.1⟩
            | false =>
              rw [hmt] at HMt
              have HN := Lib.hid (show ∀ j, j < k + 1 → ps.getD j 0 < 0 ∨ meetB m c F (cutAt zs j) (ps.getD j 0).toNat = false from fun j hj => by
                by_cases e : j = k
                · subst e; right; rw [Hd.out, Hg.out]; exact hmt
                · exact hno.out j (by omega))
              clear hmt
              go_wp2_with fail
              go_still_tail 26, (by kernel_rfl)
              go_wp2_with fail
              refine HMt.out.mono ?_
              rintro e w2 ⟨rfl, hb2⟩
              have HB2 := Lib.hid (hbw.out.drew.step hb2)
              clear hb2
              go_wp2_with fail
              go_roundw
              case rel => exact ⟨k + 1, by omega, by go_num, HN, HB2⟩
              case measure => simp [intOf]; omega
        · obtain rfl : r = false := by
            obtain rfl : k = i := by omega
            rw [HR.out, free_all hno.out]
            rfl
          go_wp2_with fail
          go_ret
          exact ⟨rfl, hbw.out.1⟩
end Go.Proofs.YthemlamdchcicaaGreatDoor
