/-
  Contracts of the program's rows of blocks: rowsOf, RowsFault, HeightOfRows, at rows without fault. No condition of its own.
-/
import Derived.Test.YtoomkeicfdmdoaaNestF
import Derived.Test.YtoomkeicfdmdoaaNestD
import Derived.StillTailTactics
import Derived.BigQuiet
namespace Go.Proofs.Ytoomkeicfdmdoaa
open Go.ChangeShapes Go.WideShapes Go.ChangeAt Go.RowKit Go.Deep Go.Shelf

theorem outB_bad {zs : List Int} {lo hi x : Int} {k : Nat} (hk : k < zs.length) (hx : zs.getD k 0 = x) (h : inB x lo hi = false) : outB zs lo hi = true := by
  have : zs[k] = x := by rw [← hx]; simp [List.getElem?_eq_getElem hk]
  simp only [outB, List.any_eq_true]
  exact ⟨x, by rw [← this]; exact List.getElem_mem hk, by simp [h]⟩
theorem outB_good {zs : List Int} {lo hi : Int} {k : Nat} (hk : zs.length ≤ k) (h : ∀ j, j < k → inB (zs.getD j 0) lo hi = true) : outB zs lo hi = false := by
  rw [outB_false]
  intro z hz
  obtain ⟨j, hj, rfl⟩ := List.mem_iff_getElem.1 hz
  have := h j (by omega)
  rw [inB_true] at this
  simpa [List.getElem?_eq_getElem hj] using this
theorem inB_more {zs : List Int} {lo hi x : Int} {k : Nat} (h : ∀ j, j < k → inB (zs.getD j 0) lo hi = true) (hx : zs.getD k 0 = x) (hk : inB x lo hi = true) : ∀ j, j < k + 1 → inB (zs.getD j 0) lo hi = true := fun j hj => by
  by_cases e : j = k
  · subst e; rw [hx]; exact hk
  · exact h j (by omega)
theorem cell_int {w W : World} {b o j : Nat} {zs : List Int} {x : Int} (hb : b < w.heap.size) (hbw : Below w.heap.size w W) (hc : ∀ i, i < (zs.map (Value.int .i64)).length → w.cell? ⟨b, o + i, none⟩ = (zs.map (Value.int .i64))[i]?) (hj : j < zs.length) (hx : zs.getD j 0 = x) :
    W.cell? ⟨b, o + j, none⟩ = some (.int .i64 x) := by
  rw [(hbw.cell (p := ⟨b, o + j, none⟩) hb).trans (hc j (by simpa using hj)), ← hx]
  simp [List.getElem?_eq_getElem hj]
theorem outB_at {ys : List Int} {lo hi : Int} {j : Nat} (h : outB ys lo hi = false) (hj : j < ys.length) : lo ≤ ys.getD j 0 ∧ ys.getD j 0 ≤ hi := by
  have := outB_false.1 h ys[j] (List.getElem_mem hj)
  simpa [List.getElem?_eq_getElem hj] using this
theorem cell_at0 {w W : World} {g j : Nat} {zs : List Int} {x : Int} (hc : CellsAt w (some ⟨g, 0, none⟩) (zs.map (Value.int .i64))) (hbw : Below w.heap.size w W) (hj : j < zs.length) (hx : zs.getD j 0 = x) :
    W.cell? ⟨g, j, none⟩ = some (.int .i64 x) := by
  obtain ⟨b, off, hae, hb, hcc⟩ := hc.at_ (by simp; omega)
  obtain ⟨rfl, rfl⟩ : g = b ∧ 0 = off := by simpa using hae
  have h := cell_int hb hbw hcc hj hx
  rw [Nat.zero_add] at h
  exact h

theorem hsum_take {cs : List Int} {i : Nat} {z : Int} (h : i < cs.length) (hz : cs.getD i 0 = z) : hsum (cs.take (i + 1)) = hsum (cs.take i) + z := by
  induction cs generalizing i with
  | nil => simp at h
  | cons c cs ih =>
    cases i with
    | zero => simp at hz; simp [hsum, hz]
    | succ i =>
      have := ih (i := i) (by simpa using h) (by simpa using hz)
      simp only [List.take_succ_cons, hsum, this]
      omega
theorem hsum_bd {cs : List Int} (h : ∀ z ∈ cs, 0 ≤ z ∧ z ≤ 1000000) (i : Nat) : 0 ≤ hsum (cs.take i) ∧ hsum (cs.take i) ≤ i * 1000000 := by
  induction cs generalizing i with
  | nil => simp [hsum]; omega
  | cons c cs ih =>
    cases i with
    | zero => simp [hsum]
    | succ i =>
      have h1 := ih (fun z hz => h z (by simp [hz])) i
      have h2 := h c (by simp)
      simp only [List.take_succ_cons, hsum]
      omega
theorem sumOf_any (w : World) (a : Option Addr) (n c : Nat) (cs : List Int) (hl : cs.length = n) (hn : n ≤ 1000) (h : ∀ z ∈ cs, 0 ≤ z ∧ z ≤ 1000000) (hc : CellsAt w a (cs.map (Value.int .i64))) :
    Calls Try.prog 82 #[.slice a n c] w fun e w' => e = .returned (.int .i64 (hsum cs)) ∧ Below w.heap.size w w' := by
  obtain ⟨r, hr⟩ : ∃ r, hsum cs = r := ⟨_, rfl⟩
  rw [hr]
  have HR := Lib.hid hr
  have HBd := Lib.hid (hsum_bd h)
  have Hl := Lib.hid hl
  have HV := Lib.hid h
  have HA := Lib.hid hc
  clear hr h hl hc
  go_enter Try.func82, Try.ntmps82
  go_wp2
  go_loopw [3, 5, 8] (fun v _ u wr => ∃ i : Nat, i ≤ n ∧ u = .int .i64 i ∧ ∃ x : Int, v = .int .i64 x ∧ Hid (x = hsum (cs.take i)) ∧ Hid (Bel w.heap.size w wr)) (fun _ _ u _ => n - (intOf u).toNat)
  case atStart => exact ⟨0, Nat.zero_le _, rfl, 0, rfl, Lib.hid rfl, Lib.hid (Bel.refl w)⟩
  case round =>
    obtain ⟨i, hi, rfl, x, rfl, hx, hbw⟩ := hrel
    obtain ⟨x1, x2⟩ := HBd.out i
    rw [← hx.out] at x1 x2
    by_cases hlt : i < n
    · obtain ⟨b, o, rfl, hb, hcc⟩ := HA.out.at_ (by have := Hl.out; simp; omega)
      obtain ⟨z, hz⟩ : ∃ z, cs.getD i 0 = z := ⟨_, rfl⟩
      have hcx := cell_int hb hbw.out.1 hcc (by rw [Hl.out]; exact hlt) hz
      have hzb := HV.out z (by rw [← hz]; simp [List.getElem?_eq_getElem (show i < cs.length by rw [Hl.out]; exact hlt)])
      obtain ⟨z1, z2⟩ := hzb
      have HZ := Lib.hid hz
      have hlt' : (i : Int) < (n : Int) := by omega
      clear hcc hz
      go_wp2
      go_roundw
      case rel => exact ⟨i + 1, by omega, by go_num, _, rfl, Lib.hid (by rw [hsum_take (by rw [Hl.out]; exact hlt) HZ.out, hx.out]), hbw⟩
      case measure => simp [intOf]; omega
    · obtain rfl : i = n := by omega
      obtain rfl : x = r := by rw [hx.out, HR.out.symm, List.take_of_length_le (by rw [Hl.out]; omega)]
      go_wp2
      go_ret
      exact ⟨rfl, hbw.out.1⟩

/-- The widths and the heights of nine rows, in slices of the call's own. -/
def TwoEnd (w : World) (ws hs : List Int) (e : Ending) (w' : World) : Prop :=
  ∃ g1 g2, e = .returned (.tuple #[.slice (some ⟨g1, 0, none⟩) 9 9, .slice (some ⟨g2, 0, none⟩) 9 9]) ∧ w'.ownsRow w.heap.size 2 1 (.slice (some ⟨g1, 0, none⟩) 9 9) 9 (nints ws) ∧ w'.ownsRow w.heap.size 2 1 (.slice (some ⟨g2, 0, none⟩) 9 9) 9 (nints hs) ∧ Below w.heap.size w w'
/-- What holds of the rows behind k blocks. -/
structure RowsAt (zs rs : List Int) (k : Nat) (W H : List Int) : Prop where
  lenW : W.length = 9
  lenH : H.length = 9
  w : rowsW (zs.drop (k * 2)) (rs.drop k) W = rowsW zs rs (List.replicate 9 0)
  h : rowsH (zs.drop (k * 2)) (rs.drop k) H = rowsH zs rs (List.replicate 9 0)
  bw : ∀ j, 0 ≤ W.getD j 0 ∧ W.getD j 0 ≤ 5000 * k
  bh : ∀ j, 0 ≤ H.getD j 0 ∧ H.getD j 0 ≤ 5000
theorem RowsAt.begin (zs rs : List Int) : RowsAt zs rs 0 (List.replicate 9 0) (List.replicate 9 0) :=
  ⟨by simp, by simp, by simp, by simp, fun j => by rw [getD_zeros]; omega, fun j => by rw [getD_zeros]; omega⟩
theorem drop_two {zs : List Int} {k n : Nat} (hl : zs.length = n * 2) (hk : k < n) : zs.drop (k * 2) = zs.getD (k * 2) 0 :: zs.getD (k * 2 + 1) 0 :: zs.drop ((k + 1) * 2) := by
  rw [List.drop_eq_getElem_cons (show k * 2 < zs.length by omega), List.drop_eq_getElem_cons (show k * 2 + 1 < zs.length by omega)]
  simp only [List.getD_eq_getElem?_getD, List.getElem?_eq_getElem (show k * 2 < zs.length by omega), List.getElem?_eq_getElem (show k * 2 + 1 < zs.length by omega), Option.getD_some]
  rw [show (k + 1) * 2 = k * 2 + 1 + 1 by omega]
theorem drop_one {rs : List Int} {k n : Nat} (hl : rs.length = n) (hk : k < n) : rs.drop k = rs.getD k 0 :: rs.drop (k + 1) := by
  rw [List.drop_eq_getElem_cons (show k < rs.length by omega)]
  simp only [List.getD_eq_getElem?_getD, List.getElem?_eq_getElem (show k < rs.length by omega), Option.getD_some]
theorem RowsAt.step {zs rs W H : List Int} {k n r : Nat} {x y u v J : Int} (h : RowsAt zs rs k W H) (hl : zs.length = n * 2) (hrl : rs.length = n) (hk : k < n) (hr : rs.getD k 0 = (r : Int)) (h9 : r < 9) (hx : zs.getD (k * 2) 0 = x) (hy : zs.getD (k * 2 + 1) 0 = y)
    (hxb : 0 ≤ x ∧ x ≤ 5000) (hyb : 0 ≤ y ∧ y ≤ 5000) (hu : W.getD r 0 = u) (hv : H.getD r 0 = v) (hJ : max v y = J) : RowsAt zs rs (k + 1) (W.set r (u + x)) (H.set r J) := by
  have hw := h.w
  have hh := h.h
  rw [drop_two hl hk, drop_one hrl hk, hx, hy, hr] at hw hh
  simp only [rowsW, Int.toNat_natCast, hu] at hw
  simp only [rowsH, Int.toNat_natCast, hv, hJ] at hh
  have b1 := h.bw r
  have b2 := h.bh r
  have l1 := h.lenW
  have l2 := h.lenH
  refine ⟨by simp [l1], by simp [l2], hw, hh, fun j => ?_, fun j => ?_⟩
  · rw [getD_set W _ _ _ (by omega)]
    have := h.bw j
    split <;> omega
  · rw [getD_set H _ _ _ (by omega)]
    have := h.bh j
    split <;> omega
theorem nints_set (zs : List Int) (k : Nat) (x : Int) : (nints zs).set k (.int .i64 x) = nints (zs.set k x) := by simp [nints]
theorem own_cell {W : World} {B g n c k : Nat} {zs : List Int} {x : Int} (h : W.ownsRow B 2 1 (.slice (some ⟨g, 0, none⟩) n c) n (nints zs)) (hk : k < zs.length) (hx : zs.getD k 0 = x) : W.cell? ⟨g, k, none⟩ = some (.int .i64 x) := by
  have hl := h.1
  simp only [nints, List.length_map] at hl
  rw [h.cellAt k (by omega)]
  simp only [nints, List.getElem?_map, List.getElem?_eq_getElem hk, Option.map_some]
  rw [← hx]; simp [List.getElem?_eq_getElem hk]

set_option maxRecDepth 100000 in
set_option maxHeartbeats 6400000 in
theorem rowsOf_any (w : World) (a : Option Addr) (n c : Nat) (zs : List Int) (b : Option Addr) (d : Nat) (rs : List Int) (hl : zs.length = n * 2) (hrl : rs.length = n) (n9 : n ≤ 9) (ha : CellsAt w a (zs.map (Value.int .i64))) (hb : CellsAt w b (rs.map (Value.int .i64)))
    (hin : RowsIn rs) (hz : Between zs 5000) : Calls Try.prog 80 #[.slice a n c, .slice b n d] w (TwoEnd w (rowsW zs rs (List.replicate 9 0)) (rowsH zs rs (List.replicate 9 0))) := by
  have hmk9 : ∀ W : World, (Instr.makeSlice 22 (.int .i64 9) (.int .i64 9)).run Try.prog W = .ok (.slice (some ⟨W.heap.size, 0, none⟩) 9 9) (W.alloc (.cells (madeCells #[Value.int .i64 0] 9) 2)) := run_make_row' (P := Try.prog) 22 2 (.int .i64 0) 8 Try.underlying22 infoI rfl .i64 .i64 9 (by omega) (by omega)
  have HB0 := Lib.hid (((Bel.refl w).alloc (.cells (madeCells #[Value.int .i64 0] 9) 2)).alloc (.cells (madeCells #[Value.int .i64 0] 9) 2))
  have HM1 := Lib.hid ((nown_made w 9 w.heap.size w.heap.size (by omega) rfl (Nat.le_refl _)).alloc (.cells (madeCells #[Value.int .i64 0] 9) 2))
  have HM2 := Lib.hid (nown_made (w.alloc (.cells (madeCells #[Value.int .i64 0] 9) 2)) 9 (w.heap.size + 1) w.heap.size (by omega) (by simp) (by simp))
  obtain ⟨RW, hRW⟩ : ∃ q, rowsW zs rs (List.replicate 9 0) = q := ⟨_, rfl⟩
  obtain ⟨RH, hRH⟩ : ∃ q, rowsH zs rs (List.replicate 9 0) = q := ⟨_, rfl⟩
  rw [hRW, hRH]
  have HRR := Lib.hid (And.intro hRW hRH)
  have Hl := Lib.hid hl
  have Hrl := Lib.hid hrl
  have HA := Lib.hid ha
  have HB := Lib.hid hb
  have HIn := Lib.hid hin
  have HZ := Lib.hid hz
  clear hl hrl ha hb hin hz hRW hRH
  go_enter Try.func80, Try.ntmps80
  go_upto_region 1 with fail
  go_cut [6, 7] (fun t6 t7 W => ∃ x y : Nat, t6 = .slice (some ⟨x, 0, none⟩) 9 9 ∧ t7 = .slice (some ⟨y, 0, none⟩) 9 9 ∧ x ≠ y ∧ Hid (W.ownsRow w.heap.size 2 1 (.slice (some ⟨x, 0, none⟩) 9 9) 9 (nints (List.replicate 9 0))) ∧ Hid (W.ownsRow w.heap.size 2 1 (.slice (some ⟨y, 0, none⟩) 9 9) 9 (nints (List.replicate 9 0))) ∧ Hid (Bel w.heap.size w W))
  case first =>
    go_region_held3 (fun _ => True) (first | go_keep | trivial) (fail)
    all_goals (go_wp2_with fail; go_meet)
    all_goals first
      | exact ⟨_, _, rfl, rfl, by omega, Lib.hid HM1.out, Lib.hid HM2.out, Lib.hid HB0.out.drew⟩
      | exact ⟨_, _, rfl, rfl, by omega, Lib.hid HM2.out, Lib.hid HM1.out, Lib.hid HB0.out.drew⟩
  case rest =>
    obtain ⟨x, y, rfl, rfl, hxy, h6, h7, hbw⟩ := hcut
    clear hmk9 HB0 HM1 HM2
    go_wp2_with fail
    go_loopw [8, 9, 14] (fun _ _ u wr => ∃ k : Nat, k ≤ n ∧ u = .int .i64 k ∧ ∃ W H : List Int, Hid (RowsAt zs rs k W H) ∧ Hid (wr.ownsRow w.heap.size 2 1 (.slice (some ⟨x, 0, none⟩) 9 9) 9 (nints W)) ∧ Hid (wr.ownsRow w.heap.size 2 1 (.slice (some ⟨y, 0, none⟩) 9 9) 9 (nints H)) ∧ Hid (Bel w.heap.size w wr)) (fun _ _ u _ => n - (intOf u).toNat)
    case atStart => exact ⟨0, Nat.zero_le _, rfl, _, _, Lib.hid (RowsAt.begin zs rs), h6, h7, hbw⟩
    case round =>
      clear h6 h7 hbw
      obtain ⟨k, hk, rfl, W, H, hR, h6, h7, hbw⟩ := hrel
      by_cases hlt : k < n
      · obtain ⟨bz, oz, rfl, hbz, hcz⟩ := HA.out.at_ (by have := Hl.out; simp; omega)
        obtain ⟨br, or_, rfl, hbr, hcr⟩ := HB.out.at_ (by have := Hrl.out; simp; omega)
        obtain ⟨r0, hr0⟩ : ∃ v, rs.getD k 0 = v := ⟨_, rfl⟩
        obtain ⟨x1, hx1⟩ : ∃ v, zs.getD (k * 2) 0 = v := ⟨_, rfl⟩
        obtain ⟨y1, hy1⟩ : ∃ v, zs.getD (k * 2 + 1) 0 = v := ⟨_, rfl⟩
        have hrb := HIn.out r0 (by rw [← hr0]; simp [List.getElem?_eq_getElem (show k < rs.length by rw [Hrl.out]; exact hlt)])
        obtain ⟨r, rfl⟩ : ∃ r : Nat, r0 = (r : Int) := ⟨r0.toNat, by omega⟩
        have hr9 : r < 9 := by omega
        obtain ⟨u, hu⟩ : ∃ v, W.getD r 0 = v := ⟨_, rfl⟩
        obtain ⟨v, hv⟩ : ∃ v, H.getD r 0 = v := ⟨_, rfl⟩
        obtain ⟨J, hJ⟩ : ∃ q, max v y1 = q := ⟨_, rfl⟩
        have hxb := HZ.out (k * 2)
        have hyb := HZ.out (k * 2 + 1)
        rw [hx1] at hxb
        rw [hy1] at hyb
        have hub := hR.out.bw r
        rw [hu] at hub
        have hvb := hR.out.bh r
        rw [hv] at hvb
        have HStep := Lib.hid (hR.out.step Hl.out Hrl.out hlt hr0 hr9 hx1 hy1 hxb hyb hu hv hJ)
        have cr := cell_int hbr hbw.out.1 hcr (by rw [Hrl.out]; exact hlt) hr0
        have HCx := Lib.hid (fun W (h : Bel w.heap.size w W) => cell_int hbz h.1 hcz (by rw [Hl.out]; omega) hx1)
        have HCy := Lib.hid (fun W (h : Bel w.heap.size w W) => (show W.cell? ⟨bz, oz + k * 2 + 1, none⟩ = some (.int .i64 y1) from by have h := cell_int hbz h.1 hcz (j := k * 2 + 1) (by rw [Hl.out]; omega) hy1; rwa [← Nat.add_assoc] at h))
        have cx := HCx.out wr hbw.out
        have cu := own_cell h6.out (k := r) (by rw [hR.out.lenW]; exact hr9) hu
        have HCv := Lib.hid (fun W' (h : World.ownsRow W' w.heap.size 2 1 (.slice (some ⟨y, 0, none⟩) 9 9) 9 (nints H)) => own_cell h (k := r) (by rw [hR.out.lenH]; exact hr9) hv)
        have f6 := h6.out.frozenAt r
        have wr1 : IntKind.i64.wrap (u + x1) = u + x1 := IntWalk.i64_in _ (by omega)
        have hr9' : (r : Int) < 9 := by omega
        have hlt' : (k : Int) < (n : Int) := by omega
        have hst := h6.out.stored r (.int .i64 (u + x1))
        rw [nints_set] at hst
        have H61 := Lib.hid (show (wr.setCell ⟨x, r, none⟩ (.int .i64 (u + x1))).drew.ownsRow w.heap.size 2 1 (.slice (some ⟨x, 0, none⟩) 9 9) 9 (nints (W.set r (u + x1))) from hst.1)
        have h71 := own_grown_ne h7.out hst.2 (fun j hj e => by have h1 : y = j := (by simpa [Value.ownBlock] using hj); have h2 : x = j := (by simpa [Value.ownBlock] using e); omega)
        have H71 := Lib.hid (show (wr.setCell ⟨x, r, none⟩ (.int .i64 (u + x1))).drew.ownsRow w.heap.size 2 1 (.slice (some ⟨y, 0, none⟩) 9 9) 9 (nints H) from h71)
        have HB1 := Lib.hid ((hbw.out.grown hst.2 (fun j hj => (own_block h6.out hj).1)).drew)
        have HJ := Lib.hid hJ
        clear hst h71 hcz hcr hr0 hx1 hy1 hu hv hrb hJ
        go_wp2_with fail
        go_still_tail 11, (by kernel_rfl)
        go_upto_region 6 with fail
        generalize (wr.setCell _ _).drew = w5 at H61 H71 HB1 ⊢
        clear cr cx cu f6 wr1
        have cx := HCx.out w5 HB1.out
        have cy := HCy.out w5 HB1.out
        have cv := HCv.out w5 H71.out
        have f7 := H71.out.frozenAt r
        have hst := H71.out.stored r (.int .i64 J)
        rw [nints_set] at hst
        have H72 := Lib.hid (show (w5.setCell ⟨y, r, none⟩ (.int .i64 J)).drew.ownsRow w.heap.size 2 1 (.slice (some ⟨y, 0, none⟩) 9 9) 9 (nints (H.set r J)) from hst.1)
        have h62 := own_grown_ne H61.out hst.2 (fun j hj e => by have h1 : x = j := (by simpa [Value.ownBlock] using hj); have h2 : y = j := (by simpa [Value.ownBlock] using e); omega)
        have H62 := Lib.hid (show (w5.setCell ⟨y, r, none⟩ (.int .i64 J)).drew.ownsRow w.heap.size 2 1 (.slice (some ⟨x, 0, none⟩) 9 9) 9 (nints (W.set r (u + x1))) from h62)
        have HB2 := Lib.hid ((HB1.out.grown hst.2 (fun j hj => (own_block H71.out hj).1)).drew)
        clear hst h62
        by_cases hvy : v < y1
        all_goals
          first
            | (have hmx : J = y1 := by have := HJ.out; omega)
            | (have hmx : J = v := by have := HJ.out; omega)
          subst hmx
          go_still_tail 13, (by kernel_rfl)
          go_wp2_with fail
          go_roundw
          case rel => exact ⟨k + 1, by omega, by go_num, _, _, HStep, H62, H72, HB2⟩
          case measure => simp [intOf]; omega
      · obtain rfl : k = n := by omega
        have hw := hR.out.w
        have hh := hR.out.h
        rw [List.drop_of_length_le (show zs.length ≤ k * 2 by rw [Hl.out]; omega), List.drop_of_length_le (show rs.length ≤ k by rw [Hrl.out]; omega)] at hw hh
        obtain rfl : W = RW := by rw [← HRR.out.1, ← hw]; rfl
        obtain rfl : H = RH := by rw [← HRR.out.2, ← hh]; rfl
        clear hw hh
        go_wp2_with fail
        go_ret2
        exact ⟨x, y, rfl, h6.out, h7.out, hbw.out.1⟩
theorem rowsIn_out {rs : List Int} (h : RowsIn rs) : outB rs 0 8 = false := outB_false.2 h
set_option maxHeartbeats 1600000 in
/-- The code of blocks and rows, at valid blocks and rows in the range. -/
theorem rowsCode_any (w : World) (a : Option Addr) (n c : Nat) (zs : List Int) (roll : Int) (b : Option Addr) (d : Nat) (rs : List Int) (hl : zs.length = n * 2) (ha : CellsAt w a (zs.map (Value.int .i64))) (hb : CellsAt w b (rs.map (Value.int .i64)))
    (hok : blocksB zs roll n = true) (hrl : rs.length = n) (hin : RowsIn rs) : Calls Try.prog 79 #[.slice a n c, .int .i64 roll, .slice b n d] w fun e w' => e = .returned (.int .i64 0) ∧ Below w.heap.size w w' := by
  have n9 := (blocksB_parts hok).2.1
  have h1 := implBlocksOk a n c zs roll w hl (by omega) ha
  rw [hok] at h1
  have H1 := Lib.hid h1
  have H2 := Lib.hid (fun W (e : Below w.heap.size w W) => outside_any b n d rs 0 8 W hrl (by omega) (hb.below e))
  have HO := Lib.hid (rowsIn_out hin)
  clear hl ha hb hok hrl hin h1
  go_enter Try.func79, Try.ntmps79
  go_wp2_with fail
  refine H1.out.mono ?_
  rintro e w1 ⟨rfl, hb1⟩
  have HB1 := Lib.hid hb1
  clear hb1
  go_wp2_with fail
  refine (H2.out w1 HB1.out).mono ?_
  rw [HO.out]
  rintro e w2 ⟨rfl, hb2⟩
  have HB2 := Lib.hid (HB1.out.trans (hb2.mono HB1.out.size))
  clear hb2
  go_wp2_with fail
  go_ret
  exact ⟨rfl, HB2.out⟩
theorem faultClosure (x roll : Int) (q : Addr) (w : World) (hq : w.cell? q = some (.int .i64 roll)) (hl : q.block < w.heap.size) : Calls Try.prog 81 (#[.int .i64 x] ++ #[.pointer (some q)]) w fun e w' => e = .returned (.bool (decide (roll < x))) ∧ Below w.heap.size w w' := by
  obtain ⟨b, o, t⟩ := q
  go_enter Try.func81, Try.ntmps81
  go_wp2
  go_ret
  exact ⟨rfl, (by repeat (first | exact Below.refl _ _ | assumption | refine Below.drew ?_ | refine below_drewN ?_ _ | refine Below.alloc ?_ (by simp; try omega) _ | refine Below.setCell ?_ (by simp; try omega) _))⟩
theorem fine_none {W : List Int} {roll : Int} (h : ∀ j, W.getD j 0 ≤ roll) : idxI (fun x => decide (roll < x)) W = -1 := by
  refine idxI_none (fun z hz => ?_)
  obtain ⟨j, hj, rfl⟩ := List.getElem_of_mem hz
  have := h j
  simp [List.getElem?_eq_getElem hj] at this
  simpa using this
set_option maxHeartbeats 3200000 in
theorem rowsFault_any (w : World) (a : Option Addr) (n c : Nat) (zs : List Int) (roll : Int) (b : Option Addr) (d : Nat) (rs : List Int) (hl : zs.length = n * 2) (ha : CellsAt w a (zs.map (Value.int .i64))) (hb : CellsAt w b (rs.map (Value.int .i64)))
    (hok : blocksB zs roll n = true) (hf : Fine zs roll n rs) : Calls Try.prog 46 #[.slice a n c, .int .i64 roll, .slice b n d] w fun e w' => e = .returned (.tuple #[.int .i64 (-1), .int .i64 0]) ∧ Below w.heap.size w w' := by
  obtain ⟨f1, f2, f3⟩ := hf
  obtain ⟨⟨r0, r1⟩, n9, hall⟩ := blocksB_parts hok
  have hz := blocks_between hl r1 hall
  have hl9 : (rowsW zs rs (List.replicate 9 0)).length = 9 := by rw [rowsW_len]; simp
  have eg : ∀ args w, (callFunc 81 args).run Try.prog w = .ok (.enter 81 args) w := enters_of Try.func81 (by kernel_rfl) rfl
  have hnone := fine_none f3
  have H1 := Lib.hid (fun W (e : Below w.heap.size w W) => rowsCode_any W a n c zs roll b d rs hl (ha.below e) (hb.below e) hok f1 f2)
  have H2 := Lib.hid (fun W (e : Below w.heap.size w W) => rowsOf_any W a n c zs b d rs hl f1 n9 (ha.below e) (hb.below e) f2 hz)
  have hB0 : Below w.heap.size w (w.alloc (.cells #[.int .i64 roll] 2)) := (Below.refl _ _).alloc (Nat.le_refl _) _
  obtain ⟨RW, hRW⟩ : ∃ q, rowsW zs rs (List.replicate 9 0) = q := ⟨_, rfl⟩
  rw [hRW] at H2 hnone hl9
  have H3 := Lib.hid (fun (W : World) (g : Nat) (hc : CellsAt W (some ⟨g, 0, none⟩) (RW.map (Value.int .i64))) (hq : W.cell? ⟨w.heap.size, 0, none⟩ = some (.int .i64 roll)) (hlt : w.heap.size < W.heap.size) =>
    indexFunc_any (some ⟨g, 0, none⟩) 9 9 RW (fun x => decide (roll < x)) 81 #[.pointer (some ⟨w.heap.size, 0, none⟩)] W eg hl9 (by omega) hc
      (fun z W' hbb _ => faultClosure z roll ⟨w.heap.size, 0, none⟩ W' (by rw [hbb.cell (p := ⟨w.heap.size, 0, none⟩) hlt]; exact hq) (Nat.lt_of_lt_of_le hlt hbb.size)))
  rw [hnone] at H3
  obtain ⟨w0, hw0⟩ : ∃ q, w.alloc (.cells #[.int .i64 roll] 2) = q := ⟨_, rfl⟩
  have c0 : w0.cell? ⟨w.heap.size, 0, none⟩ = some (.int .i64 roll) := by rw [← hw0]; simp
  have s0 : w.heap.size < w0.heap.size := by rw [← hw0]; simp
  rw [hw0] at hB0
  have HB0 := Lib.hid hB0
  have HW0 := Lib.hid hw0
  clear hl ha hb hok f1 f2 f3 hz hall eg hnone hRW hl9 hB0 hw0
  go_enter Try.func46, Try.ntmps46
  go_wp2_with fail
  rw [HW0.out]
  refine (H1.out w0 HB0.out).mono ?_
  rintro e w1 ⟨rfl, hb1⟩
  have c1 := (hb1.cell (p := ⟨w.heap.size, 0, none⟩) s0).trans c0
  have s1 := Nat.lt_of_lt_of_le s0 hb1.size
  have HB1 := Lib.hid (HB0.out.trans (hb1.mono HB0.out.size))
  clear hb1 c0 s0
  go_wp2_with fail
  refine (H2.out w1 HB1.out).mono ?_
  rintro e w2 ⟨g1, g2, rfl, ho1, _, hb2⟩
  have c2 := (hb2.cell (p := ⟨w.heap.size, 0, none⟩) s1).trans c1
  have s2 := Nat.lt_of_lt_of_le s1 hb2.size
  have HB2 := Lib.hid (HB1.out.trans (hb2.mono HB1.out.size))
  have HO := Lib.hid (CellsAt.of_own ho1)
  clear hb2 c1 s1 ho1
  go_wp2_with fail
  refine (H3.out w2 g1 HO.out c2 s2).mono ?_
  rintro e w3 ⟨rfl, hb3⟩
  have HB3 := Lib.hid (HB2.out.trans (hb3.mono HB2.out.size))
  clear hb3
  go_wp2_with fail
  go_ret2
  exact ⟨rfl, HB3.out⟩
theorem heights_bd (n : Nat) : ∀ (zs rs H : List Int), zs.length = n * 2 → H.length = 9 → RowsIn rs → Between zs 5000 → Between H 5000 → Between (rowsH zs rs H) 5000 := by
  induction n with
  | zero =>
    intro zs rs H hl _ _ _ h
    rw [List.eq_nil_of_length_eq_zero (by omega : zs.length = 0)]
    simpa [rowsH] using h
  | succ n ih =>
    intro zs rs H hl h9 hr hz h
    obtain ⟨bw, bh, bs, rfl⟩ := two_of hl
    cases rs with
    | nil => simpa [rowsH] using h
    | cons r rs =>
      have hr0 := hr r (by simp)
      have hb := hz 1
      simp at hb
      simp only [rowsH]
      refine ih bs rs _ (by simp at hl; omega) (by simp [h9]) (fun x hx => hr x (by simp [hx])) (fun j => by have := hz (j + 2); simpa using this) (fun j => ?_)
      rw [getD_set H _ _ _ (by omega)]
      have h1 := h r.toNat
      have h2 := h j
      split <;> omega
theorem mem_getD {zs : List Int} {x : Int} (h : x ∈ zs) : ∃ j, zs.getD j 0 = x := by
  obtain ⟨j, hj, rfl⟩ := List.getElem_of_mem h
  exact ⟨j, by simp [List.getElem?_eq_getElem hj]⟩
set_option maxHeartbeats 3200000 in
theorem heightOfRows_any (w : World) (a : Option Addr) (n c : Nat) (zs : List Int) (roll : Int) (b : Option Addr) (d : Nat) (rs : List Int) (hl : zs.length = n * 2) (ha : CellsAt w a (zs.map (Value.int .i64))) (hb : CellsAt w b (rs.map (Value.int .i64)))
    (hok : blocksB zs roll n = true) (hf : Fine zs roll n rs) : Calls Try.prog 47 #[.slice a n c, .int .i64 roll, .slice b n d] w fun e w' => e = .returned (.tuple #[.int .i64 (heightOf zs rs), .int .i64 0]) ∧ Below w.heap.size w w' := by
  obtain ⟨⟨r0, r1⟩, n9, hall⟩ := blocksB_parts hok
  have hz := blocks_between hl r1 hall
  have H1 := Lib.hid (rowsFault_any w a n c zs roll b d rs hl ha hb hok hf)
  have H2 := Lib.hid (fun W (e : Below w.heap.size w W) => rowsOf_any W a n c zs b d rs hl hf.1 n9 (ha.below e) (hb.below e) hf.2.1 hz)
  have hbd := heights_bd n zs rs (List.replicate 9 0) hl (by simp) hf.2.1 hz (fun j => by rw [getD_zeros]; omega)
  have H3 := Lib.hid (fun W g (hc : CellsAt W (some ⟨g, 0, none⟩) ((rowsH zs rs (List.replicate 9 0)).map (Value.int .i64))) => sumOf_any W (some ⟨g, 0, none⟩) 9 9 (rowsH zs rs (List.replicate 9 0)) (by rw [rowsH_len]; simp) (by omega) (fun z hz => by
    obtain ⟨j, rfl⟩ := mem_getD hz
    have := hbd j
    omega) hc)
  rw [show hsum (rowsH zs rs (List.replicate 9 0)) = heightOf zs rs from rfl] at H3
  generalize heightOf zs rs = S at H3 ⊢
  clear hl ha hb hok hf hz hall hbd
  go_enter Try.func47, Try.ntmps47
  go_wp2_with fail
  refine H1.out.mono ?_
  rintro e w1 ⟨rfl, hb1⟩
  have HB1 := Lib.hid hb1
  clear hb1
  go_wp2_with fail
  refine (H2.out w1 HB1.out).mono ?_
  rintro e w2 ⟨g1, g2, rfl, _, ho2, hb2⟩
  have HB2 := Lib.hid (HB1.out.trans (hb2.mono HB1.out.size))
  have HO := Lib.hid (CellsAt.of_own ho2)
  clear hb2 ho2
  go_wp2_with fail
  refine (H3.out w2 g2 HO.out).mono ?_
  rintro e w3 ⟨rfl, hb3⟩
  have HB3 := Lib.hid (HB2.out.trans (hb3.mono HB2.out.size))
  clear hb3
  go_wp2_with fail
  go_ret2
  exact ⟨rfl, HB3.out⟩
end Go.Proofs.Ytoomkeicfdmdoaa
