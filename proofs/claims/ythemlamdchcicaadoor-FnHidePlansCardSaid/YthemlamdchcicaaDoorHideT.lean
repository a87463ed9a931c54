/-
  Contracts on plans of the reference: meetings, a piece that is wrong. No condition of its own.
-/
import Derived.Test.YthemlamdchcicaaDoorHideS
namespace Go.Proofs.YthemlamdchcicaaDoor
open Go.ChangeShapes Go.WideShapes Go.ChangeAt Go.RowKit Go.Deep

set_option maxRecDepth 100000 in
set_option maxHeartbeats 1600000 in
theorem l10Meet_any (m : Nat) (a : Cut) (f : Nat) (b : Cut) (g : Nat) (w : World) (hm : 1 ≤ m) (hm6 : m ≤ 6) (hf : f ≤ 36) (hg : g ≤ 36) (ha : CutOk a) (hb : CutOk b) :
    Calls Tryd.prog 59 #[.int .i64 (m : Int), cutV a, .int .i64 (f : Int), cutV b, .int .i64 (g : Int)] w fun e w' => e = .returned (.bool (meetB m a f b g)) ∧ Below w.heap.size w w' := by
  obtain ⟨y, hy⟩ : ∃ y, f / m = y := ⟨_, rfl⟩
  obtain ⟨x, hx⟩ : ∃ x, f % m = x := ⟨_, rfl⟩
  obtain ⟨v, hv⟩ : ∃ v, g / m = v := ⟨_, rfl⟩
  obtain ⟨u, hu⟩ : ∃ u, g % m = u := ⟨_, rfl⟩
  have e1 : (f : Int) / (m : Int) = (y : Int) := by rw [← hy]; rfl
  have e2 : (f : Int) % (m : Int) = (x : Int) := by rw [← hx]; rfl
  have e3 : (g : Int) / (m : Int) = (v : Int) := by rw [← hv]; rfl
  have e4 : (g : Int) % (m : Int) = (u : Int) := by rw [← hu]; rfl
  have b1 : y ≤ 36 := by rw [← hy]; exact Nat.le_trans (Nat.div_le_self _ _) hf
  have b2 : x < m := by rw [← hx]; exact Nat.mod_lt _ hm
  have b3 : v ≤ 36 := by rw [← hv]; exact Nat.le_trans (Nat.div_le_self _ _) hg
  have b4 : u < m := by rw [← hu]; exact Nat.mod_lt _ hm
  have hr : meetB m a f b g = decide (x < u + b.w ∧ u < x + a.w ∧ y < v + b.h ∧ v < y + a.h) := by unfold meetB; rw [hx, hy, hv, hu]
  obtain ⟨⟨aw1, aw6⟩, ⟨ah1, ah6⟩, _⟩ := ha
  obtain ⟨⟨bw1, bw6⟩, ⟨bh1, bh6⟩, _⟩ := hb
  obtain ⟨r, hr'⟩ : ∃ r, meetB m a f b g = r := ⟨_, rfl⟩
  rw [hr']
  have HR := Lib.hid (hr'.symm.trans hr)
  clear hr hr' hy hx hv hu
  by_cases g1 : x < u + b.w
  · by_cases g2 : u < x + a.w
    · by_cases g3 : y < v + b.h
      · by_cases g4 : v < y + a.h
        · obtain rfl : r = true := by rw [HR.out]; exact decide_eq_true ⟨g1, g2, g3, g4⟩
          go_enter Tryd.func59, Tryd.ntmps59
          go_wp2_with fail
          go_ret
          exact ⟨ret_bool (by simp <;> omega), (by repeat (first | exact Below.refl _ _ | assumption | refine Below.drew ?_ | refine below_drewN ?_ _ | refine Below.alloc ?_ (by simp; try omega) _ | refine Below.setCell ?_ (by simp; try omega) _))⟩
        · obtain rfl : r = false := by rw [HR.out]; exact decide_eq_false (fun h => g4 h.2.2.2)
          go_enter Tryd.func59, Tryd.ntmps59
          go_wp2_with fail
          go_ret
          exact ⟨ret_bool (by simp <;> omega), (by repeat (first | exact Below.refl _ _ | assumption | refine Below.drew ?_ | refine below_drewN ?_ _ | refine Below.alloc ?_ (by simp; try omega) _ | refine Below.setCell ?_ (by simp; try omega) _))⟩
      · obtain rfl : r = false := by rw [HR.out]; exact decide_eq_false (fun h => g3 h.2.2.1)
        go_enter Tryd.func59, Tryd.ntmps59
        go_wp2_with fail
        go_ret
        exact ⟨ret_bool (by simp <;> omega), (by repeat (first | exact Below.refl _ _ | assumption | refine Below.drew ?_ | refine below_drewN ?_ _ | refine Below.alloc ?_ (by simp; try omega) _ | refine Below.setCell ?_ (by simp; try omega) _))⟩
    · obtain rfl : r = false := by rw [HR.out]; exact decide_eq_false (fun h => g2 h.2.1)
      go_enter Tryd.func59, Tryd.ntmps59
      go_wp2_with fail
      go_ret
      exact ⟨ret_bool (by simp <;> omega), (by repeat (first | exact Below.refl _ _ | assumption | refine Below.drew ?_ | refine below_drewN ?_ _ | refine Below.alloc ?_ (by simp; try omega) _ | refine Below.setCell ?_ (by simp; try omega) _))⟩
  · obtain rfl : r = false := by rw [HR.out]; exact decide_eq_false (fun h => g1 h.1)
    go_enter Tryd.func59, Tryd.ntmps59
    go_wp2_with fail
    go_ret
    exact ⟨ret_bool (by simp <;> omega), (by repeat (first | exact Below.refl _ _ | assumption | refine Below.drew ?_ | refine below_drewN ?_ _ | refine Below.alloc ?_ (by simp; try omega) _ | refine Below.setCell ?_ (by simp; try omega) _))⟩
/-- The pieces ahead of i with their places. -/
def doneL (zs ps : List Int) (i : Nat) : List (Cut × Int) := (List.range i).map fun k => (cutAt zs k, ps.getD k 0)
theorem doneL_succ (zs ps : List Int) (i : Nat) : doneL zs ps (i + 1) = doneL zs ps i ++ [(cutAt zs i, ps.getD i 0)] := by
  simp [doneL, List.range_succ]
theorem free_bad {m : Nat} {zs ps : List Int} {i k f : Nat} {c : Cut} (hk : k < i) (h0 : 0 ≤ ps.getD k 0) (h : meetB m c f (cutAt zs k) (ps.getD k 0).toNat = true) : freeB m (doneL zs ps i) c f = false := by
  cases e : freeB m (doneL zs ps i) c f with
  | false => rfl
  | true =>
    simp only [freeB, List.all_eq_true, Bool.or_eq_true, decide_eq_true_eq, Bool.not_eq_true'] at e
    rcases e (cutAt zs k, ps.getD k 0) (List.mem_map.2 ⟨k, List.mem_range.2 hk, rfl⟩) with e | e
    · simp only at e; omega
    · simp only at e; rw [h] at e; cases e
theorem free_all {m : Nat} {zs ps : List Int} {i f : Nat} {c : Cut} (h : ∀ k, k < i → ps.getD k 0 < 0 ∨ meetB m c f (cutAt zs k) (ps.getD k 0).toNat = false) : freeB m (doneL zs ps i) c f = true := by
  simp only [freeB, List.all_eq_true, Bool.or_eq_true, decide_eq_true_eq, Bool.not_eq_true']
  intro d hd
  obtain ⟨k, hk, rfl⟩ := List.mem_map.1 hd
  exact h k (List.mem_range.1 hk)
theorem cut_cells {w W : World} {b o n k : Nat} {zs : List Int} (hb : b < w.heap.size) (hbw : Below w.heap.size w W) (hc : ∀ i, i < (zs.map (Value.int .i64)).length → w.cell? ⟨b, o + i, none⟩ = (zs.map (Value.int .i64))[i]?) (hz : zs.length = n * 4) (hk : k < n)
    (h0 : zs.getD (k * 4) 0 = ((cutAt zs k).w : Int)) (h1 : zs.getD (k * 4 + 1) 0 = ((cutAt zs k).h : Int)) :
    W.cell? ⟨b, o + k * 4, none⟩ = some (.int .i64 ((cutAt zs k).w : Int)) ∧ W.cell? ⟨b, o + k * 4 + 1, none⟩ = some (.int .i64 ((cutAt zs k).h : Int)) ∧ W.cell? ⟨b, o + k * 4 + 2, none⟩ = some (.int .i64 (cutAt zs k).q) ∧ W.cell? ⟨b, o + k * 4 + 3, none⟩ = some (.int .i64 (cutAt zs k).v) := by
  have hat : ∀ j, j < n * 4 → W.cell? ⟨b, o + j, none⟩ = some (.int .i64 (zs.getD j 0)) := fun j hj => by
    rw [(hbw.cell (p := ⟨b, o + j, none⟩) hb).trans (hc j (by simp; omega))]
    simp [List.getElem?_eq_getElem (show j < zs.length by omega)]
  refine ⟨?_, ?_, ?_, ?_⟩
  · rw [hat (k * 4) (by omega), h0]
  · rw [Nat.add_assoc, hat (k * 4 + 1) (by omega), h1]
  · rw [Nat.add_assoc, hat (k * 4 + 2) (by omega)]; rfl
  · rw [Nat.add_assoc, hat (k * 4 + 3) (by omega)]; rfl
theorem int_cell {w W : World} {b o k : Nat} {zs : List Int} {u : Int} (hb : b < w.heap.size) (hbw : Below w.heap.size w W) (hc : ∀ i, i < (zs.map (Value.int .i64)).length → w.cell? ⟨b, o + i, none⟩ = (zs.map (Value.int .i64))[i]?) (hk : k < zs.length) (hu : zs.getD k 0 = u) :
    W.cell? ⟨b, o + k, none⟩ = some (.int .i64 u) := by
  rw [(hbw.cell (p := ⟨b, o + k, none⟩) hb).trans (hc k (by simpa using hk)), ← hu]
  simp [List.getElem?_eq_getElem hk]
set_option maxRecDepth 100000 in
set_option maxHeartbeats 3200000 in
theorem l10Wrong_any (a al ap : Option Addr) (rows : List ByteArray) (n m ca nl cl np cp : Nat) (zs ps : List Int) (i : Nat) (w : World) (hok : HideOk rows n m) (hc : CellsAt w a (strs rows)) (hzl : zs.length = nl * 4) (hcl : CellsAt w al (zs.map (Value.int .i64))) (hcuts : cutsB zs nl = true)
    (hpl : ps.length = np) (hcp : CellsAt w ap (ps.map (Value.int .i64))) (hin : i < nl) (hip : i < np) (hps : ∀ k, k ≤ i → ps.getD k 0 < ((n * m : Nat) : Int)) :
    Calls Tryd.prog 36 #[.slice a n ca, .slice al nl cl, .slice ap np cp, .int .i64 (i : Int)] w fun e w' => e = .returned (.bool (!okB rows n m (doneL zs ps i) (cutAt zs i, ps.getD i 0))) ∧ Below w.heap.size w w' := by
  have hnm : n * m ≤ 36 := Nat.mul_le_mul hok.n6 hok.m6
  have hn4 := cutsB_n hcuts
  obtain ⟨f, hf⟩ : ∃ f, ps.getD i 0 = f := ⟨_, rfl⟩
  obtain ⟨r, hr⟩ : ∃ r, (!okB rows n m (doneL zs ps i) (cutAt zs i, f)) = r := ⟨_, rfl⟩
  obtain ⟨bP, oP, rfl, hbP, hcP⟩ := hcp.at_ (by simp; omega)
  obtain ⟨bL, oL, rfl, hbL, hcL⟩ := hcl.at_ (by simp; omega)
  obtain ⟨bR, oR, rfl, hbR, hcR⟩ := hc.at_ (by rw [strs_len, hok.len]; have := hok.n1; omega)
  obtain ⟨r0, hr0, _, hs0, _⟩ := hide_row hok (y := 0) (by have := hok.n1; omega)
  have hn0 := hok.n1
  have hm0 := hok.m1
  have hm6 := hok.m6
  have hfi := hps i (Nat.le_refl _)
  rw [hf] at hfi
  rw [hf, hr]
  have cP := int_cell hbP (Below.refl _ _) hcP (by omega) hf
  have hin' : (i : Int) < (nl : Int) := by omega
  have hip' : (i : Int) < (np : Int) := by omega
  by_cases hneg : f < 0
  · obtain rfl : r = false := by rw [← hr]; simp [okB, hneg]
    clear hr hok hc hcR hr0 hcuts hcL hcl hcp hcP hps hzl hpl hf
    go_enter Tryd.func36, Tryd.ntmps36
    go_wp2_with fail
    go_ret
    exact ⟨rfl, Below.refl _ _⟩
  · obtain ⟨F, hF⟩ : ∃ F : Nat, f = (F : Int) := ⟨f.toNat, by omega⟩
    subst hF
    obtain ⟨_, hcok, e0, e1⟩ := cutsB_at hcuts hin
    obtain ⟨x0, x1, x2, x3⟩ := cut_cells hbL (Below.refl _ w) hcL hzl hin e0 e1
    have HFit := Lib.hid (l10Fits_any (some ⟨bR, oR, none⟩) rows n m ca (cutAt zs i) F w.drew hok hc hcok (by omega))
    have hr' : r = (!(fitsB rows n m (cutAt zs i) F && freeB m (doneL zs ps i) (cutAt zs i) F)) := by
      rw [← hr]
      have h1 : (F : Int).toNat = F := by omega
      unfold okB
      rw [decide_eq_false hneg]
      simp only [h1, Bool.false_or]
      rw [decide_eq_true (show F < n * m by omega), Bool.true_and]
    obtain ⟨c, hcc⟩ : ∃ c, cutAt zs i = c := ⟨_, rfl⟩
    rw [hcc] at x0 x1 x2 x3 HFit hr'
    have HR := Lib.hid hr'
    have HC := Lib.hid hcuts
    have HL := Lib.hid hcL
    have HP := Lib.hid hcP
    have HZ := Lib.hid hzl
    have HPl := Lib.hid hpl
    have HPs := Lib.hid hps
    have HF0 := Lib.hid hf
    have Hcc := Lib.hid hcc
    have HOk := Lib.hid hok
    have HRw := Lib.hid hcR
    have HR0 := Lib.hid hr0
    clear hcR hr0
    clear hr hr' hcuts hcL hcP hps hzl hpl hf hcc hcl hcp hc hok e0 e1
    cases hfit : fitsB rows n m c F with
    | false =>
      obtain rfl : r = true := by rw [HR.out, hfit]; rfl
      rw [hfit] at HFit
      clear hfit
      go_enter Tryd.func36, Tryd.ntmps36
      go_wp2_with fail
      go_still_tail 9, (by kernel_rfl)
      go_wp2_with fail
      refine HFit.out.mono ?_
      rintro e w1 ⟨rfl, hb1⟩
      have HB1 := Lib.hid ((Bel.refl w).drew.step hb1)
      clear hb1
      go_wp2_with fail
      go_ret
      exact ⟨rfl, HB1.out.1⟩
    | true =>
      rw [hfit] at HFit HR
      clear hfit
      go_enter Tryd.func36, Tryd.ntmps36
      go_wp2_with fail
      go_still_tail 9, (by kernel_rfl)
      go_wp2_with fail
      refine HFit.out.mono ?_
      rintro e w1 ⟨rfl, hb1⟩
      have HB1 := Lib.hid ((Bel.refl w).drew.step hb1)
      have Hsz := Lib.hid (Nat.lt_of_lt_of_le hbP HB1.out.2)
      clear hb1 x0 x1 x2 x3 cP
      go_wp2_with fail
      go_loopw [9] (fun u wr => ∃ k : Nat, k ≤ i ∧ u = .int .i64 (k : Int) ∧ Hid (∀ j, j < k → ps.getD j 0 < 0 ∨ meetB m c F (cutAt zs j) (ps.getD j 0).toNat = false) ∧ Hid (Bel w.heap.size w wr)) (fun u _ => i - (intOf u).toNat)
      case atStart => exact ⟨0, Nat.zero_le _, rfl, Lib.hid (fun j h => absurd h (Nat.not_lt_zero _)), HB1⟩
      case round =>
        obtain ⟨k, hk, rfl, hno, hbw⟩ := hrel
        have hp1 : bP < wr.heap.size := Nat.lt_of_lt_of_le hbP hbw.out.2
        have hp2 : bL < wr.heap.size := Nat.lt_of_lt_of_le hbL hbw.out.2
        by_cases hlt : k < i
        · have hlt' : (k : Int) < (i : Int) := by omega
          have hkp' : (k : Int) < (np : Int) := by omega
          have hn0' : 0 < n := by omega
          have hkl' : (k : Int) < (nl : Int) := by omega
          obtain ⟨g, hg⟩ : ∃ g, ps.getD k 0 = g := ⟨_, rfl⟩
          have hgk := HPs.out k (by omega)
          rw [hg] at hgk
          have ck := int_cell hbP hbw.out.1 HP.out (by have := HPl.out; omega) hg
          have Hg := Lib.hid hg
          clear hg
          by_cases hgn : g < 0
          · have hgd : decide (0 ≤ g) = false := decide_eq_false (by omega)
            have HN := Lib.hid (show ∀ j, j < k + 1 → ps.getD j 0 < 0 ∨ meetB m c F (cutAt zs j) (ps.getD j 0).toNat = false from fun j hj => by
              by_cases e : j = k
              · subst e; exact .inl (by rw [Hg.out]; exact hgn)
              · exact hno.out j (by omega))
            go_wp2_with fail
            go_big_quiet (fail)
            go_wp2_with fail
            go_roundw
            case rel => exact ⟨k + 1, by omega, by go_num, HN, Lib.hid (hbw.out.drewN _)⟩
            case measure => simp [intOf]; omega
          · obtain ⟨G, hG⟩ : ∃ G : Nat, g = (G : Int) := ⟨g.toNat, by omega⟩
            subst hG
            have hgd : decide (0 ≤ (G : Int)) = true := decide_eq_true (by omega)
            have ci := int_cell hbP hbw.out.1 HP.out (k := i) (u := (F : Int)) (by have := HPl.out; omega) HF0.out
            obtain ⟨_, hdok, e0, e1⟩ := cutsB_at HC.out (show k < nl by omega)
            obtain ⟨_, _, e2, e3⟩ := cutsB_at HC.out hin
            obtain ⟨z0, z1, z2, z3⟩ := cut_cells hbL hbw.out.1 HL.out HZ.out (show k < nl by omega) e0 e1
            obtain ⟨x0, x1, x2, x3⟩ := cut_cells hbL hbw.out.1 HL.out HZ.out hin e2 e3
            rw [Hcc.out] at x0 x1 x2 x3
            obtain ⟨d, hd⟩ : ∃ d, cutAt zs k = d := ⟨_, rfl⟩
            rw [hd] at z0 z1 z2 z3 hdok
            have hr0 := str_cell hbR hbw.out.1 HRw.out HR0.out
            rw [Nat.add_zero] at hr0
            have hp3 : bR < wr.heap.size := Nat.lt_of_lt_of_le hbR hbw.out.2
            have HMt := Lib.hid (l10Meet_any m c F d G wr.drew hm0 hm6 (by omega) (by omega) (by rw [← Hcc.out]; exact hcok) hdok)
            have Hd := Lib.hid hd
            clear hd e0 e1 e2 e3 hdok
            cases hmt : meetB m c F d G with
            | true =>
              rw [hmt] at HMt
              obtain rfl : r = true := by
                rw [HR.out, free_bad hlt (by rw [Hg.out]; omega) (by rw [Hd.out, Hg.out]; exact hmt)]
                rfl
              clear hmt
              go_wp2_with fail
              go_still_tail 26, (by kernel_rfl)
              go_wp2_with fail
              refine HMt.out.mono ?_
              rintro e w2 ⟨rfl, hb2⟩
              have HB2 := Lib.hid (hbw.out.drew.step hb2)
              clear hb2
              go_wp2_with fail
              go_ret
              exact ⟨rfl, HB2.out.1⟩
            | false =>
              rw [hmt] at HMt
              have HN := Lib.hid (show ∀ j, j < k + 1 → ps.getD j 0 < 0 ∨ meetB m c F (cutAt zs j) (ps.getD j 0).toNat = false from fun j hj => by
                by_cases e : j = k
                · subst e; right; rw [Hd.out, Hg.out]; exact hmt
                · exact hno.out j (by omega))
              clear hmt
              go_wp2_with fail
              go_still_tail 26, (by kernel_rfl)
              go_wp2_with fail
              refine HMt.out.mono ?_
              rintro e w2 ⟨rfl, hb2⟩
              have HB2 := Lib.hid (hbw.out.drew.step hb2)
              clear hb2
              go_wp2_with fail
              go_roundw
              case rel => exact ⟨k + 1, by omega, by go_num, HN, HB2⟩
              case measure => simp [intOf]; omega
        · obtain rfl : r = false := by
            obtain rfl : k = i := by omega
            rw [HR.out, free_all hno.out]
            rfl
          go_wp2_with fail
          go_ret
          exact ⟨rfl, hbw.out.1⟩
end Go.Proofs.YthemlamdchcicaaDoor
