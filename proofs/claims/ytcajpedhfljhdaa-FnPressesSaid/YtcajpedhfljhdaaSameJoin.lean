/-
  Contracts of SameJoins, both sides. No condition of its own.
-/
import Derived.Test.YtcajpedhfljhdaaJoin
import Derived.BigQuiet
import Derived.WalkLawsBesides
namespace Go.Proofs.Ytcajpedhfljhdaa
open Go.ChangeShapes Go.WideShapes Go.ChangeAt Go.RowKit Go.Deep

set_option maxRecDepth 100000 in
set_option maxHeartbeats 1600000 in
theorem specJoinSame (a b : Option Addr) (n q c d : Nat) (zs ys : List Int) (w : World) (hz : zs.length = n * 4) (hy : ys.length = q * 4) (hn : n ≤ 1073741824) (hq : q ≤ 1073741824) (ha : CellsAt w a (zs.map (Value.int .i64))) (hb : CellsAt w b (ys.map (Value.int .i64))) :
    Calls Try.prog 23 #[.slice a n c, .slice b q d] w fun e w' => e = .returned (.bool (decide (zs = ys))) ∧ Below w.heap.size w w' := by
  obtain ⟨r, hr⟩ : ∃ r, r = decide (zs = ys) := ⟨_, rfl⟩
  rw [← hr]
  have HR := Lib.hid hr
  clear hr
  by_cases hnq : n = q
  · subst hnq
    by_cases h0 : n = 0
    · subst h0
      have e1 : zs = [] := List.eq_nil_of_length_eq_zero (by simpa using hz)
      have e2 : ys = [] := List.eq_nil_of_length_eq_zero (by simpa using hy)
      subst e1
      subst e2
      have hr : r = true := by rw [HR.out]; rfl
      subst hr
      clear hz hy ha hb
      go_enter Try.func23, Try.ntmps23
      go_wp2
      refine wp_loop_once ?_
      go_wp2
      go_ret
      exact ⟨rfl, Below.refl _ _⟩
    · obtain ⟨b1, o1, rfl, hb1, hc1⟩ := ha.at_ (by simp; omega)
      obtain ⟨b2, o2, rfl, hb2, hc2⟩ := hb.at_ (by simp; omega)
      have Hz := Lib.hid hz
      have Hy := Lib.hid hy
      have H1 := Lib.hid hc1
      have H2 := Lib.hid hc2
      clear hz hy hc1 hc2 ha hb
      have hnn : ((n : Int) != (n : Int)) = false := by simp
      go_enter Try.func23, Try.ntmps23
      go_wp2
      go_loopw [5] (fun i wr => ∃ k : Nat, k ≤ n ∧ i = .int .i64 k ∧ Hid (∀ j, j < k * 4 → zs[j]? = ys[j]?) ∧ Below w.heap.size w wr) (fun i _ => n - (intOf i).toNat)
      case atStart => exact ⟨0, Nat.zero_le _, rfl, Lib.hid (fun j hj => absurd hj (by omega)), Below.refl _ _⟩
      case round =>
        obtain ⟨k, hk, rfl, hsame, hbw⟩ := hrel
        by_cases hlt : k < n
        · have hkz : k * 4 + 4 ≤ zs.length := by rw [Hz.out]; omega
          have hky : k * 4 + 4 ≤ ys.length := by rw [Hy.out]; omega
          obtain ⟨x0, hx0⟩ : ∃ z, z = zs.getD (k * 4) 0 := ⟨_, rfl⟩
          have hc10 : wr.cell? ⟨b1, o1 + k * 4, none⟩ = some (.int .i64 x0) := by
            have h := (hbw.cell (p := ⟨b1, o1 + (k * 4), none⟩) hb1).trans (H1.out (k * 4) (by simp; omega))
            rw [show o1 + (k * 4) = o1 + k * 4 from by omega] at h
            rw [h, hx0]
            simp [List.getElem?_eq_getElem (show k * 4 < zs.length by omega)]
          have kx0 : zs[k * 4]? = some x0 := by
            rw [hx0]
            simp [List.getElem?_eq_getElem (show k * 4 < zs.length by omega)]
          have Kx0 := Lib.hid kx0
          clear kx0 hx0
          obtain ⟨x1, hx1⟩ : ∃ z, z = zs.getD (k * 4 + 1) 0 := ⟨_, rfl⟩
          have hc11 : wr.cell? ⟨b1, o1 + k * 4 + 1, none⟩ = some (.int .i64 x1) := by
            have h := (hbw.cell (p := ⟨b1, o1 + (k * 4 + 1), none⟩) hb1).trans (H1.out (k * 4 + 1) (by simp; omega))
            rw [show o1 + (k * 4 + 1) = o1 + k * 4 + 1 from by omega] at h
            rw [h, hx1]
            simp [List.getElem?_eq_getElem (show k * 4 + 1 < zs.length by omega)]
          have kx1 : zs[k * 4 + 1]? = some x1 := by
            rw [hx1]
            simp [List.getElem?_eq_getElem (show k * 4 + 1 < zs.length by omega)]
          have Kx1 := Lib.hid kx1
          clear kx1 hx1
          obtain ⟨x2, hx2⟩ : ∃ z, z = zs.getD (k * 4 + 2) 0 := ⟨_, rfl⟩
          have hc12 : wr.cell? ⟨b1, o1 + k * 4 + 2, none⟩ = some (.int .i64 x2) := by
            have h := (hbw.cell (p := ⟨b1, o1 + (k * 4 + 2), none⟩) hb1).trans (H1.out (k * 4 + 2) (by simp; omega))
            rw [show o1 + (k * 4 + 2) = o1 + k * 4 + 2 from by omega] at h
            rw [h, hx2]
            simp [List.getElem?_eq_getElem (show k * 4 + 2 < zs.length by omega)]
          have kx2 : zs[k * 4 + 2]? = some x2 := by
            rw [hx2]
            simp [List.getElem?_eq_getElem (show k * 4 + 2 < zs.length by omega)]
          have Kx2 := Lib.hid kx2
          clear kx2 hx2
          obtain ⟨x3, hx3⟩ : ∃ z, z = zs.getD (k * 4 + 3) 0 := ⟨_, rfl⟩
          have hc13 : wr.cell? ⟨b1, o1 + k * 4 + 3, none⟩ = some (.int .i64 x3) := by
            have h := (hbw.cell (p := ⟨b1, o1 + (k * 4 + 3), none⟩) hb1).trans (H1.out (k * 4 + 3) (by simp; omega))
            rw [show o1 + (k * 4 + 3) = o1 + k * 4 + 3 from by omega] at h
            rw [h, hx3]
            simp [List.getElem?_eq_getElem (show k * 4 + 3 < zs.length by omega)]
          have kx3 : zs[k * 4 + 3]? = some x3 := by
            rw [hx3]
            simp [List.getElem?_eq_getElem (show k * 4 + 3 < zs.length by omega)]
          have Kx3 := Lib.hid kx3
          clear kx3 hx3
          obtain ⟨y0, hy0⟩ : ∃ z, z = ys.getD (k * 4) 0 := ⟨_, rfl⟩
          have hc20 : wr.cell? ⟨b2, o2 + k * 4, none⟩ = some (.int .i64 y0) := by
            have h := (hbw.cell (p := ⟨b2, o2 + (k * 4), none⟩) hb2).trans (H2.out (k * 4) (by simp; omega))
            rw [show o2 + (k * 4) = o2 + k * 4 from by omega] at h
            rw [h, hy0]
            simp [List.getElem?_eq_getElem (show k * 4 < ys.length by omega)]
          have ky0 : ys[k * 4]? = some y0 := by
            rw [hy0]
            simp [List.getElem?_eq_getElem (show k * 4 < ys.length by omega)]
          have Ky0 := Lib.hid ky0
          clear ky0 hy0
          obtain ⟨y1, hy1⟩ : ∃ z, z = ys.getD (k * 4 + 1) 0 := ⟨_, rfl⟩
          have hc21 : wr.cell? ⟨b2, o2 + k * 4 + 1, none⟩ = some (.int .i64 y1) := by
            have h := (hbw.cell (p := ⟨b2, o2 + (k * 4 + 1), none⟩) hb2).trans (H2.out (k * 4 + 1) (by simp; omega))
            rw [show o2 + (k * 4 + 1) = o2 + k * 4 + 1 from by omega] at h
            rw [h, hy1]
            simp [List.getElem?_eq_getElem (show k * 4 + 1 < ys.length by omega)]
          have ky1 : ys[k * 4 + 1]? = some y1 := by
            rw [hy1]
            simp [List.getElem?_eq_getElem (show k * 4 + 1 < ys.length by omega)]
          have Ky1 := Lib.hid ky1
          clear ky1 hy1
          obtain ⟨y2, hy2⟩ : ∃ z, z = ys.getD (k * 4 + 2) 0 := ⟨_, rfl⟩
          have hc22 : wr.cell? ⟨b2, o2 + k * 4 + 2, none⟩ = some (.int .i64 y2) := by
            have h := (hbw.cell (p := ⟨b2, o2 + (k * 4 + 2), none⟩) hb2).trans (H2.out (k * 4 + 2) (by simp; omega))
            rw [show o2 + (k * 4 + 2) = o2 + k * 4 + 2 from by omega] at h
            rw [h, hy2]
            simp [List.getElem?_eq_getElem (show k * 4 + 2 < ys.length by omega)]
          have ky2 : ys[k * 4 + 2]? = some y2 := by
            rw [hy2]
            simp [List.getElem?_eq_getElem (show k * 4 + 2 < ys.length by omega)]
          have Ky2 := Lib.hid ky2
          clear ky2 hy2
          obtain ⟨y3, hy3⟩ : ∃ z, z = ys.getD (k * 4 + 3) 0 := ⟨_, rfl⟩
          have hc23 : wr.cell? ⟨b2, o2 + k * 4 + 3, none⟩ = some (.int .i64 y3) := by
            have h := (hbw.cell (p := ⟨b2, o2 + (k * 4 + 3), none⟩) hb2).trans (H2.out (k * 4 + 3) (by simp; omega))
            rw [show o2 + (k * 4 + 3) = o2 + k * 4 + 3 from by omega] at h
            rw [h, hy3]
            simp [List.getElem?_eq_getElem (show k * 4 + 3 < ys.length by omega)]
          have ky3 : ys[k * 4 + 3]? = some y3 := by
            rw [hy3]
            simp [List.getElem?_eq_getElem (show k * 4 + 3 < ys.length by omega)]
          have Ky3 := Lib.hid ky3
          clear ky3 hy3
          have hb' : Bel w.heap.size w wr := Bel.of hbw
          have Hb := Lib.hid hb'
          clear hbw hb'
          have hlt' : (k : Int) < (n : Int) := by omega
          by_cases he : x0 = y0 ∧ x1 = y1 ∧ x2 = y2 ∧ x3 = y3
          · obtain ⟨rfl, rfl, rfl, rfl⟩ := he
            go_wp2_with fail
            go_big_quiet (fail)
            go_wp2_with fail
            go_roundw
            case rel =>
              refine ⟨k + 1, by omega, by go_num, Lib.hid (fun j hj => ?_), (Hb.out.drewN _).1⟩
              by_cases hj2 : j < k * 4
              · exact hsame.out j hj2
              · have : j = k * 4 ∨ j = k * 4 + 1 ∨ j = k * 4 + 2 ∨ j = k * 4 + 3 := by omega
                rcases this with rfl | rfl | rfl | rfl
                · rw [Kx0.out, Ky0.out]
                · rw [Kx1.out, Ky1.out]
                · rw [Kx2.out, Ky2.out]
                · rw [Kx3.out, Ky3.out]
            case measure => simp [intOf]; omega
          · have hne : r = false := by
              rw [HR.out]
              simp only [decide_eq_false_iff_not]
              intro e
              subst e
              apply he
              exact ⟨Option.some.inj (Kx0.out.symm.trans Ky0.out), Option.some.inj (Kx1.out.symm.trans Ky1.out), Option.some.inj (Kx2.out.symm.trans Ky2.out), Option.some.inj (Kx3.out.symm.trans Ky3.out)⟩
            subst hne
            have hcase : (¬ x0 = y0) ∨ (x0 = y0 ∧ ¬ x1 = y1) ∨ (x0 = y0 ∧ x1 = y1 ∧ ¬ x2 = y2) ∨ (x0 = y0 ∧ x1 = y1 ∧ x2 = y2 ∧ ¬ x3 = y3) := by omega
            clear he
            rcases hcase with h0 | ⟨rfl, h1⟩ | ⟨rfl, rfl, h2⟩ | ⟨rfl, rfl, rfl, h3⟩
            · have hq0 : (x0 == y0) = false := by simpa using h0
              go_wp2_with fail
              go_big_quiet (fail)
              go_wp2_with fail
              go_ret
              exact ⟨rfl, (Hb.out.drewN _).1⟩
            · have hq1 : (x1 == y1) = false := by simpa using h1
              go_wp2_with fail
              go_big_quiet (fail)
              go_wp2_with fail
              go_ret
              exact ⟨rfl, (Hb.out.drewN _).1⟩
            · have hq2 : (x2 == y2) = false := by simpa using h2
              go_wp2_with fail
              go_big_quiet (fail)
              go_wp2_with fail
              go_ret
              exact ⟨rfl, (Hb.out.drewN _).1⟩
            · have hq3 : (x3 == y3) = false := by simpa using h3
              go_wp2_with fail
              go_big_quiet (fail)
              go_wp2_with fail
              go_ret
              exact ⟨rfl, (Hb.out.drewN _).1⟩
        · go_wp2
          go_ret
          have e : k = n := by omega
          subst e
          have e2 : zs = ys := by
            apply List.ext_getElem?
            intro j
            by_cases hj : j < k * 4
            · exact hsame.out j hj
            · rw [List.getElem?_eq_none (by rw [Hz.out]; omega), List.getElem?_eq_none (by rw [Hy.out]; omega)]
          exact ⟨ret_bool (by rw [HR.out]; simp [e2]), hbw⟩
  · have hne : r = false := by
      rw [HR.out]
      simp only [decide_eq_false_iff_not]
      intro e
      subst e
      omega
    subst hne
    have hnn : ((n : Int) != (q : Int)) = true := by simp; omega
    clear hz hy ha hb hnq
    go_enter Try.func23, Try.ntmps23
    go_wp2
    go_ret
    exact ⟨rfl, Below.refl _ _⟩

set_option maxRecDepth 100000 in
set_option maxHeartbeats 1600000 in
theorem equalJoin (a b : Option Addr) (n q c d : Nat) (zs ys : List Int) (w : World) (hz : zs.length = n * 4) (hy : ys.length = q * 4) (hn : n ≤ 1073741824) (hq : q ≤ 1073741824) (ha : CellsAt w a (zs.map (Value.int .i64))) (hb : CellsAt w b (ys.map (Value.int .i64))) :
    Calls Try.prog 62 #[.slice a n c, .slice b q d] w fun e w' => e = .returned (.bool (decide (zs = ys))) ∧ Below w.heap.size w w' := by
  obtain ⟨r, hr⟩ : ∃ r, r = decide (zs = ys) := ⟨_, rfl⟩
  rw [← hr]
  have HR := Lib.hid hr
  clear hr
  by_cases hnq : n = q
  · subst hnq
    by_cases h0 : n = 0
    · subst h0
      have e1 : zs = [] := List.eq_nil_of_length_eq_zero (by simpa using hz)
      have e2 : ys = [] := List.eq_nil_of_length_eq_zero (by simpa using hy)
      subst e1
      subst e2
      have hr : r = true := by rw [HR.out]; rfl
      subst hr
      clear hz hy ha hb
      go_enter Try.func62, Try.ntmps62
      go_wp2
      refine wp_loop_once ?_
      go_wp2
      go_ret
      exact ⟨rfl, Below.refl _ _⟩
    · obtain ⟨b1, o1, rfl, hb1, hc1⟩ := ha.at_ (by simp; omega)
      obtain ⟨b2, o2, rfl, hb2, hc2⟩ := hb.at_ (by simp; omega)
      have Hz := Lib.hid hz
      have Hy := Lib.hid hy
      have H1 := Lib.hid hc1
      have H2 := Lib.hid hc2
      clear hz hy hc1 hc2 ha hb
      have hnn : ((n : Int) != (n : Int)) = false := by simp
      go_enter Try.func62, Try.ntmps62
      go_wp2
      go_loopw [5, 13] (fun _ i wr => ∃ k : Nat, k ≤ n ∧ i = .int .i64 k ∧ Hid (∀ j, j < k * 4 → zs[j]? = ys[j]?) ∧ Below w.heap.size w wr) (fun _ i _ => n - (intOf i).toNat)
      case atStart => exact ⟨0, Nat.zero_le _, rfl, Lib.hid (fun j hj => absurd hj (by omega)), Below.refl _ _⟩
      case round =>
        obtain ⟨k, hk, rfl, hsame, hbw⟩ := hrel
        by_cases hlt : k < n
        · have hkz : k * 4 + 4 ≤ zs.length := by rw [Hz.out]; omega
          have hky : k * 4 + 4 ≤ ys.length := by rw [Hy.out]; omega
          obtain ⟨x0, hx0⟩ : ∃ z, z = zs.getD (k * 4) 0 := ⟨_, rfl⟩
          have hc10 : wr.cell? ⟨b1, o1 + k * 4, none⟩ = some (.int .i64 x0) := by
            have h := (hbw.cell (p := ⟨b1, o1 + (k * 4), none⟩) hb1).trans (H1.out (k * 4) (by simp; omega))
            rw [show o1 + (k * 4) = o1 + k * 4 from by omega] at h
            rw [h, hx0]
            simp [List.getElem?_eq_getElem (show k * 4 < zs.length by omega)]
          have kx0 : zs[k * 4]? = some x0 := by
            rw [hx0]
            simp [List.getElem?_eq_getElem (show k * 4 < zs.length by omega)]
          have Kx0 := Lib.hid kx0
          clear kx0 hx0
          obtain ⟨x1, hx1⟩ : ∃ z, z = zs.getD (k * 4 + 1) 0 := ⟨_, rfl⟩
          have hc11 : wr.cell? ⟨b1, o1 + k * 4 + 1, none⟩ = some (.int .i64 x1) := by
            have h := (hbw.cell (p := ⟨b1, o1 + (k * 4 + 1), none⟩) hb1).trans (H1.out (k * 4 + 1) (by simp; omega))
            rw [show o1 + (k * 4 + 1) = o1 + k * 4 + 1 from by omega] at h
            rw [h, hx1]
            simp [List.getElem?_eq_getElem (show k * 4 + 1 < zs.length by omega)]
          have kx1 : zs[k * 4 + 1]? = some x1 := by
            rw [hx1]
            simp [List.getElem?_eq_getElem (show k * 4 + 1 < zs.length by omega)]
          have Kx1 := Lib.hid kx1
          clear kx1 hx1
          obtain ⟨x2, hx2⟩ : ∃ z, z = zs.getD (k * 4 + 2) 0 := ⟨_, rfl⟩
          have hc12 : wr.cell? ⟨b1, o1 + k * 4 + 2, none⟩ = some (.int .i64 x2) := by
            have h := (hbw.cell (p := ⟨b1, o1 + (k * 4 + 2), none⟩) hb1).trans (H1.out (k * 4 + 2) (by simp; omega))
            rw [show o1 + (k * 4 + 2) = o1 + k * 4 + 2 from by omega] at h
            rw [h, hx2]
            simp [List.getElem?_eq_getElem (show k * 4 + 2 < zs.length by omega)]
          have kx2 : zs[k * 4 + 2]? = some x2 := by
            rw [hx2]
            simp [List.getElem?_eq_getElem (show k * 4 + 2 < zs.length by omega)]
          have Kx2 := Lib.hid kx2
          clear kx2 hx2
          obtain ⟨x3, hx3⟩ : ∃ z, z = zs.getD (k * 4 + 3) 0 := ⟨_, rfl⟩
          have hc13 : wr.cell? ⟨b1, o1 + k * 4 + 3, none⟩ = some (.int .i64 x3) := by
            have h := (hbw.cell (p := ⟨b1, o1 + (k * 4 + 3), none⟩) hb1).trans (H1.out (k * 4 + 3) (by simp; omega))
            rw [show o1 + (k * 4 + 3) = o1 + k * 4 + 3 from by omega] at h
            rw [h, hx3]
            simp [List.getElem?_eq_getElem (show k * 4 + 3 < zs.length by omega)]
          have kx3 : zs[k * 4 + 3]? = some x3 := by
            rw [hx3]
            simp [List.getElem?_eq_getElem (show k * 4 + 3 < zs.length by omega)]
          have Kx3 := Lib.hid kx3
          clear kx3 hx3
          obtain ⟨y0, hy0⟩ : ∃ z, z = ys.getD (k * 4) 0 := ⟨_, rfl⟩
          have hc20 : wr.cell? ⟨b2, o2 + k * 4, none⟩ = some (.int .i64 y0) := by
            have h := (hbw.cell (p := ⟨b2, o2 + (k * 4), none⟩) hb2).trans (H2.out (k * 4) (by simp; omega))
            rw [show o2 + (k * 4) = o2 + k * 4 from by omega] at h
            rw [h, hy0]
            simp [List.getElem?_eq_getElem (show k * 4 < ys.length by omega)]
          have ky0 : ys[k * 4]? = some y0 := by
            rw [hy0]
            simp [List.getElem?_eq_getElem (show k * 4 < ys.length by omega)]
          have Ky0 := Lib.hid ky0
          clear ky0 hy0
          obtain ⟨y1, hy1⟩ : ∃ z, z = ys.getD (k * 4 + 1) 0 := ⟨_, rfl⟩
          have hc21 : wr.cell? ⟨b2, o2 + k * 4 + 1, none⟩ = some (.int .i64 y1) := by
            have h := (hbw.cell (p := ⟨b2, o2 + (k * 4 + 1), none⟩) hb2).trans (H2.out (k * 4 + 1) (by simp; omega))
            rw [show o2 + (k * 4 + 1) = o2 + k * 4 + 1 from by omega] at h
            rw [h, hy1]
            simp [List.getElem?_eq_getElem (show k * 4 + 1 < ys.length by omega)]
          have ky1 : ys[k * 4 + 1]? = some y1 := by
            rw [hy1]
            simp [List.getElem?_eq_getElem (show k * 4 + 1 < ys.length by omega)]
          have Ky1 := Lib.hid ky1
          clear ky1 hy1
          obtain ⟨y2, hy2⟩ : ∃ z, z = ys.getD (k * 4 + 2) 0 := ⟨_, rfl⟩
          have hc22 : wr.cell? ⟨b2, o2 + k * 4 + 2, none⟩ = some (.int .i64 y2) := by
            have h := (hbw.cell (p := ⟨b2, o2 + (k * 4 + 2), none⟩) hb2).trans (H2.out (k * 4 + 2) (by simp; omega))
            rw [show o2 + (k * 4 + 2) = o2 + k * 4 + 2 from by omega] at h
            rw [h, hy2]
            simp [List.getElem?_eq_getElem (show k * 4 + 2 < ys.length by omega)]
          have ky2 : ys[k * 4 + 2]? = some y2 := by
            rw [hy2]
            simp [List.getElem?_eq_getElem (show k * 4 + 2 < ys.length by omega)]
          have Ky2 := Lib.hid ky2
          clear ky2 hy2
          obtain ⟨y3, hy3⟩ : ∃ z, z = ys.getD (k * 4 + 3) 0 := ⟨_, rfl⟩
          have hc23 : wr.cell? ⟨b2, o2 + k * 4 + 3, none⟩ = some (.int .i64 y3) := by
            have h := (hbw.cell (p := ⟨b2, o2 + (k * 4 + 3), none⟩) hb2).trans (H2.out (k * 4 + 3) (by simp; omega))
            rw [show o2 + (k * 4 + 3) = o2 + k * 4 + 3 from by omega] at h
            rw [h, hy3]
            simp [List.getElem?_eq_getElem (show k * 4 + 3 < ys.length by omega)]
          have ky3 : ys[k * 4 + 3]? = some y3 := by
            rw [hy3]
            simp [List.getElem?_eq_getElem (show k * 4 + 3 < ys.length by omega)]
          have Ky3 := Lib.hid ky3
          clear ky3 hy3
          have hb' : Bel w.heap.size w wr := Bel.of hbw
          have Hb := Lib.hid hb'
          clear hbw hb'
          have hlt' : (k : Int) < (n : Int) := by omega
          by_cases he : x0 = y0 ∧ x1 = y1 ∧ x2 = y2 ∧ x3 = y3
          · obtain ⟨rfl, rfl, rfl, rfl⟩ := he
            go_wp2_with fail
            go_big_quiet (fail)
            go_wp2_with fail
            go_roundw
            case rel =>
              refine ⟨k + 1, by omega, by go_num, Lib.hid (fun j hj => ?_), (Hb.out.drewN _).1⟩
              by_cases hj2 : j < k * 4
              · exact hsame.out j hj2
              · have : j = k * 4 ∨ j = k * 4 + 1 ∨ j = k * 4 + 2 ∨ j = k * 4 + 3 := by omega
                rcases this with rfl | rfl | rfl | rfl
                · rw [Kx0.out, Ky0.out]
                · rw [Kx1.out, Ky1.out]
                · rw [Kx2.out, Ky2.out]
                · rw [Kx3.out, Ky3.out]
            case measure => simp [intOf]; omega
          · have hne : r = false := by
              rw [HR.out]
              simp only [decide_eq_false_iff_not]
              intro e
              subst e
              apply he
              exact ⟨Option.some.inj (Kx0.out.symm.trans Ky0.out), Option.some.inj (Kx1.out.symm.trans Ky1.out), Option.some.inj (Kx2.out.symm.trans Ky2.out), Option.some.inj (Kx3.out.symm.trans Ky3.out)⟩
            subst hne
            have hcase : (¬ x0 = y0) ∨ (x0 = y0 ∧ ¬ x1 = y1) ∨ (x0 = y0 ∧ x1 = y1 ∧ ¬ x2 = y2) ∨ (x0 = y0 ∧ x1 = y1 ∧ x2 = y2 ∧ ¬ x3 = y3) := by omega
            clear he
            rcases hcase with h0 | ⟨rfl, h1⟩ | ⟨rfl, rfl, h2⟩ | ⟨rfl, rfl, rfl, h3⟩
            · have hq0 : (x0 == y0) = false := by simpa using h0
              go_wp2_with fail
              go_big_quiet (fail)
              go_wp2_with fail
              go_ret
              exact ⟨rfl, (Hb.out.drewN _).1⟩
            · have hq1 : (x1 == y1) = false := by simpa using h1
              go_wp2_with fail
              go_big_quiet (fail)
              go_wp2_with fail
              go_ret
              exact ⟨rfl, (Hb.out.drewN _).1⟩
            · have hq2 : (x2 == y2) = false := by simpa using h2
              go_wp2_with fail
              go_big_quiet (fail)
              go_wp2_with fail
              go_ret
              exact ⟨rfl, (Hb.out.drewN _).1⟩
            · have hq3 : (x3 == y3) = false := by simpa using h3
              go_wp2_with fail
              go_big_quiet (fail)
              go_wp2_with fail
              go_ret
              exact ⟨rfl, (Hb.out.drewN _).1⟩
        · go_wp2
          go_ret
          have e : k = n := by omega
          subst e
          have e2 : zs = ys := by
            apply List.ext_getElem?
            intro j
            by_cases hj : j < k * 4
            · exact hsame.out j hj
            · rw [List.getElem?_eq_none (by rw [Hz.out]; omega), List.getElem?_eq_none (by rw [Hy.out]; omega)]
          exact ⟨ret_bool (by rw [HR.out]; simp [e2]), hbw⟩
  · have hne : r = false := by
      rw [HR.out]
      simp only [decide_eq_false_iff_not]
      intro e
      subst e
      omega
    subst hne
    have hnn : ((n : Int) != (q : Int)) = true := by simp; omega
    clear hz hy ha hb hnq
    go_enter Try.func62, Try.ntmps62
    go_wp2
    go_ret
    exact ⟨rfl, Below.refl _ _⟩

theorem implJoinSame (a b : Option Addr) (n q c d : Nat) (zs ys : List Int) (w : World) (hz : zs.length = n * 4) (hy : ys.length = q * 4) (hn : n ≤ 1073741824) (hq : q ≤ 1073741824) (ha : CellsAt w a (zs.map (Value.int .i64))) (hb : CellsAt w b (ys.map (Value.int .i64))) :
    Calls Try.prog 25 #[.slice a n c, .slice b q d] w fun e w' => e = .returned (.bool (decide (zs = ys))) ∧ Below w.heap.size w w' := by
  have hc := fun W (h : W = w) => equalJoin a b n q c d zs ys W hz hy hn hq (h ▸ ha) (h ▸ hb)
  clear hz hy ha hb
  generalize decide (zs = ys) = r at hc ⊢
  go_enter Try.func25, Try.ntmps25
  go_wp2_with (go_at_call 62; refine (hc _ rfl).mono ?_; rintro e w1 ⟨rfl, hb1⟩)
  go_ret
  exact ⟨rfl, hb1⟩

end Go.Proofs.Ytcajpedhfljhdaa
