/-
  Contracts of the tests of pieces, both sides. No condition of its own.
-/
import Derived.Test.YthemlamdchcicaaDoorHideV
namespace Go.Proofs.YthemlamdchcicaaDoor
open Go.ChangeShapes Go.WideShapes Go.ChangeAt Go.RowKit Go.Deep Go.Shelf

theorem cutB_in (x0 x1 x2 x3 : Int) : cutB x0 x1 x2 x3 = (inB x0 1 6 && (inB x1 1 6 && (inB x2 1 3 && inB x3 0 1000))) := by
  simp only [cutB, inB, Bool.decide_and]
theorem cutsB_bad {zs : List Int} {n k : Nat} {q : Bool} (hq : cutsB zs n = q) (hk : k < n) (h : cutB (zs.getD (k * 4) 0) (zs.getD (k * 4 + 1) 0) (zs.getD (k * 4 + 2) 0) (zs.getD (k * 4 + 3) 0) = false) : q = false := by
  rw [← hq]
  unfold cutsB
  have : ((List.range n).all fun k => cutB (zs.getD (k * 4) 0) (zs.getD (k * 4 + 1) 0) (zs.getD (k * 4 + 2) 0) (zs.getD (k * 4 + 3) 0)) = false := by
    rw [List.all_eq_false]
    exact ⟨k, List.mem_range.2 hk, by rw [h]; exact Bool.false_ne_true⟩
  rw [this, Bool.and_false]
theorem cutsB_end {zs : List Int} {n : Nat} (h : ∀ k, k < n → cutB (zs.getD (k * 4) 0) (zs.getD (k * 4 + 1) 0) (zs.getD (k * 4 + 2) 0) (zs.getD (k * 4 + 3) 0) = true) : cutsB zs n = decide (n ≤ 4) := by
  unfold cutsB
  have : ((List.range n).all fun k => cutB (zs.getD (k * 4) 0) (zs.getD (k * 4 + 1) 0) (zs.getD (k * 4 + 2) 0) (zs.getD (k * 4 + 3) 0)) = true := by
    rw [List.all_eq_true]
    intro k hk
    exact h k (List.mem_range.1 hk)
  rw [this, Bool.and_true]
set_option maxHeartbeats 1600000 in
theorem l10One_any (x0 x1 x2 x3 : Int) (w : World) : Calls Tryd.prog 71 #[.agg #[.int .i64 x0, .int .i64 x1, .int .i64 x2, .int .i64 x3]] w fun e w' => e = .returned (.bool (cutB x0 x1 x2 x3)) ∧ Below w.heap.size w w' := by
  rw [cutB_in]
  cases q0 : inB x0 1 6 with
  | false =>
    have K0 := Lib.hid (fun W => callsB (l00In_any x0 1 6 W) q0)
    clear q0
    go_enter Tryd.func71, Tryd.ntmps71
    go_wp2_with (go_at_call 69; (first | with_reducible refine (K0.out _).mono ?_); rintro e w1 ⟨rfl, rfl⟩)
    go_ret
    exact ⟨ret_bool (by simp), (by repeat (first | exact Below.refl _ _ | assumption | refine Below.drew ?_ | refine below_drewN ?_ _ | refine Below.alloc ?_ (by simp; try omega) _ | refine Below.setCell ?_ (by simp; try omega) _))⟩
  | true =>
    have K0 := Lib.hid (fun W => callsB (l00In_any x0 1 6 W) q0)
    clear q0
    cases q1 : inB x1 1 6 with
    | false =>
      have K1 := Lib.hid (fun W => callsB (l00In_any x1 1 6 W) q1)
      clear q1
      go_enter Tryd.func71, Tryd.ntmps71
      go_wp2_with (go_at_call 69; (first | with_reducible refine (K0.out _).mono ?_ | with_reducible refine (K1.out _).mono ?_); rintro e w1 ⟨rfl, rfl⟩)
      go_ret
      exact ⟨ret_bool (by simp), (by repeat (first | exact Below.refl _ _ | assumption | refine Below.drew ?_ | refine below_drewN ?_ _ | refine Below.alloc ?_ (by simp; try omega) _ | refine Below.setCell ?_ (by simp; try omega) _))⟩
    | true =>
      have K1 := Lib.hid (fun W => callsB (l00In_any x1 1 6 W) q1)
      clear q1
      cases q2 : inB x2 1 3 with
      | false =>
        have K2 := Lib.hid (fun W => callsB (l00In_any x2 1 3 W) q2)
        clear q2
        go_enter Tryd.func71, Tryd.ntmps71
        go_wp2_with (go_at_call 69; (first | with_reducible refine (K0.out _).mono ?_ | with_reducible refine (K1.out _).mono ?_ | with_reducible refine (K2.out _).mono ?_); rintro e w1 ⟨rfl, rfl⟩)
        go_ret
        exact ⟨ret_bool (by simp), (by repeat (first | exact Below.refl _ _ | assumption | refine Below.drew ?_ | refine below_drewN ?_ _ | refine Below.alloc ?_ (by simp; try omega) _ | refine Below.setCell ?_ (by simp; try omega) _))⟩
      | true =>
        have K2 := Lib.hid (fun W => callsB (l00In_any x2 1 3 W) q2)
        clear q2
        cases q3 : inB x3 0 1000 with
        | false =>
          have K3 := Lib.hid (fun W => callsB (l00In_any x3 0 1000 W) q3)
          clear q3
          go_enter Tryd.func71, Tryd.ntmps71
          go_wp2_with (go_at_call 69; (first | with_reducible refine (K0.out _).mono ?_ | with_reducible refine (K1.out _).mono ?_ | with_reducible refine (K2.out _).mono ?_ | with_reducible refine (K3.out _).mono ?_); rintro e w1 ⟨rfl, rfl⟩)
          go_ret
          exact ⟨ret_bool (by simp), (by repeat (first | exact Below.refl _ _ | assumption | refine Below.drew ?_ | refine below_drewN ?_ _ | refine Below.alloc ?_ (by simp; try omega) _ | refine Below.setCell ?_ (by simp; try omega) _))⟩
        | true =>
          have K3 := Lib.hid (fun W => callsB (l00In_any x3 0 1000 W) q3)
          clear q3
          go_enter Tryd.func71, Tryd.ntmps71
          go_wp2_with (go_at_call 69; (first | with_reducible refine (K0.out _).mono ?_ | with_reducible refine (K1.out _).mono ?_ | with_reducible refine (K2.out _).mono ?_ | with_reducible refine (K3.out _).mono ?_); rintro e w1 ⟨rfl, rfl⟩)
          go_ret
          exact ⟨ret_bool (by simp), (by repeat (first | exact Below.refl _ _ | assumption | refine Below.drew ?_ | refine below_drewN ?_ _ | refine Below.alloc ?_ (by simp; try omega) _ | refine Below.setCell ?_ (by simp; try omega) _))⟩
set_option maxHeartbeats 1600000 in
theorem validCut_any (x0 x1 x2 x3 : Int) (w : World) : Calls Tryd.prog 55 #[.agg #[.int .i64 x0, .int .i64 x1, .int .i64 x2, .int .i64 x3]] w fun e w' => e = .returned (.bool (cutB x0 x1 x2 x3)) ∧ Below w.heap.size w w' := by
  rw [cutB_in]
  cases q0 : inB x0 1 6 with
  | false =>
    have K0 := Lib.hid (fun W => callsB (within_any x0 1 6 W) q0)
    clear q0
    go_enter Tryd.func55, Tryd.ntmps55
    go_wp2_with (go_at_call 49; (first | with_reducible refine (K0.out _).mono ?_); rintro e w1 ⟨rfl, rfl⟩)
    go_ret
    exact ⟨ret_bool (by simp), (by repeat (first | exact Below.refl _ _ | assumption | refine Below.drew ?_ | refine below_drewN ?_ _ | refine Below.alloc ?_ (by simp; try omega) _ | refine Below.setCell ?_ (by simp; try omega) _))⟩
  | true =>
    have K0 := Lib.hid (fun W => callsB (within_any x0 1 6 W) q0)
    clear q0
    cases q1 : inB x1 1 6 with
    | false =>
      have K1 := Lib.hid (fun W => callsB (within_any x1 1 6 W) q1)
      clear q1
      go_enter Tryd.func55, Tryd.ntmps55
      go_wp2_with (go_at_call 49; (first | with_reducible refine (K0.out _).mono ?_ | with_reducible refine (K1.out _).mono ?_); rintro e w1 ⟨rfl, rfl⟩)
      go_ret
      exact ⟨ret_bool (by simp), (by repeat (first | exact Below.refl _ _ | assumption | refine Below.drew ?_ | refine below_drewN ?_ _ | refine Below.alloc ?_ (by simp; try omega) _ | refine Below.setCell ?_ (by simp; try omega) _))⟩
    | true =>
      have K1 := Lib.hid (fun W => callsB (within_any x1 1 6 W) q1)
      clear q1
      cases q2 : inB x2 1 3 with
      | false =>
        have K2 := Lib.hid (fun W => callsB (within_any x2 1 3 W) q2)
        clear q2
        go_enter Tryd.func55, Tryd.ntmps55
        go_wp2_with (go_at_call 49; (first | with_reducible refine (K0.out _).mono ?_ | with_reducible refine (K1.out _).mono ?_ | with_reducible refine (K2.out _).mono ?_); rintro e w1 ⟨rfl, rfl⟩)
        go_ret
        exact ⟨ret_bool (by simp), (by repeat (first | exact Below.refl _ _ | assumption | refine Below.drew ?_ | refine below_drewN ?_ _ | refine Below.alloc ?_ (by simp; try omega) _ | refine Below.setCell ?_ (by simp; try omega) _))⟩
      | true =>
        have K2 := Lib.hid (fun W => callsB (within_any x2 1 3 W) q2)
        clear q2
        cases q3 : inB x3 0 1000 with
        | false =>
          have K3 := Lib.hid (fun W => callsB (within_any x3 0 1000 W) q3)
          clear q3
          go_enter Tryd.func55, Tryd.ntmps55
          go_wp2_with (go_at_call 49; (first | with_reducible refine (K0.out _).mono ?_ | with_reducible refine (K1.out _).mono ?_ | with_reducible refine (K2.out _).mono ?_ | with_reducible refine (K3.out _).mono ?_); rintro e w1 ⟨rfl, rfl⟩)
          go_ret
          exact ⟨ret_bool (by simp), (by repeat (first | exact Below.refl _ _ | assumption | refine Below.drew ?_ | refine below_drewN ?_ _ | refine Below.alloc ?_ (by simp; try omega) _ | refine Below.setCell ?_ (by simp; try omega) _))⟩
        | true =>
          have K3 := Lib.hid (fun W => callsB (within_any x3 0 1000 W) q3)
          clear q3
          go_enter Tryd.func55, Tryd.ntmps55
          go_wp2_with (go_at_call 49; (first | with_reducible refine (K0.out _).mono ?_ | with_reducible refine (K1.out _).mono ?_ | with_reducible refine (K2.out _).mono ?_ | with_reducible refine (K3.out _).mono ?_); rintro e w1 ⟨rfl, rfl⟩)
          go_ret
          exact ⟨ret_bool (by simp), (by repeat (first | exact Below.refl _ _ | assumption | refine Below.drew ?_ | refine below_drewN ?_ _ | refine Below.alloc ?_ (by simp; try omega) _ | refine Below.setCell ?_ (by simp; try omega) _))⟩
set_option maxRecDepth 100000 in
set_option maxHeartbeats 3200000 in
theorem l10Cuts_any (a : Option Addr) (n ca : Nat) (zs : List Int) (w : World) (hz : zs.length = n * 4) (hn : n ≤ 1048576) (hc : CellsAt w a (zs.map (Value.int .i64))) :
    Calls Tryd.prog 43 #[.slice a n ca] w fun e w' => e = .returned (.bool (cutsB zs n)) ∧ Below w.heap.size w w' := by
  obtain ⟨q, hq⟩ : ∃ q, cutsB zs n = q := ⟨_, rfl⟩
  rw [hq]
  by_cases h0 : n = 0
  · subst h0
    obtain rfl : q = true := by rw [← hq]; rfl
    clear hc hq hz
    go_enter Tryd.func43, Tryd.ntmps43
    go_wp2
    refine wp_loop_once ?_
    go_wp2
    go_ret
    exact ⟨rfl, Below.refl _ _⟩
  · obtain ⟨b, o, rfl, hb, hcell⟩ := hc.at_ (by simp; omega)
    have HQ := Lib.hid hq
    have HC := Lib.hid hcell
    have HZ := Lib.hid hz
    clear hq hcell hz hc
    go_enter Tryd.func43, Tryd.ntmps43
    go_wp2_with fail
    go_loopw [3] (fun u wr => ∃ y : Nat, y ≤ n ∧ u = .int .i64 (y : Int) ∧ Hid (∀ k, k < y → cutB (zs.getD (k * 4) 0) (zs.getD (k * 4 + 1) 0) (zs.getD (k * 4 + 2) 0) (zs.getD (k * 4 + 3) 0) = true) ∧ Hid (Below w.heap.size w wr)) (fun u _ => n - (intOf u).toNat)
    case atStart => exact ⟨0, Nat.zero_le _, rfl, Lib.hid (fun k h => absurd h (Nat.not_lt_zero _)), Lib.hid (Below.refl _ _)⟩
    case round =>
      obtain ⟨y, hy, rfl, hall, hbw⟩ := hrel
      have hsz : b < wr.heap.size := Nat.lt_of_lt_of_le hb hbw.out.size
      by_cases hlt : y < n
      · have hyn : (y : Int) < (n : Int) := by omega
        obtain ⟨x0, e0⟩ : ∃ x, zs.getD (y * 4) 0 = x := ⟨_, rfl⟩
        obtain ⟨x1, e1⟩ : ∃ x, zs.getD (y * 4 + 1) 0 = x := ⟨_, rfl⟩
        obtain ⟨x2, e2⟩ : ∃ x, zs.getD (y * 4 + 2) 0 = x := ⟨_, rfl⟩
        obtain ⟨x3, e3⟩ : ∃ x, zs.getD (y * 4 + 3) 0 = x := ⟨_, rfl⟩
        have c0 := int_cell hb hbw.out HC.out (by rw [HZ.out]; omega) e0
        have c1 := int_cell hb hbw.out HC.out (by rw [HZ.out]; omega) e1
        have c2 := int_cell hb hbw.out HC.out (by rw [HZ.out]; omega) e2
        have c3 := int_cell hb hbw.out HC.out (by rw [HZ.out]; omega) e3
        rw [← Nat.add_assoc] at c1 c2 c3
        have HO := Lib.hid (l10One_any x0 x1 x2 x3 wr)
        cases hcb : cutB x0 x1 x2 x3 with
        | false =>
          obtain rfl := cutsB_bad HQ.out hlt (by rw [e0, e1, e2, e3]; exact hcb)
          rw [hcb] at HO
          clear hcb e0 e1 e2 e3
          go_wp2_with (go_at_call 71; (with_reducible refine HO.out.mono ?_); rintro e w1 ⟨rfl, hb1⟩; have HB1 := Lib.hid hb1; clear hb1)
          go_ret
          exact ⟨rfl, hbw.out.trans (HB1.out.mono hbw.out.size)⟩
        | true =>
          have HN := Lib.hid (show ∀ k, k < y + 1 → cutB (zs.getD (k * 4) 0) (zs.getD (k * 4 + 1) 0) (zs.getD (k * 4 + 2) 0) (zs.getD (k * 4 + 3) 0) = true from fun k hk => by
            by_cases e : k = y
            · subst e; rw [e0, e1, e2, e3]; exact hcb
            · exact hall.out k (by omega))
          rw [hcb] at HO
          clear hcb e0 e1 e2 e3
          go_wp2_with (go_at_call 71; (with_reducible refine HO.out.mono ?_); rintro e w1 ⟨rfl, hb1⟩; have HB1 := Lib.hid hb1; clear hb1)
          go_roundw
          case rel => exact ⟨y + 1, by omega, by go_num, HN, Lib.hid (hbw.out.trans (HB1.out.mono hbw.out.size))⟩
          case measure => simp [intOf]; omega
      · obtain rfl : y = n := by omega
        have HE := cutsB_end hall.out
        rw [HQ.out] at HE
        subst HE
        go_wp2_with fail
        go_ret
        exact ⟨ret_bool (by congr 1; apply propext; omega), hbw.out⟩
end Go.Proofs.YthemlamdchcicaaDoor
