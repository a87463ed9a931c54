/-
  Contracts of the tests of a plan of spools, both sides. No condition of its own.
-/
import Derived.Test.YtoomkeicfdmdoaaSpools
namespace Go.Proofs.Ytoomkeicfdmdoaa
open Go.ChangeShapes Go.WideShapes Go.ChangeAt Go.RowKit Go.Deep Go.Shelf

def planB (zs ys ps : List Int) (n m p : Nat) : Bool := spoolsB zs ys n m && (decide (p = m) && !outB ps 0 ((n : Int) - 1))
def planC (zs ys ps : List Int) (n m p : Nat) : Int := if planB zs ys ps n m p then 0 else 2

set_option maxRecDepth 100000 in
set_option maxHeartbeats 1600000 in
theorem l16Code_any (a : Option Addr) (n c : Nat) (zs : List Int) (a' : Option Addr) (m d : Nat) (ys : List Int) (a2 : Option Addr) (p f : Nat) (ps : List Int) (w : World) (hz : zs.length = n) (hy : ys.length = m) (hp : ps.length = p) (hn : n ≤ 1073741824) (hm : m ≤ 1073741824) (hpp : p ≤ 1073741824)
    (ha : CellsAt w a (zs.map (Value.int .i64))) (hb : CellsAt w a' (ys.map (Value.int .i64))) (hc : CellsAt w a2 (ps.map (Value.int .i64))) :
    Calls Try.prog 48 #[.slice a n c, .slice a' m d, .slice a2 p f] w fun e w' => e = .returned (.int .i64 (planC zs ys ps n m p)) ∧ Below w.heap.size w w' := by
  have hs := fun W (e : Below w.heap.size w W) => l16Spools_any a n c zs a' m d ys W hz hy hn hm (ha.below e) (hb.below e)
  obtain ⟨r, hr⟩ : ∃ r, planC zs ys ps n m p = r := ⟨_, rfl⟩
  rw [hr]
  have HR := Lib.hid hr
  have HS := Lib.hid hs
  have Hp := Lib.hid hp
  have HA := Lib.hid hc
  clear hr hs hz hy hp ha hb hc
  go_enter Try.func48, Try.ntmps48
  go_wp2
  go_loopw [7] (fun i wr => ∃ k : Nat, k ≤ p ∧ i = .int .i64 k ∧ Hid (∀ j, j < k → inB (ps.getD j 0) 0 ((n : Int) - 1) = true) ∧ Below w.heap.size w wr) (fun i _ => p - (intOf i).toNat)
  case atStart => exact ⟨0, Nat.zero_le _, rfl, Lib.hid (fun j hj => absurd hj (by omega)), Below.refl _ _⟩
  case round =>
    obtain ⟨k, hk, rfl, hall, hbw⟩ := hrel
    have Hbw := Lib.hid hbw
    clear hbw
    by_cases hlt : k < p
    · obtain ⟨b, o, rfl, hb, hc⟩ := HA.out.at_ (by have := Hp.out; simp; omega)
      obtain ⟨x, hx⟩ : ∃ z, ps.getD k 0 = z := ⟨_, rfl⟩
      have hcx := cell_int hb Hbw.out hc (by rw [Hp.out]; exact hlt) hx
      have Hx := Lib.hid hx
      clear hc hx
      have hlt' : (k : Int) < (p : Int) := by omega
      cases h1 : inB x 0 ((n : Int) - 1) with
      | false =>
        obtain rfl : r = 2 := by rw [← HR.out, planC, planB, outB_bad (by rw [Hp.out]; exact hlt) Hx.out h1]; simp
        go_wp2_with (go_at_call 83; refine (l00In_any _ _ _ _).mono ?_; rintro e w1 ⟨rfl, rfl⟩)
        go_ret
        exact ⟨rfl, Hbw.out⟩
      | true =>
        have H1 := Lib.hid h1
        go_wp2_with (go_at_call 83; refine (l00In_any _ _ _ _).mono ?_; rintro e w1 ⟨rfl, rfl⟩)
        go_roundw
        case rel => exact ⟨k + 1, by omega, by go_num, Lib.hid (inB_more hall.out Hx.out H1.out), Hbw.out⟩
        case measure => simp [intOf]; omega
    · have Hpg := Lib.hid (outB_good (zs := ps) (lo := 0) (hi := (n : Int) - 1) (k := k) (by rw [Hp.out]; omega) hall.out)
      have hs1 := HS.out wr Hbw.out
      cases hq : spoolsB zs ys n m with
      | false =>
        obtain rfl : r = 2 := by rw [← HR.out, planC, planB, hq]; simp
        rw [hq] at hs1
        clear hq
        go_wp2_with (go_at_call 52; refine hs1.mono ?_; rintro e w1 ⟨rfl, hb1⟩; have HB1 := Lib.hid hb1; clear hb1)
        go_ret
        exact ⟨rfl, ((Bel.of Hbw.out).step HB1.out).1⟩
      | true =>
        rw [hq] at hs1
        by_cases hpm : p = m
        · obtain rfl : r = 0 := by rw [← HR.out, planC, planB, hq, Hpg.out]; simp [hpm]
          subst hpm
          clear hq
          go_wp2_with (go_at_call 52; refine hs1.mono ?_; rintro e w1 ⟨rfl, hb1⟩; have HB1 := Lib.hid hb1; clear hb1)
          go_ret
          exact ⟨rfl, ((Bel.of Hbw.out).step HB1.out).1⟩
        · obtain rfl : r = 2 := by rw [← HR.out, planC, planB, hq]; simp [hpm]
          clear hq
          have hpm' : ((p : Int) != (m : Int)) = true := by simp; omega
          go_wp2_with (go_at_call 52; refine hs1.mono ?_; rintro e w1 ⟨rfl, hb1⟩; have HB1 := Lib.hid hb1; clear hb1)
          go_ret
          exact ⟨rfl, ((Bel.of Hbw.out).step HB1.out).1⟩

set_option maxRecDepth 100000 in
set_option maxHeartbeats 1600000 in
theorem isSpoolPlan_any (a : Option Addr) (n c : Nat) (zs : List Int) (a' : Option Addr) (m d : Nat) (ys : List Int) (a2 : Option Addr) (p f : Nat) (ps : List Int) (w : World) (hz : zs.length = n) (hy : ys.length = m) (hp : ps.length = p) (hn : n ≤ 1073741824) (hm : m ≤ 1073741824) (hpp : p ≤ 1073741824)
    (ha : CellsAt w a (zs.map (Value.int .i64))) (hb : CellsAt w a' (ys.map (Value.int .i64))) (hc : CellsAt w a2 (ps.map (Value.int .i64))) :
    Calls Try.prog 50 #[.slice a n c, .slice a' m d, .slice a2 p f] w fun e w' => e = .returned (.bool (planB zs ys ps n m p)) ∧ Below w.heap.size w w' := by
  have h1 := areSpools_any a n c zs a' m d ys w hz hy hn hm ha hb
  have h2 := fun W (e : Below w.heap.size w W) => outside_any a2 p f ps 0 ((n : Int) - 1) W hp hpp (hc.below e)
  obtain ⟨r, hr⟩ : ∃ r, planB zs ys ps n m p = r := ⟨_, rfl⟩
  rw [hr]
  rw [planB] at hr
  generalize spoolsB zs ys n m = s at h1 hr
  generalize outB ps 0 ((n : Int) - 1) = q at h2 hr
  have HR := Lib.hid hr
  have H1 := Lib.hid h1
  have H2 := Lib.hid h2
  clear hr h1 h2 hz hy hp ha hb hc
  cases s
  all_goals cases q
  all_goals
    go_enter Try.func50, Try.ntmps50
    go_wp2_with (first | (go_at_call 54; refine H1.out.mono ?_; rintro e w1 ⟨rfl, hb1⟩; have HB1 := Lib.hid hb1; clear hb1) | (go_at_call 84; refine (H2.out _ HB1.out).mono ?_; rintro e w2 ⟨rfl, hb2⟩; have HB2 := Lib.hid hb2; clear hb2))
  all_goals
    go_ret
    refine ⟨ret_bool (by rw [← HR.out, Bool.eq_iff_iff]; simp; try omega), ?_⟩
    first | exact ((Bel.of HB1.out).step HB2.out).1 | exact HB1.out
end Go.Proofs.Ytoomkeicfdmdoaa
