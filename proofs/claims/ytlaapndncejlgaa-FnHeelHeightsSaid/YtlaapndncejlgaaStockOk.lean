/-
  Contracts of ValidStock, both sides. No condition of its own.
-/
import Derived.Test.YtlaapndncejlgaaLift
import Derived.BigQuiet
import Derived.WalkLawsBesides
namespace Go.Proofs.Ytlaapndncejlgaa
open Go.ChangeShapes Go.WideShapes Go.ChangeAt Go.RowKit Go.Deep

/-- The lift number k is thick enough and above the one before. -/
def liftAt (zs : List Int) (k : Nat) : Bool := inB (zs.getD (k * 2) 0) 1 100 && (inB (zs.getD (k * 2 + 1) 0) 0 20 && (decide (k = 0) || decide (zs.getD ((k - 1) * 2) 0 < zs.getD (k * 2) 0)))
def stockB (zs : List Int) (n : Nat) : Bool := decide (∀ k, k < n → liftAt zs k = true) && decide (n ≤ 6)

theorem stockB_bad {zs : List Int} {n k : Nat} {r : Bool} (hr : stockB zs n = r) (hk : k < n) (h : liftAt zs k = false) : r = false := by
  rw [← hr, stockB]
  have : ¬ (∀ k, k < n → liftAt zs k = true) := fun hall => by rw [hall k hk] at h; cases h
  simp [this]
theorem stockB_end {zs : List Int} {n k : Nat} {r : Bool} (hr : stockB zs n = r) (hk : n ≤ k) (h : ∀ j, j < k → liftAt zs j = true) : decide ((n : Int) ≤ 6) = r := by
  rw [← hr, stockB]
  have e : decide (∀ k, k < n → liftAt zs k = true) = true := decide_eq_true fun j hj => h j (by omega)
  rw [e, Bool.true_and]
  exact decide_eq_decide.2 (by omega)
theorem stockB_more {zs : List Int} {k : Nat} (h : ∀ j, j < k → liftAt zs j = true) (hk : liftAt zs k = true) : ∀ j, j < k + 1 → liftAt zs j = true := fun j hj => by
  by_cases e : j = k
  · subst e; exact hk
  · exact h j (by omega)

set_option maxRecDepth 100000 in
set_option maxHeartbeats 1600000 in
theorem specStockOk (a : Option Addr) (n c : Nat) (zs : List Int) (w : World) (hz : zs.length = n * 2) (hn : n ≤ 1073741824) (ha : CellsAt w a (zs.map (Value.int .i64))) :
    Calls Try.prog 62 #[.slice a n c] w fun e w' => e = .returned (.bool (stockB zs n)) ∧ Below w.heap.size w w' := by
  obtain ⟨r, hr⟩ : ∃ r, stockB zs n = r := ⟨_, rfl⟩
  rw [hr]
  have HR := Lib.hid hr
  clear hr
  by_cases h0 : n = 0
  · subst h0
    clear hz ha
    go_enter Try.func62, Try.ntmps62
    go_wp2
    refine wp_loop_once ?_
    go_wp2
    go_ret
    exact ⟨ret_bool (by rw [← stockB_end HR.out (Nat.le_refl _) (fun j hj => absurd hj (by omega))]; simp), Below.refl _ _⟩
  · obtain ⟨b, o, rfl, hb, hc⟩ := ha.at_ (by simp; omega)
    have Hz := Lib.hid hz
    have H1 := Lib.hid hc
    clear hz hc ha
    go_enter Try.func62, Try.ntmps62
    go_wp2
    go_loopw [3] (fun i wr => ∃ k : Nat, k ≤ n ∧ i = .int .i64 k ∧ Hid (∀ j, j < k → liftAt zs j = true) ∧ Below w.heap.size w wr) (fun i _ => n - (intOf i).toNat)
    case atStart => exact ⟨0, Nat.zero_le _, rfl, Lib.hid (fun j hj => absurd hj (by omega)), Below.refl _ _⟩
    case round =>
      obtain ⟨k, hk, rfl, hall, hbw⟩ := hrel
      by_cases hlt : k < n
      · obtain ⟨x, hx⟩ : ∃ z, zs.getD (k * 2) 0 = z := ⟨_, rfl⟩
        obtain ⟨y, hy⟩ : ∃ z, zs.getD (k * 2 + 1) 0 = z := ⟨_, rfl⟩
        have hcell : ∀ j, j < n * 2 → wr.cell? ⟨b, o + j, none⟩ = some (.int .i64 (zs.getD j 0)) := fun j hj => by
          rw [(hbw.cell (p := ⟨b, o + j, none⟩) hb).trans (H1.out j (by have := Hz.out; simp; omega))]
          simp [List.getElem?_eq_getElem (show j < zs.length by rw [Hz.out]; exact hj)]
        have hcx := hcell (k * 2) (by omega)
        have hcy : wr.cell? ⟨b, o + k * 2 + 1, none⟩ = some (.int .i64 y) := by have := hcell (k * 2 + 1) (by omega); rw [hy] at this; rw [← this]; congr 1
        rw [hx] at hcx
        have hb' : Bel w.heap.size w wr := Bel.of hbw
        have Hb := Lib.hid hb'
        have Hc := Lib.hid hcell
        have hbs : b < wr.heap.size := Nat.lt_of_lt_of_le hb hbw.size
        have Hx := Lib.hid hx
        have Hy := Lib.hid hy
        clear hbw hb' hcell hx hy
        have hlt' : (k : Int) < (n : Int) := by omega
        cases h1 : inB x 1 100 with
        | false =>
          obtain rfl := stockB_bad HR.out hlt (by simp only [liftAt, Hx.out, h1, Bool.false_and])
          go_wp2_with fail
          go_big_quiet ((go_at_call 60; first | exact quiet_left (callsB (l00In_any _ _ _ _) (by assumption)) | exact quiet_left (l00In_any _ _ _ _) | exact quiet_add_left (callsB (l00In_any _ _ _ _) (by assumption)) | exact quiet_add_left (l00In_any _ _ _ _)))
          go_wp2_with fail
          go_ret
          exact ⟨rfl, (Hb.out.drewN _).1⟩
        | true =>
          cases h2 : inB y 0 20 with
          | false =>
            obtain rfl := stockB_bad HR.out hlt (by simp only [liftAt, Hx.out, Hy.out, h1, h2, Bool.false_and, Bool.and_false])
            go_wp2_with fail
            go_big_quiet ((go_at_call 60; first | exact quiet_left (callsB (l00In_any _ _ _ _) (by assumption)) | exact quiet_left (l00In_any _ _ _ _) | exact quiet_add_left (callsB (l00In_any _ _ _ _) (by assumption)) | exact quiet_add_left (l00In_any _ _ _ _)))
            go_wp2_with fail
            go_ret
            exact ⟨rfl, (Hb.out.drewN _).1⟩
          | true =>
            rcases Nat.eq_zero_or_pos k with rfl | hkp
            · have hw0 : liftAt zs 0 = true := by simp only [liftAt, Hx.out, Hy.out, h1, h2]; rfl
              have hn0 : (0 : Int) < (n : Int) := by omega
              have hn1 : 0 < n := by omega
              simp only [Nat.zero_mul, Nat.add_zero] at hcx hcy
              go_wp2_with fail
              go_big_quiet ((go_at_call 60; first | exact quiet_left (callsB (l00In_any _ _ _ _) (by assumption)) | exact quiet_left (l00In_any _ _ _ _) | exact quiet_add_left (callsB (l00In_any _ _ _ _) (by assumption)) | exact quiet_add_left (l00In_any _ _ _ _)))
              go_wp2_with fail
              go_roundw
              case rel => exact ⟨1, by omega, by go_num, Lib.hid (stockB_more hall.out hw0), (Hb.out.drewN _).1⟩
              case measure => simp [intOf]; omega
            · obtain ⟨q, rfl⟩ : ∃ q, k = q + 1 := ⟨k - 1, by omega⟩
              obtain ⟨p, hp⟩ : ∃ z, zs.getD (q * 2) 0 = z := ⟨_, rfl⟩
              have hcp := Hc.out (q * 2) (by omega)
              rw [hp] at hcp
              have Hp := Lib.hid hp
              clear hp
              have hw1 : IntKind.i64.wrap ((q : Int) + 1 - 1) = (q : Int) := by rw [IntWalk.i64_in _ (by omega)]; omega
              have hqn : (q : Int) < (n : Int) := by omega
              by_cases h3 : p < x
              · have hw0 : liftAt zs (q + 1) = true := by simp only [liftAt, Hx.out, Hy.out, h1, h2, Nat.add_sub_cancel, Hp.out]; simp [h3]
                go_wp2_with fail
                go_big_quiet ((go_at_call 60; first | exact quiet_left (callsB (l00In_any _ _ _ _) (by assumption)) | exact quiet_left (l00In_any _ _ _ _) | exact quiet_add_left (callsB (l00In_any _ _ _ _) (by assumption)) | exact quiet_add_left (l00In_any _ _ _ _)))
                go_wp2_with fail
                go_roundw
                case rel => exact ⟨q + 1 + 1, by omega, by go_num, Lib.hid (stockB_more hall.out hw0), (Hb.out.drewN _).1⟩
                case measure => simp [intOf]; omega
              · have hw0 : liftAt zs (q + 1) = false := by simp only [liftAt, Hx.out, Hy.out, h1, h2, Nat.add_sub_cancel, Hp.out]; simp; omega
                obtain rfl := stockB_bad HR.out hlt hw0
                go_wp2_with fail
                go_big_quiet ((go_at_call 60; first | exact quiet_left (callsB (l00In_any _ _ _ _) (by assumption)) | exact quiet_left (l00In_any _ _ _ _) | exact quiet_add_left (callsB (l00In_any _ _ _ _) (by assumption)) | exact quiet_add_left (l00In_any _ _ _ _)))
                go_wp2_with fail
                go_ret
                exact ⟨rfl, (Hb.out.drewN _).1⟩
      · go_wp2
        go_ret
        exact ⟨ret_bool (stockB_end HR.out (by omega) hall.out), hbw⟩
set_option maxRecDepth 100000 in
set_option maxHeartbeats 1600000 in
theorem implStockOk (a : Option Addr) (n c : Nat) (zs : List Int) (w : World) (hz : zs.length = n * 2) (hn : n ≤ 1073741824) (ha : CellsAt w a (zs.map (Value.int .i64))) :
    Calls Try.prog 22 #[.slice a n c] w fun e w' => e = .returned (.bool (stockB zs n)) ∧ Below w.heap.size w w' := by
  obtain ⟨r, hr⟩ : ∃ r, stockB zs n = r := ⟨_, rfl⟩
  rw [hr]
  have HR := Lib.hid hr
  clear hr
  by_cases h0 : n = 0
  · subst h0
    clear hz ha
    go_enter Try.func22, Try.ntmps22
    go_wp2
    refine wp_loop_once ?_
    go_wp2
    go_ret
    exact ⟨ret_bool (by rw [← stockB_end HR.out (Nat.le_refl _) (fun j hj => absurd hj (by omega))]; simp), Below.refl _ _⟩
  · obtain ⟨b, o, rfl, hb, hc⟩ := ha.at_ (by simp; omega)
    have Hz := Lib.hid hz
    have H1 := Lib.hid hc
    clear hz hc ha
    go_enter Try.func22, Try.ntmps22
    go_wp2
    go_loopw [7] (fun i wr => ∃ k : Nat, k ≤ n ∧ i = .int .i64 k ∧ Hid (∀ j, j < k → liftAt zs j = true) ∧ Below w.heap.size w wr) (fun i _ => n - (intOf i).toNat)
    case atStart => exact ⟨0, Nat.zero_le _, rfl, Lib.hid (fun j hj => absurd hj (by omega)), Below.refl _ _⟩
    case round =>
      obtain ⟨k, hk, rfl, hall, hbw⟩ := hrel
      by_cases hlt : k < n
      · obtain ⟨x, hx⟩ : ∃ z, zs.getD (k * 2) 0 = z := ⟨_, rfl⟩
        obtain ⟨y, hy⟩ : ∃ z, zs.getD (k * 2 + 1) 0 = z := ⟨_, rfl⟩
        have hcell : ∀ j, j < n * 2 → wr.cell? ⟨b, o + j, none⟩ = some (.int .i64 (zs.getD j 0)) := fun j hj => by
          rw [(hbw.cell (p := ⟨b, o + j, none⟩) hb).trans (H1.out j (by have := Hz.out; simp; omega))]
          simp [List.getElem?_eq_getElem (show j < zs.length by rw [Hz.out]; exact hj)]
        have hcx := hcell (k * 2) (by omega)
        have hcy : wr.cell? ⟨b, o + k * 2 + 1, none⟩ = some (.int .i64 y) := by have := hcell (k * 2 + 1) (by omega); rw [hy] at this; rw [← this]; congr 1
        rw [hx] at hcx
        have hb' : Bel w.heap.size w wr := Bel.of hbw
        have Hb := Lib.hid hb'
        have Hc := Lib.hid hcell
        have hbs : b < wr.heap.size := Nat.lt_of_lt_of_le hb hbw.size
        have Hx := Lib.hid hx
        have Hy := Lib.hid hy
        clear hbw hb' hcell hx hy
        have hlt' : (k : Int) < (n : Int) := by omega
        cases h1 : inB x 1 100 with
        | false =>
          obtain rfl := stockB_bad HR.out hlt (by simp only [liftAt, Hx.out, h1, Bool.false_and])
          go_wp2_with fail
          go_big_quiet ((go_at_call 59; first | exact quiet_left (callsB (within_any _ _ _ _) (by assumption)) | exact quiet_left (within_any _ _ _ _) | exact quiet_add_left (callsB (within_any _ _ _ _) (by assumption)) | exact quiet_add_left (within_any _ _ _ _)))
          go_wp2_with fail
          go_ret
          exact ⟨rfl, (by have hb2 := Hb.out; exact (show Bel w.heap.size w _ from (by repeat (first | assumption | exact Bel.refl _ | refine Bel.drew ?_ | refine Bel.drewN ?_ _ | refine Bel.alloc ?_ _ | refine Bel.setCell ?_ (by simp; try omega) _))).1)⟩
        | true =>
          cases h2 : inB y 0 20 with
          | false =>
            obtain rfl := stockB_bad HR.out hlt (by simp only [liftAt, Hx.out, Hy.out, h1, h2, Bool.false_and, Bool.and_false])
            go_wp2_with fail
            go_big_quiet ((go_at_call 59; first | exact quiet_left (callsB (within_any _ _ _ _) (by assumption)) | exact quiet_left (within_any _ _ _ _) | exact quiet_add_left (callsB (within_any _ _ _ _) (by assumption)) | exact quiet_add_left (within_any _ _ _ _)))
            go_wp2_with fail
            go_ret
            exact ⟨rfl, (by have hb2 := Hb.out; exact (show Bel w.heap.size w _ from (by repeat (first | assumption | exact Bel.refl _ | refine Bel.drew ?_ | refine Bel.drewN ?_ _ | refine Bel.alloc ?_ _ | refine Bel.setCell ?_ (by simp; try omega) _))).1)⟩
          | true =>
            rcases Nat.eq_zero_or_pos k with rfl | hkp
            · have hw0 : liftAt zs 0 = true := by simp only [liftAt, Hx.out, Hy.out, h1, h2]; rfl
              have hn0 : (0 : Int) < (n : Int) := by omega
              have hn1 : 0 < n := by omega
              simp only [Nat.zero_mul, Nat.add_zero] at hcx hcy
              go_wp2_with fail
              go_big_quiet ((go_at_call 59; first | exact quiet_left (callsB (within_any _ _ _ _) (by assumption)) | exact quiet_left (within_any _ _ _ _) | exact quiet_add_left (callsB (within_any _ _ _ _) (by assumption)) | exact quiet_add_left (within_any _ _ _ _)))
              go_wp2_with fail
              go_roundw
              case rel => exact ⟨1, by omega, by go_num, Lib.hid (stockB_more hall.out hw0), (by have hb2 := Hb.out; exact (show Bel w.heap.size w _ from (by repeat (first | assumption | exact Bel.refl _ | refine Bel.drew ?_ | refine Bel.drewN ?_ _ | refine Bel.alloc ?_ _ | refine Bel.setCell ?_ (by simp; try omega) _))).1)⟩
              case measure => simp [intOf]; omega
            · obtain ⟨q, rfl⟩ : ∃ q, k = q + 1 := ⟨k - 1, by omega⟩
              obtain ⟨p, hp⟩ : ∃ z, zs.getD (q * 2) 0 = z := ⟨_, rfl⟩
              have hcp := Hc.out (q * 2) (by omega)
              rw [hp] at hcp
              have Hp := Lib.hid hp
              clear hp
              have hw1 : IntKind.i64.wrap ((q : Int) + 1 - 1) = (q : Int) := by rw [IntWalk.i64_in _ (by omega)]; omega
              have hqn : (q : Int) < (n : Int) := by omega
              by_cases h3 : p < x
              · have hw0 : liftAt zs (q + 1) = true := by simp only [liftAt, Hx.out, Hy.out, h1, h2, Nat.add_sub_cancel, Hp.out]; simp [h3]
                go_wp2_with fail
                go_big_quiet ((go_at_call 59; first | exact quiet_left (callsB (within_any _ _ _ _) (by assumption)) | exact quiet_left (within_any _ _ _ _) | exact quiet_add_left (callsB (within_any _ _ _ _) (by assumption)) | exact quiet_add_left (within_any _ _ _ _)))
                go_wp2_with fail
                go_roundw
                case rel => exact ⟨q + 1 + 1, by omega, by go_num, Lib.hid (stockB_more hall.out hw0), (by have hb2 := Hb.out; exact (show Bel w.heap.size w _ from (by repeat (first | assumption | exact Bel.refl _ | refine Bel.drew ?_ | refine Bel.drewN ?_ _ | refine Bel.alloc ?_ _ | refine Bel.setCell ?_ (by simp; try omega) _))).1)⟩
                case measure => simp [intOf]; omega
              · have hw0 : liftAt zs (q + 1) = false := by simp only [liftAt, Hx.out, Hy.out, h1, h2, Nat.add_sub_cancel, Hp.out]; simp; omega
                obtain rfl := stockB_bad HR.out hlt hw0
                go_wp2_with fail
                go_big_quiet ((go_at_call 59; first | exact quiet_left (callsB (within_any _ _ _ _) (by assumption)) | exact quiet_left (within_any _ _ _ _) | exact quiet_add_left (callsB (within_any _ _ _ _) (by assumption)) | exact quiet_add_left (within_any _ _ _ _)))
                go_wp2_with fail
                go_ret
                exact ⟨rfl, (by have hb2 := Hb.out; exact (show Bel w.heap.size w _ from (by repeat (first | assumption | exact Bel.refl _ | refine Bel.drew ?_ | refine Bel.drewN ?_ _ | refine Bel.alloc ?_ _ | refine Bel.setCell ?_ (by simp; try omega) _))).1)⟩
      · go_wp2
        go_ret
        exact ⟨ret_bool (stockB_end HR.out (by omega) hall.out), hbw⟩
end Go.Proofs.Ytlaapndncejlgaa
