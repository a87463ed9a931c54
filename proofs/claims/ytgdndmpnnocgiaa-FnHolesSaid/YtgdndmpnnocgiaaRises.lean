/-
  Contracts of the tests of rising numbers, both sides. No condition of its own.
-/
import Derived.Test.YtgdndmpnnocgiaaSlices
import Derived.Test.YtgdndmpnnocgiaaSides
import Derived.BigQuiet
import Derived.StillTailTactics
import Derived.WalkLawsBesides
namespace Go.Proofs.Ytgdndmpnnocgiaa
open Go.ChangeShapes Go.WideShapes Go.ChangeAt Go.RowKit Go.Deep Go.Shelf

/-- The number at the place k is between bounds and above the one before. -/
def riseAt (zs : List Int) (lo hi : Int) (k : Nat) : Bool := inB (zs.getD k 0) lo hi && (decide (k = 0) || decide (zs.getD (k - 1) 0 < zs.getD k 0))
def risesB (zs : List Int) (n : Nat) (lo hi : Int) : Bool := decide (∀ k, k < n → riseAt zs lo hi k = true)
theorem risesB_bad {zs : List Int} {n k : Nat} {lo hi : Int} {r : Bool} (hr : risesB zs n lo hi = r) (hk : k < n) (h : riseAt zs lo hi k = false) : r = false := by
  rw [← hr, risesB]
  have : ¬ (∀ k, k < n → riseAt zs lo hi k = true) := fun hall => by rw [hall k hk] at h; cases h
  simp [this]
theorem risesB_end {zs : List Int} {n k : Nat} {lo hi : Int} {r : Bool} (hr : risesB zs n lo hi = r) (hk : n ≤ k) (h : ∀ j, j < k → riseAt zs lo hi j = true) : r = true := by
  rw [← hr, risesB]
  exact decide_eq_true fun j hj => h j (by omega)
theorem risesB_more {zs : List Int} {k : Nat} {lo hi : Int} (h : ∀ j, j < k → riseAt zs lo hi j = true) (hk : riseAt zs lo hi k = true) : ∀ j, j < k + 1 → riseAt zs lo hi j = true := fun j hj => by
  by_cases e : j = k
  · subst e; exact hk
  · exact h j (by omega)

set_option maxRecDepth 100000 in
set_option maxHeartbeats 1600000 in
theorem l00Rises_any (a : Option Addr) (n c : Nat) (zs : List Int) (lo hi : Int) (w : World) (hz : zs.length = n) (hn : n ≤ 1073741824) (ha : CellsAt w a (zs.map (Value.int .i64))) :
    Calls Try.prog 49 #[.slice a n c, .int .i64 lo, .int .i64 hi] w fun e w' => e = .returned (.bool (risesB zs n lo hi)) ∧ Below w.heap.size w w' := by
  obtain ⟨r, hr⟩ : ∃ r, risesB zs n lo hi = r := ⟨_, rfl⟩
  rw [hr]
  have HR := Lib.hid hr
  have Hz := Lib.hid hz
  have HA := Lib.hid ha
  clear hr hz ha
  go_enter Try.func49, Try.ntmps49
  go_wp2
  go_loopw [7] (fun i wr => ∃ k : Nat, k ≤ n ∧ i = .int .i64 k ∧ Hid (∀ j, j < k → riseAt zs lo hi j = true) ∧ Hid (Bel w.heap.size w wr)) (fun i _ => n - (intOf i).toNat)
  case atStart => exact ⟨0, Nat.zero_le _, rfl, Lib.hid (fun j hj => absurd hj (by omega)), Lib.hid (Bel.refl w)⟩
  case round =>
    obtain ⟨k, hk, rfl, hall, Hb⟩ := hrel
    by_cases hlt : k < n
    · obtain ⟨b, o, rfl, hb, hc⟩ := HA.out.at_ (by have := Hz.out; simp; omega)
      obtain ⟨x, hx⟩ : ∃ z, zs.getD k 0 = z := ⟨_, rfl⟩
      have hcx := cell_int hb Hb.out.1 hc (by rw [Hz.out]; exact hlt) hx
      have Hx := Lib.hid hx
      have hlt' : (k : Int) < (n : Int) := by omega
      have Hc := Lib.hid hc
      clear hx hc
      cases h1 : inB x lo hi with
      | false =>
        obtain rfl := risesB_bad HR.out hlt (by simp only [riseAt, Hx.out, h1, Bool.false_and])
        go_wp2_with fail
        go_big_quiet ((go_at_call 50; first | exact quiet_left (callsB (l00In_any _ _ _ _) (by assumption)) | exact quiet_left (l00In_any _ _ _ _) | exact quiet_add_left (callsB (l00In_any _ _ _ _) (by assumption)) | exact quiet_add_left (l00In_any _ _ _ _)))
        go_wp2_with fail
        go_ret
        exact ⟨rfl, (Hb.out.drewN _).1⟩
      | true =>
        rcases Nat.eq_zero_or_pos k with rfl | hkp
        · have hw0 : riseAt zs lo hi 0 = true := by simp only [riseAt, Hx.out, h1]; rfl
          have hn0 : (0 : Int) < (n : Int) := by omega
          simp only [Nat.add_zero] at hcx
          go_wp2_with fail
          go_big_quiet ((go_at_call 50; first | exact quiet_left (callsB (l00In_any _ _ _ _) (by assumption)) | exact quiet_left (l00In_any _ _ _ _) | exact quiet_add_left (callsB (l00In_any _ _ _ _) (by assumption)) | exact quiet_add_left (l00In_any _ _ _ _)))
          go_wp2_with fail
          go_roundw
          case rel => exact ⟨1, by omega, by go_num, Lib.hid (risesB_more hall.out hw0), Lib.hid (Hb.out.drewN _)⟩
          case measure => simp [intOf]; omega
        · obtain ⟨q, rfl⟩ : ∃ q, k = q + 1 := ⟨k - 1, by omega⟩
          obtain ⟨p, hp⟩ : ∃ z, zs.getD q 0 = z := ⟨_, rfl⟩
          have hcp := cell_int hb Hb.out.1 Hc.out (by rw [Hz.out]; omega) hp
          have Hp := Lib.hid hp
          clear hp
          have hw1 : IntKind.i64.wrap ((q : Int) + 1 - 1) = (q : Int) := by rw [IntWalk.i64_in _ (by omega)]; omega
          have hqn : (q : Int) < (n : Int) := by omega
          by_cases h3 : p < x
          · have hw0 : riseAt zs lo hi (q + 1) = true := by simp only [riseAt, Hx.out, h1, Nat.add_sub_cancel, Hp.out]; simp [h3]
            have h3' : decide (x ≤ p) = false := by simpa using h3
            go_wp2_with fail
            go_big_quiet ((go_at_call 50; first | exact quiet_left (callsB (l00In_any _ _ _ _) (by assumption)) | exact quiet_left (l00In_any _ _ _ _) | exact quiet_add_left (callsB (l00In_any _ _ _ _) (by assumption)) | exact quiet_add_left (l00In_any _ _ _ _)))
            go_wp2_with fail
            go_roundw
            case rel => exact ⟨q + 1 + 1, by omega, by go_num, Lib.hid (risesB_more hall.out hw0), Lib.hid (Hb.out.drewN _)⟩
            case measure => simp [intOf]; omega
          · have hw0 : riseAt zs lo hi (q + 1) = false := by simp only [riseAt, Hx.out, h1, Nat.add_sub_cancel, Hp.out]; simp; omega
            obtain rfl := risesB_bad HR.out hlt hw0
            have h3' : decide (x ≤ p) = true := by simpa using h3
            go_wp2_with fail
            go_big_quiet ((go_at_call 50; first | exact quiet_left (callsB (l00In_any _ _ _ _) (by assumption)) | exact quiet_left (l00In_any _ _ _ _) | exact quiet_add_left (callsB (l00In_any _ _ _ _) (by assumption)) | exact quiet_add_left (l00In_any _ _ _ _)))
            go_wp2_with fail
            go_ret
            exact ⟨rfl, (Hb.out.drewN _).1⟩
    · obtain rfl := risesB_end HR.out (by omega) hall.out
      go_wp2
      go_ret
      exact ⟨rfl, Hb.out.1⟩

set_option maxRecDepth 100000 in
set_option maxHeartbeats 1600000 in
theorem isIncreasing_any (a : Option Addr) (n c : Nat) (zs : List Int) (lo hi : Int) (w : World) (hz : zs.length = n) (hn : n ≤ 1073741824) (ha : CellsAt w a (zs.map (Value.int .i64))) :
    Calls Try.prog 52 #[.slice a n c, .int .i64 lo, .int .i64 hi] w fun e w' => e = .returned (.bool (risesB zs n lo hi)) ∧ Below w.heap.size w w' := by
  obtain ⟨r, hr⟩ : ∃ r, risesB zs n lo hi = r := ⟨_, rfl⟩
  rw [hr]
  have HR := Lib.hid hr
  have Hz := Lib.hid hz
  have HA := Lib.hid ha
  clear hr hz ha
  go_enter Try.func52, Try.ntmps52
  go_wp2
  go_loopw [11] (fun i wr => ∃ k : Nat, k ≤ n ∧ i = .int .i64 k ∧ Hid (∀ j, j < k → riseAt zs lo hi j = true) ∧ Hid (Bel w.heap.size w wr)) (fun i _ => n - (intOf i).toNat)
  case atStart => exact ⟨0, Nat.zero_le _, rfl, Lib.hid (fun j hj => absurd hj (by omega)), Lib.hid (Bel.refl w)⟩
  case round =>
    obtain ⟨k, hk, rfl, hall, Hb⟩ := hrel
    by_cases hlt : k < n
    · obtain ⟨b, o, rfl, hb, hc⟩ := HA.out.at_ (by have := Hz.out; simp; omega)
      obtain ⟨x, hx⟩ : ∃ z, zs.getD k 0 = z := ⟨_, rfl⟩
      have hcx := cell_int hb Hb.out.1 hc (by rw [Hz.out]; exact hlt) hx
      have Hx := Lib.hid hx
      have hlt' : (k : Int) < (n : Int) := by omega
      have Hc := Lib.hid hc
      clear hx hc
      cases h1 : inB x lo hi with
      | false =>
        obtain rfl := risesB_bad HR.out hlt (by simp only [riseAt, Hx.out, h1, Bool.false_and])
        go_wp2_with (go_at_call 53; refine (within_any _ _ _ _).mono ?_; rintro e w1 ⟨rfl, rfl⟩)
        go_ret
        exact ⟨rfl, Hb.out.1⟩
      | true =>
        rcases Nat.eq_zero_or_pos k with rfl | hkp
        · have hw0 : riseAt zs lo hi 0 = true := by simp only [riseAt, Hx.out, h1]; rfl
          have hn0 : (0 : Int) < (n : Int) := by omega
          simp only [Nat.add_zero] at hcx
          go_wp2_with (go_at_call 53; refine (within_any _ _ _ _).mono ?_; rintro e w1 ⟨rfl, rfl⟩)
          go_roundw
          case rel => exact ⟨1, by omega, by go_num, Lib.hid (risesB_more hall.out hw0), Hb⟩
          case measure => simp [intOf]; omega
        · obtain ⟨q, rfl⟩ : ∃ q, k = q + 1 := ⟨k - 1, by omega⟩
          obtain ⟨p, hp⟩ : ∃ z, zs.getD q 0 = z := ⟨_, rfl⟩
          have hcp := cell_int hb Hb.out.1 Hc.out (by rw [Hz.out]; omega) hp
          have Hp := Lib.hid hp
          clear hp
          have hw1 : IntKind.i64.wrap ((q : Int) + 1 - 1) = (q : Int) := by rw [IntWalk.i64_in _ (by omega)]; omega
          have hqn : (q : Int) < (n : Int) := by omega
          by_cases h3 : p < x
          · have hw0 : riseAt zs lo hi (q + 1) = true := by simp only [riseAt, Hx.out, h1, Nat.add_sub_cancel, Hp.out]; simp [h3]
            go_wp2_with (go_at_call 53; refine (within_any _ _ _ _).mono ?_; rintro e w1 ⟨rfl, rfl⟩)
            go_roundw
            case rel => exact ⟨q + 1 + 1, by omega, by go_num, Lib.hid (risesB_more hall.out hw0), Hb⟩
            case measure => simp [intOf]; omega
          · have hw0 : riseAt zs lo hi (q + 1) = false := by simp only [riseAt, Hx.out, h1, Nat.add_sub_cancel, Hp.out]; simp; omega
            obtain rfl := risesB_bad HR.out hlt hw0
            go_wp2_with (go_at_call 53; refine (within_any _ _ _ _).mono ?_; rintro e w1 ⟨rfl, rfl⟩)
            go_ret
            exact ⟨rfl, Hb.out.1⟩
    · obtain rfl := risesB_end HR.out (by omega) hall.out
      go_wp2
      go_ret
      exact ⟨rfl, Hb.out.1⟩
end Go.Proofs.Ytgdndmpnnocgiaa
