/-
  Contracts of the tests of a name, both sides. No condition of its own.
-/
import Derived.Test.YtlaapndncejlgaaBase
import Derived.BigQuiet
import Derived.WalkLawsBesides
namespace Go.Proofs.Ytlaapndncejlgaa
open Go.ChangeShapes Go.WideShapes Go.ChangeAt Go.RowKit Go.Deep

/-- The byte at the place k. -/
def bz (s : ByteArray) (k : Nat) : Int := if h : k < s.size then ((s[k]'h).toNat : Int) else 0
theorem bz_at {s : ByteArray} {k : Nat} (h : k < s.size) : bz s k = ((s[k]'h).toNat : Int) := dif_pos h
def smallZ (x : Int) : Bool := decide (97 ≤ x) && decide (x ≤ 122)
def digitZ (x : Int) : Bool := decide (48 ≤ x) && decide (x ≤ 57)
def nameZ (x : Int) : Bool := smallZ x || (digitZ x || (x == 45))
def okName (s : ByteArray) : Bool := decide (1 ≤ s.size) && (decide (s.size ≤ 12) && (smallZ (bz s 0) && decide (∀ k, k < s.size → nameZ (bz s k) = true)))
theorem name_bad {s : ByteArray} {k : Nat} {r : Bool} (hr : okName s = r) (hk : k < s.size) (h : nameZ (s[k].toNat : Int) = false) : r = false := by
  rw [← hr]
  have : ¬ (∀ k, k < s.size → nameZ (bz s k) = true) := fun hall => by have := hall k hk; rw [bz_at hk, h] at this; cases this
  simp [okName, this]
theorem name_end {s : ByteArray} {k : Nat} {r : Bool} (hr : okName s = r) (h1 : 1 ≤ s.size) (h2 : s.size ≤ 12) (h3 : smallZ (bz s 0) = true) (hk : s.size ≤ k) (h : ∀ j, j < k → nameZ (bz s j) = true) : r = true := by
  rw [← hr]
  simp only [okName, h1, h2, h3, decide_true, Bool.true_and]
  exact decide_eq_true fun j hj => h j (by omega)
theorem name_more {s : ByteArray} {k : Nat} (hk : k < s.size) (h : ∀ j, j < k → nameZ (bz s j) = true) (hx : nameZ (s[k].toNat : Int) = true) : ∀ j, j < k + 1 → nameZ (bz s j) = true := fun j hj => by
  by_cases e : j = k
  · subst e; rw [bz_at hk]; exact hx
  · exact h j (by omega)
theorem name_small {x : Int} (h : smallZ x = true) : nameZ x = true := by simp [nameZ, h]
theorem small_true {x : Int} : smallZ x = true ↔ 97 ≤ x ∧ x ≤ 122 := by simp [smallZ]
theorem digit_true {x : Int} : digitZ x = true ↔ 48 ≤ x ∧ x ≤ 57 := by simp [digitZ]
theorem name_ways {x : Int} (h : nameZ x = true) : (97 ≤ x ∧ x ≤ 122) ∨ (48 ≤ x ∧ x ≤ 57) ∨ x = 45 := by
  simpa [nameZ, smallZ, digitZ] using h
theorem name_outs {x : Int} (h : nameZ x = false) : (x < 48 ∧ x ≠ 45) ∨ (57 < x ∧ x < 97) ∨ 122 < x := by
  have h' : ¬ nameZ x = true := by simp [h]
  simp only [nameZ, smallZ, digitZ, Bool.or_eq_true, Bool.and_eq_true, decide_eq_true_eq, beq_iff_eq] at h'
  omega

set_option maxRecDepth 100000 in
set_option maxHeartbeats 3200000 in
theorem isName_any (s : ByteArray) (w : World) (hs : s.size ≤ maxLen) : Calls Try.prog 89 #[.string s] w fun e w' => e = .returned (.bool (okName s)) ∧ w = w' := by
  unfold maxLen at hs
  obtain ⟨r, hr⟩ : ∃ r, okName s = r := ⟨_, rfl⟩
  rw [hr]
  have HR := Lib.hid hr
  clear hr
  by_cases h1 : 1 ≤ s.size
  · by_cases h2 : s.size ≤ 12
    · have h0 : 0 < s.size := h1
      cases h3 : smallZ (s[0].toNat : Int) with
      | false =>
        obtain rfl : r = false := by rw [← HR.out]; simp [okName, bz_at h0, h3]
        have h3' : ¬ ((97 : Int) ≤ (s[0].toNat : Int) ∧ (s[0].toNat : Int) ≤ 122) := fun h => by have := small_true.2 h; rw [h3] at this; cases this
        clear h3
        by_cases h4 : (s[0].toNat : Int) < 97
        · go_enter Try.func89, Try.ntmps89
          go_wp2
          go_ret
          exact ⟨rfl, rfl⟩
        · have h5 : 122 < (s[0].toNat : Int) := by omega
          go_enter Try.func89, Try.ntmps89
          go_wp2
          go_ret
          exact ⟨rfl, rfl⟩
      | true =>
        have HS := Lib.hid h3
        obtain ⟨h4, h5⟩ := small_true.1 h3
        clear h3
        go_enter Try.func89, Try.ntmps89
        go_wp2
        go_loop [3] (fun i => ∃ k : Nat, 1 ≤ k ∧ k ≤ s.size ∧ i = .int .i64 k ∧ Hid (∀ j, j < k → nameZ (bz s j) = true)) (fun i => s.size - (intOf i).toNat)
        case atStart => exact ⟨1, Nat.le_refl _, h1, rfl, Lib.hid (fun j hj => by obtain rfl : j = 0 := by omega
                                                                                  rw [bz_at h0]; exact name_small HS.out)⟩
        case round =>
          obtain ⟨k, hk1, hk, rfl, hall⟩ := hrel
          by_cases hlt : k < s.size
          · cases hx : nameZ (s[k].toNat : Int) with
            | true =>
              have HX := Lib.hid hx
              rcases name_ways hx with ⟨a1, a2⟩ | ⟨a1, a2⟩ | a1
              · clear hx
                go_wp2
                go_round
                case rel => exact ⟨k + 1, by omega, by omega, by go_num, Lib.hid (name_more hlt hall.out HX.out)⟩
                case measure => simp [intOf]; omega
              · clear hx
                go_wp2
                go_round
                case rel => exact ⟨k + 1, by omega, by omega, by go_num, Lib.hid (name_more hlt hall.out HX.out)⟩
                case measure => simp [intOf]; omega
              · have a2 : ((s[k].toNat : Int) != 45) = false := by simp [a1]
                have a3 : (s[k].toNat : Int) ≤ 45 := by omega
                have a4 : 45 ≤ (s[k].toNat : Int) := by omega
                clear hx a1
                go_wp2
                go_round
                case rel => exact ⟨k + 1, by omega, by omega, by go_num, Lib.hid (name_more hlt hall.out HX.out)⟩
                case measure => simp [intOf]; omega
            | false =>
              obtain rfl := name_bad HR.out hlt hx
              rcases name_outs hx with ⟨a1, a2⟩ | ⟨a1, a2⟩ | a1
              · have a3 : ((s[k].toNat : Int) != 45) = true := by simpa using a2
                clear hx a2
                go_wp2
                go_ret
                exact ⟨rfl, rfl⟩
              · have a3 : ((s[k].toNat : Int) != 45) = true := by simp; omega
                clear hx
                go_wp2
                go_ret
                exact ⟨rfl, rfl⟩
              · have a3 : ((s[k].toNat : Int) != 45) = true := by simp; omega
                clear hx
                go_wp2
                go_ret
                exact ⟨rfl, rfl⟩
          · obtain rfl := name_end HR.out h1 h2 (by rw [bz_at h0]; exact HS.out) (by omega) hall.out
            go_wp2
            go_ret
            exact ⟨rfl, rfl⟩
    · obtain rfl : r = false := by rw [← HR.out]; simp [okName, h2]
      go_enter Try.func89, Try.ntmps89
      go_wp2
      go_ret
      exact ⟨rfl, rfl⟩
  · obtain rfl : r = false := by rw [← HR.out]; simp [okName, h1]
    go_enter Try.func89, Try.ntmps89
    go_wp2
    go_ret
    exact ⟨rfl, rfl⟩
theorem l01Small_any (x : Int) (w : World) : Calls Try.prog 99 #[.int .u8 x] w fun e w' => e = .returned (.bool (smallZ x)) ∧ w = w' := by
  by_cases h1 : 97 ≤ x
  · by_cases h2 : x ≤ 122
    all_goals
      go_enter Try.func99, Try.ntmps99
      go_wp2
      go_ret
      exact ⟨by simp [smallZ, h1, h2], rfl⟩
  · go_enter Try.func99, Try.ntmps99
    go_wp2
    go_ret
    exact ⟨by simp [smallZ]; omega, rfl⟩
theorem l01Digit_any (x : Int) (w : World) : Calls Try.prog 100 #[.int .u8 x] w fun e w' => e = .returned (.bool (digitZ x)) ∧ w = w' := by
  by_cases h1 : 48 ≤ x
  · by_cases h2 : x ≤ 57
    all_goals
      go_enter Try.func100, Try.ntmps100
      go_wp2
      go_ret
      exact ⟨by simp [digitZ, h1, h2], rfl⟩
  · go_enter Try.func100, Try.ntmps100
    go_wp2
    go_ret
    exact ⟨by simp [digitZ]; omega, rfl⟩

set_option maxRecDepth 100000 in
set_option maxHeartbeats 3200000 in
theorem specName_any (s : ByteArray) (w : World) (hs : s.size ≤ maxLen) : Calls Try.prog 93 #[.string s] w fun e w' => e = .returned (.bool (okName s)) ∧ w = w' := by
  unfold maxLen at hs
  obtain ⟨r, hr⟩ : ∃ r, okName s = r := ⟨_, rfl⟩
  rw [hr]
  have HR := Lib.hid hr
  clear hr
  by_cases h1 : 1 ≤ s.size
  · have tE : s.toList.isEmpty = false := by
      cases h : s.toList with
      | nil =>
        exfalso
        have e : s.toList.length = s.size := by rw [Lib.toList_data]; simp
        rw [h] at e; simp at e; omega
      | cons a l => rfl
    by_cases h2 : s.size ≤ 12
    · have h0 : 0 < s.size := h1
      cases h3 : smallZ (s[0].toNat : Int) with
      | false =>
        obtain rfl : r = false := by rw [← HR.out]; simp [okName, bz_at h0, h3]
        go_enter Try.func93, Try.ntmps93
        go_wp2_with (go_at_call 99; refine (l01Small_any _ _).mono ?_; rintro e w1 ⟨rfl, rfl⟩)
        go_ret
        exact ⟨rfl, rfl⟩
      | true =>
        have HS := Lib.hid h3
        go_enter Try.func93, Try.ntmps93
        go_wp2_with (go_at_call 99; refine (l01Small_any _ _).mono ?_; rintro e w1 ⟨rfl, rfl⟩)
        clear h3
        go_loop [3] (fun i => ∃ k : Nat, k ≤ s.size ∧ i = .int .i64 k ∧ Hid (∀ j, j < k → nameZ (bz s j) = true)) (fun i => s.size - (intOf i).toNat)
        case atStart => exact ⟨0, Nat.zero_le _, rfl, Lib.hid (fun j hj => absurd hj (by omega))⟩
        case round =>
          obtain ⟨k, hk, rfl, hall⟩ := hrel
          by_cases hlt : k < s.size
          · cases hs1 : smallZ (s[k].toNat : Int) with
            | true =>
              have HX := Lib.hid (name_small hs1)
              go_wp2_with (go_at_call 99; refine (l01Small_any _ _).mono ?_; rintro e w1 ⟨rfl, rfl⟩)
              go_round
              case rel => exact ⟨k + 1, by omega, by go_num, Lib.hid (name_more hlt hall.out HX.out)⟩
              case measure => simp [intOf]; omega
            | false =>
              cases hs2 : digitZ (s[k].toNat : Int) with
              | true =>
                have HX := Lib.hid (show nameZ (s[k].toNat : Int) = true by simp [nameZ, hs2])
                go_wp2_with (first | (go_at_call 99; refine (l01Small_any _ _).mono ?_; rintro e w1 ⟨rfl, rfl⟩) | (go_at_call 100; refine (l01Digit_any _ _).mono ?_; rintro e w1 ⟨rfl, rfl⟩))
                go_round
                case rel => exact ⟨k + 1, by omega, by go_num, Lib.hid (name_more hlt hall.out HX.out)⟩
                case measure => simp [intOf]; omega
              | false =>
                cases hs3 : ((s[k].toNat : Int) == 45) with
                | true =>
                  have HX := Lib.hid (show nameZ (s[k].toNat : Int) = true by simp [nameZ, hs3])
                  have a2 : ((s[k].toNat : Int) != 45) = false := by simp only [bne, hs3]; rfl
                  clear hs3
                  go_wp2_with (first | (go_at_call 99; refine (l01Small_any _ _).mono ?_; rintro e w1 ⟨rfl, rfl⟩) | (go_at_call 100; refine (l01Digit_any _ _).mono ?_; rintro e w1 ⟨rfl, rfl⟩))
                  go_round
                  case rel => exact ⟨k + 1, by omega, by go_num, Lib.hid (name_more hlt hall.out HX.out)⟩
                  case measure => simp [intOf]; omega
                | false =>
                  obtain rfl := name_bad HR.out hlt (by simp only [nameZ, hs1, hs2, hs3]; rfl)
                  have a2 : ((s[k].toNat : Int) != 45) = true := by simp only [bne, hs3]; rfl
                  clear hs3
                  go_wp2_with (first | (go_at_call 99; refine (l01Small_any _ _).mono ?_; rintro e w1 ⟨rfl, rfl⟩) | (go_at_call 100; refine (l01Digit_any _ _).mono ?_; rintro e w1 ⟨rfl, rfl⟩))
                  go_ret
                  exact ⟨rfl, rfl⟩
          · obtain rfl := name_end HR.out h1 h2 (by rw [bz_at h0]; exact HS.out) (by omega) hall.out
            go_wp2
            go_ret
            exact ⟨rfl, rfl⟩
    · obtain rfl : r = false := by rw [← HR.out]; simp [okName, h2]
      go_enter Try.func93, Try.ntmps93
      go_wp2_with fail
      go_ret
      exact ⟨rfl, rfl⟩
  · obtain rfl : r = false := by rw [← HR.out]; simp [okName, h1]
    have tE : s.toList.isEmpty = true := by
      cases h : s.toList with
      | nil => rfl
      | cons a l =>
        exfalso
        have e : s.toList.length = s.size := by rw [Lib.toList_data]; simp
        rw [h] at e; simp at e; omega
    go_enter Try.func93, Try.ntmps93
    go_wp2_with fail
    go_ret
    exact ⟨rfl, rfl⟩
end Go.Proofs.Ytlaapndncejlgaa
