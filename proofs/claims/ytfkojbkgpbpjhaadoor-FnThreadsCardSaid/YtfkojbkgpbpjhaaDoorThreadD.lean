/-
  Contracts of StrengthOf, PliesFor, StitchesOn, ThreadFor of the program. No condition of its own.
-/
import Derived.Test.YtfkojbkgpbpjhaaDoorThreadT
import Derived.Test.YtfkojbkgpbpjhaaDoorBox
namespace Go.Proofs.YtfkojbkgpbpjhaaDoor
open Go.ChangeShapes Go.WideShapes Go.ChangeAt Go.RowKit Go.Deep
/-- The strength of a thread. -/
def strengthI (b : Bool) (n e : Int) : Int := if b then n * e * 11 / 10 else n * e

theorem mul_bd {n e : Int} (h1 : 1 ≤ n) (h2 : n ≤ 12) (h3 : 1 ≤ e) (h4 : e ≤ 100) : 0 ≤ n * e ∧ n * e ≤ 1200 := by
  constructor
  · exact Int.mul_nonneg (by omega) (by omega)
  · have : n * e ≤ 12 * 100 := Int.mul_le_mul h2 h4 (by omega) (by omega)
    omega

theorem strength_any (b : Bool) (n e : Int) (w : World) (h1 : 1 ≤ n) (h2 : n ≤ 12) (h3 : 1 ≤ e) (h4 : e ≤ 100) :
    Calls Tryd.prog 62 #[.agg #[.int .i64 n, .int .i64 e, .bool b]] w fun d w' => d = .returned (.int .i64 (strengthI b n e)) ∧ Below w.heap.size w w' := by
  obtain ⟨m1, m2⟩ := mul_bd h1 h2 h3 h4
  cases b
  all_goals
    go_enter Tryd.func62, Tryd.ntmps62
    go_wp2
    go_ret
    exact ⟨ret_int (by simp [strengthI]), (by repeat (first | exact Below.refl _ _ | assumption | refine Below.drew ?_ | refine below_drewN ?_ _ | refine Below.alloc ?_ (by simp; try omega) _ | refine Below.setCell ?_ (by simp; try omega) _))⟩

/-- r is the least number of plies for the force f, c the code. -/
def PliesR (b : Bool) (e f r c : Int) : Prop :=
  (inB e 1 100 && inB f 0 10000) = false ∧ r = 0 ∧ c = 2 ∨
  (inB e 1 100 && inB f 0 10000) = true ∧ ((c = 0 ∧ 1 ≤ r ∧ r ≤ 12 ∧ f ≤ strengthI b r e ∧ ∀ j, 1 ≤ j → j < r → strengthI b j e < f) ∨ (c = 10 ∧ r = 0 ∧ ∀ j, 1 ≤ j → j ≤ 12 → strengthI b j e < f))

theorem pliesR_one {b : Bool} {e f r c r' c' : Int} (h : PliesR b e f r c) (h' : PliesR b e f r' c') : r = r' ∧ c = c' := by
  rcases h with ⟨h0, h1, h2⟩ | ⟨h0, h⟩
  · rcases h' with ⟨_, h1', h2'⟩ | ⟨h0', _⟩
    · omega
    · rw [h0] at h0'; cases h0'
  · rcases h' with ⟨h0', _⟩ | ⟨_, h'⟩
    · rw [h0] at h0'; cases h0'
    · rcases h with ⟨h1, h2, h3, h4, h5⟩ | ⟨h1, h2, h3⟩
      · rcases h' with ⟨k1, k2, k3, k4, k5⟩ | ⟨k1, k2, k3⟩
        · have : ¬ r < r' := fun hlt => by have := k5 r h2 hlt; omega
          have : ¬ r' < r := fun hlt => by have := h5 r' k2 hlt; omega
          omega
        · have := k3 r h2 h3; omega
      · rcases h' with ⟨k1, k2, k3, k4, k5⟩ | ⟨k1, k2, k3⟩
        · have := h3 r' k2 k3; omega
        · omega

def PliesEnd (b : Bool) (e f : Int) (w : World) (d : Ending) (w' : World) : Prop := ∃ r c, d = .returned (.tuple #[.int .i64 r, .int .i64 c]) ∧ PliesR b e f r c ∧ Below w.heap.size w w'

set_option maxHeartbeats 1600000 in
theorem impl_plies (b : Bool) (e f : Int) (w : World) : Calls Tryd.prog 20 #[.int .i64 e, .bool b, .int .i64 f] w (PliesEnd b e f w) := by
  cases hin : (inB e 1 100 && inB f 0 10000) with
  | false =>
    by_cases he : inB e 1 100 = true
    · have hf : inB f 0 10000 = false := by simpa [he] using hin
      have Hin := Lib.hid hin
      clear hin
      go_enter Tryd.func20, Tryd.ntmps20
      go_wp2_with (go_at_call 63; refine (within_any _ _ _ _).mono ?_; rintro d w1 ⟨rfl, rfl⟩)
      go_ret2
      exact ⟨0, 2, rfl, .inl ⟨Hin.out, rfl, rfl⟩, Below.refl _ _⟩
    · have he' : inB e 1 100 = false := by simpa using he
      have Hin := Lib.hid hin
      clear hin he
      go_enter Tryd.func20, Tryd.ntmps20
      go_wp2_with (go_at_call 63; refine (within_any _ _ _ _).mono ?_; rintro d w1 ⟨rfl, rfl⟩)
      go_ret2
      exact ⟨0, 2, rfl, .inl ⟨Hin.out, rfl, rfl⟩, Below.refl _ _⟩
  | true =>
    obtain ⟨he, hf⟩ := Bool.and_eq_true_iff.1 hin
    obtain ⟨e1, e2⟩ := inB_true.1 he
    have Hin := Lib.hid hin
    clear hin
    go_enter Tryd.func20, Tryd.ntmps20
    go_wp2_with (go_at_call 63; refine (within_any _ _ _ _).mono ?_; rintro d w1 ⟨rfl, rfl⟩)
    clear he hf
    go_loopw [8] (fun i wr => ∃ k : Int, 1 ≤ k ∧ k ≤ 13 ∧ i = .int .i64 k ∧ Below w.heap.size w wr ∧ Hid (∀ j, 1 ≤ j → j < k → strengthI b j e < f)) (fun i _ => (13 - intOf i).toNat)
    case atStart => exact ⟨1, by omega, by omega, rfl, Below.refl _ _, Lib.hid (fun j h1 h2 => by omega)⟩
    case round =>
      obtain ⟨k, k1, k2, rfl, hbw, hno⟩ := hrel
      have Hb := Lib.hid hbw
      clear hbw
      by_cases hk : k ≤ 12
      · by_cases hs : f ≤ strengthI b k e
        · go_wp2_with (go_at_call 62; refine (strength_any b k e _ k1 hk e1 e2).mono ?_; rintro d w1 ⟨rfl, hb1⟩)
          go_ret2
          exact ⟨k, 0, rfl, .inr ⟨Hin.out, .inl ⟨rfl, k1, hk, hs, hno.out⟩⟩, (((Bel.of Hb.out).alloc _).step hb1).1⟩
        · go_wp2_with (go_at_call 62; refine (strength_any b k e _ k1 hk e1 e2).mono ?_; rintro d w1 ⟨rfl, hb1⟩)
          go_roundw
          case rel =>
            refine ⟨k + 1, by omega, by omega, rfl, (((Bel.of Hb.out).alloc _).step hb1).1, Lib.hid (fun j j1 j2 => ?_)⟩
            by_cases e : j = k
            · subst e; omega
            · exact hno.out j j1 (by omega)
          case measure => simp [intOf]; omega
      · go_wp2
        go_ret2
        have : k = 13 := by omega
        subst this
        exact ⟨0, 10, rfl, .inr ⟨Hin.out, .inr ⟨rfl, rfl, fun j j1 j2 => hno.out j j1 (by omega)⟩⟩, Hb.out⟩

set_option maxHeartbeats 1600000 in
theorem strengthOf_ok (b : Bool) (n e : Int) (w : World) (h1 : 1 ≤ n) (h2 : n ≤ 12) (h3 : 1 ≤ e) (h4 : e ≤ 100) :
    Calls Tryd.prog 18 #[.agg #[.int .i64 n, .int .i64 e, .bool b]] w fun d w' => d = .returned (.tuple #[.int .i64 (strengthI b n e), .int .i64 0]) ∧ Below w.heap.size w w' := by
  have HV := Lib.hid (fun W => validThread_any n e b W)
  rw [threadB_true.2 ⟨⟨h1, h2⟩, h3, h4⟩] at HV
  have HS := Lib.hid (fun W => strength_any b n e W h1 h2 h3 h4)
  have HB0 := Lib.hid ((Bel.refl w).alloc (.cells #[.int .i64 n, .int .i64 e, .bool b] 25))
  clear h1 h2 h3 h4
  go_enter Tryd.func18, Tryd.ntmps18
  go_wp2_with fail
  refine (HV.out _).mono ?_
  rintro d w1 ⟨rfl, hb1⟩
  have HB1 := Lib.hid (Bel.step HB0.out hb1)
  have HQ := Lib.hid ((Obx.new w w.heap.size 25 3 #[.int .i64 n, .int .i64 e, .bool b] (Nat.le_refl _) rfl).below hb1)
  have q0 : w1.cell? ⟨w.heap.size, 0, none⟩ = some (.int .i64 n) := HQ.out.cell 0 (by omega)
  have q1 : w1.cell? ⟨w.heap.size, 1, none⟩ = some (.int .i64 e) := HQ.out.cell 1 (by omega)
  have q2 : w1.cell? ⟨w.heap.size, 2, none⟩ = some (.bool b) := HQ.out.cell 2 (by omega)
  clear hb1
  go_wp2_with fail
  refine (HS.out _).mono ?_
  rintro d w2 ⟨rfl, hb2⟩
  have HB2 := Lib.hid (Bel.step HB1.out hb2)
  clear hb2
  go_wp2_with fail
  go_ret2
  exact ⟨rfl, HB2.out.1⟩

set_option maxHeartbeats 1600000 in
theorem stitchesOn_ok (l d : Int) (w : World) (h1 : 0 ≤ l) (h2 : l ≤ 100000) (h3 : 1 ≤ d) (h4 : d ≤ 80) :
    Calls Tryd.prog 21 #[.int .i64 l, .int .i64 d] w fun e w' => e = .returned (.tuple #[.int .i64 ((l * d + 999) / 1000), .int .i64 0]) ∧ Below w.heap.size w w' := by
  have e1 : inB l 0 100000 = true := inB_true.2 ⟨h1, h2⟩
  have e2 : inB d 1 80 = true := inB_true.2 ⟨h3, h4⟩
  have m1 : 0 ≤ l * d := Int.mul_nonneg h1 (by omega)
  have m2 : l * d ≤ 100000 * 80 := Int.mul_le_mul h2 h4 (by omega) (by omega)
  go_enter Tryd.func21, Tryd.ntmps21
  go_wp2_with (go_at_call 63; refine (within_any _ _ _ _).mono ?_; rintro e w1 ⟨rfl, rfl⟩; simp only [e1, e2])
  all_goals
    go_ret2
    exact ⟨rfl, (by repeat (first | exact Below.refl _ _ | assumption | refine Below.drew ?_ | refine below_drewN ?_ _ | refine Below.alloc ?_ (by simp; try omega) _ | refine Below.setCell ?_ (by simp; try omega) _))⟩

set_option maxHeartbeats 1600000 in
theorem threadFor_ok (l d t : Int) (w : World) (h1 : 0 ≤ l) (h2 : l ≤ 100000) (h3 : 1 ≤ d) (h4 : d ≤ 80) (h5 : 1 ≤ t) (h6 : t ≤ 200) :
    Calls Tryd.prog 22 #[.int .i64 l, .int .i64 d, .int .i64 t] w fun e w' => e = .returned (.tuple #[.int .i64 (2 * (l + t * ((l * d + 999) / 1000) + 300)), .int .i64 0]) ∧ Below w.heap.size w w' := by
  have e1 : inB t 1 200 = true := inB_true.2 ⟨h5, h6⟩
  have m1 : 0 ≤ l * d := Int.mul_nonneg h1 (by omega)
  have m2 : l * d ≤ 100000 * 80 := Int.mul_le_mul h2 h4 (by omega) (by omega)
  have HS := Lib.hid (fun W => stitchesOn_ok l d W h1 h2 h3 h4)
  have hk : 0 ≤ (l * d + 999) / 1000 ∧ (l * d + 999) / 1000 ≤ 8001 := by omega
  generalize (l * d + 999) / 1000 = k at hk HS ⊢
  obtain ⟨k1, k2⟩ := hk
  have m3 : 0 ≤ t * k := Int.mul_nonneg (by omega) k1
  have m4 : t * k ≤ 200 * 8001 := Int.mul_le_mul h6 k2 k1 (by omega)
  clear m1 m2
  go_enter Tryd.func22, Tryd.ntmps22
  go_wp2_with (first | (go_at_call 21; refine (HS.out _).mono ?_; rintro e w1 ⟨rfl, hb1⟩; have HB1 := Lib.hid hb1; clear hb1) | (go_at_call 63; refine (within_any _ _ _ _).mono ?_; rintro e w2 ⟨rfl, rfl⟩; simp only [e1]))
  all_goals
    go_ret2
    exact ⟨rfl, HB1.out⟩
end Go.Proofs.YtfkojbkgpbpjhaaDoor
