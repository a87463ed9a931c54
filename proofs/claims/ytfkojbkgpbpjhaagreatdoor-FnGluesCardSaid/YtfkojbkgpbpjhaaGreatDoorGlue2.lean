/-
  Contracts of WarmGlue and of the checks of one join. No condition of its own.
-/
import Derived.Test.YtfkojbkgpbpjhaaGreatDoorGlue
import Derived.WalkLawsBesides
import Derived.Outline
namespace Go.Proofs.YtfkojbkgpbpjhaaGreatDoor
open Go.ChangeShapes Go.WideShapes Go.ChangeAt Go.RowKit Go.Deep

/-- A glue at other degrees, and the code. -/
def warmF (d o p g : Int) : Int × Int × Int × Int :=
  if glueB d o p = false then (0, 0, 0, 1) else if inB g 0 40 = false then (0, 0, 0, 2) else (d * (50 - g) / 50, o * (50 - g) / 50, max (p * (50 - g) / 50) 1, 0)
theorem warmF_bad {d o p g : Int} (h : glueB d o p = false) : warmF d o p g = (0, 0, 0, 1) := by simp [warmF, h]
theorem warmF_range {d o p g : Int} (h : glueB d o p = true) (k : inB g 0 40 = false) : warmF d o p g = (0, 0, 0, 2) := by simp [warmF, h, k]
theorem warmF_ok {d o p g : Int} (h : glueB d o p = true) (k : inB g 0 40 = true) : warmF d o p g = (d * (50 - g) / 50, o * (50 - g) / 50, max (p * (50 - g) / 50) 1, 0) := by simp [warmF, h, k]

theorem mul_rate {x g : Int} (h1 : 0 ≤ x) (h2 : x ≤ 1440) (h3 : 0 ≤ g) (h4 : g ≤ 40) : 0 ≤ x * (50 - g) ∧ x * (50 - g) ≤ 72000 := by
  constructor
  · exact Int.mul_nonneg h1 (by omega)
  · have : x * (50 - g) ≤ 1440 * 50 := Int.mul_le_mul h2 (by omega) (by omega) (by omega)
    omega

set_option maxHeartbeats 1600000 in
theorem warmGlue_any (d o p g : Int) (w : World) : Calls Tryz.prog 12 #[.agg #[.int .i64 d, .int .i64 o, .int .i64 p], .int .i64 g] w fun e w' =>
    e = .returned (.tuple #[.agg #[.int .i64 (warmF d o p g).1, .int .i64 (warmF d o p g).2.1, .int .i64 (warmF d o p g).2.2.1], .int .i64 (warmF d o p g).2.2.2]) ∧ Below w.heap.size w w' := by
  cases hg : glueB d o p with
  | false =>
    rw [warmF_bad hg]
    go_enter Tryz.func12, Tryz.ntmps12
    go_wp2_with (go_at_call 23; refine (validGlue_any _ _ _ _).mono ?_; rintro e w1 ⟨rfl, rfl⟩)
    exact bodyPost_ret (v := .tuple #[.agg #[.int .i64 0, .int .i64 0, .int .i64 0], .int .i64 1]) (by simp [results, Tryz.results12, go_sem]) rfl ⟨rfl, (by repeat (first | exact Below.refl _ _ | assumption | refine Below.drew ?_ | refine below_drewN ?_ _ | refine Below.alloc ?_ (by simp; try omega) _ | refine Below.setCell ?_ (by simp; try omega) _))⟩
  | true =>
    obtain ⟨h1, h2, h3, h4, h5⟩ := glueB_true.1 hg
    cases hx : inB g 0 40 with
    | false =>
      rw [warmF_range hg hx]
      go_enter Tryz.func12, Tryz.ntmps12
      go_wp2_with (first | (go_at_call 23; refine (validGlue_any _ _ _ _).mono ?_; rintro e w1 ⟨rfl, rfl⟩) | (go_at_call 42; refine (within_any _ _ _ _).mono ?_; rintro e w1 ⟨rfl, rfl⟩))
      exact bodyPost_ret (v := .tuple #[.agg #[.int .i64 0, .int .i64 0, .int .i64 0], .int .i64 2]) (by simp [results, Tryz.results12, go_sem]) rfl ⟨rfl, (by repeat (first | exact Below.refl _ _ | assumption | refine Below.drew ?_ | refine below_drewN ?_ _ | refine Below.alloc ?_ (by simp; try omega) _ | refine Below.setCell ?_ (by simp; try omega) _))⟩
    | true =>
      rw [warmF_ok hg hx]
      obtain ⟨h6, h7⟩ := inB_true.1 hx
      obtain ⟨m1, m2⟩ := mul_rate (x := d) (by omega) (by omega) h6 h7
      obtain ⟨m3, m4⟩ := mul_rate (x := o) (by omega) (by omega) h6 h7
      obtain ⟨m5, m6⟩ := mul_rate (x := p) (by omega) (by omega) h6 h7
      have e : max (p * (50 - g) / 50) 1 = max 1 (p * (50 - g) / 50) := by omega
      have He := Lib.hid e
      clear e
      go_enter Tryz.func12, Tryz.ntmps12
      go_wp2_with (first | (go_at_call 23; refine (validGlue_any _ _ _ _).mono ?_; rintro e w1 ⟨rfl, rfl⟩) | (go_at_call 42; refine (within_any _ _ _ _).mono ?_; rintro e w1 ⟨rfl, rfl⟩))
      all_goals
        refine bodyPost_ret (v := .tuple #[.agg #[.int .i64 (d * (50 - g) / 50), .int .i64 (o * (50 - g) / 50), .int .i64 (max (p * (50 - g) / 50) 1)], .int .i64 0]) (by simp [results, Tryz.results12, go_sem]; omega) rfl ⟨rfl, (by repeat (first | exact Below.refl _ _ | assumption | refine Below.drew ?_ | refine below_drewN ?_ _ | refine Below.alloc ?_ (by simp; try omega) _ | refine Below.setCell ?_ (by simp; try omega) _))⟩

set_option maxHeartbeats 1600000 in
theorem specWarm_any (d o p g : Int) (w : World) : Calls Tryz.prog 13 #[.agg #[.int .i64 d, .int .i64 o, .int .i64 p], .int .i64 g] w fun e w' =>
    e = .returned (.tuple #[.agg #[.int .i64 (warmF d o p g).1, .int .i64 (warmF d o p g).2.1, .int .i64 (warmF d o p g).2.2.1], .int .i64 (warmF d o p g).2.2.2]) ∧ Below w.heap.size w w' := by
  cases hg : glueB d o p with
  | false =>
    rw [warmF_bad hg]
    go_enter Tryz.func13, Tryz.ntmps13
    go_wp2_with (go_at_call 32; refine (l19Ok_any _ _ _ _).mono ?_; rintro e w1 ⟨rfl, rfl⟩)
    exact bodyPost_ret (v := .tuple #[.agg #[.int .i64 0, .int .i64 0, .int .i64 0], .int .i64 1]) (by simp [results, Tryz.results13, go_sem]) rfl ⟨rfl, (by repeat (first | exact Below.refl _ _ | assumption | refine Below.drew ?_ | refine below_drewN ?_ _ | refine Below.alloc ?_ (by simp; try omega) _ | refine Below.setCell ?_ (by simp; try omega) _))⟩
  | true =>
    obtain ⟨h1, h2, h3, h4, h5⟩ := glueB_true.1 hg
    cases hx : inB g 0 40 with
    | false =>
      rw [warmF_range hg hx]
      go_enter Tryz.func13, Tryz.ntmps13
      go_wp2_with (first | (go_at_call 32; refine (l19Ok_any _ _ _ _).mono ?_; rintro e w1 ⟨rfl, rfl⟩) | (go_at_call 43; refine (l00In_any _ _ _ _).mono ?_; rintro e w1 ⟨rfl, rfl⟩))
      exact bodyPost_ret (v := .tuple #[.agg #[.int .i64 0, .int .i64 0, .int .i64 0], .int .i64 2]) (by simp [results, Tryz.results13, go_sem]) rfl ⟨rfl, (by repeat (first | exact Below.refl _ _ | assumption | refine Below.drew ?_ | refine below_drewN ?_ _ | refine Below.alloc ?_ (by simp; try omega) _ | refine Below.setCell ?_ (by simp; try omega) _))⟩
    | true =>
      rw [warmF_ok hg hx]
      obtain ⟨h6, h7⟩ := inB_true.1 hx
      obtain ⟨m1, m2⟩ := mul_rate (x := d) (by omega) (by omega) h6 h7
      obtain ⟨m3, m4⟩ := mul_rate (x := o) (by omega) (by omega) h6 h7
      obtain ⟨m5, m6⟩ := mul_rate (x := p) (by omega) (by omega) h6 h7
      have e : max (p * (50 - g) / 50) 1 = max 1 (p * (50 - g) / 50) := by omega
      have He := Lib.hid e
      clear e
      go_enter Tryz.func13, Tryz.ntmps13
      go_wp2_with (first | (go_at_call 32; refine (l19Ok_any _ _ _ _).mono ?_; rintro e w1 ⟨rfl, rfl⟩) | (go_at_call 43; refine (l00In_any _ _ _ _).mono ?_; rintro e w1 ⟨rfl, rfl⟩) | (go_at_call 34; refine (l00Max_any _ _ _).mono ?_; rintro e w1 ⟨rfl, rfl⟩))
      all_goals
        refine bodyPost_ret (v := .tuple #[.agg #[.int .i64 (d * (50 - g) / 50), .int .i64 (o * (50 - g) / 50), .int .i64 (max (p * (50 - g) / 50) 1)], .int .i64 0]) (by simp [results, Tryz.results13, go_sem]; omega) rfl ⟨rfl, (by repeat (first | exact Below.refl _ _ | assumption | refine Below.drew ?_ | refine below_drewN ?_ _ | refine Below.alloc ?_ (by simp; try omega) _ | refine Below.setCell ?_ (by simp; try omega) _))⟩

/-- A join is valid. -/
def joinB (a b j t : Int) : Bool := inB a 0 100000 && inB b 0 100000 && inB j 0 100000 && inB t 0 100000 && decide (max a b ≤ j) && decide (j ≤ t)
theorem joinB_true {a b j t : Int} : joinB a b j t = true ↔ 0 ≤ a ∧ a ≤ 100000 ∧ 0 ≤ b ∧ b ≤ 100000 ∧ 0 ≤ j ∧ j ≤ 100000 ∧ 0 ≤ t ∧ t ≤ 100000 ∧ max a b ≤ j ∧ j ≤ t := by simp [joinB, inB_true, and_assoc]
theorem joinB_false {a b j t : Int} : joinB a b j t = false ↔ ¬ (0 ≤ a ∧ a ≤ 100000 ∧ 0 ≤ b ∧ b ≤ 100000 ∧ 0 ≤ j ∧ j ≤ 100000 ∧ 0 ≤ t ∧ t ≤ 100000 ∧ max a b ≤ j ∧ j ≤ t) := by rw [← joinB_true]; simp

set_option maxHeartbeats 1600000 in
theorem validJoin_any (a b j t : Int) (w : World) : Calls Tryz.prog 38 #[.agg #[.int .i64 a, .int .i64 b, .int .i64 j, .int .i64 t]] w fun e w' => e = .returned (.bool (joinB a b j t)) ∧ w.alloc (.cells #[.int .i64 a, .int .i64 b, .int .i64 j, .int .i64 t] 31) = w' := by
  go_enter Tryz.func38, Tryz.ntmps38
  go_wp2_with (go_at_call 30; refine (isMinute_any _ _).mono ?_; rintro e w1 ⟨rfl, rfl⟩)
  all_goals
    go_ret
    refine ⟨ret_bool ?_, rfl⟩
    try simp only [inB_true] at *
    first | exact (joinB_false.2 (by omega)).symm | exact (joinB_true.2 (by omega)).symm | (rw [Bool.eq_iff_iff, joinB_true]; simp; omega)

set_option maxHeartbeats 1600000 in
theorem l19One_any (g off : Nat) (a b j t : Int) (w : World) (h0 : w.cell? ⟨g, off, none⟩ = some (.int .i64 a)) (h1 : w.cell? ⟨g, off + 1, none⟩ = some (.int .i64 b)) (h2 : w.cell? ⟨g, off + 2, none⟩ = some (.int .i64 j)) (h3 : w.cell? ⟨g, off + 3, none⟩ = some (.int .i64 t)) :
    Calls Tryz.prog 40 #[.pointer (some ⟨g, off, none⟩)] w fun e w' => e = .returned (.bool (joinB a b j t)) ∧ ∃ q, w.drewN q = w' := by
  cases ha : inB a 0 100000 with
  | false =>
    go_enter Tryz.func40, Tryz.ntmps40
    go_wp2_with fail
    go_big_quiet ((go_at_call 33; first | exact quiet_left (callsB (l19Minute_any _ _) (by assumption)) | exact quiet_left (l19Minute_any _ _) | exact quiet_add_left (callsB (l19Minute_any _ _) (by assumption)) | exact quiet_add_left (l19Minute_any _ _)))
    go_wp2_with fail
    go_ret
    refine ⟨ret_bool ?_, _, rfl⟩
    exact (joinB_false.2 (by have := inB_false.1 ha; omega)).symm
  | true =>
    cases hb : inB b 0 100000 with
    | false =>
      go_enter Tryz.func40, Tryz.ntmps40
      go_wp2_with fail
      go_big_quiet ((go_at_call 33; first | exact quiet_left (callsB (l19Minute_any _ _) (by assumption)) | exact quiet_left (l19Minute_any _ _) | exact quiet_add_left (callsB (l19Minute_any _ _) (by assumption)) | exact quiet_add_left (l19Minute_any _ _)))
      go_wp2_with fail
      go_ret
      refine ⟨ret_bool ?_, _, rfl⟩
      exact (joinB_false.2 (by have := inB_false.1 hb; omega)).symm
    | true =>
      cases ht : inB t 0 100000 with
      | false =>
        go_enter Tryz.func40, Tryz.ntmps40
        go_wp2_with fail
        go_big_quiet ((go_at_call 33; first | exact quiet_left (callsB (l19Minute_any _ _) (by assumption)) | exact quiet_left (l19Minute_any _ _) | exact quiet_add_left (callsB (l19Minute_any _ _) (by assumption)) | exact quiet_add_left (l19Minute_any _ _)))
        go_wp2_with fail
        go_ret
        refine ⟨ret_bool ?_, _, rfl⟩
        exact (joinB_false.2 (by have := inB_false.1 ht; omega)).symm
      | true =>
        go_enter Tryz.func40, Tryz.ntmps40
        go_wp2_with fail
        go_big_quiet ((first | (go_at_call 33; first | exact quiet_left (callsB (l19Minute_any _ _) (by assumption)) | exact quiet_left (l19Minute_any _ _) | exact quiet_add_left (callsB (l19Minute_any _ _) (by assumption)) | exact quiet_add_left (l19Minute_any _ _)) | (go_at_call 34; first | exact quiet_left (callsB (l00Max_any _ _ _) (by assumption)) | exact quiet_left (l00Max_any _ _ _) | exact quiet_add_left (callsB (l00Max_any _ _ _) (by assumption)) | exact quiet_add_left (l00Max_any _ _ _)) | (go_at_call 43; first | exact quiet_left (callsB (l00In_any _ _ _ _) (by assumption)) | exact quiet_left (l00In_any _ _ _ _) | exact quiet_add_left (callsB (l00In_any _ _ _ _) (by assumption)) | exact quiet_add_left (l00In_any _ _ _ _))))
        go_wp2_with fail
        go_ret
        refine ⟨ret_bool ?_, _, rfl⟩
        have := inB_true.1 ha
        have := inB_true.1 hb
        have := inB_true.1 ht
        rw [Bool.eq_iff_iff, joinB_true, inB_true]; omega
end Go.Proofs.YtfkojbkgpbpjhaaGreatDoor
