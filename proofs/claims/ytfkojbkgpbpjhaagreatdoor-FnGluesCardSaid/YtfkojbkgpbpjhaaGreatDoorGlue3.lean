/-
  Contracts of JoinFault and CureShare. No condition of its own.
-/
import Derived.Test.YtfkojbkgpbpjhaaGreatDoorGlue2
import Derived.Test.YtfkojbkgpbpjhaaGreatDoorFrac
import Derived.WalkLawsBesides
import Derived.Outline
namespace Go.Proofs.YtfkojbkgpbpjhaaGreatDoor
open Go.ChangeShapes Go.WideShapes Go.ChangeAt Go.RowKit Go.Deep

def wetS : ByteArray := ⟨#[119, 101, 116]⟩
def lateS : ByteArray := ⟨#[108, 97, 116, 101]⟩
def pressS : ByteArray := ⟨#[112, 114, 101, 115, 115]⟩
def noneS : ByteArray := ⟨#[110, 111, 110, 101]⟩
/-- The fault of a join. -/
def faultF (d o p a b j t : Int) : ByteArray :=
  if j < max a b + d then wetS else if min a b + o < j then lateS else if t - j < p then pressS else noneS

theorem faultF_wet {d o p a b j t : Int} (h : j < max a b + d) : faultF d o p a b j t = wetS := by simp only [faultF, if_pos h]
theorem faultF_late {d o p a b j t : Int} (h : ¬ j < max a b + d) (k : min a b + o < j) : faultF d o p a b j t = lateS := by simp only [faultF, if_neg h, if_pos k]
theorem faultF_press {d o p a b j t : Int} (h : ¬ j < max a b + d) (k : ¬ min a b + o < j) (m : t - j < p) : faultF d o p a b j t = pressS := by simp only [faultF, if_neg h, if_neg k, if_pos m]
theorem faultF_none {d o p a b j t : Int} (h : ¬ j < max a b + d) (k : ¬ min a b + o < j) (m : ¬ t - j < p) : faultF d o p a b j t = noneS := by simp only [faultF, if_neg h, if_neg k, if_neg m]

set_option maxHeartbeats 1600000 in
theorem fault_any (d o p a b j t : Int) (w : World) (h1 : 0 ≤ d) (h2 : d ≤ o) (h3 : o ≤ 1440) (h4 : 0 ≤ a) (h5 : a ≤ 100000) (h6 : 0 ≤ b) (h7 : b ≤ 100000) (h8 : 0 ≤ j) (h9 : j ≤ 100000) (h10 : 0 ≤ t) (h11 : t ≤ 100000) :
    Calls Tryz.prog 39 #[.agg #[.int .i64 d, .int .i64 o, .int .i64 p], .agg #[.int .i64 a, .int .i64 b, .int .i64 j, .int .i64 t]] w fun e w' => e = .returned (.string (faultF d o p a b j t)) ∧ Below w.heap.size w w' := by
  go_enter Tryz.func39, Tryz.ntmps39
  go_wp2_with (go_at_call 31; refine (window_any _ _ _ _ _ _ h1 h2 h3 h4 h5 h6 h7).mono ?_; rintro e w1 ⟨rfl, rfl⟩)
  all_goals
    go_ret
    first | exact ⟨ret_str (faultF_wet (by omega)).symm, (by repeat (first | exact Below.refl _ _ | assumption | refine Below.drew ?_ | refine below_drewN ?_ _ | refine Below.alloc ?_ (by simp; try omega) _ | refine Below.setCell ?_ (by simp; try omega) _))⟩ | exact ⟨ret_str (faultF_late (by omega) (by omega)).symm, (by repeat (first | exact Below.refl _ _ | assumption | refine Below.drew ?_ | refine below_drewN ?_ _ | refine Below.alloc ?_ (by simp; try omega) _ | refine Below.setCell ?_ (by simp; try omega) _))⟩ | exact ⟨ret_str (faultF_press (by omega) (by omega) (by omega)).symm, (by repeat (first | exact Below.refl _ _ | assumption | refine Below.drew ?_ | refine below_drewN ?_ _ | refine Below.alloc ?_ (by simp; try omega) _ | refine Below.setCell ?_ (by simp; try omega) _))⟩ | exact ⟨ret_str (faultF_none (by omega) (by omega) (by omega)).symm, (by repeat (first | exact Below.refl _ _ | assumption | refine Below.drew ?_ | refine below_drewN ?_ _ | refine Below.alloc ?_ (by simp; try omega) _ | refine Below.setCell ?_ (by simp; try omega) _))⟩

set_option maxHeartbeats 1600000 in
theorem l19Fault_any (d o p a b j t : Int) (g off : Nat) (w : World) (h1 : 0 ≤ d) (h2 : d ≤ o) (h3 : o ≤ 1440) (h4 : 0 ≤ a) (h5 : a ≤ 100000) (h6 : 0 ≤ b) (h7 : b ≤ 100000) (h8 : 0 ≤ j) (h9 : j ≤ 100000) (h10 : 0 ≤ t) (h11 : t ≤ 100000)
    (hg : g < w.heap.size) (k0 : w.cell? ⟨g, off, none⟩ = some (.int .i64 a)) (k1 : w.cell? ⟨g, off + 1, none⟩ = some (.int .i64 b)) (k2 : w.cell? ⟨g, off + 2, none⟩ = some (.int .i64 j)) (k3 : w.cell? ⟨g, off + 3, none⟩ = some (.int .i64 t)) :
    Calls Tryz.prog 41 #[.agg #[.int .i64 d, .int .i64 o, .int .i64 p], .pointer (some ⟨g, off, none⟩)] w fun e w' => e = .returned (.string (faultF d o p a b j t)) ∧ Below w.heap.size w w' := by
  have e1 : IntKind.i64.wrap (max a b + d) = max a b + d := IntWalk.i64_in _ (by omega)
  have e2 : IntKind.i64.wrap (min a b + o) = min a b + o := IntWalk.i64_in _ (by omega)
  have e3 : IntKind.i64.wrap (t - j) = t - j := IntWalk.i64_in _ (by omega)
  go_enter Tryz.func41, Tryz.ntmps41
  go_wp2_with fail
  go_big_quiet ((go_at_call 34; first | exact quiet_left (callsB (l00Max_any _ _ _) (by assumption)) | exact quiet_left (l00Max_any _ _ _) | exact quiet_add_left (callsB (l00Max_any _ _ _) (by assumption)) | exact quiet_add_left (l00Max_any _ _ _)))
  go_wp2_with fail
  · go_ret
    exact ⟨ret_str (faultF_wet (by omega)).symm, (by repeat (first | exact Below.refl _ _ | assumption | refine Below.drew ?_ | refine below_drewN ?_ _ | refine Below.alloc ?_ (by simp; try omega) _ | refine Below.setCell ?_ (by simp; try omega) _))⟩
  · go_big_quiet ((go_at_call 35; first | exact quiet_left (callsB (l00Min_any _ _ _) (by assumption)) | exact quiet_left (l00Min_any _ _ _) | exact quiet_add_left (callsB (l00Min_any _ _ _) (by assumption)) | exact quiet_add_left (l00Min_any _ _ _)))
    go_wp2_with fail
    · go_ret
      exact ⟨ret_str (faultF_late (by omega) (by omega)).symm, (by repeat (first | exact Below.refl _ _ | assumption | refine Below.drew ?_ | refine below_drewN ?_ _ | refine Below.alloc ?_ (by simp; try omega) _ | refine Below.setCell ?_ (by simp; try omega) _))⟩
    · go_big_quiet (fail)
      go_wp2_with fail
      · go_ret
        exact ⟨ret_str (faultF_press (by omega) (by omega) (by omega)).symm, (by repeat (first | exact Below.refl _ _ | assumption | refine Below.drew ?_ | refine below_drewN ?_ _ | refine Below.alloc ?_ (by simp; try omega) _ | refine Below.setCell ?_ (by simp; try omega) _))⟩
      · go_ret
        exact ⟨ret_str (faultF_none (by omega) (by omega) (by omega)).symm, (by repeat (first | exact Below.refl _ _ | assumption | refine Below.drew ?_ | refine below_drewN ?_ _ | refine Below.alloc ?_ (by simp; try omega) _ | refine Below.setCell ?_ (by simp; try omega) _))⟩

/-- The fault of a join, and the code. -/
def joinFaultF (d o p a b j t : Int) : ByteArray × Int := if (glueB d o p && joinB a b j t) = true then (faultF d o p a b j t, 0) else (⟨#[]⟩, 1)
theorem joinFaultF_bad {d o p a b j t : Int} (h : (glueB d o p && joinB a b j t) = false) : joinFaultF d o p a b j t = (⟨#[]⟩, 1) := by simp only [joinFaultF, h]; simp
theorem joinFaultF_ok {d o p a b j t : Int} (h : glueB d o p = true) (k : joinB a b j t = true) : joinFaultF d o p a b j t = (faultF d o p a b j t, 0) := by simp only [joinFaultF, h, k]; simp

set_option maxHeartbeats 1600000 in
theorem joinFault_any (d o p a b j t : Int) (w : World) : Calls Tryz.prog 9 #[.agg #[.int .i64 d, .int .i64 o, .int .i64 p], .agg #[.int .i64 a, .int .i64 b, .int .i64 j, .int .i64 t]] w fun e w' =>
    e = .returned (.tuple #[.string (joinFaultF d o p a b j t).1, .int .i64 (joinFaultF d o p a b j t).2]) ∧ Below w.heap.size w w' := by
  cases hg : glueB d o p with
  | false =>
    rw [joinFaultF_bad (by rw [hg]; rfl)]
    go_enter Tryz.func9, Tryz.ntmps9
    go_wp2_with (go_at_call 23; refine (validGlue_any _ _ _ _).mono ?_; rintro e w1 ⟨rfl, rfl⟩)
    go_ret2
    exact ⟨rfl, (by repeat (first | exact Below.refl _ _ | assumption | refine Below.drew ?_ | refine below_drewN ?_ _ | refine Below.alloc ?_ (by simp; try omega) _ | refine Below.setCell ?_ (by simp; try omega) _))⟩
  | true =>
    cases hj : joinB a b j t with
    | false =>
      rw [joinFaultF_bad (by rw [hg, hj]; rfl)]
      go_enter Tryz.func9, Tryz.ntmps9
      go_wp2_with (first | (go_at_call 23; refine (validGlue_any _ _ _ _).mono ?_; rintro e w1 ⟨rfl, rfl⟩) | (go_at_call 38; refine (validJoin_any _ _ _ _ _).mono ?_; rintro e w1 ⟨rfl, rfl⟩))
      go_ret2
      exact ⟨rfl, (by repeat (first | exact Below.refl _ _ | assumption | refine Below.drew ?_ | refine below_drewN ?_ _ | refine Below.alloc ?_ (by simp; try omega) _ | refine Below.setCell ?_ (by simp; try omega) _))⟩
    | true =>
      rw [joinFaultF_ok hg hj]
      obtain ⟨h1, h2, h3, h4, h5⟩ := glueB_true.1 hg
      obtain ⟨k1, k2, k3, k4, k5, k6, k7, k8, k9, k10⟩ := joinB_true.1 hj
      go_enter Tryz.func9, Tryz.ntmps9
      go_wp2_with (first | (go_at_call 23; refine (validGlue_any _ _ _ _).mono ?_; rintro e w1 ⟨rfl, rfl⟩) | (go_at_call 38; refine (validJoin_any _ _ _ _ _).mono ?_; rintro e w1 ⟨rfl, rfl⟩) | (go_at_call 39; refine (fault_any _ _ _ _ _ _ _ _ h1 h2 h3 k1 k2 k3 k4 k5 k6 k7 k8).mono ?_; rintro e w1 ⟨rfl, hb1⟩; have hB1 := Bel.step (B := w.heap.size) (a := w) (by repeat (first | assumption | exact Bel.refl _ | refine Bel.drew ?_ | refine Bel.drewN ?_ _ | refine Bel.alloc ?_ _ | refine Bel.setCell ?_ (by simp; try omega) _)) hb1; clear hb1))
      go_ret2
      exact ⟨rfl, Bel.below (by repeat (first | assumption | exact Bel.refl _ | refine Bel.drew ?_ | refine Bel.drewN ?_ _ | refine Bel.alloc ?_ _ | refine Bel.setCell ?_ (by simp; try omega) _))⟩

set_option maxHeartbeats 1600000 in
theorem specFault_any (d o p a b j t : Int) (w : World) : Calls Tryz.prog 10 #[.agg #[.int .i64 d, .int .i64 o, .int .i64 p], .agg #[.int .i64 a, .int .i64 b, .int .i64 j, .int .i64 t]] w fun e w' =>
    e = .returned (.tuple #[.string (joinFaultF d o p a b j t).1, .int .i64 (joinFaultF d o p a b j t).2]) ∧ Below w.heap.size w w' := by
  cases hg : glueB d o p with
  | false =>
    rw [joinFaultF_bad (by rw [hg]; rfl)]
    go_enter Tryz.func10, Tryz.ntmps10
    go_wp2_with (go_at_call 32; refine (l19Ok_any _ _ _ _).mono ?_; rintro e w1 ⟨rfl, rfl⟩)
    go_ret2
    exact ⟨rfl, (by repeat (first | exact Below.refl _ _ | assumption | refine Below.drew ?_ | refine below_drewN ?_ _ | refine Below.alloc ?_ (by simp; try omega) _ | refine Below.setCell ?_ (by simp; try omega) _))⟩
  | true =>
    cases hj : joinB a b j t with
    | false =>
      rw [joinFaultF_bad (by rw [hg, hj]; rfl)]
      go_enter Tryz.func10, Tryz.ntmps10
      go_wp2_with (first | (go_at_call 32; refine (l19Ok_any _ _ _ _).mono ?_; rintro e w1 ⟨rfl, rfl⟩) | (go_at_call 40; refine (l19One_any _ _ a b j t _ (by go_simp) (by go_simp) (by go_simp) (by go_simp)).mono ?_; rintro e w1 ⟨rfl, q1, rfl⟩))
      go_ret2
      exact ⟨rfl, (by repeat (first | exact Below.refl _ _ | assumption | refine Below.drew ?_ | refine below_drewN ?_ _ | refine Below.alloc ?_ (by simp; try omega) _ | refine Below.setCell ?_ (by simp; try omega) _))⟩
    | true =>
      rw [joinFaultF_ok hg hj]
      obtain ⟨h1, h2, h3, h4, h5⟩ := glueB_true.1 hg
      obtain ⟨k1, k2, k3, k4, k5, k6, k7, k8, k9, k10⟩ := joinB_true.1 hj
      go_enter Tryz.func10, Tryz.ntmps10
      go_wp2_with (first | (go_at_call 32; refine (l19Ok_any _ _ _ _).mono ?_; rintro e w1 ⟨rfl, rfl⟩) | (go_at_call 40; refine (l19One_any _ _ a b j t _ (by go_simp) (by go_simp) (by go_simp) (by go_simp)).mono ?_; rintro e w1 ⟨rfl, q1, rfl⟩) | (go_at_call 41; refine (l19Fault_any _ _ _ _ _ _ _ _ 0 _ h1 h2 h3 k1 k2 k3 k4 k5 k6 k7 k8 (by simp) (by go_simp) (by go_simp) (by go_simp) (by go_simp)).mono ?_; rintro e w1 ⟨rfl, hb1⟩; have hB1 := Bel.step (B := w.heap.size) (a := w) (by repeat (first | assumption | exact Bel.refl _ | refine Bel.drew ?_ | refine Bel.drewN ?_ _ | refine Bel.alloc ?_ _ | refine Bel.setCell ?_ (by simp; try omega) _)) hb1; clear hb1))
      go_ret2
      exact ⟨rfl, Bel.below (by repeat (first | assumption | exact Bel.refl _ | refine Bel.drew ?_ | refine Bel.drewN ?_ _ | refine Bel.alloc ?_ _ | refine Bel.setCell ?_ (by simp; try omega) _))⟩

/-- The share of the time to cure that is over, and the code. -/
def cureF (a b j t c m : Int) : Int × Int × Int :=
  if joinB a b j t = false then (0, 0, 1) else if (inB m 0 100000 && inB c 1 100000) = false then (0, 0, 2) else (min (max (m - j) 0) c / Int.gcd (min (max (m - j) 0) c) c, c / Int.gcd (min (max (m - j) 0) c) c, 0)
theorem cureF_bad {a b j t c m : Int} (h : joinB a b j t = false) : cureF a b j t c m = (0, 0, 1) := by simp [cureF, h]
theorem cureF_range {a b j t c m : Int} (h : joinB a b j t = true) (k : (inB m 0 100000 && inB c 1 100000) = false) : cureF a b j t c m = (0, 0, 2) := by simp only [cureF, h, k]; simp
theorem cureF_ok {a b j t c m : Int} (h : joinB a b j t = true) (k : (inB m 0 100000 && inB c 1 100000) = true) :
    cureF a b j t c m = (min (max (m - j) 0) c / Int.gcd (min (max (m - j) 0) c) c, c / Int.gcd (min (max (m - j) 0) c) c, 0) := by simp only [cureF, h, k]; simp

set_option maxHeartbeats 1600000 in
theorem cureShare_any (a b j t c m : Int) (w : World) : Calls Tryz.prog 15 #[.agg #[.int .i64 a, .int .i64 b, .int .i64 j, .int .i64 t], .int .i64 c, .int .i64 m] w fun e w' =>
    e = .returned (.tuple #[.agg #[.int .i64 (cureF a b j t c m).1, .int .i64 (cureF a b j t c m).2.1], .int .i64 (cureF a b j t c m).2.2]) ∧ Below w.heap.size w w' := by
  cases hj : joinB a b j t with
  | false =>
    rw [cureF_bad hj]
    go_enter Tryz.func15, Tryz.ntmps15
    go_wp2_with (go_at_call 38; refine (validJoin_any _ _ _ _ _).mono ?_; rintro e w1 ⟨rfl, rfl⟩)
    exact bodyPost_ret (v := .tuple #[.agg #[.int .i64 0, .int .i64 0], .int .i64 1]) (by simp [results, Tryz.results15, go_sem]) rfl ⟨rfl, (by repeat (first | exact Below.refl _ _ | assumption | refine Below.drew ?_ | refine below_drewN ?_ _ | refine Below.alloc ?_ (by simp; try omega) _ | refine Below.setCell ?_ (by simp; try omega) _))⟩
  | true =>
    cases hc : inB c 1 100000 with
    | false =>
      rw [cureF_range hj (by rw [hc]; simp)]
      cases hm : inB m 0 100000
      all_goals
        go_enter Tryz.func15, Tryz.ntmps15
        go_wp2_with (first | (go_at_call 38; refine (validJoin_any _ _ _ _ _).mono ?_; rintro e w1 ⟨rfl, rfl⟩) | (go_at_call 30; refine (isMinute_any _ _).mono ?_; rintro e w1 ⟨rfl, rfl⟩) | (go_at_call 42; refine (within_any _ _ _ _).mono ?_; rintro e w1 ⟨rfl, rfl⟩) | (go_at_call 44; refine (lowest_any _ _ _ (by omega) (by omega) (by omega) (by omega)).mono ?_; rintro e w2 ⟨rfl, hb2⟩; obtain ⟨hc2, hf2, hl2⟩ := bcell hb2; (try have hs3 := hl2 w.heap.size (by have := hs1; first | (simp; omega) | (go_simp; done) | (go_simp; omega))); (try have hs4 := hl2 w1.heap.size (by first | (simp; done) | (simp; omega) | (go_simp; done))); have hB2 := Bel.step (B := w.heap.size) (a := w) (by repeat (first | assumption | exact Bel.refl _ | refine Bel.drew ?_ | refine Bel.drewN ?_ _ | refine Bel.alloc ?_ _ | refine Bel.setCell ?_ (by simp; try omega) _)) hb2; clear hb2))
        exact bodyPost_ret (v := .tuple #[.agg #[.int .i64 0, .int .i64 0], .int .i64 2]) (by simp [results, Tryz.results15, go_sem]) rfl ⟨rfl, (by repeat (first | exact Below.refl _ _ | assumption | refine Below.drew ?_ | refine below_drewN ?_ _ | refine Below.alloc ?_ (by simp; try omega) _ | refine Below.setCell ?_ (by simp; try omega) _))⟩
    | true =>
      cases hm : inB m 0 100000 with
      | false =>
        rw [cureF_range hj (by rw [hm]; rfl)]
        go_enter Tryz.func15, Tryz.ntmps15
        go_wp2_with (first | (go_at_call 38; refine (validJoin_any _ _ _ _ _).mono ?_; rintro e w1 ⟨rfl, rfl⟩) | (go_at_call 30; refine (isMinute_any _ _).mono ?_; rintro e w1 ⟨rfl, rfl⟩) | (go_at_call 42; refine (within_any _ _ _ _).mono ?_; rintro e w1 ⟨rfl, rfl⟩) | (go_at_call 44; refine (lowest_any _ _ _ (by omega) (by omega) (by omega) (by omega)).mono ?_; rintro e w2 ⟨rfl, hb2⟩; obtain ⟨hc2, hf2, hl2⟩ := bcell hb2; (try have hs3 := hl2 w.heap.size (by have := hs1; first | (simp; omega) | (go_simp; done) | (go_simp; omega))); (try have hs4 := hl2 w1.heap.size (by first | (simp; done) | (simp; omega) | (go_simp; done))); have hB2 := Bel.step (B := w.heap.size) (a := w) (by repeat (first | assumption | exact Bel.refl _ | refine Bel.drew ?_ | refine Bel.drewN ?_ _ | refine Bel.alloc ?_ _ | refine Bel.setCell ?_ (by simp; try omega) _)) hb2; clear hb2))
        exact bodyPost_ret (v := .tuple #[.agg #[.int .i64 0, .int .i64 0], .int .i64 2]) (by simp [results, Tryz.results15, go_sem]) rfl ⟨rfl, (by repeat (first | exact Below.refl _ _ | assumption | refine Below.drew ?_ | refine below_drewN ?_ _ | refine Below.alloc ?_ (by simp; try omega) _ | refine Below.setCell ?_ (by simp; try omega) _))⟩
      | true =>
        rw [cureF_ok hj (by rw [hm, hc]; rfl)]
        obtain ⟨k1, k2, k3, k4, k5, k6, k7, k8, k9, k10⟩ := joinB_true.1 hj
        obtain ⟨m1, m2⟩ := inB_true.1 hm
        obtain ⟨c1, c2⟩ := inB_true.1 hc
        go_enter Tryz.func15, Tryz.ntmps15
        go_wp2_with (first | (go_at_call 38; refine (validJoin_any _ _ _ _ _).mono ?_; rintro e w1 ⟨rfl, rfl⟩) | (go_at_call 30; refine (isMinute_any _ _).mono ?_; rintro e w1 ⟨rfl, rfl⟩) | (go_at_call 42; refine (within_any _ _ _ _).mono ?_; rintro e w1 ⟨rfl, rfl⟩) | (go_at_call 44; refine (lowest_any _ _ _ (by omega) (by omega) (by omega) (by omega)).mono ?_; rintro e w2 ⟨rfl, hb2⟩; obtain ⟨hc2, hf2, hl2⟩ := bcell hb2; (try have hs3 := hl2 w.heap.size (by have := hs1; first | (simp; omega) | (go_simp; done) | (go_simp; omega))); (try have hs4 := hl2 w1.heap.size (by first | (simp; done) | (simp; omega) | (go_simp; done))); have hB2 := Bel.step (B := w.heap.size) (a := w) (by repeat (first | assumption | exact Bel.refl _ | refine Bel.drew ?_ | refine Bel.drewN ?_ _ | refine Bel.alloc ?_ _ | refine Bel.setCell ?_ (by simp; try omega) _)) hb2; clear hb2))
        all_goals
          first
            | ((have e : min (max (m - j) 0) c = c := by omega); exact bodyPost_ret (v := .tuple #[.agg #[.int .i64 (c / Int.gcd c c), .int .i64 (c / Int.gcd c c)], .int .i64 0]) (by simp [results, Tryz.results15, go_sem, hc2]) rfl ⟨by rw [e], Bel.below (by repeat (first | assumption | exact Bel.refl _ | refine Bel.drew ?_ | refine Bel.drewN ?_ _ | refine Bel.alloc ?_ _ | refine Bel.setCell ?_ (by simp; try omega) _))⟩)
            | ((have e : min (max (m - j) 0) c = (m - j) := by omega); exact bodyPost_ret (v := .tuple #[.agg #[.int .i64 ((m - j) / Int.gcd (m - j) c), .int .i64 (c / Int.gcd (m - j) c)], .int .i64 0]) (by simp [results, Tryz.results15, go_sem, hc2]) rfl ⟨by rw [e], Bel.below (by repeat (first | assumption | exact Bel.refl _ | refine Bel.drew ?_ | refine Bel.drewN ?_ _ | refine Bel.alloc ?_ _ | refine Bel.setCell ?_ (by simp; try omega) _))⟩)
            | ((have e : min (max (m - j) 0) c = 0 := by omega); exact bodyPost_ret (v := .tuple #[.agg #[.int .i64 (0 / Int.gcd 0 c), .int .i64 (c / Int.gcd 0 c)], .int .i64 0]) (by simp [results, Tryz.results15, go_sem, hc2]) rfl ⟨by rw [e], Bel.below (by repeat (first | assumption | exact Bel.refl _ | refine Bel.drew ?_ | refine Bel.drewN ?_ _ | refine Bel.alloc ?_ _ | refine Bel.setCell ?_ (by simp; try omega) _))⟩)

set_option maxHeartbeats 1600000 in
theorem specCure_any (a b j t c m : Int) (w : World) : Calls Tryz.prog 16 #[.agg #[.int .i64 a, .int .i64 b, .int .i64 j, .int .i64 t], .int .i64 c, .int .i64 m] w fun e w' =>
    e = .returned (.tuple #[.agg #[.int .i64 (cureF a b j t c m).1, .int .i64 (cureF a b j t c m).2.1], .int .i64 (cureF a b j t c m).2.2]) ∧ Below w.heap.size w w' := by
  cases hj : joinB a b j t with
  | false =>
    rw [cureF_bad hj]
    go_enter Tryz.func16, Tryz.ntmps16
    go_wp2_with (go_at_call 40; refine (l19One_any _ _ a b j t _ (by go_simp) (by go_simp) (by go_simp) (by go_simp)).mono ?_; rintro e w1 ⟨rfl, q1, rfl⟩)
    exact bodyPost_ret (v := .tuple #[.agg #[.int .i64 0, .int .i64 0], .int .i64 1]) (by simp [results, Tryz.results16, go_sem]) rfl ⟨rfl, (by repeat (first | exact Below.refl _ _ | assumption | refine Below.drew ?_ | refine below_drewN ?_ _ | refine Below.alloc ?_ (by simp; try omega) _ | refine Below.setCell ?_ (by simp; try omega) _))⟩
  | true =>
    cases hc : inB c 1 100000 with
    | false =>
      rw [cureF_range hj (by rw [hc]; simp)]
      cases hm : inB m 0 100000
      all_goals
        go_enter Tryz.func16, Tryz.ntmps16
        go_wp2_with (first | (go_at_call 40; refine (l19One_any _ _ a b j t _ (by go_simp) (by go_simp) (by go_simp) (by go_simp)).mono ?_; rintro e w1 ⟨rfl, q1, rfl⟩) | (go_at_call 33; refine (l19Minute_any _ _).mono ?_; rintro e w1 ⟨rfl, rfl⟩) | (go_at_call 43; refine (l00In_any _ _ _ _).mono ?_; rintro e w1 ⟨rfl, rfl⟩) | (go_at_call 34; refine (l00Max_any _ _ _).mono ?_; rintro e w1 ⟨rfl, rfl⟩) | (go_at_call 35; refine (l00Min_any _ _ _).mono ?_; rintro e w1 ⟨rfl, rfl⟩) | (go_at_call 45; refine (l02Make_any _ _ _ (by omega) (by omega) (by omega) (by omega)).mono ?_; rintro e w1 ⟨rfl, hb1⟩; obtain ⟨hc1, hf1, hl1⟩ := bcell hb1; (try have hs1 := hl1 w.heap.size (by first | (simp; done) | (simp; omega) | (go_simp; done))); have hB1 := Bel.step (B := w.heap.size) (a := w) (by repeat (first | assumption | exact Bel.refl _ | refine Bel.drew ?_ | refine Bel.drewN ?_ _ | refine Bel.alloc ?_ _ | refine Bel.setCell ?_ (by simp; try omega) _)) hb1; clear hb1))
        exact bodyPost_ret (v := .tuple #[.agg #[.int .i64 0, .int .i64 0], .int .i64 2]) (by simp [results, Tryz.results16, go_sem]) rfl ⟨rfl, (by repeat (first | exact Below.refl _ _ | assumption | refine Below.drew ?_ | refine below_drewN ?_ _ | refine Below.alloc ?_ (by simp; try omega) _ | refine Below.setCell ?_ (by simp; try omega) _))⟩
    | true =>
      cases hm : inB m 0 100000 with
      | false =>
        rw [cureF_range hj (by rw [hm]; rfl)]
        go_enter Tryz.func16, Tryz.ntmps16
        go_wp2_with (first | (go_at_call 40; refine (l19One_any _ _ a b j t _ (by go_simp) (by go_simp) (by go_simp) (by go_simp)).mono ?_; rintro e w1 ⟨rfl, q1, rfl⟩) | (go_at_call 33; refine (l19Minute_any _ _).mono ?_; rintro e w1 ⟨rfl, rfl⟩) | (go_at_call 43; refine (l00In_any _ _ _ _).mono ?_; rintro e w1 ⟨rfl, rfl⟩) | (go_at_call 34; refine (l00Max_any _ _ _).mono ?_; rintro e w1 ⟨rfl, rfl⟩) | (go_at_call 35; refine (l00Min_any _ _ _).mono ?_; rintro e w1 ⟨rfl, rfl⟩) | (go_at_call 45; refine (l02Make_any _ _ _ (by omega) (by omega) (by omega) (by omega)).mono ?_; rintro e w1 ⟨rfl, hb1⟩; obtain ⟨hc1, hf1, hl1⟩ := bcell hb1; (try have hs1 := hl1 w.heap.size (by first | (simp; done) | (simp; omega) | (go_simp; done))); have hB1 := Bel.step (B := w.heap.size) (a := w) (by repeat (first | assumption | exact Bel.refl _ | refine Bel.drew ?_ | refine Bel.drewN ?_ _ | refine Bel.alloc ?_ _ | refine Bel.setCell ?_ (by simp; try omega) _)) hb1; clear hb1))
        exact bodyPost_ret (v := .tuple #[.agg #[.int .i64 0, .int .i64 0], .int .i64 2]) (by simp [results, Tryz.results16, go_sem]) rfl ⟨rfl, (by repeat (first | exact Below.refl _ _ | assumption | refine Below.drew ?_ | refine below_drewN ?_ _ | refine Below.alloc ?_ (by simp; try omega) _ | refine Below.setCell ?_ (by simp; try omega) _))⟩
      | true =>
        rw [cureF_ok hj (by rw [hm, hc]; rfl)]
        obtain ⟨k1, k2, k3, k4, k5, k6, k7, k8, k9, k10⟩ := joinB_true.1 hj
        obtain ⟨m1, m2⟩ := inB_true.1 hm
        obtain ⟨c1, c2⟩ := inB_true.1 hc
        go_enter Tryz.func16, Tryz.ntmps16
        go_wp2_with (first | (go_at_call 40; refine (l19One_any _ _ a b j t _ (by go_simp) (by go_simp) (by go_simp) (by go_simp)).mono ?_; rintro e w1 ⟨rfl, q1, rfl⟩) | (go_at_call 33; refine (l19Minute_any _ _).mono ?_; rintro e w1 ⟨rfl, rfl⟩) | (go_at_call 43; refine (l00In_any _ _ _ _).mono ?_; rintro e w1 ⟨rfl, rfl⟩) | (go_at_call 34; refine (l00Max_any _ _ _).mono ?_; rintro e w1 ⟨rfl, rfl⟩) | (go_at_call 35; refine (l00Min_any _ _ _).mono ?_; rintro e w1 ⟨rfl, rfl⟩) | (go_at_call 45; refine (l02Make_any _ _ _ (by omega) (by omega) (by omega) (by omega)).mono ?_; rintro e w1 ⟨rfl, hb1⟩; obtain ⟨hc1, hf1, hl1⟩ := bcell hb1; (try have hs1 := hl1 w.heap.size (by first | (simp; done) | (simp; omega) | (go_simp; done))); have hB1 := Bel.step (B := w.heap.size) (a := w) (by repeat (first | assumption | exact Bel.refl _ | refine Bel.drew ?_ | refine Bel.drewN ?_ _ | refine Bel.alloc ?_ _ | refine Bel.setCell ?_ (by simp; try omega) _)) hb1; clear hb1))
        all_goals
          first
            | ((have e : min (max (m - j) 0) c = (max 0 (min c (m - j))) := by omega); exact bodyPost_ret (v := .tuple #[.agg #[.int .i64 ((max 0 (min c (m - j))) / Int.gcd (max 0 (min c (m - j))) c), .int .i64 (c / Int.gcd (max 0 (min c (m - j))) c)], .int .i64 0]) (by simp [results, Tryz.results16, go_sem, hc1]) rfl ⟨by rw [e], Bel.below (by repeat (first | assumption | exact Bel.refl _ | refine Bel.drew ?_ | refine Bel.drewN ?_ _ | refine Bel.alloc ?_ _ | refine Bel.setCell ?_ (by simp; try omega) _))⟩)

end Go.Proofs.YtfkojbkgpbpjhaaGreatDoor
