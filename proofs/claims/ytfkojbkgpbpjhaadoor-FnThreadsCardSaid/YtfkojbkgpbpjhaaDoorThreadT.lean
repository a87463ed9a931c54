/-
  Contracts of the text of a thread, both sides, and the walk of FnExactThreadText. No condition of its own.
-/
import Derived.Test.YtfkojbkgpbpjhaaDoorNumT
namespace Go.Proofs.YtfkojbkgpbpjhaaDoor
open Go.ChangeShapes Go.WideShapes Go.ChangeAt Go.RowKit Go.Deep Go.Shelf Go.Sort

theorem toThread_any (x0 : Int) (x1 : Int) (x2 : Bool) (w : World) : Calls Tryd.prog 11 #[.agg #[.int .i64 x0, .int .i64 x1, .bool x2]] w fun e w' => e = .returned (.agg #[.int .i64 x0, .int .i64 x1, .bool x2]) ∧ ((w.alloc (.cells #[.int .i64 x0, .int .i64 x1, .bool x2] 23)).alloc (.cells #[.int .i64 x0, .int .i64 x1, .bool x2] 25)).alloc (.cells #[.int .i64 x0, .int .i64 x1, .bool x2] 25) = w' := by
  go_enter Tryd.func11, Tryd.ntmps11
  go_wp2
  exact bodyPost_ret (v := .agg #[.int .i64 x0, .int .i64 x1, .bool x2]) (by simp [results, Tryd.results11, go_sem]) rfl ⟨rfl, rfl⟩

def threadB (x y : Int) : Bool := inB x 1 12 && inB y 1 100
def threadT (x y : Int) (b : Bool) : ByteArray := if threadB x y then (if b then dec x ++ ⟨#[120]⟩ ++ dec y ++ ⟨#[32, 119, 97, 120, 101, 100]⟩ else dec x ++ ⟨#[120]⟩ ++ dec y) else ⟨#[]⟩
theorem threadB_true {x y : Int} : threadB x y = true ↔ (1 ≤ x ∧ x ≤ 12) ∧ 1 ≤ y ∧ y ≤ 100 := by simp [threadB, inB_true]

set_option maxHeartbeats 1600000 in
theorem validThread_any (x y : Int) (b : Bool) (w : World) : Calls Tryd.prog 54 #[.agg #[.int .i64 x, .int .i64 y, .bool b]] w fun e w' => e = .returned (.bool (threadB x y)) ∧ Below w.heap.size w w' := by
  unfold threadB
  cases hx : inB x 1 12 <;> cases hy : inB y 1 100
  all_goals
    go_enter Tryd.func54, Tryd.ntmps54
    go_wp2_with (go_at_call 63; refine (within_any _ _ _ _).mono ?_; rintro e w1 ⟨rfl, rfl⟩; simp only [hx, hy])
    all_goals
      go_ret
      exact ⟨rfl, (by repeat (first | exact Below.refl _ _ | assumption | refine Below.drew ?_ | refine below_drewN ?_ _ | refine Below.alloc ?_ (by simp; try omega) _ | refine Below.setCell ?_ (by simp; try omega) _))⟩
set_option maxHeartbeats 1600000 in
theorem l16Ok_any (x y : Int) (b : Bool) (w : World) : Calls Tryd.prog 52 #[.agg #[.int .i64 x, .int .i64 y, .bool b]] w fun e w' => e = .returned (.bool (threadB x y)) ∧ Below w.heap.size w w' := by
  unfold threadB
  cases hx : inB x 1 12 <;> cases hy : inB y 1 100
  all_goals
    go_enter Tryd.func52, Tryd.ntmps52
    go_wp2_with (go_at_call 86; refine (l00In_any _ _ _ _).mono ?_; rintro e w1 ⟨rfl, rfl⟩; simp only [hx, hy])
    all_goals
      go_ret
      exact ⟨rfl, (by repeat (first | exact Below.refl _ _ | assumption | refine Below.drew ?_ | refine below_drewN ?_ _ | refine Below.alloc ?_ (by simp; try omega) _ | refine Below.setCell ?_ (by simp; try omega) _))⟩

set_option maxRecDepth 100000 in
set_option maxHeartbeats 3200000 in
theorem impl_ThreadText (x y : Int) (b : Bool) (w : World) (ht : Pow w) :
    Calls Tryd.prog 12 #[.agg #[.int .i64 x, .int .i64 y, .bool b]] w fun e w' => e = .returned (.string (threadT x y b)) ∧ Below w.heap.size w w' := by
  have HV := Lib.hid (fun W => validThread_any x y b W)
  have HT := Lib.hid ht
  clear ht
  cases hg : threadB x y with
  | false =>
    rw [hg] at HV
    have HE := Lib.hid (show threadT x y b = ⟨#[]⟩ by simp [threadT, hg])
    clear hg
    go_enter Tryd.func12, Tryd.ntmps12
    go_wp2_with (go_at_call 54; refine (HV.out _).mono ?_; rintro e w1 ⟨rfl, hb1⟩; obtain ⟨hc1, hf1, hl1⟩ := bcell hb1; (try have hs1 := hl1 w.heap.size (by first | (simp; done) | (simp; omega) | (go_simp; done))); have hB1 := Bel.step (B := w.heap.size) (a := w) (by repeat (first | assumption | exact Bel.refl _ | refine Bel.drew ?_ | refine Bel.drewN ?_ _ | refine Bel.alloc ?_ _ | refine Bel.setCell ?_ (by simp; try omega) _)) hb1; clear hb1)
    go_ret
    exact ⟨by rw [HE.out]; rfl, hB1.1⟩
  | true =>
    rw [hg] at HV
    obtain ⟨⟨g1, g2⟩, g3, g4⟩ := threadB_true.1 hg
    have z1 := dec_size x (by omega) (by omega)
    have z2 := dec_size y (by omega) (by omega)
    have n1 : ¬ 9223372036854775807 < (dec x).size + 1 + (dec y).size + 6 := by omega
    have HE := Lib.hid (show threadT x y b = (if b then dec x ++ ⟨#[120]⟩ ++ dec y ++ ⟨#[32, 119, 97, 120, 101, 100]⟩ else dec x ++ ⟨#[120]⟩ ++ dec y) by simp [threadT, hg])
    clear hg
    cases b
    all_goals
      go_enter Tryd.func12, Tryd.ntmps12
      go_wp2_with (first | (go_at_call 54; refine (HV.out _).mono ?_; rintro e w1 ⟨rfl, hb1⟩; obtain ⟨hc1, hf1, hl1⟩ := bcell hb1; (try have hs1 := hl1 w.heap.size (by first | (simp; done) | (simp; omega) | (go_simp; done))); have hB1 := Bel.step (B := w.heap.size) (a := w) (by repeat (first | assumption | exact Bel.refl _ | refine Bel.drew ?_ | refine Bel.drewN ?_ _ | refine Bel.alloc ?_ _ | refine Bel.setCell ?_ (by simp; try omega) _)) hb1; clear hb1) | (go_at_call 55; refine (numbers2 _ _ x y _ _ (by show 1 ≤ 100; omega) (by simp) (by omega) (by omega) (by omega) (by omega) (by go_simp) (by go_simp) (HT.out.below (Bel.below (by repeat (first | assumption | exact Bel.refl _ | refine Bel.drew ?_ | refine Bel.drewN ?_ _ | refine Bel.alloc ?_ _ | refine Bel.setCell ?_ (by simp; try omega) _))))).mono ?_; rintro e w2 ⟨rfl, hb2⟩; have Hb2 := Lib.hid (Bel.step (B := w.heap.size) (a := w) (by repeat (first | assumption | exact Bel.refl _ | refine Bel.drew ?_ | refine Bel.drewN ?_ _ | refine Bel.alloc ?_ _ | refine Bel.setCell ?_ (by simp; try omega) _)) hb2); obtain ⟨hc2, hf2, hl2⟩ := bcell hb2; (try have hs2 := hl2 w.heap.size (by first | (simp; done) | (simp; omega) | (go_simp; done))); clear hb2))
      go_ret
      exact ⟨by rw [HE.out]; rfl, Hb2.out.1⟩

set_option maxRecDepth 100000 in
set_option maxHeartbeats 3200000 in
theorem l16Text_any (x y : Int) (b : Bool) (w : World) (hg : threadB x y = true) :
    Calls Tryd.prog 53 #[.agg #[.int .i64 x, .int .i64 y, .bool b]] w fun e w' => e = .returned (.string (threadT x y b)) ∧ Below w.heap.size w w' := by
  obtain ⟨⟨g1, g2⟩, g3, g4⟩ := threadB_true.1 hg
  have z1 := dec_size x (by omega) (by omega)
  have z2 := dec_size y (by omega) (by omega)
  have n1 : ¬ 9223372036854775807 < (dec x).size + 1 := by omega
  have n2 : ¬ 9223372036854775807 < (dec x).size + 1 + (dec y).size := by omega
  have n3 : ¬ 9223372036854775807 < (dec x).size + 1 + (dec y).size + 6 := by omega
  have HE := Lib.hid (show threadT x y b = (if b then dec x ++ ⟨#[120]⟩ ++ dec y ++ ⟨#[32, 119, 97, 120, 101, 100]⟩ else dec x ++ ⟨#[120]⟩ ++ dec y) by simp [threadT, hg])
  clear hg
  go_enter Tryd.func53, Tryd.ntmps53
  go_upto_region 0 with fail
  go_cut [1] (fun t1 W => t1 = .pointer (some ⟨w.heap.size, 0, none⟩) ∧ Hid (W.cell? ⟨w.heap.size, 0, none⟩ = some (.int .i64 x) ∧ W.cell? ⟨w.heap.size, 1, none⟩ = some (.int .i64 y) ∧ W.cell? ⟨w.heap.size, 2, none⟩ = some (.bool b)) ∧ Hid (Below w.heap.size w W))
  case first =>
    go_wp2_with fail
    go_meet
    exact ⟨rfl, Lib.hid ⟨by go_simp, by go_simp, by go_simp⟩, Lib.hid (by repeat (first | exact Below.refl _ _ | assumption | refine Below.drew ?_ | refine below_drewN ?_ _ | refine Below.alloc ?_ (by simp; try omega) _ | refine Below.setCell ?_ (by simp; try omega) _))⟩
  obtain ⟨rfl, HC, HB⟩ := hcut
  obtain ⟨c0, c1, c2⟩ := HC.out
  have k0 := cell_regrown c0
  have k1 := cell_regrown c1
  have HK := Lib.hid (fun q os => cell_regrown c2 q os)
  have cD : ∀ (n : Int), 0 ≤ n → n ≤ 1440 → ∀ q os, Calls Tryd.prog 71 #[.int .i64 n] (grow (redrawn wc q) os) fun e w'' => e = .returned (.string (dec n)) ∧ ∃ p : Regrown, w'' = grow (redrawn wc p.d) p.os :=
    fun n a b q os => Calls.regrown_of (l01Dec_any n _ a (by omega))
  have cx := cD x (by omega) (by omega)
  have cy := cD y (by omega) (by omega)
  clear cD c0 c1 c2
  go_upto_region 1 with fail
  refine wp_region_quiet_below (by kernel_rfl) (by kernel_rfl) ?_
  repeat (quiet_step (first | with_reducible exact cx _ _ | with_reducible exact cy _ _))
  refine wpQuiet_nil ?_
  intro _ hw'
  obtain ⟨⟨dq, osq⟩, hw''⟩ := hw'
  subst hw''
  have hk := HK.out dq osq
  clear k0 k1 cx cy
  cases b
  all_goals
    go_wp2_with fail
    go_ret
    exact ⟨by rw [HE.out]; rfl, HB.out.trans ((below_regrown wc dq osq).mono HB.out.size)⟩

set_option maxHeartbeats 1600000 in
theorem spec_ThreadText (x y : Int) (b : Bool) (w : World) :
    Calls Tryd.prog 10 #[.agg #[.int .i64 x, .int .i64 y, .bool b]] w fun e w' => e = .returned (.string (threadT x y b)) ∧ Below w.heap.size w w' := by
  have HV := Lib.hid (fun W => l16Ok_any x y b W)
  cases hg : threadB x y with
  | false =>
    rw [hg] at HV
    have HE := Lib.hid (show threadT x y b = ⟨#[]⟩ by simp [threadT, hg])
    clear hg
    go_enter Tryd.func10, Tryd.ntmps10
    go_wp2_with (go_at_call 52; refine (HV.out _).mono ?_; rintro e w1 ⟨rfl, hb1⟩; obtain ⟨hc1, hf1, hl1⟩ := bcell hb1; (try have hs1 := hl1 w.heap.size (by first | (simp; done) | (simp; omega) | (go_simp; done))); have hB1 := Bel.step (B := w.heap.size) (a := w) (by repeat (first | assumption | exact Bel.refl _ | refine Bel.drew ?_ | refine Bel.drewN ?_ _ | refine Bel.alloc ?_ _ | refine Bel.setCell ?_ (by simp; try omega) _)) hb1; clear hb1)
    go_ret
    exact ⟨by rw [HE.out]; rfl, hB1.1⟩
  | true =>
    rw [hg] at HV
    have HT := Lib.hid (fun W => l16Text_any x y b W hg)
    clear hg
    go_enter Tryd.func10, Tryd.ntmps10
    go_wp2_with (first | (go_at_call 52; refine (HV.out _).mono ?_; rintro e w1 ⟨rfl, hb1⟩; obtain ⟨hc1, hf1, hl1⟩ := bcell hb1; (try have hs1 := hl1 w.heap.size (by first | (simp; done) | (simp; omega) | (go_simp; done))); have hB1 := Bel.step (B := w.heap.size) (a := w) (by repeat (first | assumption | exact Bel.refl _ | refine Bel.drew ?_ | refine Bel.drewN ?_ _ | refine Bel.alloc ?_ _ | refine Bel.setCell ?_ (by simp; try omega) _)) hb1; clear hb1) | (go_at_call 53; refine (HT.out _).mono ?_; rintro e w2 ⟨rfl, hb2⟩; have Hb2 := Lib.hid (Bel.step (B := w.heap.size) (a := w) (by repeat (first | assumption | exact Bel.refl _ | refine Bel.drew ?_ | refine Bel.drewN ?_ _ | refine Bel.alloc ?_ _ | refine Bel.setCell ?_ (by simp; try omega) _)) hb2); clear hb2))
    go_ret
    exact ⟨rfl, Hb2.out.1⟩

set_option maxHeartbeats 1600000 in
theorem fnExactThreadText_walk (x : Int) (_ : (Lit.int .i64 x).wf = true) (y : Int) (_ : (Lit.int .i64 y).wf = true) (b : Bool) (w : World) (ht : Pow w) :
    Calls Tryd.prog 3 #[.agg #[.int .i64 x, .int .i64 y, .bool b]] w fun e w' => e = .returned (.bool true) ∧ Below w.heap.size w w' := by
  have HO := Lib.hid (fun W => toThread_any x y b W)
  have HS := Lib.hid (fun W => spec_ThreadText x y b W)
  have HI := Lib.hid (fun W (hb : Below w.heap.size w W) => impl_ThreadText x y b W (ht.below hb))
  clear ht
  go_enter Tryd.func3, Tryd.ntmps3
  go_wp2_with (first | (go_at_call 11; refine (HO.out _).mono ?_; rintro e w1 ⟨rfl, rfl⟩) | (go_at_call 10; refine (HS.out _).mono ?_; rintro e w2 ⟨rfl, hb1⟩; obtain ⟨hc1, hf1, hl1⟩ := bcell hb1; (try have hs1 := hl1 w.heap.size (by first | (simp; done) | (simp; omega) | (go_simp; done))); have hB1 := Bel.step (B := w.heap.size) (a := w) (by repeat (first | assumption | exact Bel.refl _ | refine Bel.drew ?_ | refine Bel.drewN ?_ _ | refine Bel.alloc ?_ _ | refine Bel.setCell ?_ (by simp; try omega) _)) hb1; clear hb1) | (go_at_call 12; refine (HI.out _ (Bel.below (by repeat (first | assumption | exact Bel.refl _ | refine Bel.drew ?_ | refine Bel.drewN ?_ _ | refine Bel.alloc ?_ _ | refine Bel.setCell ?_ (by simp; try omega) _)))).mono ?_; rintro e w3 ⟨rfl, hb3⟩; have hB3 := Bel.step (B := w.heap.size) (a := w) (by repeat (first | assumption | exact Bel.refl _ | refine Bel.drew ?_ | refine Bel.drewN ?_ _ | refine Bel.alloc ?_ _ | refine Bel.setCell ?_ (by simp; try omega) _)) hb3; clear hb3))
  all_goals first
    | (exfalso; simp_all; done)
    | (go_ret; exact ⟨rfl, hB3.1⟩)
end Go.Proofs.YtfkojbkgpbpjhaaDoor
