/-
  Contracts of DrawHolesOf and DrawLockPlaces. No condition of its own.
-/
import Derived.Test.YtgdndmpnnocgiaaSidesDraw
namespace Go.Proofs.Ytgdndmpnnocgiaa
open Go.ChangeShapes Go.WideShapes Go.ChangeAt Go.RowKit Go.Deep

theorem drawHolesOf_any (w : World) (nc cc : Nat) (ac : Option Addr) (hc : CodeAt w ac nc) : Calls Try.prog 42 #[.slice ac nc cc] w (BothEnd w) := by
  have HC := Lib.hid hc
  clear hc
  go_enter Try.func42, Try.ntmps42
  go_wp2_with fail
  refine (both_any w nc cc ac HC.out).mono ?_
  rintro e w1 ⟨g, n, c, zs, r, rfl, h1, h2, h3, h4, h5, h6⟩
  have H := Lib.hid (And.intro h1 (And.intro h2 (And.intro h3 (And.intro h4 (And.intro h5 h6)))))
  clear h1 h2 h3 h4 h5 h6
  go_wp2_with fail
  go_ret2
  exact ⟨g, n, c, zs, r, rfl, H.out.1, H.out.2.1, H.out.2.2.1, H.out.2.2.2.1, H.out.2.2.2.2.1, H.out.2.2.2.2.2⟩
/-- Three drawn numbers. -/
def ThreeEnd (w : World) (e : Ending) (w' : World) : Prop :=
  ∃ x y z : Int, e = .returned (.tuple #[.int .i64 x, .int .i64 y, .int .i64 z]) ∧ ((Lit.int .i64 x).wf = true ∧ (Lit.int .i64 y).wf = true ∧ (Lit.int .i64 z).wf = true) ∧ Below w.heap.size w w'
set_option maxHeartbeats 3200000 in
theorem drawLockPlaces_any (w : World) (nc cc : Nat) (ac : Option Addr) (hc : CodeAt w ac nc) : Calls Try.prog 44 #[.slice ac nc cc] w (ThreeEnd w) := by
  have HC := Lib.hid hc
  clear hc
  go_enter Try.func44, Try.ntmps44
  go_wp2_with fail
  refine (l00From_any w w.heap.size ac nc cc (Nat.le_refl _)).mono ?_
  rintro e w1 ⟨rfl, hs1, hb1⟩
  have HS1 := Lib.hid hs1
  have HB1 := Lib.hid (Bel.of hb1)
  clear hs1 hb1
  go_wp2_with fail
  refine (pick_any w w1 w.heap.size nc cc 0 ac 60 HC.out HB1.out HS1.out (by omega) (by omega)).mono ?_
  rintro e w2 ⟨r1, rfl, q1, q2, hs2, hg2⟩
  have HS2 := Lib.hid hs2
  have HB2 := Lib.hid (HB1.out.grown hg2 (fun k h => by cases h; exact Nat.le_refl _))
  clear hs2 hg2
  have q3 : r1 ≤ 59 := by omega
  go_wp2_with fail
  refine (pick_any w w2 w.heap.size nc cc 2 ac 20 HC.out HB2.out HS2.out (by omega) (by omega)).mono ?_
  rintro e w3 ⟨r2, rfl, q4, q5, hs3, hg3⟩
  have HS3 := Lib.hid hs3
  have HB3 := Lib.hid (HB2.out.grown hg3 (fun k h => by cases h; exact Nat.le_refl _))
  clear hs3 hg3
  have q6 : r2 ≤ 19 := by omega
  go_wp2_with fail
  refine (pick_any w w3 w.heap.size nc cc 4 ac 12 HC.out HB3.out HS3.out (by omega) (by omega)).mono ?_
  rintro e w4 ⟨r3, rfl, q7, q8, hs4, hg4⟩
  have HS4 := Lib.hid hs4
  have HB4 := Lib.hid (HB3.out.grown hg4 (fun k h => by cases h; exact Nat.le_refl _))
  clear hs4 hg4
  have HA2 := Lib.hid (among_lit w w4 w.heap.size nc cc 6 4 2 ac [0, 1, 1000, 1001] rfl (by omega) (by omega) HC.out HB4.out HS4.out (by omega))
  have HA3 := Lib.hid (among_lit w w4 w.heap.size nc cc 6 4 2 ac [-1, 0, 10, 11] rfl (by omega) (by omega) HC.out HB4.out HS4.out (by omega))
  have HF := Lib.hid (fun W (hb : Bel w.heap.size w W) (hs : SrcAt W w.heap.size w.heap.size ac nc cc 8) => pick_any w W w.heap.size nc cc 8 ac 5 HC.out hb hs (by omega) (by omega))
  have HF6 := Lib.hid (pick_any w w4 w.heap.size nc cc 6 ac 5 HC.out HB4.out HS4.out (by omega) (by omega))
  have HW1 := Lib.hid (show (Lit.int .i64 (1 + r1)).wf = true from wf_of (by omega) (by omega))
  have HW2 := Lib.hid (show (Lit.int .i64 (1 + r2)).wf = true from wf_of (by omega) (by omega))
  by_cases e0 : r3 = 0
  · subst e0
    go_wp2_with fail
    refine HA2.out.mono ?_
    rintro e w5 ⟨u, rfl, hu, hs5, hg5⟩
    have HU := Lib.hid (show (Lit.int .i64 u).wf = true by simp only [List.mem_cons, List.not_mem_nil, or_false] at hu; exact wf_of (by omega) (by omega))
    have HS5 := Lib.hid hs5
    have HB5 := Lib.hid (HB4.out.grown hg5 (fun k h => by cases h; exact Nat.le_refl _))
    clear hs5 hg5 hu
    go_wp2_with fail
    refine (HF.out _ HB5.out HS5.out).mono ?_
    rintro e w6 ⟨r4, rfl, t1, t2, _, hg6⟩
    have HB6 := Lib.hid (HB5.out.grown hg6 (fun k h => by cases h; exact Nat.le_refl _))
    clear hg6
    go_wp2_with fail
    go_ret3
    exact ⟨_, _, _, rfl, ⟨HU.out, HW2.out, wf_of (by omega) (by omega)⟩, HB6.out.1⟩
  · by_cases e1 : r3 = 1
    · subst e1
      go_wp2_with fail
      refine HA2.out.mono ?_
      rintro e w5 ⟨u, rfl, hu, hs5, hg5⟩
      have HU := Lib.hid (show (Lit.int .i64 u).wf = true by simp only [List.mem_cons, List.not_mem_nil, or_false] at hu; exact wf_of (by omega) (by omega))
      have HS5 := Lib.hid hs5
      have HB5 := Lib.hid (HB4.out.grown hg5 (fun k h => by cases h; exact Nat.le_refl _))
      clear hs5 hg5 hu
      go_wp2_with fail
      refine (HF.out _ HB5.out HS5.out).mono ?_
      rintro e w6 ⟨r4, rfl, t1, t2, _, hg6⟩
      have HB6 := Lib.hid (HB5.out.grown hg6 (fun k h => by cases h; exact Nat.le_refl _))
      clear hg6
      go_wp2_with fail
      go_ret3
      exact ⟨_, _, _, rfl, ⟨HW1.out, HU.out, wf_of (by omega) (by omega)⟩, HB6.out.1⟩
    · have k0 : (r3 == 0) = false := by simpa using e0
      have k1 : (r3 == 1) = false := by simpa using e1
      by_cases e2 : r3 = 2
      · subst e2
        go_wp2_with fail
        refine HA3.out.mono ?_
        rintro e w5 ⟨u, rfl, hu, hs5, hg5⟩
        have HU := Lib.hid (show (Lit.int .i64 u).wf = true by simp only [List.mem_cons, List.not_mem_nil, or_false] at hu; exact wf_of (by omega) (by omega))
        have HB5 := Lib.hid (HB4.out.grown hg5 (fun k h => by cases h; exact Nat.le_refl _))
        clear hs5 hg5 hu
        go_wp2_with fail
        go_ret3
        exact ⟨_, _, _, rfl, ⟨HW1.out, HW2.out, HU.out⟩, HB5.out.1⟩
      · have k2 : (r3 == 2) = false := by simpa using e2
        go_wp2_with fail
        refine HF6.out.mono ?_
        rintro e w6 ⟨r4, rfl, t1, t2, _, hg6⟩
        have HB6 := Lib.hid (HB4.out.grown hg6 (fun k h => by cases h; exact Nat.le_refl _))
        clear hg6
        go_wp2_with fail
        go_ret3
        exact ⟨_, _, _, rfl, ⟨HW1.out, HW2.out, wf_of (by omega) (by omega)⟩, HB6.out.1⟩
end Go.Proofs.Ytgdndmpnnocgiaa
