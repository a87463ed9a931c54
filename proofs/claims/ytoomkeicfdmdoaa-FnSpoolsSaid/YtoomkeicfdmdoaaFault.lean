/-
  Contracts of SpoolFault and LeftOnSpools, both sides. No condition of its own.
-/
import Derived.Test.YtoomkeicfdmdoaaCut
namespace Go.Proofs.Ytoomkeicfdmdoaa
open Go.ChangeShapes Go.WideShapes Go.ChangeAt Go.RowKit Go.Deep Go.Shelf

theorem leftTo_stays {zs ys ps : List Int} {i j : Nat} (h : leftTo zs ys ps i = none) (hij : i ≤ j) : leftTo zs ys ps j = none := by
  induction j with
  | zero =>
    obtain rfl : i = 0 := by omega
    exact h
  | succ j ih =>
    by_cases e : i = j + 1
    · subst e; exact h
    · simp only [leftTo, ih (by omega), Option.bind_none]
/-- The first need with a fault among the first p, or -1. -/
def cutZ (zs ys ps : List Int) : Nat → Int
  | 0 => -1
  | i + 1 => if leftTo zs ys ps i = none then cutZ zs ys ps i else if leftTo zs ys ps (i + 1) = none then (i : Int) else -1
theorem cutZ_some {zs ys ps l : List Int} {p : Nat} (h : leftTo zs ys ps p = some l) : cutZ zs ys ps p = -1 := by
  cases p with
  | zero => rfl
  | succ p =>
    have h0 : ¬ leftTo zs ys ps p = none := fun k => by rw [leftTo_stays k (Nat.le_succ p)] at h; cases h
    have h1 : ¬ leftTo zs ys ps (p + 1) = none := fun k => by rw [k] at h; cases h
    rw [cutZ, if_neg h0, if_neg h1]
theorem cutZ_none {zs ys ps l : List Int} {i p : Nat} (hi : i < p) (h : leftTo zs ys ps i = some l) (k : leftTo zs ys ps (i + 1) = none) : cutZ zs ys ps p = (i : Int) := by
  induction p with
  | zero => omega
  | succ p ih =>
    by_cases e : i = p
    · subst e
      rw [cutZ, if_neg (by rw [h]; simp), if_pos k]
    · rw [cutZ, if_pos (leftTo_stays k (by omega)), ih (by omega)]
def spoolZ (zs ys ps : List Int) (n m p : Nat) : Int := if planB zs ys ps n m p then cutZ zs ys ps p else 0
def leftL (zs ys ps : List Int) (n m p : Nat) : List Int := if planB zs ys ps n m p then (leftTo zs ys ps p).getD [] else []
def leftC (zs ys ps : List Int) (n m p : Nat) : Int := if planB zs ys ps n m p then (if leftTo zs ys ps p = none then 9 else 0) else 2

set_option maxRecDepth 100000 in
set_option maxHeartbeats 1600000 in
theorem impl_SpoolFault (w : World) (g n : Nat) (zs : List Int) (hl : zs.length = n) (hn : n ≤ 1048576) (hc : CellsAt w (some ⟨g, 0, none⟩) (zs.map (Value.int .i64))) (_ : ∀ z ∈ zs, (Lit.int .i64 z).wf = true)
    (g1 m : Nat) (ys : List Int) (hl1 : ys.length = m) (hm : m ≤ 1048576) (hc1 : CellsAt w (some ⟨g1, 0, none⟩) (ys.map (Value.int .i64))) (_ : ∀ z ∈ ys, (Lit.int .i64 z).wf = true)
    (g2 p : Nat) (ps : List Int) (hl2 : ps.length = p) (hp : p ≤ 1048576) (hc2 : CellsAt w (some ⟨g2, 0, none⟩) (ps.map (Value.int .i64))) (_ : ∀ z ∈ ps, (Lit.int .i64 z).wf = true) :
    Calls Try.prog 13 #[.slice (some ⟨g, 0, none⟩) n n, .slice (some ⟨g1, 0, none⟩) m m, .slice (some ⟨g2, 0, none⟩) p p] w fun e w' => e = .returned (.tuple #[.int .i64 (spoolZ zs ys ps n m p), .int .i64 (planC zs ys ps n m p)]) ∧ Below w.heap.size w w' := by
  have h1 := isSpoolPlan_any (some ⟨g, 0, none⟩) n n zs (some ⟨g1, 0, none⟩) m m ys (some ⟨g2, 0, none⟩) p p ps w hl hl1 hl2 (by omega) (by omega) (by omega) hc hc1 hc2
  cases hpl : planB zs ys ps n m p with
  | false =>
    rw [show spoolZ zs ys ps n m p = 0 by simp [spoolZ, hpl], show planC zs ys ps n m p = 2 by simp [planC, hpl]]
    rw [hpl] at h1
    have H1 := Lib.hid h1
    clear h1 hpl hl hl1 hl2 hc hc1 hc2
    go_enter Try.func13, Try.ntmps13
    go_wp2_with (go_at_call 50; refine H1.out.mono ?_; rintro e w1 ⟨rfl, hb1⟩)
    go_ret2
    exact ⟨rfl, hb1⟩
  | true =>
    have h2 := fun W (e : Below w.heap.size w W) => cutNeeds_any g n n zs (some ⟨g1, 0, none⟩) m m ys (some ⟨g2, 0, none⟩) p p ps W hl hl1 hl2 (hc.below e) (hc1.below e) (hc2.below e) hpl
    rw [show spoolZ zs ys ps n m p = cutZ zs ys ps p by simp [spoolZ, hpl], show planC zs ys ps n m p = 0 by simp [planC, hpl]]
    rw [hpl] at h1
    have H1 := Lib.hid h1
    have H2 := Lib.hid h2
    clear h1 h2 hpl hl hl1 hl2 hc hc1 hc2
    go_enter Try.func13, Try.ntmps13
    go_wp2_with fail
    refine H1.out.mono ?_
    rintro e w1 ⟨rfl, hb1⟩
    have HB1 := Lib.hid hb1
    clear hb1
    go_wp2_with fail
    refine (H2.out w1 HB1.out).mono ?_
    rintro e w2 (⟨l, a, cap, k1, k2, rfl, k3, hb2⟩ | ⟨i, l, k1, k2, k3, rfl, hb2⟩)
    · have HB2 := Lib.hid hb2
      have K1 := Lib.hid k1
      clear k1 k3 hb2
      go_wp2
      go_ret2
      exact ⟨ret_two (cutZ_some K1.out).symm rfl, ((Bel.of HB1.out).step HB2.out).1⟩
    · have HB2 := Lib.hid hb2
      have K1 := Lib.hid (cutZ_none k1 k2 k3)
      clear k1 k2 k3 hb2
      go_wp2
      go_ret2
      exact ⟨ret_two K1.out.symm rfl, ((Bel.of HB1.out).step HB2.out).1⟩
set_option maxRecDepth 100000 in
set_option maxHeartbeats 1600000 in
theorem spec_SpoolFault (w : World) (g n : Nat) (zs : List Int) (hl : zs.length = n) (hn : n ≤ 1048576) (hc : CellsAt w (some ⟨g, 0, none⟩) (zs.map (Value.int .i64))) (_ : ∀ z ∈ zs, (Lit.int .i64 z).wf = true)
    (g1 m : Nat) (ys : List Int) (hl1 : ys.length = m) (hm : m ≤ 1048576) (hc1 : CellsAt w (some ⟨g1, 0, none⟩) (ys.map (Value.int .i64))) (_ : ∀ z ∈ ys, (Lit.int .i64 z).wf = true)
    (g2 p : Nat) (ps : List Int) (hl2 : ps.length = p) (hp : p ≤ 1048576) (hc2 : CellsAt w (some ⟨g2, 0, none⟩) (ps.map (Value.int .i64))) (_ : ∀ z ∈ ps, (Lit.int .i64 z).wf = true) :
    Calls Try.prog 11 #[.slice (some ⟨g, 0, none⟩) n n, .slice (some ⟨g1, 0, none⟩) m m, .slice (some ⟨g2, 0, none⟩) p p] w fun e w' => e = .returned (.tuple #[.int .i64 (spoolZ zs ys ps n m p), .int .i64 (planC zs ys ps n m p)]) ∧ Below w.heap.size w w' := by
  have h1 := l16Code_any (some ⟨g, 0, none⟩) n n zs (some ⟨g1, 0, none⟩) m m ys (some ⟨g2, 0, none⟩) p p ps w hl hl1 hl2 (by omega) (by omega) (by omega) hc hc1 hc2
  cases hpl : planB zs ys ps n m p with
  | false =>
    rw [show spoolZ zs ys ps n m p = 0 by simp [spoolZ, hpl], show planC zs ys ps n m p = 2 by simp [planC, hpl]]
    rw [planC, hpl] at h1
    simp only [Bool.false_eq_true, if_false] at h1
    have H1 := Lib.hid h1
    clear h1 hpl hl hl1 hl2 hc hc1 hc2
    go_enter Try.func11, Try.ntmps11
    go_wp2_with (go_at_call 48; refine H1.out.mono ?_; rintro e w1 ⟨rfl, hb1⟩)
    go_ret2
    exact ⟨rfl, hb1⟩
  | true =>
    have h2 := fun W (e : Below w.heap.size w W) => l16Left_any g n n zs (some ⟨g1, 0, none⟩) m m ys (some ⟨g2, 0, none⟩) p p ps W hl hl1 hl2 (hc.below e) (hc1.below e) (hc2.below e) hpl
    rw [show spoolZ zs ys ps n m p = cutZ zs ys ps p by simp [spoolZ, hpl], show planC zs ys ps n m p = 0 by simp [planC, hpl]]
    rw [planC, hpl] at h1
    simp only [if_true] at h1
    have H1 := Lib.hid h1
    have H2 := Lib.hid h2
    clear h1 h2 hpl hl hl1 hl2 hc hc1 hc2
    go_enter Try.func11, Try.ntmps11
    go_wp2_with fail
    refine H1.out.mono ?_
    rintro e w1 ⟨rfl, hb1⟩
    have HB1 := Lib.hid hb1
    clear hb1
    go_wp2_with fail
    refine (H2.out w1 HB1.out).mono ?_
    rintro e w2 (⟨l, a, cap, k1, k2, rfl, k3, hb2⟩ | ⟨i, l, k1, k2, k3, rfl, hb2⟩)
    · have HB2 := Lib.hid hb2
      have K1 := Lib.hid k1
      clear k1 k3 hb2
      go_wp2
      go_ret2
      exact ⟨ret_two (cutZ_some K1.out).symm rfl, ((Bel.of HB1.out).step HB2.out).1⟩
    · have HB2 := Lib.hid hb2
      have K1 := Lib.hid (cutZ_none k1 k2 k3)
      clear k1 k2 k3 hb2
      go_wp2
      go_ret2
      exact ⟨ret_two K1.out.symm rfl, ((Bel.of HB1.out).step HB2.out).1⟩
end Go.Proofs.Ytoomkeicfdmdoaa
