/-
  Contracts of LeftOnSpools, both sides. No condition of its own.
-/
import Derived.Test.YtoomkeicfdmdoaaFault
namespace Go.Proofs.Ytoomkeicfdmdoaa
open Go.ChangeShapes Go.WideShapes Go.ChangeAt Go.RowKit Go.Deep Go.Shelf

theorem rowEnd_fail {w w' : World} {E k : Nat} {c : Int} (hb : Below w.heap.size w w') : RowEnd w E k [] c (.returned (.tuple #[.slice none 0 0, .int .i64 c])) w' :=
  ⟨none, 0, 0, rfl, by simp, by omega, World.ownsRow_nil _ _ _ _, hb⟩

set_option maxRecDepth 100000 in
set_option maxHeartbeats 1600000 in
theorem impl_LeftOnSpools (w : World) (g n : Nat) (zs : List Int) (hl : zs.length = n) (hn : n ≤ 1048576) (hc : CellsAt w (some ⟨g, 0, none⟩) (zs.map (Value.int .i64))) (_ : ∀ z ∈ zs, (Lit.int .i64 z).wf = true)
    (g1 m : Nat) (ys : List Int) (hl1 : ys.length = m) (hm : m ≤ 1048576) (hc1 : CellsAt w (some ⟨g1, 0, none⟩) (ys.map (Value.int .i64))) (_ : ∀ z ∈ ys, (Lit.int .i64 z).wf = true)
    (g2 p : Nat) (ps : List Int) (hl2 : ps.length = p) (hp : p ≤ 1048576) (hc2 : CellsAt w (some ⟨g2, 0, none⟩) (ps.map (Value.int .i64))) (_ : ∀ z ∈ ps, (Lit.int .i64 z).wf = true) :
    Calls Try.prog 20 #[.slice (some ⟨g, 0, none⟩) n n, .slice (some ⟨g1, 0, none⟩) m m, .slice (some ⟨g2, 0, none⟩) p p] w (RowEnd w 2 1 (leftL zs ys ps n m p) (leftC zs ys ps n m p)) := by
  have h1 := isSpoolPlan_any (some ⟨g, 0, none⟩) n n zs (some ⟨g1, 0, none⟩) m m ys (some ⟨g2, 0, none⟩) p p ps w hl hl1 hl2 (by omega) (by omega) (by omega) hc hc1 hc2
  cases hpl : planB zs ys ps n m p with
  | false =>
    rw [show leftL zs ys ps n m p = [] by simp [leftL, hpl], show leftC zs ys ps n m p = 2 by simp [leftC, hpl]]
    rw [hpl] at h1
    have H1 := Lib.hid h1
    clear h1 hpl hl hl1 hl2 hc hc1 hc2
    go_enter Try.func20, Try.ntmps20
    go_wp2_with (go_at_call 50; refine H1.out.mono ?_; rintro e w1 ⟨rfl, hb1⟩)
    go_ret2
    exact rowEnd_fail hb1
  | true =>
    have h2 := fun W (e : Below w.heap.size w W) => cutNeeds_any g n n zs (some ⟨g1, 0, none⟩) m m ys (some ⟨g2, 0, none⟩) p p ps W hl hl1 hl2 (hc.below e) (hc1.below e) (hc2.below e) hpl
    rw [show leftL zs ys ps n m p = (leftTo zs ys ps p).getD [] by simp [leftL, hpl], show leftC zs ys ps n m p = (if leftTo zs ys ps p = none then 9 else 0) by simp [leftC, hpl]]
    rw [hpl] at h1
    have H1 := Lib.hid h1
    have H2 := Lib.hid h2
    clear h1 h2 hpl hl hl1 hl2 hc hc1 hc2
    obtain ⟨r, hr⟩ : ∃ r, (leftTo zs ys ps p).getD [] = r := ⟨_, rfl⟩
    obtain ⟨s, hs⟩ : ∃ s : Int, (if leftTo zs ys ps p = none then 9 else 0) = s := ⟨_, rfl⟩
    rw [hr, hs]
    have HR := Lib.hid hr
    have HS := Lib.hid hs
    clear hr hs
    go_enter Try.func20, Try.ntmps20
    go_wp2_with fail
    refine H1.out.mono ?_
    rintro e w1 ⟨rfl, hb1⟩
    have HB1 := Lib.hid hb1
    clear hb1
    go_wp2_with fail
    refine (H2.out w1 HB1.out).mono ?_
    rintro e w2 (⟨l, a, cap, k1, k2, rfl, k3, hb2⟩ | ⟨i, l, k1, k2, k3, rfl, hb2⟩)
    · have HB2 := Lib.hid hb2
      have hsz := HB1.out.size
      have HK := Lib.hid (own_base k3 hsz)
      have K2 := Lib.hid k2
      obtain rfl : r = l := by rw [← HR.out, k1]; rfl
      obtain rfl : s = 0 := by rw [← HS.out, k1]; simp
      clear k1 k2 k3 hb2 hsz
      go_wp2
      go_ret2
      exact ⟨a, n, cap, rfl, by have := K2.out; omega, by omega, HK.out, ((Bel.of HB1.out).step HB2.out).1⟩
    · have HB2 := Lib.hid hb2
      have k4 := leftTo_stays k3 (show i + 1 ≤ p by omega)
      obtain rfl : r = [] := by rw [← HR.out, k4]; rfl
      obtain rfl : s = 9 := by rw [← HS.out, k4]; simp
      have hi0 : (0 : Int) ≤ (i : Int) := by omega
      have hi1 : i ≤ 1048576 := by omega
      clear k1 k2 k3 k4 hb2
      go_wp2
      go_ret2
      exact rowEnd_fail ((Bel.of HB1.out).step HB2.out).1
set_option maxRecDepth 100000 in
set_option maxHeartbeats 1600000 in
theorem spec_LeftOnSpools (w : World) (g n : Nat) (zs : List Int) (hl : zs.length = n) (hn : n ≤ 1048576) (hc : CellsAt w (some ⟨g, 0, none⟩) (zs.map (Value.int .i64))) (_ : ∀ z ∈ zs, (Lit.int .i64 z).wf = true)
    (g1 m : Nat) (ys : List Int) (hl1 : ys.length = m) (hm : m ≤ 1048576) (hc1 : CellsAt w (some ⟨g1, 0, none⟩) (ys.map (Value.int .i64))) (_ : ∀ z ∈ ys, (Lit.int .i64 z).wf = true)
    (g2 p : Nat) (ps : List Int) (hl2 : ps.length = p) (hp : p ≤ 1048576) (hc2 : CellsAt w (some ⟨g2, 0, none⟩) (ps.map (Value.int .i64))) (_ : ∀ z ∈ ps, (Lit.int .i64 z).wf = true) :
    Calls Try.prog 19 #[.slice (some ⟨g, 0, none⟩) n n, .slice (some ⟨g1, 0, none⟩) m m, .slice (some ⟨g2, 0, none⟩) p p] w (RowEnd w 2 1 (leftL zs ys ps n m p) (leftC zs ys ps n m p)) := by
  have h1 := l16Code_any (some ⟨g, 0, none⟩) n n zs (some ⟨g1, 0, none⟩) m m ys (some ⟨g2, 0, none⟩) p p ps w hl hl1 hl2 (by omega) (by omega) (by omega) hc hc1 hc2
  cases hpl : planB zs ys ps n m p with
  | false =>
    rw [show leftL zs ys ps n m p = [] by simp [leftL, hpl], show leftC zs ys ps n m p = 2 by simp [leftC, hpl]]
    rw [planC, hpl] at h1
    simp only [Bool.false_eq_true, if_false] at h1
    have H1 := Lib.hid h1
    clear h1 hpl hl hl1 hl2 hc hc1 hc2
    go_enter Try.func19, Try.ntmps19
    go_wp2_with (go_at_call 48; refine H1.out.mono ?_; rintro e w1 ⟨rfl, hb1⟩)
    go_ret2
    exact rowEnd_fail hb1
  | true =>
    have h2 := fun W (e : Below w.heap.size w W) => l16Left_any g n n zs (some ⟨g1, 0, none⟩) m m ys (some ⟨g2, 0, none⟩) p p ps W hl hl1 hl2 (hc.below e) (hc1.below e) (hc2.below e) hpl
    rw [show leftL zs ys ps n m p = (leftTo zs ys ps p).getD [] by simp [leftL, hpl], show leftC zs ys ps n m p = (if leftTo zs ys ps p = none then 9 else 0) by simp [leftC, hpl]]
    rw [planC, hpl] at h1
    simp only [if_true] at h1
    have H1 := Lib.hid h1
    have H2 := Lib.hid h2
    clear h1 h2 hpl hl hl1 hl2 hc hc1 hc2
    obtain ⟨r, hr⟩ : ∃ r, (leftTo zs ys ps p).getD [] = r := ⟨_, rfl⟩
    obtain ⟨s, hs⟩ : ∃ s : Int, (if leftTo zs ys ps p = none then 9 else 0) = s := ⟨_, rfl⟩
    rw [hr, hs]
    have HR := Lib.hid hr
    have HS := Lib.hid hs
    clear hr hs
    go_enter Try.func19, Try.ntmps19
    go_wp2_with fail
    refine H1.out.mono ?_
    rintro e w1 ⟨rfl, hb1⟩
    have HB1 := Lib.hid hb1
    clear hb1
    go_wp2_with fail
    refine (H2.out w1 HB1.out).mono ?_
    rintro e w2 (⟨l, a, cap, k1, k2, rfl, k3, hb2⟩ | ⟨i, l, k1, k2, k3, rfl, hb2⟩)
    · have HB2 := Lib.hid hb2
      have hsz := HB1.out.size
      have HK := Lib.hid (own_base k3 hsz)
      have K2 := Lib.hid k2
      obtain rfl : r = l := by rw [← HR.out, k1]; rfl
      obtain rfl : s = 0 := by rw [← HS.out, k1]; simp
      clear k1 k2 k3 hb2 hsz
      go_wp2
      go_ret2
      exact ⟨a, n, cap, rfl, by have := K2.out; omega, by omega, HK.out, ((Bel.of HB1.out).step HB2.out).1⟩
    · have HB2 := Lib.hid hb2
      have k4 := leftTo_stays k3 (show i + 1 ≤ p by omega)
      obtain rfl : r = [] := by rw [← HR.out, k4]; rfl
      obtain rfl : s = 9 := by rw [← HS.out, k4]; simp
      have hi0 : (0 : Int) ≤ (i : Int) := by omega
      have hi1 : i ≤ 1048576 := by omega
      clear k1 k2 k3 k4 hb2
      go_wp2
      go_ret2
      exact rowEnd_fail ((Bel.of HB1.out).step HB2.out).1
end Go.Proofs.Ytoomkeicfdmdoaa
