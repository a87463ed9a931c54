/-
  The contract of the spoiling of a join. No condition of its own.
-/
import Derived.Test.YtfkojbkgpbpjhaaGreatDoorJoinDraw
namespace Go.Proofs.YtfkojbkgpbpjhaaGreatDoor
open Go.ChangeShapes Go.WideShapes Go.ChangeAt Go.RowKit Go.Deep

theorem joins_cell {W : World} {B E g n c j : Nat} {zs : List Int} {x : Int} (h : W.ownsRow B E 4 (.slice (some ⟨g, 0, none⟩) n c) n (zs.map (Value.int .i64))) (hj : j < n * 4) (hx : zs.getD j 0 = x) : W.cell? ⟨g, j, none⟩ = some (.int .i64 x) := by
  have hl := h.1
  simp only [List.length_map] at hl
  have hjl : j < zs.length := by omega
  rw [h.cellAt j (by omega), List.getElem?_map, List.getElem?_eq_getElem hjl, ← hx]
  simp [List.getElem?_eq_getElem hjl]
/-- What a spoiling leaves: the list's numbers, one of them turned. -/
def SpoilEnd (w0 w : World) (B g n c p : Nat) (ac : Option Addr) (nc cc A : Nat) (e : Ending) (w' : World) : Prop :=
  e = .returned (.tuple #[]) ∧ ∃ zs : List Int, zs.length = n * 4 ∧ (∀ z ∈ zs, (Lit.int .i64 z).wf = true) ∧ w'.ownsRow B 31 4 (.slice (some ⟨g, 0, none⟩) n c) n (zs.map (Value.int .i64)) ∧ SrcAt w' w0.heap.size p ac nc cc A ∧ ∃ w1, w.grownBy w1 (some p) ∧ w1.grownBy w' (some g)
theorem wf_set4 {zs : List Int} {u : Int} {k : Nat} (h : ∀ z ∈ zs, 0 ≤ z ∧ z ≤ 1000) (hu : (Lit.int .i64 u).wf = true) : ∀ z ∈ zs.set k u, (Lit.int .i64 z).wf = true := fun z hz => by
  rcases List.mem_or_eq_of_mem_set hz with h1 | h1
  · have := h z h1; exact wf_gl (by omega) (by omega)
  · rw [h1]; exact hu
set_option maxRecDepth 100000 in
set_option maxHeartbeats 6400000 in
theorem l19Spoil_any (w0 w : World) (B g n c k p nc cc A : Nat) (ac : Option Addr) (zs : List Int) (hc : CodeAt w0 ac nc) (hb : Bel w0.heap.size w0 w) (hs : SrcAt w w0.heap.size p ac nc cc A) (hA : A ≤ 90000) (hl : zs.length = n * 4) (hk : k < n) (hz : ∀ z ∈ zs, 0 ≤ z ∧ z ≤ 1000) (hpg : p ≠ g)
    (ho : w.ownsRow B 31 4 (.slice (some ⟨g, 0, none⟩) n c) n (zs.map (Value.int .i64))) :
    Calls Tryz.prog 37 #[.pointer (some ⟨p, 0, none⟩), .pointer (some ⟨g, k * 4, none⟩)] w (SpoilEnd w0 w B g n c p ac nc cc (A + 4)) := by
  obtain ⟨hp1, hp2⟩ := hs.base
  have HC := Lib.hid hc
  have HG := Lib.hid (fun (W W' : World) (h : Bel w0.heap.size w0 W) (hg : W.grownBy W' (some p)) => h.grown hg (fun k h => by cases h; exact hp1))
  have HB := Lib.hid hb
  have HS := Lib.hid hs
  have HO := Lib.hid ho
  have HL := Lib.hid hl
  have HZ := Lib.hid hz
  clear hc hb hs ho hl hz
  have HX := Lib.hid (fun j (hj : j < n * 4) => (show 0 ≤ zs.getD j 0 ∧ zs.getD j 0 ≤ 1000 from by
    have h := HZ.out (zs.getD j 0) (by simp [List.getElem?_eq_getElem (show j < zs.length by rw [HL.out]; exact hj)])
    exact h))
  have HEnd := Lib.hid (fun (W1 W2 : World) (o : Nat) (u : Int) (_ : o < 4) (hg1 : w.grownBy W1 (some p)) (hu : (Lit.int .i64 u).wf = true) (hs1 : SrcAt W1 w0.heap.size p ac nc cc (A + 4)) (e : W1.setCell ⟨g, k * 4 + o, none⟩ (.int .i64 u) = W2) => (show SpoilEnd w0 w B g n c p ac nc cc (A + 4) (.returned (.tuple #[])) W2 from by
    subst e
    have ho1 := own_drawn HO.out hg1 (fun e => hpg (by have h1 : g = p := (by simpa [Value.ownBlock] using e); exact h1.symm))
    have hst := ho1.stored (k * 4 + o) (.int .i64 u)
    rw [← List.map_set] at hst
    exact ⟨rfl, zs.set (k * 4 + o) u, by rw [List.length_set]; exact HL.out, wf_set4 HZ.out hu, hst.1, hs1.set (fun e => hpg e.symm), W1, hg1, setCell_grown _ _ _ _⟩))
  go_enter Tryz.func37, Tryz.ntmps37
  go_wp2_with fail
  refine (pick_any w0 w p nc cc A ac 4 HC.out HB.out HS.out (by omega) (by omega)).mono ?_
  rintro e w1 ⟨r, rfl, ra, rb, hs1, hg1⟩
  have HS1 := Lib.hid hs1
  have HB1 := Lib.hid (HG.out _ _ HB.out hg1)
  have HG1 := Lib.hid hg1
  have HO1 := Lib.hid (own_drawn HO.out hg1 (fun e => hpg (by have h1 : g = p := (by simpa [Value.ownBlock] using e); exact h1.symm)))
  obtain ⟨x2, hx2⟩ : ∃ x, zs.getD (k * 4 + 2) 0 = x := ⟨_, rfl⟩
  obtain ⟨x3, hx3⟩ : ∃ x, zs.getD (k * 4 + 3) 0 = x := ⟨_, rfl⟩
  have b2 := HX.out (k * 4 + 2) (by omega)
  have b3 := HX.out (k * 4 + 3) (by omega)
  rw [hx2] at b2
  rw [hx3] at b3
  have c2 := joins_cell HO1.out (j := k * 4 + 2) (by omega) hx2
  have c3 := joins_cell HO1.out (j := k * 4 + 3) (by omega) hx3
  have HRow := Lib.hid (fun (W : World) (h : w1.grownBy W (some p)) (j : Nat) (hj : j < n * 4) => (show W.cell? ⟨g, j, none⟩ = some (.int .i64 (zs.getD j 0)) ∧ W.frozen? ⟨g, j, none⟩ = false from by
    have ho1 := own_drawn HO1.out h (fun e => hpg (by have h1 : g = p := (by simpa [Value.ownBlock] using e); exact h1.symm))
    exact ⟨joins_cell ho1 hj rfl, ho1.frozenAt j⟩))
  have HRow2 := Lib.hid (fun (W : World) (h : w1.grownBy W (some p)) (j i : Nat) (u : Int) (hj : j < n * 4) (hij : i ≠ j) => (show (W.setCell ⟨g, i, none⟩ (.int .i64 u)).cell? ⟨g, j, none⟩ = some (.int .i64 (zs.getD j 0)) from by
    have ho1 := own_drawn HO1.out h (fun e => hpg (by have h1 : g = p := (by simpa [Value.ownBlock] using e); exact h1.symm))
    have hst := (ho1.stored i (.int .i64 u)).1
    rw [← List.map_set] at hst
    exact joins_cell hst hj (by simp only [List.getD_eq_getElem?_getD]; rw [List.getElem?_set_ne hij])))
  have HCell := Lib.hid (fun (W : World) (h : w.grownBy W (some p)) (j : Nat) (hj : j < n * 4) => (show (∃ v, W.cell? ⟨g, j, none⟩ = some v) ∧ W.frozen? ⟨g, j, none⟩ = false from by
    have ho1 := own_drawn HO.out h (fun e => hpg (by have h1 : g = p := (by simpa [Value.ownBlock] using e); exact h1.symm))
    exact ⟨⟨_, joins_cell ho1 hj rfl⟩, ho1.frozenAt j⟩))
  have HX2 := Lib.hid hx2
  have HX3 := Lib.hid hx3
  clear hs1 hg1 hx2 hx3
  by_cases h0 : r = 0
  · subst h0
    have w1a : IntKind.i64.wrap (x2 + 1) = x2 + 1 := IntWalk.i64_in _ (by omega)
    go_wp2_with fail
    go_region_held3 (fun W => W.cell? ⟨g, k * 4 + 2, none⟩ = some (.int .i64 x2)) (first | (with_reducible exact hK2) | (with_reducible exact hK3) | go_keep)
      ((go_at_call 29; refine (among_lit w0 w1.drew p nc cc (A + 2) 4 2 ac [-1, 0, x2, x2 + 1] rfl (by omega) (by omega) HC.out HB1.out.drew HS1.out (by omega)).mono ?_; rintro e w2 ⟨u, rfl, hu, hs2, hg2⟩; have hg3 := grown_from_drew hg2; have hK2 := (HRow.out w2 hg3 (k * 4 + 2) (by omega)).1; rw [HX2.out] at hK2; have hK3 := HRow2.out w2 hg3 (k * 4 + 2) (k * 4) u (by omega) (by omega); rw [HX2.out] at hK3; have hR := HRow.out w2 hg3 (k * 4) (by omega); have hR1 := hR.1; have hR2 := hR.2; have HN := Lib.hid (And.intro hs2 hg3); have HU := Lib.hid (show (Lit.int .i64 u).wf = true by simp only [List.mem_cons, List.not_mem_nil, or_false] at hu; exact wf_gl (by omega) (by omega)); clear hu hs2 hg2 hg3 hR))
    have hE := HEnd.out w2 _ 0 u (by omega) (grown_more HG1.out HN.out.2) HU.out HN.out.1 rfl
    have HE := Lib.hid hE
    clear hE hK2 hK3 hR1 hR2
    go_wp2_with fail
    go_end0
    exact HE.out
  · by_cases h1 : r = 1
    · subst h1
      have HAm := Lib.hid (among_lit w0 w1 p nc cc (A + 2) 4 2 ac [-1, 0, 100000, 100001] rfl (by omega) (by omega) HC.out HB1.out HS1.out (by omega))
      go_wp2_with fail
      refine HAm.out.mono ?_
      rintro e w2 ⟨u, rfl, hu, hs2, hg2⟩
      have hR := HRow.out w2 hg2 (k * 4 + 1) (by omega)
      have hR1 := hR.1
      have hR2 := hR.2
      have HU := Lib.hid (show (Lit.int .i64 u).wf = true by simp only [List.mem_cons, List.not_mem_nil, or_false] at hu; exact wf_gl (by omega) (by omega))
      have HE := Lib.hid (HEnd.out w2 _ 1 u (by omega) (grown_more HG1.out hg2) HU.out hs2 rfl)
      clear hu hs2 hg2 hR HAm
      go_wp2_with fail
      go_end0
      exact HE.out
    · by_cases h2 : r = 2
      · subst h2
        have w1a : IntKind.i64.wrap (x3 + 1) = x3 + 1 := IntWalk.i64_in _ (by omega)
        go_wp2_with fail
        go_region_held3 (fun W => W.cell? ⟨g, k * 4 + 3, none⟩ = some (.int .i64 x3)) (first | (with_reducible exact hK2) | (with_reducible exact hK3) | go_keep)
          ((go_at_call 29; refine (among_lit w0 w1.drew p nc cc (A + 2) 4 2 ac [-1, x3, x3 + 1, -9223372036854775808] rfl (by omega) (by omega) HC.out HB1.out.drew HS1.out (by omega)).mono ?_; rintro e w2 ⟨u, rfl, hu, hs2, hg2⟩; have hg3 := grown_from_drew hg2; have hK2 := (HRow.out w2 hg3 (k * 4 + 3) (by omega)).1; rw [HX3.out] at hK2; have hK3 := HRow2.out w2 hg3 (k * 4 + 3) (k * 4 + 2) u (by omega) (by omega); rw [HX3.out] at hK3; have hR := HRow.out w2 hg3 (k * 4 + 2) (by omega); have hR1 := hR.1; have hR2 := hR.2; have HN := Lib.hid (And.intro hs2 hg3); have HU := Lib.hid (show (Lit.int .i64 u).wf = true by simp only [List.mem_cons, List.not_mem_nil, or_false] at hu; exact wf_gl (by omega) (by omega)); clear hu hs2 hg2 hg3 hR))
        have hE := HEnd.out w2 _ 2 u (by omega) (grown_more HG1.out HN.out.2) HU.out HN.out.1 rfl
        have HE := Lib.hid hE
        clear hE hK2 hK3 hR1 hR2
        go_wp2_with fail
        go_end0
        exact HE.out
      · obtain rfl : r = 3 := by omega
        have HAm := Lib.hid (among_lit w0 w1 p nc cc (A + 2) 4 2 ac [-1, x2, 100000, 100001] rfl (by omega) (by omega) HC.out HB1.out HS1.out (by omega))
        go_wp2_with fail
        refine HAm.out.mono ?_
        rintro e w2 ⟨u, rfl, hu, hs2, hg2⟩
        have hR := HRow.out w2 hg2 (k * 4 + 3) (by omega)
        have hR1 := hR.1
        have hR2 := hR.2
        have HU := Lib.hid (show (Lit.int .i64 u).wf = true by simp only [List.mem_cons, List.not_mem_nil, or_false] at hu; exact wf_gl (by omega) (by omega))
        have HE := Lib.hid (HEnd.out w2 _ 3 u (by omega) (grown_more HG1.out hg2) HU.out hs2 rfl)
        clear hu hs2 hg2 hR HAm
        go_wp2_with fail
        go_end0
        exact HE.out
end Go.Proofs.YtfkojbkgpbpjhaaGreatDoor
