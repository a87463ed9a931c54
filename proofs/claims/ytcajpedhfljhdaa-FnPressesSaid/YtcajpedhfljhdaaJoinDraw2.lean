/-
  Contracts of the draws of lists of joins. No condition of its own.
-/
import Derived.Test.YtcajpedhfljhdaaJoinDraw
import Derived.Test.YtcajpedhfljhdaaJoin
namespace Go.Proofs.Ytcajpedhfljhdaa
open Go.ChangeShapes Go.WideShapes Go.ChangeAt Go.RowKit Go.Deep

theorem joins_cell {W : World} {B E g n c j : Nat} {zs : List Int} {x : Int} (h : W.ownsRow B E 4 (.slice (some ⟨g, 0, none⟩) n c) n (zs.map (Value.int .i64))) (hj : j < n * 4) (hx : zs.getD j 0 = x) : W.cell? ⟨g, j, none⟩ = some (.int .i64 x) := by
  have hl := h.1
  simp only [List.length_map] at hl
  have hjl : j < zs.length := by omega
  rw [h.cellAt j (by omega), List.getElem?_map, List.getElem?_eq_getElem hjl, ← hx]
  simp [List.getElem?_eq_getElem hjl]
/-- What a spoiling leaves: the list's numbers, one of them turned. -/
def SpoilEnd (w0 w : World) (B g n c p : Nat) (ac : Option Addr) (nc cc A : Nat) (e : Ending) (w' : World) : Prop :=
  e = .returned (.tuple #[]) ∧ ∃ zs : List Int, zs.length = n * 4 ∧ (∀ z ∈ zs, (Lit.int .i64 z).wf = true) ∧ w'.ownsRow B 45 4 (.slice (some ⟨g, 0, none⟩) n c) n (zs.map (Value.int .i64)) ∧ SrcAt w' w0.heap.size p ac nc cc A ∧ ∃ w1, w.grownBy w1 (some p) ∧ w1.grownBy w' (some g)
theorem wf_set4 {zs : List Int} {u : Int} {k : Nat} (h : ∀ z ∈ zs, 0 ≤ z ∧ z ≤ 1000) (hu : (Lit.int .i64 u).wf = true) : ∀ z ∈ zs.set k u, (Lit.int .i64 z).wf = true := fun z hz => by
  rcases List.mem_or_eq_of_mem_set hz with h1 | h1
  · have := h z h1; exact wf_gl (by omega) (by omega)
  · rw [h1]; exact hu
set_option maxRecDepth 100000 in
set_option maxHeartbeats 6400000 in
theorem l19Spoil_any (w0 w : World) (B g n c k p nc cc A : Nat) (ac : Option Addr) (zs : List Int) (hc : CodeAt w0 ac nc) (hb : Bel w0.heap.size w0 w) (hs : SrcAt w w0.heap.size p ac nc cc A) (hA : A ≤ 90000) (hl : zs.length = n * 4) (hk : k < n) (hz : ∀ z ∈ zs, 0 ≤ z ∧ z ≤ 1000) (hpg : p ≠ g)
    (ho : w.ownsRow B 45 4 (.slice (some ⟨g, 0, none⟩) n c) n (zs.map (Value.int .i64))) :
    Calls Try.prog 91 #[.pointer (some ⟨p, 0, none⟩), .pointer (some ⟨g, k * 4, none⟩)] w (SpoilEnd w0 w B g n c p ac nc cc (A + 4)) := by
  obtain ⟨hp1, hp2⟩ := hs.base
  have HC := Lib.hid hc
  have HG := Lib.hid (fun (W W' : World) (h : Bel w0.heap.size w0 W) (hg : W.grownBy W' (some p)) => h.grown hg (fun k h => by cases h; exact hp1))
  have HB := Lib.hid hb
  have HS := Lib.hid hs
  have HO := Lib.hid ho
  have HL := Lib.hid hl
  have HZ := Lib.hid hz
  clear hc hb hs ho hl hz
  have HX := Lib.hid (fun j (hj : j < n * 4) => (show 0 ≤ zs.getD j 0 ∧ zs.getD j 0 ≤ 1000 from by
    have h := HZ.out (zs.getD j 0) (by simp [List.getElem?_eq_getElem (show j < zs.length by rw [HL.out]; exact hj)])
    exact h))
  have HEnd := Lib.hid (fun (W1 W2 : World) (o : Nat) (u : Int) (_ : o < 4) (hg1 : w.grownBy W1 (some p)) (hu : (Lit.int .i64 u).wf = true) (hs1 : SrcAt W1 w0.heap.size p ac nc cc (A + 4)) (e : W1.setCell ⟨g, k * 4 + o, none⟩ (.int .i64 u) = W2) => (show SpoilEnd w0 w B g n c p ac nc cc (A + 4) (.returned (.tuple #[])) W2 from by
    subst e
    have ho1 := own_drawn HO.out hg1 (fun e => hpg (by have h1 : g = p := (by simpa [Value.ownBlock] using e); exact h1.symm))
    have hst := ho1.stored (k * 4 + o) (.int .i64 u)
    rw [← List.map_set] at hst
    exact ⟨rfl, zs.set (k * 4 + o) u, by rw [List.length_set]; exact HL.out, wf_set4 HZ.out hu, hst.1, hs1.set (fun e => hpg e.symm), W1, hg1, setCell_grown _ _ _ _⟩))
  go_enter Try.func91, Try.ntmps91
  go_wp2_with fail
  refine (pick_any w0 w p nc cc A ac 4 HC.out HB.out HS.out (by omega) (by omega)).mono ?_
  rintro e w1 ⟨r, rfl, ra, rb, hs1, hg1⟩
  have HS1 := Lib.hid hs1
  have HB1 := Lib.hid (HG.out _ _ HB.out hg1)
  have HG1 := Lib.hid hg1
  have HO1 := Lib.hid (own_drawn HO.out hg1 (fun e => hpg (by have h1 : g = p := (by simpa [Value.ownBlock] using e); exact h1.symm)))
  obtain ⟨x2, hx2⟩ : ∃ x, zs.getD (k * 4 + 2) 0 = x := ⟨_, rfl⟩
  obtain ⟨x3, hx3⟩ : ∃ x, zs.getD (k * 4 + 3) 0 = x := ⟨_, rfl⟩
  have b2 := HX.out (k * 4 + 2) (by omega)
  have b3 := HX.out (k * 4 + 3) (by omega)
  rw [hx2] at b2
  rw [hx3] at b3
  have c2 := joins_cell HO1.out (j := k * 4 + 2) (by omega) hx2
  have c3 := joins_cell HO1.out (j := k * 4 + 3) (by omega) hx3
  have HRow := Lib.hid (fun (W : World) (h : w1.grownBy W (some p)) (j : Nat) (hj : j < n * 4) => (show W.cell? ⟨g, j, none⟩ = some (.int .i64 (zs.getD j 0)) ∧ W.frozen? ⟨g, j, none⟩ = false from by
    have ho1 := own_drawn HO1.out h (fun e => hpg (by have h1 : g = p := (by simpa [Value.ownBlock] using e); exact h1.symm))
    exact ⟨joins_cell ho1 hj rfl, ho1.frozenAt j⟩))
  have HRow2 := Lib.hid (fun (W : World) (h : w1.grownBy W (some p)) (j i : Nat) (u : Int) (hj : j < n * 4) (hij : i ≠ j) => (show (W.setCell ⟨g, i, none⟩ (.int .i64 u)).cell? ⟨g, j, none⟩ = some (.int .i64 (zs.getD j 0)) from by
    have ho1 := own_drawn HO1.out h (fun e => hpg (by have h1 : g = p := (by simpa [Value.ownBlock] using e); exact h1.symm))
    have hst := (ho1.stored i (.int .i64 u)).1
    rw [← List.map_set] at hst
    exact joins_cell hst hj (by simp only [List.getD_eq_getElem?_getD]; rw [List.getElem?_set_ne hij])))
  have HCell := Lib.hid (fun (W : World) (h : w.grownBy W (some p)) (j : Nat) (hj : j < n * 4) => (show (∃ v, W.cell? ⟨g, j, none⟩ = some v) ∧ W.frozen? ⟨g, j, none⟩ = false from by
    have ho1 := own_drawn HO.out h (fun e => hpg (by have h1 : g = p := (by simpa [Value.ownBlock] using e); exact h1.symm))
    exact ⟨⟨_, joins_cell ho1 hj rfl⟩, ho1.frozenAt j⟩))
  have HX2 := Lib.hid hx2
  have HX3 := Lib.hid hx3
  clear hs1 hg1 hx2 hx3
  by_cases h0 : r = 0
  · subst h0
    have w1a : IntKind.i64.wrap (x2 + 1) = x2 + 1 := IntWalk.i64_in _ (by omega)
    go_wp2_with fail
    go_region_held3 (fun W => W.cell? ⟨g, k * 4 + 2, none⟩ = some (.int .i64 x2)) (first | (with_reducible exact hK2) | (with_reducible exact hK3) | go_keep)
      ((go_at_call 80; refine (among_lit w0 w1.drew p nc cc (A + 2) 4 2 ac [-1, 0, x2, x2 + 1] rfl (by omega) (by omega) HC.out HB1.out.drew HS1.out (by omega)).mono ?_; rintro e w2 ⟨u, rfl, hu, hs2, hg2⟩; have hg3 := grown_from_drew hg2; have hK2 := (HRow.out w2 hg3 (k * 4 + 2) (by omega)).1; rw [HX2.out] at hK2; have hK3 := HRow2.out w2 hg3 (k * 4 + 2) (k * 4) u (by omega) (by omega); rw [HX2.out] at hK3; have hR := HRow.out w2 hg3 (k * 4) (by omega); have hR1 := hR.1; have hR2 := hR.2; have HN := Lib.hid (And.intro hs2 hg3); have HU := Lib.hid (show (Lit.int .i64 u).wf = true by simp only [List.mem_cons, List.not_mem_nil, or_false] at hu; exact wf_gl (by omega) (by omega)); clear hu hs2 hg2 hg3 hR))
    have hE := HEnd.out w2 _ 0 u (by omega) (grown_more HG1.out HN.out.2) HU.out HN.out.1 rfl
    have HE := Lib.hid hE
    clear hE hK2 hK3 hR1 hR2
    go_wp2_with fail
    go_end0
    exact HE.out
  · by_cases h1 : r = 1
    · subst h1
      have HAm := Lib.hid (among_lit w0 w1 p nc cc (A + 2) 4 2 ac [-1, 0, 100000, 100001] rfl (by omega) (by omega) HC.out HB1.out HS1.out (by omega))
      go_wp2_with fail
      refine HAm.out.mono ?_
      rintro e w2 ⟨u, rfl, hu, hs2, hg2⟩
      have hR := HRow.out w2 hg2 (k * 4 + 1) (by omega)
      have hR1 := hR.1
      have hR2 := hR.2
      have HU := Lib.hid (show (Lit.int .i64 u).wf = true by simp only [List.mem_cons, List.not_mem_nil, or_false] at hu; exact wf_gl (by omega) (by omega))
      have HE := Lib.hid (HEnd.out w2 _ 1 u (by omega) (grown_more HG1.out hg2) HU.out hs2 rfl)
      clear hu hs2 hg2 hR HAm
      go_wp2_with fail
      go_end0
      exact HE.out
    · by_cases h2 : r = 2
      · subst h2
        have w1a : IntKind.i64.wrap (x3 + 1) = x3 + 1 := IntWalk.i64_in _ (by omega)
        go_wp2_with fail
        go_region_held3 (fun W => W.cell? ⟨g, k * 4 + 3, none⟩ = some (.int .i64 x3)) (first | (with_reducible exact hK2) | (with_reducible exact hK3) | go_keep)
          ((go_at_call 80; refine (among_lit w0 w1.drew p nc cc (A + 2) 4 2 ac [-1, x3, x3 + 1, -9223372036854775808] rfl (by omega) (by omega) HC.out HB1.out.drew HS1.out (by omega)).mono ?_; rintro e w2 ⟨u, rfl, hu, hs2, hg2⟩; have hg3 := grown_from_drew hg2; have hK2 := (HRow.out w2 hg3 (k * 4 + 3) (by omega)).1; rw [HX3.out] at hK2; have hK3 := HRow2.out w2 hg3 (k * 4 + 3) (k * 4 + 2) u (by omega) (by omega); rw [HX3.out] at hK3; have hR := HRow.out w2 hg3 (k * 4 + 2) (by omega); have hR1 := hR.1; have hR2 := hR.2; have HN := Lib.hid (And.intro hs2 hg3); have HU := Lib.hid (show (Lit.int .i64 u).wf = true by simp only [List.mem_cons, List.not_mem_nil, or_false] at hu; exact wf_gl (by omega) (by omega)); clear hu hs2 hg2 hg3 hR))
        have hE := HEnd.out w2 _ 2 u (by omega) (grown_more HG1.out HN.out.2) HU.out HN.out.1 rfl
        have HE := Lib.hid hE
        clear hE hK2 hK3 hR1 hR2
        go_wp2_with fail
        go_end0
        exact HE.out
      · obtain rfl : r = 3 := by omega
        have HAm := Lib.hid (among_lit w0 w1 p nc cc (A + 2) 4 2 ac [-1, x2, 100000, 100001] rfl (by omega) (by omega) HC.out HB1.out HS1.out (by omega))
        go_wp2_with fail
        refine HAm.out.mono ?_
        rintro e w2 ⟨u, rfl, hu, hs2, hg2⟩
        have hR := HRow.out w2 hg2 (k * 4 + 3) (by omega)
        have hR1 := hR.1
        have hR2 := hR.2
        have HU := Lib.hid (show (Lit.int .i64 u).wf = true by simp only [List.mem_cons, List.not_mem_nil, or_false] at hu; exact wf_gl (by omega) (by omega))
        have HE := Lib.hid (HEnd.out w2 _ 3 u (by omega) (grown_more HG1.out hg2) HU.out hs2 rfl)
        clear hu hs2 hg2 hR HAm
        go_wp2_with fail
        go_end0
        exact HE.out
/-- A drawn list of joins. -/
def SomeEnd (w0 w : World) (p : Nat) (ac : Option Addr) (nc cc A : Nat) (e : Ending) (w' : World) : Prop :=
  ∃ (g n c : Nat) (zs : List Int), e = .returned (.slice (some ⟨g, 0, none⟩) n c) ∧ zs.length = n * 4 ∧ n ≤ 21 ∧ (∀ z ∈ zs, (Lit.int .i64 z).wf = true) ∧ w.heap.size ≤ g ∧ w'.ownsRow w.heap.size 45 4 (.slice (some ⟨g, 0, none⟩) n c) n (zs.map (Value.int .i64)) ∧ SrcAt w' w0.heap.size p ac nc cc A ∧ w.grownBy w' (some p)
theorem small_app {zs : List Int} {a b j t : Int} (h : ∀ z ∈ zs, 0 ≤ z ∧ z ≤ 1000) (k : 0 ≤ a ∧ a ≤ 1000 ∧ 0 ≤ b ∧ b ≤ 1000 ∧ 0 ≤ j ∧ j ≤ 1000 ∧ 0 ≤ t ∧ t ≤ 1000) : ∀ z ∈ zs ++ [a, b, j, t], 0 ≤ z ∧ z ≤ 1000 := fun z hz => by
  simp only [List.mem_append, List.mem_cons, List.not_mem_nil, or_false] at hz
  rcases hz with hz | rfl | rfl | rfl | rfl
  · exact h z hz
  all_goals omega
set_option maxRecDepth 100000 in
set_option maxHeartbeats 6400000 in
theorem l19Some_any (w0 w : World) (p nc cc A : Nat) (ac : Option Addr) (hc : CodeAt w0 ac nc) (hb : Bel w0.heap.size w0 w) (hs : SrcAt w w0.heap.size p ac nc cc A) (hA : A ≤ 80000) :
    Calls Try.prog 81 #[.pointer (some ⟨p, 0, none⟩)] w (SomeEnd w0 w p ac nc cc (A + 300)) := by
  obtain ⟨hp1, hp2⟩ := hs.base
  have HC := Lib.hid hc
  have HG := Lib.hid (fun (W W' : World) (h : Bel w0.heap.size w0 W) (hg : W.grownBy W' (some p)) => h.grown hg (fun k h => by cases h; exact hp1))
  have HS0 := Lib.hid (hs.alloc (.cells #[] 45))
  have HB0 := Lib.hid (hb.alloc (.cells #[] 45))
  have HO0 := Lib.hid (own_none' w w.heap.size 45 4 (Nat.le_refl _))
  have HK0 := Lib.hid (grown_alloc (World.grownBy.refl w (some p)) (.cells #[] 45))
  have HBase := Lib.hid hb.2
  clear hc hb hs
  go_enter Try.func81, Try.ntmps81
  go_wp2_with fail
  refine (pick_any w0 _ p nc cc A ac 8 HC.out HB0.out HS0.out (by omega) (by omega)).mono ?_
  rintro e w1 ⟨n0, rfl, a0, a1, hs1, hg1⟩
  have HS1 := Lib.hid hs1
  have HB1 := Lib.hid (HG.out _ _ HB0.out hg1)
  have HO1 := Lib.hid (own_drawn HO0.out hg1 (fun e => by have h1 : w.heap.size = p := (by simpa [Value.ownBlock] using e); omega))
  have HK1 := Lib.hid (grown_more HK0.out hg1)
  clear hs1 hg1
  go_wp2_with fail
  refine (one_any w0 w1 p nc cc (A + 2) ac 24 HC.out HB1.out HS1.out (by omega) (by omega)).mono ?_
  rintro e w2 ⟨qb, rfl, hs2, hg2⟩
  have HS2 := Lib.hid hs2
  have HB2 := Lib.hid (HG.out _ _ HB1.out hg2)
  have HO2 := Lib.hid (own_drawn HO1.out hg2 (fun e => by have h1 : w.heap.size = p := (by simpa [Value.ownBlock] using e); omega))
  have HK2 := Lib.hid (grown_more HK1.out hg2)
  clear hs2 hg2
  go_upto_if 10 with fail
  go_cut [4] (fun t4 W => ∃ N : Nat, t4 = .int .i64 (N : Int) ∧ N ≤ 21 ∧ Hid (SrcAt W w0.heap.size p ac nc cc (A + 6)) ∧ Hid (Bel w0.heap.size w0 W) ∧ Hid (w.grownBy W (some p)) ∧ Hid (W.ownsRow w.heap.size 45 4 (.slice (some ⟨w.heap.size, 0, none⟩) 0 0) 0 []))
  case first =>
    cases qb
    · go_wp2_with fail
      go_meet
      exact ⟨n0.toNat, by rw [show ((n0.toNat : Nat) : Int) = n0 by omega], by omega, Lib.hid (HS2.out.more (by omega)), HB2, HK2, HO2⟩
    · go_wp2_with fail
      refine (pick_any w0 w2 p nc cc (A + 2 + 2) ac 2 HC.out HB2.out HS2.out (by omega) (by omega)).mono ?_
      rintro e w4 ⟨r4, rfl, d0, d1, hs4, hg4⟩
      have HS4 := Lib.hid hs4
      have HB4 := Lib.hid (HG.out _ _ HB2.out hg4)
      have HO4 := Lib.hid (own_drawn HO2.out hg4 (fun e => by have h1 : w.heap.size = p := (by simpa [Value.ownBlock] using e); omega))
      have HK4 := Lib.hid (grown_more HK2.out hg4)
      clear hs4 hg4
      go_wp2_with fail
      go_meet
      exact ⟨(20 + r4).toNat, by rw [show (((20 + r4).toNat : Nat) : Int) = 20 + r4 by omega], by omega, HS4, HB4, HK4, HO4⟩
  case rest =>
    obtain ⟨N, rfl, hN, hsc, hbc, hkc, hoc⟩ := hcut
    clear HS0 HB0 HO0 HK0 HS1 HB1 HO1 HK1 HS2 HB2 HO2 HK2 a0 a1
    go_wp2_with fail
    go_loopw [3, 5] (fun v u wr => ∃ (j K : Nat), u = .int .i64 (K : Int) ∧ j + K = N ∧ ∃ (g co : Nat) (zs : List Int), v = .slice (some ⟨g, 0, none⟩) j co ∧ w.heap.size ≤ g ∧ Hid (zs.length = j * 4 ∧ ∀ z ∈ zs, 0 ≤ z ∧ z ≤ 1000) ∧ Hid (SrcAt wr w0.heap.size p ac nc cc (A + 6 + 8 * j)) ∧ Hid (wr.ownsRow w.heap.size 45 4 (.slice (some ⟨g, 0, none⟩) j co) j (zs.map (Value.int .i64))) ∧ Hid (Bel w0.heap.size w0 wr) ∧ Hid (w.grownBy wr (some p))) (fun _ u _ => (intOf u).toNat)
    case atStart => exact ⟨0, N, rfl, by omega, w.heap.size, 0, [], rfl, Nat.le_refl _, Lib.hid ⟨rfl, fun z hz => by cases hz⟩, hsc, hoc, hbc, hkc⟩
    case round =>
      clear hsc hbc hkc hoc
      obtain ⟨j, K, rfl, hjk, g, co, zs, rfl, hgw, hzs, hsrc, hown, hbw, hkw⟩ := hrel
      have hpg : p ≠ g := by omega
      by_cases hlt : 0 < K
      · obtain ⟨K, rfl⟩ : ∃ q, K = q + 1 := ⟨K - 1, by omega⟩
        have hlt' : (0 : Int) < (((K + 1 : Nat) : Int)) := by omega
        go_wp2_with fail
        refine (l19New_any w0 wr p nc cc (A + 6 + 8 * j) ac HC.out hbw.out hsrc.out (by omega)).mono ?_
        rintro e w3 ⟨x1, x2, x3, x4, rfl, hx, hs3, hg3⟩
        have HX := Lib.hid hx
        have HS3 := Lib.hid hs3
        have HB3 := Lib.hid (HG.out _ _ hbw.out hg3)
        have HK3 := Lib.hid (grown_more hkw.out hg3)
        have HO3 := Lib.hid (own_drawn hown.out hg3 (fun e => hpg (by have h1 : g = p := (by simpa [Value.ownBlock] using e); exact h1.symm)))
        have HB3' := Lib.hid (show Bel w.heap.size w3 w3 from ⟨Below.refl _ _, Nat.le_trans HK3.out.size (Nat.le_refl _)⟩)
        clear hx hs3 hg3
        go_wp2_with (at_builtin; refine appJoin (w0 := w3) (by rfl) _ _ (by rfl) w.heap.size _ _ _ (by rfl) HO3.out _ _ _ _ 1 w3.heap.size (by simp) (by rfl) (by omega) HB3'.out ?_; intro g5 cap5 w5 ho5 hb5 hg5 hat5; have Ho5 := Lib.hid ho5; have Hs5 := Lib.hid (HS3.out.grown hg5 (fun e => hpg (by have h1 : g = p := (by simpa [Value.ownBlock] using e); exact h1.symm))); have Hb5 := Lib.hid (HB3.out.grown hg5 (fun b hb => by have := (own_block HO3.out hb).1; have := HBase.out; omega)); have Hk5 := Lib.hid (grown_own HK3.out hg5 (fun b hb => (own_block HO3.out hb).1)); have Hg5 := Lib.hid (show w.heap.size ≤ g5 by rcases hat5 with h | h; (exact (own_block HO3.out h).1); exact Nat.le_trans HK3.out.size h); clear ho5 hb5 hg5 hat5)
        have hg5' := Hg5.out
        go_roundw
        case rel => exact ⟨j + 1, K, by go_num, by omega, g5, cap5, zs ++ [x1, x2, x3, x4], rfl, hg5', Lib.hid ⟨by simp [hzs.out.1]; omega, small_app hzs.out.2 HX.out⟩, Lib.hid (Hs5.out.more (by omega)), Lib.hid (by rw [List.map_append]; exact Ho5.out), Hb5, Hk5⟩
        case measure => simp [intOf]
      · obtain rfl : K = 0 := by omega
        obtain rfl : j = N := by omega
        have hlt' : ¬ (0 : Int) < ((0 : Nat) : Int) := by omega
        have HWf := Lib.hid (fun z (h : z ∈ zs) => (show (Lit.int .i64 z).wf = true from by have := hzs.out.2 z h; exact wf_gl (by omega) (by omega)))
        by_cases hj : 0 < j
        · have hj' : (0 : Int) < (j : Int) := by omega
          go_wp2_with fail
          refine (one_any w0 wr p nc cc (A + 6 + 8 * j) ac 8 HC.out hbw.out hsrc.out (by omega) (by omega)).mono ?_
          rintro e w3 ⟨qb, rfl, hs3, hg3⟩
          have HS3 := Lib.hid hs3
          have HB3 := Lib.hid (HG.out _ _ hbw.out hg3)
          have HK3 := Lib.hid (grown_more hkw.out hg3)
          have HO3 := Lib.hid (own_drawn hown.out hg3 (fun e => hpg (by have h1 : g = p := (by simpa [Value.ownBlock] using e); exact h1.symm)))
          clear hs3 hg3
          cases qb
          · go_wp2_with fail
            go_ret
            exact ⟨g, j, co, zs, rfl, hzs.out.1, by omega, HWf.out, hgw, HO3.out, HS3.out.more (by omega), HK3.out⟩
          · go_wp2_with fail
            refine (pick_any w0 w3 p nc cc (A + 6 + 8 * j + 2) ac (j : Int) HC.out HB3.out HS3.out (by omega) (by omega)).mono ?_
            rintro e w4 ⟨r, rfl, ra, rb, hs4, hg4⟩
            obtain ⟨k, rfl⟩ : ∃ k : Nat, r = (k : Int) := ⟨r.toNat, by omega⟩
            have hkj : k < j := by omega
            have hkj' : (k : Int) < (j : Int) := by omega
            have HS4 := Lib.hid hs4
            have HB4 := Lib.hid (HG.out _ _ HB3.out hg4)
            have HK4 := Lib.hid (grown_more HK3.out hg4)
            have HO4 := Lib.hid (own_drawn HO3.out hg4 (fun e => hpg (by have h1 : g = p := (by simpa [Value.ownBlock] using e); exact h1.symm)))
            clear hs4 hg4
            go_wp2_with fail
            refine (l19Spoil_any w0 w4 w.heap.size g j co k p nc cc (A + 6 + 8 * j + 2 + 2) ac zs HC.out HB4.out HS4.out (by omega) hzs.out.1 hkj hzs.out.2 hpg HO4.out).mono ?_
            rintro e w5 ⟨rfl, zs', hl', hwf', ho', hs', w6, hg6, hg7⟩
            have HE := Lib.hid (show SomeEnd w0 w p ac nc cc (A + 300) (.returned (.slice (some ⟨g, 0, none⟩) j co)) w5 from ⟨g, j, co, zs', rfl, hl', by omega, hwf', hgw, ho', hs'.more (by omega), grown_new (grown_more HK4.out hg6) hg7 hgw⟩)
            clear hl' hwf' ho' hs' hg6 hg7
            go_wp2_with fail
            go_ret
            exact HE.out
        · have hj' : ¬ (0 : Int) < (j : Int) := by omega
          go_wp2_with fail
          go_ret
          exact ⟨g, j, co, zs, rfl, hzs.out.1, by omega, HWf.out, hgw, hown.out, hsrc.out.more (by omega), hkw.out⟩
end Go.Proofs.Ytcajpedhfljhdaa
