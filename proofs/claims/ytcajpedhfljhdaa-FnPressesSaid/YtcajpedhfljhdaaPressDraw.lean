/-
  Contracts of the draws that the law on presses uses. No condition of its own.
-/
import Derived.Test.YtcajpedhfljhdaaJoinDraw2
namespace Go.Proofs.Ytcajpedhfljhdaa
open Go.ChangeShapes Go.WideShapes Go.ChangeAt Go.RowKit Go.Deep

/-- A drawn list of joins, as a law reads it. -/
def ListEnd (w : World) (e : Ending) (w' : World) : Prop :=
  ∃ (g n c : Nat) (zs : List Int), e = .returned (.slice (some ⟨g, 0, none⟩) n c) ∧ zs.length = n * 4 ∧ n ≤ 21 ∧ (∀ z ∈ zs, (Lit.int .i64 z).wf = true) ∧ CellsAt w' (some ⟨g, 0, none⟩) (zs.map (Value.int .i64)) ∧ Bel w.heap.size w w'
theorem drawPressesFor_any (w : World) (nc cc : Nat) (ac : Option Addr) (hc : CodeAt w ac nc) : Calls Try.prog 50 #[.slice ac nc cc] w (ListEnd w) := by
  have HC := Lib.hid hc
  clear hc
  go_enter Try.func50, Try.ntmps50
  go_wp2_with fail
  refine (l00From_any w w.heap.size ac nc cc (Nat.le_refl _)).mono ?_
  rintro e w1 ⟨rfl, hs1, hb1⟩
  have HS1 := Lib.hid hs1
  have HB1 := Lib.hid (Bel.of hb1)
  clear hs1 hb1
  go_wp2_with fail
  refine (l19Some_any w w1 w.heap.size nc cc 0 ac HC.out HB1.out HS1.out (by omega)).mono ?_
  rintro e w2 ⟨g, n, c, zs, rfl, hl, hn, hwf, hg, ho, hs2, hg2⟩
  have HE := Lib.hid (show ListEnd w (.returned (.slice (some ⟨g, 0, none⟩) n c)) w2 from ⟨g, n, c, zs, rfl, hl, hn, hwf, CellsAt.of_own ho, HB1.out.grown hg2 (fun k h => by cases h; exact Nat.le_refl _)⟩)
  clear hl hn hwf hg ho hs2 hg2
  go_wp2_with fail
  go_ret
  exact HE.out
/-- A drawn glue and a drawn list of joins. -/
def BadEnd (w : World) (e : Ending) (w' : World) : Prop :=
  ∃ (d o q : Int) (g n c : Nat) (zs : List Int), e = .returned (.tuple #[.agg #[.int .i64 d, .int .i64 o, .int .i64 q], .slice (some ⟨g, 0, none⟩) n c]) ∧ ((Lit.int .i64 d).wf = true ∧ (Lit.int .i64 o).wf = true ∧ (Lit.int .i64 q).wf = true) ∧ zs.length = n * 4 ∧ n ≤ 21 ∧ (∀ z ∈ zs, (Lit.int .i64 z).wf = true) ∧ CellsAt w' (some ⟨g, 0, none⟩) (zs.map (Value.int .i64)) ∧ Bel w.heap.size w w'
theorem Obx.three {W : World} {B q E : Nat} {a b c : Value} (h : Obx W B q E 3 [a, b, c]) : (W.cell? ⟨q, 0, none⟩ = some a ∧ W.cell? ⟨q, 1, none⟩ = some b ∧ W.cell? ⟨q, 2, none⟩ = some c) ∧ (W.frozen? ⟨q, 0, none⟩ = false ∧ W.frozen? ⟨q, 1, none⟩ = false ∧ W.frozen? ⟨q, 2, none⟩ = false) :=
  ⟨⟨h.cell 0 (by omega), h.cell 1 (by omega), h.cell 2 (by omega)⟩, ⟨h.fr 0, h.fr 1, h.fr 2⟩⟩
set_option maxRecDepth 100000 in
set_option maxHeartbeats 6400000 in
theorem drawBadJoins_any (w : World) (nc cc : Nat) (ac : Option Addr) (hc : CodeAt w ac nc) : Calls Try.prog 49 #[.slice ac nc cc] w (BadEnd w) := by
  have HC := Lib.hid hc
  have HR0 := Lib.hid (Obx.new w w.heap.size 25 3 #[.int .i64 0, .int .i64 0, .int .i64 0] (Nat.le_refl _) rfl)
  have HB0 := Lib.hid ((Bel.refl w).alloc (.cells #[.int .i64 0, .int .i64 0, .int .i64 0] 25))
  clear hc
  go_enter Try.func49, Try.ntmps49
  go_wp2_with fail
  refine (l00From_any _ w.heap.size ac nc cc (by simp)).mono ?_
  rintro e w1 ⟨rfl, hs1, hb1⟩
  obtain ⟨p, hp⟩ : ∃ p, p = (w.alloc (.cells #[.int .i64 0, .int .i64 0, .int .i64 0] 25)).heap.size := ⟨_, rfl⟩
  rw [← hp] at hs1 ⊢
  have hpw : w.heap.size < p := by rw [hp]; simp
  have HS1 := Lib.hid hs1
  have HB1 := Lib.hid (HB0.out.step hb1)
  have HR1 := Lib.hid (HR0.out.below hb1)
  clear hs1 hb1 hp
  go_wp2_with fail
  refine (l19Bent_any w w1 p nc cc 0 ac HC.out HB1.out HS1.out (by omega)).mono ?_
  rintro e w2 ⟨d, o, y, rfl, hwf, hs2, hg2⟩
  have HWf := Lib.hid hwf
  obtain ⟨q, hq⟩ : ∃ q, w2.heap.size = q := ⟨_, rfl⟩
  obtain ⟨w3, hw3⟩ : ∃ W, w2.alloc (.cells #[.int .i64 d, .int .i64 o, .int .i64 y] 25) = W := ⟨_, rfl⟩
  have hR2 := HR1.out.grown hg2 (fun e => by have h1 : p = w.heap.size := (by simpa using e); omega)
  have hpq : p < q := by rw [← hq]; exact hs2.base.2
  have HS3 := Lib.hid (show SrcAt w3 w.heap.size p ac nc cc 10 by rw [← hw3]; exact hs2.alloc _)
  have HB3 := Lib.hid (show Bel w.heap.size w w3 by rw [← hw3]; exact (HB1.out.grown hg2 (fun k h => by cases h; omega)).alloc _)
  have HF3 := Lib.hid (show Obx w3 w.heap.size q 25 3 [.int .i64 d, .int .i64 o, .int .i64 y] by rw [← hw3, ← hq]; exact Obx.new w2 w.heap.size 25 3 #[.int .i64 d, .int .i64 o, .int .i64 y] (by have := hR2.lt.2; omega) rfl)
  have HR3 := Lib.hid (show Obx w3 w.heap.size w.heap.size 25 3 [.int .i64 0, .int .i64 0, .int .i64 0] by rw [← hw3]; exact hR2.alloc _)
  have HW3 := Lib.hid hw3
  clear hwf hs2 hg2 hw3 hR2
  go_wp2_with fail
  rw [HW3.out]
  clear hq
  obtain ⟨⟨k0, k1, k2⟩, _⟩ := HF3.out.three
  have HD := Lib.hid (And.intro (show SrcAt w3.drew w.heap.size p ac nc cc 10 from HS3.out) (show Bel w.heap.size w w3.drew from HB3.out.drew))
  have hqr : w.heap.size ≠ q := by omega
  have HAll := Lib.hid (fun (W : World) (hg : w3.grownBy W (some p)) => (show (W.cell? ⟨q, 0, none⟩ = some (.int .i64 d) ∧ W.cell? ⟨q, 1, none⟩ = some (.int .i64 o) ∧ W.cell? ⟨q, 2, none⟩ = some (.int .i64 y)) ∧ (((((W.setCell ⟨w.heap.size, 0, none⟩ (.int .i64 d)).setCell ⟨w.heap.size, 1, none⟩ (.int .i64 o)).setCell ⟨w.heap.size, 2, none⟩ (.int .i64 y)).cell? ⟨q, 0, none⟩ = some (.int .i64 d)) ∧ ((((W.setCell ⟨w.heap.size, 0, none⟩ (.int .i64 d)).setCell ⟨w.heap.size, 1, none⟩ (.int .i64 o)).setCell ⟨w.heap.size, 2, none⟩ (.int .i64 y)).cell? ⟨q, 1, none⟩ = some (.int .i64 o)) ∧ ((((W.setCell ⟨w.heap.size, 0, none⟩ (.int .i64 d)).setCell ⟨w.heap.size, 1, none⟩ (.int .i64 o)).setCell ⟨w.heap.size, 2, none⟩ (.int .i64 y)).cell? ⟨q, 2, none⟩ = some (.int .i64 y))) ∧ Obx W w.heap.size w.heap.size 25 3 [.int .i64 0, .int .i64 0, .int .i64 0] from by
    have hF := HF3.out.grown hg (fun e => by have h1 : p = q := (by simpa using e); omega)
    have hR := HR3.out.grown hg (fun e => by have h1 : p = w.heap.size := (by simpa using e); omega)
    have hF2 := ((hF.setOther (q' := w.heap.size) 0 (.int .i64 d) hqr).setOther (q' := w.heap.size) 1 (.int .i64 o) hqr).setOther (q' := w.heap.size) 2 (.int .i64 y) hqr
    exact ⟨hF.three.1, hF2.three.1, hR⟩))
  go_region_held3 (fun W => W.cell? ⟨q, 0, none⟩ = some (.int .i64 d) ∧ W.cell? ⟨q, 1, none⟩ = some (.int .i64 o) ∧ W.cell? ⟨q, 2, none⟩ = some (.int .i64 y)) (first | (with_reducible exact hK2) | (with_reducible exact hK3) | go_keep)
    ((go_at_call 81; refine (l19Some_any w w3.drew p nc cc 10 ac HC.out HD.out.2 HD.out.1 (by omega)).mono ?_; rintro e w4 ⟨g, n, c, zs, rfl, hl, hn, hz, hgw, ho, hs4, hg4⟩; have hall := HAll.out w4 (grown_from_drew hg4); have hK2 := hall.1; have hK3 := hall.2.1; have HR4 := Lib.hid hall.2.2; have hr0 := hall.2.2.three; obtain ⟨⟨n0, n1, n2⟩, ⟨f0, f1, f2⟩⟩ := hr0; have HN := Lib.hid (And.intro hl (And.intro hn (And.intro hz (And.intro hgw (And.intro ho hg4))))); clear hall hl hn hz hgw ho hs4 hg4))
  obtain ⟨hl, hn, hz, hgw, ho, hg4⟩ := HN.out
  have hB4 := HB3.out.grown (grown_from_drew hg4) (fun k h => by cases h; omega)
  have hg3 : w.heap.size < w3.drew.heap.size := HR3.out.lt.2
  have ho1 := own_grown_ne ho (setCell_grown w4 w.heap.size 0 (.int .i64 d)) (fun b hb e => by have h1 : g = b := (by simpa [Value.ownBlock] using hb); have h2 : w.heap.size = b := (by simpa using e); omega)
  have ho2 := own_grown_ne ho1 (setCell_grown _ w.heap.size 1 (.int .i64 o)) (fun b hb e => by have h1 : g = b := (by simpa [Value.ownBlock] using hb); have h2 : w.heap.size = b := (by simpa using e); omega)
  have ho3 := own_grown_ne ho2 (setCell_grown _ w.heap.size 2 (.int .i64 y)) (fun b hb e => by have h1 : g = b := (by simpa [Value.ownBlock] using hb); have h2 : w.heap.size = b := (by simpa using e); omega)
  have HE := Lib.hid (show BadEnd w (.returned (.tuple #[.agg #[.int .i64 d, .int .i64 o, .int .i64 y], .slice (some ⟨g, 0, none⟩) n c])) (((w4.setCell ⟨w.heap.size, 0, none⟩ (.int .i64 d)).setCell ⟨w.heap.size, 1, none⟩ (.int .i64 o)).setCell ⟨w.heap.size, 2, none⟩ (.int .i64 y)) from
    ⟨d, o, y, g, n, c, zs, rfl, HWf.out, hl, hn, hz, CellsAt.of_own ho3, ((hB4.setCell (p := ⟨w.heap.size, 0, none⟩) (Nat.le_refl _) _).setCell (p := ⟨w.heap.size, 1, none⟩) (Nat.le_refl _) _).setCell (p := ⟨w.heap.size, 2, none⟩) (Nat.le_refl _) _⟩)
  clear hl hn hz hgw ho hg4 hB4 ho1 ho2 ho3 hK2 hK3
  trace_state
  go_wp2_with fail
  refine bodyPost_ret (v := .tuple #[.agg #[.int .i64 d, .int .i64 o, .int .i64 y], .slice (some ⟨g, 0, none⟩) n c]) (by simp [results, Try.results49, go_sem, n0, n1, n2]) rfl ?_
  exact HE.out
end Go.Proofs.Ytcajpedhfljhdaa
