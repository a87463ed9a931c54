/-
  Contract of DrawHoleClash. No condition of its own.
-/
import Derived.Test.YtgdndmpnnocgiaaHolesDraw2
namespace Go.Proofs.Ytgdndmpnnocgiaa
open Go.ChangeShapes Go.WideShapes Go.ChangeAt Go.RowKit Go.Deep

/-- A drawn row of numbers: its length, its numbers, its cells. -/
def RowIs (w w' : World) (g n c : Nat) (xs : List Int) : Prop :=
  xs.length = n ∧ n ≤ 1001 ∧ (∀ z ∈ xs, (Lit.int .i64 z).wf = true) ∧ w'.ownsRow w.heap.size 2 1 (.slice (some ⟨g, 0, none⟩) n c) n (xs.map (Value.int .i64))
/-- Two drawn rows of holes and a drawn number. -/
def ClashEnd (w : World) (e : Ending) (w' : World) : Prop :=
  ∃ (g n c : Nat) (xs : List Int) (g' m c' : Nat) (ys : List Int) (z : Int), e = .returned (.tuple #[.slice (some ⟨g, 0, none⟩) n c, .slice (some ⟨g', 0, none⟩) m c', .int .i64 z]) ∧ RowIs w w' g n c xs ∧ RowIs w w' g' m c' ys ∧ (Lit.int .i64 z).wf = true ∧ Below w.heap.size w w'
theorem RowIs.drawn {w W W' : World} {g n c p : Nat} {xs : List Int} (h : RowIs w W g n c xs) (hg : W.grownBy W' (some p)) (hp : p < g) : RowIs w W' g n c xs :=
  ⟨h.1, h.2.1, h.2.2.1, own_drawn h.2.2.2 hg (fun e => by have h1 : g = p := (by simpa [Value.ownBlock] using e); omega)⟩
set_option maxHeartbeats 3200000 in
theorem drawHoleClash_any (w : World) (nc cc : Nat) (ac : Option Addr) (hc : CodeAt w ac nc) : Calls Try.prog 43 #[.slice ac nc cc] w (ClashEnd w) := by
  have HC := Lib.hid hc
  clear hc
  go_enter Try.func43, Try.ntmps43
  go_wp2_with fail
  refine (l00From_any w w.heap.size ac nc cc (Nat.le_refl _)).mono ?_
  rintro e w1 ⟨rfl, hs1, hb1⟩
  have HS1 := Lib.hid hs1
  have HB1 := Lib.hid (Bel.of hb1)
  clear hs1 hb1
  go_wp2_with fail
  refine (holesDraw_any w w1 w.heap.size nc cc 0 ac HC.out HB1.out HS1.out (by omega)).mono ?_
  rintro e w2 ⟨g, n, c, xs, rfl, hl, hn, hpg, hwf, hown, hs2, hb2, _⟩
  have HR2 := Lib.hid (show RowIs w w2 g n c xs from ⟨hl, hn, hwf, hown⟩)
  have HS2 := Lib.hid hs2
  have HB2 := Lib.hid hb2
  have HP := Lib.hid hpg
  clear hl hn hwf hown hs2 hb2 hpg
  go_wp2_with fail
  refine (holesDraw_any w w2 w.heap.size nc cc _ ac HC.out HB2.out HS2.out (by omega)).mono ?_
  rintro e w3 ⟨g', m, c', ys, rfl, hl, hn, hpg, hwf, hown, hs3, hb3, hg3⟩
  have HR3 := Lib.hid (HR2.out.drawn hg3 HP.out)
  have HQ3 := Lib.hid (show RowIs w w3 g' m c' ys from ⟨hl, hn, hwf, hown⟩)
  have HS3 := Lib.hid hs3
  have HB3 := Lib.hid hb3
  have HP' := Lib.hid hpg
  clear hl hn hwf hown hs3 hb3 hpg hg3
  have HG := Lib.hid (fun (W W' : World) (h : Bel w.heap.size w W) (hg : W.grownBy W' (some w.heap.size)) => h.grown hg (fun k h => by cases h; exact Nat.le_refl _))
  go_wp2_with fail
  refine (one_any w w3 w.heap.size nc cc _ ac 8 HC.out HB3.out HS3.out (by omega) (by omega)).mono ?_
  rintro e w4 ⟨b, rfl, hs4, hg4⟩
  have HR4 := Lib.hid (HR3.out.drawn hg4 HP.out)
  have HQ4 := Lib.hid (HQ3.out.drawn hg4 HP'.out)
  have HS4 := Lib.hid hs4
  have HB4 := Lib.hid (HG.out _ _ HB3.out hg4)
  clear hs4 hg4
  cases b
  · go_wp2_with fail
    refine (pick_any w w4 w.heap.size nc cc _ ac 8 HC.out HB4.out HS4.out (by omega) (by omega)).mono ?_
    rintro e w5 ⟨r, rfl, r1, r2, _, hg5⟩
    have HR5 := Lib.hid (HR4.out.drawn hg5 HP.out)
    have HQ5 := Lib.hid (HQ4.out.drawn hg5 HP'.out)
    have HB5 := Lib.hid (HG.out _ _ HB4.out hg5)
    clear hg5
    go_wp2_with fail
    go_ret3
    exact ⟨g, n, c, xs, g', m, c', ys, r, rfl, HR5.out, HQ5.out, wf_of (by omega) (by omega), HB5.out.1⟩
  · go_wp2_with fail
    refine (among_lit w w4 w.heap.size nc cc _ 4 2 ac [-1, 0, 1000, 1001] rfl (by omega) (by omega) HC.out HB4.out HS4.out (by omega)).mono ?_
    rintro e w5 ⟨r, rfl, hr, _, hg5⟩
    have HW := Lib.hid (show (Lit.int .i64 r).wf = true by simp only [List.mem_cons, List.not_mem_nil, or_false] at hr; exact wf_of (by omega) (by omega))
    have HR5 := Lib.hid (HR4.out.drawn hg5 HP.out)
    have HQ5 := Lib.hid (HQ4.out.drawn hg5 HP'.out)
    have HB5 := Lib.hid (HG.out _ _ HB4.out hg5)
    clear hg5 hr
    go_wp2_with fail
    go_ret3
    exact ⟨g, n, c, xs, g', m, c', ys, r, rfl, HR5.out, HQ5.out, HW.out, HB5.out.1⟩
end Go.Proofs.Ytgdndmpnnocgiaa
