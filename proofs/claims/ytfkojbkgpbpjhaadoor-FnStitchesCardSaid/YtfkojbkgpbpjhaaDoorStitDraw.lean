/-
  Contracts of StitchesFor and of the draws that the law on stitches uses. No condition of its own.
-/
import Derived.Test.YtfkojbkgpbpjhaaDoorSidesDraw
import Derived.Test.YtfkojbkgpbpjhaaDoorTotal
namespace Go.Proofs.YtfkojbkgpbpjhaaDoor
open Go.ChangeShapes Go.WideShapes Go.ChangeAt Go.RowKit Go.Deep

def forC (a s : Int) : Int := if inB a 1 5000 && inB s 10 120 then 0 else 2
def forF (a s : Int) : Int := if inB a 1 5000 && inB s 10 120 then cntI a s else 0
theorem for_bad {a s : Int} (h : (inB a 1 5000 && inB s 10 120) = false) : forF a s = 0 ∧ forC a s = 2 := by simp [forF, forC, h]
theorem for_ok {a s : Int} (h : inB a 1 5000 = true) (k : inB s 10 120 = true) : forF a s = cntI a s ∧ forC a s = 0 := by simp [forF, forC, h, k]
theorem impl_StitchesFor (a s : Int) (w : World) : Calls Tryd.prog 46 #[.int .i64 a, .int .i64 s] w fun e w' => e = .returned (.tuple #[.int .i64 (forF a s), .int .i64 (forC a s)]) ∧ w = w' := by
  cases h1 : inB a 1 5000 with
  | false =>
    obtain ⟨e1, e2⟩ := for_bad (a := a) (s := s) (by rw [h1]; rfl)
    rw [e1, e2]
    clear e1 e2
    go_enter Tryd.func46, Tryd.ntmps46
    go_wp2_with fail
    refine (callsB (within_any _ _ _ _) h1).mono ?_
    rintro e w1 ⟨rfl, rfl⟩
    go_wp2_with fail
    go_ret2
    exact ⟨rfl, rfl⟩
  | true =>
    cases h2 : inB s 10 120 with
    | false =>
      obtain ⟨e1, e2⟩ := for_bad (a := a) (s := s) (by rw [h1, h2]; rfl)
      rw [e1, e2]
      clear e1 e2
      go_enter Tryd.func46, Tryd.ntmps46
      go_wp2_with fail
      refine (callsB (within_any _ _ _ _) h1).mono ?_
      rintro e w1 ⟨rfl, rfl⟩
      go_wp2_with fail
      refine (callsB (isStitch_any _ _) h2).mono ?_
      rintro e w1 ⟨rfl, rfl⟩
      go_wp2_with fail
      go_ret2
      exact ⟨rfl, rfl⟩
    | true =>
      obtain ⟨e1, e2⟩ := for_ok h1 h2
      rw [e1, e2]
      have b1 := inB_true.1 h1
      have b2 := inB_true.1 h2
      clear e1 e2
      go_enter Tryd.func46, Tryd.ntmps46
      go_wp2_with fail
      refine (callsB (within_any _ _ _ _) h1).mono ?_
      rintro e w1 ⟨rfl, rfl⟩
      go_wp2_with fail
      refine (callsB (isStitch_any _ _) h2).mono ?_
      rintro e w1 ⟨rfl, rfl⟩
      go_wp2_with fail
      refine (stitchesFor_any a s _ (by omega) (by omega) (by omega) (by omega)).mono ?_
      rintro e w1 ⟨rfl, rfl⟩
      go_wp2_with fail
      go_ret2
      exact ⟨rfl, rfl⟩
theorem spec_StitchesFor (a s : Int) (w : World) : Calls Tryd.prog 47 #[.int .i64 a, .int .i64 s] w fun e w' => e = .returned (.tuple #[.int .i64 (forF a s), .int .i64 (forC a s)]) ∧ w = w' := by
  cases h1 : inB a 1 5000 with
  | false =>
    obtain ⟨e1, e2⟩ := for_bad (a := a) (s := s) (by rw [h1]; rfl)
    rw [e1, e2]
    clear e1 e2
    go_enter Tryd.func47, Tryd.ntmps47
    go_wp2_with fail
    refine (callsB (l00In_any _ _ _ _) h1).mono ?_
    rintro e w1 ⟨rfl, rfl⟩
    go_wp2_with fail
    go_ret2
    exact ⟨rfl, rfl⟩
  | true =>
    cases h2 : inB s 10 120 with
    | false =>
      obtain ⟨e1, e2⟩ := for_bad (a := a) (s := s) (by rw [h1, h2]; rfl)
      rw [e1, e2]
      clear e1 e2
      go_enter Tryd.func47, Tryd.ntmps47
      go_wp2_with fail
      refine (callsB (l00In_any _ _ _ _) h1).mono ?_
      rintro e w1 ⟨rfl, rfl⟩
      go_wp2_with fail
      refine (callsB (l15Stitch_any _ _) h2).mono ?_
      rintro e w1 ⟨rfl, rfl⟩
      go_wp2_with fail
      go_ret2
      exact ⟨rfl, rfl⟩
    | true =>
      obtain ⟨e1, e2⟩ := for_ok h1 h2
      rw [e1, e2]
      have b1 := inB_true.1 h1
      have b2 := inB_true.1 h2
      clear e1 e2
      go_enter Tryd.func47, Tryd.ntmps47
      go_wp2_with fail
      refine (callsB (l00In_any _ _ _ _) h1).mono ?_
      rintro e w1 ⟨rfl, rfl⟩
      go_wp2_with fail
      refine (callsB (l15Stitch_any _ _) h2).mono ?_
      rintro e w1 ⟨rfl, rfl⟩
      go_wp2_with fail
      refine (l15Count_any a s _ (by omega) (by omega) (by omega) (by omega)).mono ?_
      rintro e w1 ⟨rfl, rfl⟩
      go_wp2_with fail
      go_ret2
      exact ⟨rfl, rfl⟩
/-! ### Draws -/
theorem among_wf {zs : List Int} {u : Int} (hu : u ∈ zs) (h : ∀ z ∈ zs, -9223372036854775808 ≤ z ∧ z ≤ 9223372036854775807) : (Lit.int .i64 u).wf = true := by
  have := h u hu
  exact wf_of this.1 this.2
set_option maxHeartbeats 3200000 in
theorem countsDraw_any (w : World) (nc cc : Nat) (ac : Option Addr) (hc : CodeAt w ac nc) : Calls Tryd.prog 39 #[.slice ac nc cc] w (BothEnd w) := by
  have HC := Lib.hid hc
  clear hc
  go_enter Tryd.func39, Tryd.ntmps39
  go_wp2_with fail
  refine (l00From_any w w.heap.size ac nc cc (Nat.le_refl _)).mono ?_
  rintro e w1 ⟨rfl, hs1, hb1⟩
  have HS1 := Lib.hid hs1
  have HB1 := Lib.hid (Bel.of hb1)
  clear hs1 hb1
  go_wp2_with fail
  refine (sidesDraw_any w w1 w.heap.size nc cc ac HC.out HB1.out HS1.out).mono ?_
  rintro e w2 ⟨g, n, c, zs, rfl, hl, hn, hpg, hwf, hown, hs2, hb2⟩
  have HL := Lib.hid (And.intro hl (And.intro hn hwf))
  have HO2 := Lib.hid hown
  have HS2 := Lib.hid hs2
  have HB2 := Lib.hid hb2
  have HD := Lib.hid (fun (W W' : World) (h : W.ownsRow w.heap.size 2 1 (.slice (some ⟨g, 0, none⟩) n c) n (zs.map (Value.int .i64))) (hg : W.grownBy W' (some w.heap.size)) => own_drawn h hg (fun e => by have h1 : g = w.heap.size := (by simpa [Value.ownBlock] using e); omega))
  have HG := Lib.hid (fun (W W' : World) (h : Bel w.heap.size w W) (hg : W.grownBy W' (some w.heap.size)) => h.grown hg (fun k h => by cases h; exact Nat.le_refl _))
  clear hl hn hwf hown hs2 hb2
  go_wp2_with fail
  refine (one_any w w2 w.heap.size nc cc 100 ac 8 HC.out HB2.out HS2.out (by omega) (by omega)).mono ?_
  rintro e w3 ⟨q, rfl, hs3, hg3⟩
  have HS3 := Lib.hid hs3
  have HO3 := Lib.hid (HD.out _ _ HO2.out hg3)
  have HB3 := Lib.hid (HG.out _ _ HB2.out hg3)
  clear hs3 hg3
  cases q
  · go_wp2_with fail
    refine (pick_any w w3 w.heap.size nc cc _ ac 60 HC.out HB3.out HS3.out (by omega) (by omega)).mono ?_
    rintro e w4 ⟨r, rfl, r1, r2, _, hg4⟩
    have HO4 := Lib.hid (HD.out _ _ HO3.out hg4)
    have HB4 := Lib.hid (HG.out _ _ HB3.out hg4)
    have r3 : r ≤ 59 := by omega
    clear hg4
    go_wp2_with fail
    go_ret2
    exact ⟨g, n, c, zs, 1 + r, rfl, HL.out.1, HL.out.2.1, HL.out.2.2, wf_of (by omega) (by omega), HO4.out, HB4.out.1⟩
  · have HAm := Lib.hid (among_lit w w3 w.heap.size nc cc _ 5 2 ac [-1, 0, 1, 1000, 1001] rfl (by omega) (by omega) HC.out HB3.out HS3.out (by omega))
    go_wp2_with fail
    refine HAm.out.mono ?_
    rintro e w4 ⟨u, rfl, hu, _, hg4⟩
    have HU := Lib.hid (among_wf hu (by simp))
    have HO4 := Lib.hid (HD.out _ _ HO3.out hg4)
    have HB4 := Lib.hid (HG.out _ _ HB3.out hg4)
    clear hg4 hu
    go_wp2_with fail
    go_ret2
    exact ⟨g, n, c, zs, u, rfl, HL.out.1, HL.out.2.1, HL.out.2.2, HU.out, HO4.out, HB4.out.1⟩
/-- Drawn sides and two drawn stitches. -/
def Both2End (w : World) (e : Ending) (w' : World) : Prop :=
  ∃ (g n c : Nat) (zs : List Int) (r s : Int), e = .returned (.tuple #[.slice (some ⟨g, 0, none⟩) n c, .int .i64 r, .int .i64 s]) ∧ zs.length = n ∧ n ≤ 20 ∧ (∀ z ∈ zs, (Lit.int .i64 z).wf = true) ∧ (Lit.int .i64 r).wf = true ∧ (Lit.int .i64 s).wf = true ∧ w'.ownsRow w.heap.size 2 1 (.slice (some ⟨g, 0, none⟩) n c) n (zs.map (Value.int .i64)) ∧ Below w.heap.size w w'
theorem l00Min_s (x y : Int) (w : World) : Calls Tryd.prog 88 #[.int .i64 x, .int .i64 y] w fun e w' => e = .returned (.int .i64 (min x y)) ∧ w = w' := by
  go_enter Tryd.func88, Tryd.ntmps88
  go_wp2
  all_goals
    go_ret
    exact ⟨ret_int (by omega), rfl⟩
theorem wf_wrap (x : Int) : (Lit.int .i64 (IntKind.i64.wrap x)).wf = true := by
  have := IntKind.wrap_i64 x
  exact wf_of (by omega) (by omega)
set_option maxHeartbeats 3200000 in
theorem evenDraw_any (w : World) (nc cc : Nat) (ac : Option Addr) (hc : CodeAt w ac nc) : Calls Tryd.prog 42 #[.slice ac nc cc] w (Both2End w) := by
  have HC := Lib.hid hc
  clear hc
  go_enter Tryd.func42, Tryd.ntmps42
  go_wp2_with fail
  refine (l00From_any w w.heap.size ac nc cc (Nat.le_refl _)).mono ?_
  rintro e w1 ⟨rfl, hs1, hb1⟩
  have HS1 := Lib.hid hs1
  have HB1 := Lib.hid (Bel.of hb1)
  clear hs1 hb1
  go_wp2_with fail
  refine (sidesDraw_any w w1 w.heap.size nc cc ac HC.out HB1.out HS1.out).mono ?_
  rintro e w2 ⟨g, n, c, zs, rfl, hl, hn, hpg, hwf, hown, hs2, hb2⟩
  have HL := Lib.hid (And.intro hl (And.intro hn hwf))
  have HO2 := Lib.hid hown
  have HS2 := Lib.hid hs2
  have HB2 := Lib.hid hb2
  have HD := Lib.hid (fun (W W' : World) (h : W.ownsRow w.heap.size 2 1 (.slice (some ⟨g, 0, none⟩) n c) n (zs.map (Value.int .i64))) (hg : W.grownBy W' (some w.heap.size)) => own_drawn h hg (fun e => by have h1 : g = w.heap.size := (by simpa [Value.ownBlock] using e); omega))
  have HG := Lib.hid (fun (W W' : World) (h : Bel w.heap.size w W) (hg : W.grownBy W' (some w.heap.size)) => h.grown hg (fun k h => by cases h; exact Nat.le_refl _))
  clear hl hn hwf hown hs2 hb2
  go_wp2_with fail
  refine (stitchDraw_any w w2 w.heap.size nc cc 100 ac HC.out HB2.out HS2.out (by omega)).mono ?_
  rintro e w3 ⟨r, rfl, hr, hs3, hg3⟩
  have HR := Lib.hid hr
  have HS3 := Lib.hid hs3
  have HO3 := Lib.hid (HD.out _ _ HO2.out hg3)
  have HB3 := Lib.hid (HG.out _ _ HB2.out hg3)
  have hrb := wf_bounds hr
  clear hr hs3 hg3
  go_wp2_with fail
  refine (one_any w w3 w.heap.size nc cc _ ac 8 HC.out HB3.out HS3.out (by omega) (by omega)).mono ?_
  rintro e w4 ⟨q, rfl, hs4, hg4⟩
  have HS4 := Lib.hid hs4
  have HO4 := Lib.hid (HD.out _ _ HO3.out hg4)
  have HB4 := Lib.hid (HG.out _ _ HB3.out hg4)
  clear hs4 hg4
  cases q
  · go_wp2_with fail
    refine (l00Max_any 0 r _).mono ?_
    rintro e wM ⟨rfl, rfl⟩
    go_wp2_with fail
    refine (pick_any w w4 w.heap.size nc cc _ ac 30 HC.out HB4.out HS4.out (by omega) (by omega)).mono ?_
    rintro e w5 ⟨x, rfl, x1, x2, _, hg5⟩
    have HO5 := Lib.hid (HD.out _ _ HO4.out hg5)
    have HB5 := Lib.hid (HG.out _ _ HB4.out hg5)
    clear hg5
    obtain ⟨v, hv⟩ : ∃ v, IntKind.i64.wrap (max 0 r + x) = v := ⟨_, rfl⟩
    have hvb := wf_bounds (show (Lit.int .i64 v).wf = true by rw [← hv]; exact wf_wrap _)
    go_wp2_with fail
    refine (l00Min_s 120 v _).mono ?_
    rintro e wM ⟨rfl, rfl⟩
    go_wp2_with fail
    go_ret3
    exact ⟨g, n, c, zs, r, min 120 v, rfl, HL.out.1, HL.out.2.1, HL.out.2.2, HR.out, wf_of (by omega) (by omega), HO5.out, HB5.out.1⟩
  · go_wp2_with fail
    refine (stitchDraw_any w w4 w.heap.size nc cc _ ac HC.out HB4.out HS4.out (by omega)).mono ?_
    rintro e w5 ⟨x, rfl, hx, _, hg5⟩
    have HX := Lib.hid hx
    have HO5 := Lib.hid (HD.out _ _ HO4.out hg5)
    have HB5 := Lib.hid (HG.out _ _ HB4.out hg5)
    clear hx hg5
    go_wp2_with fail
    go_ret3
    exact ⟨g, n, c, zs, r, x, rfl, HL.out.1, HL.out.2.1, HL.out.2.2, HR.out, HX.out, HO5.out, HB5.out.1⟩
set_option maxHeartbeats 3200000 in
theorem forDraw_any (w : World) (nc cc : Nat) (ac : Option Addr) (hc : CodeAt w ac nc) : Calls Tryd.prog 45 #[.slice ac nc cc] w fun e w' => ∃ a s : Int, e = .returned (.tuple #[.int .i64 a, .int .i64 s]) ∧ Bel w.heap.size w w' := by
  have HC := Lib.hid hc
  have HG := Lib.hid (fun (W W' : World) (h : Bel w.heap.size w W) (hg : W.grownBy W' (some w.heap.size)) => h.grown hg (fun k h => by cases h; exact Nat.le_refl _))
  clear hc
  go_enter Tryd.func45, Tryd.ntmps45
  go_wp2_with fail
  refine (l00From_any w w.heap.size ac nc cc (Nat.le_refl _)).mono ?_
  rintro e w1 ⟨rfl, hs1, hb1⟩
  have HS1 := Lib.hid hs1
  have HB1 := Lib.hid (Bel.of hb1)
  clear hs1 hb1
  go_wp2_with fail
  refine (pick_any w w1 w.heap.size nc cc _ ac 400 HC.out HB1.out HS1.out (by omega) (by omega)).mono ?_
  rintro e w2 ⟨x, rfl, x1, x2, hs2, hg2⟩
  have HS2 := Lib.hid hs2
  have HB2 := Lib.hid (HG.out _ _ HB1.out hg2)
  clear hs2 hg2
  go_wp2_with fail
  refine (one_any w w2 w.heap.size nc cc _ ac 8 HC.out HB2.out HS2.out (by omega) (by omega)).mono ?_
  rintro e w3 ⟨q, rfl, hs3, hg3⟩
  have HS3 := Lib.hid hs3
  have HB3 := Lib.hid (HG.out _ _ HB2.out hg3)
  clear hs3 hg3
  cases q
  · go_wp2_with fail
    refine (stitchDraw_any w w3 w.heap.size nc cc _ ac HC.out HB3.out HS3.out (by omega)).mono ?_
    rintro e w5 ⟨y, rfl, hy, _, hg5⟩
    have HB5 := Lib.hid (HG.out _ _ HB3.out hg5)
    clear hy hg5
    go_wp2_with fail
    go_ret2
    exact ⟨_, _, rfl, HB5.out⟩
  · have HAm := Lib.hid (among_lit w w3 w.heap.size nc cc _ 5 2 ac [-1, 0, 1, 5000, 5001] rfl (by omega) (by omega) HC.out HB3.out HS3.out (by omega))
    go_wp2_with fail
    refine HAm.out.mono ?_
    rintro e w4 ⟨u, rfl, hu, hs4, hg4⟩
    have HS4 := Lib.hid hs4
    have HB4 := Lib.hid (HG.out _ _ HB3.out hg4)
    clear hg4 hu hs4
    go_wp2_with fail
    refine (stitchDraw_any w w4 w.heap.size nc cc _ ac HC.out HB4.out HS4.out (by omega)).mono ?_
    rintro e w5 ⟨y, rfl, hy, _, hg5⟩
    have HB5 := Lib.hid (HG.out _ _ HB4.out hg5)
    clear hy hg5
    go_wp2_with fail
    go_ret2
    exact ⟨_, _, rfl, HB5.out⟩
end Go.Proofs.YtfkojbkgpbpjhaaDoor
