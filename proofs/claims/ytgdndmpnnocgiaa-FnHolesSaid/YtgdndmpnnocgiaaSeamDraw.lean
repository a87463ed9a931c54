/-
  Contract of DrawSeamMinutes. No condition of its own.
-/
import Derived.Test.YtgdndmpnnocgiaaHolesDraw
namespace Go.Proofs.Ytgdndmpnnocgiaa
open Go.ChangeShapes Go.WideShapes Go.ChangeAt Go.RowKit Go.Deep

/-- Drawn sides and three drawn numbers. -/
def SeamEnd (w : World) (e : Ending) (w' : World) : Prop :=
  ∃ (g n c : Nat) (zs : List Int) (x y z : Int), e = .returned (.tuple #[.slice (some ⟨g, 0, none⟩) n c, .int .i64 x, .int .i64 y, .int .i64 z]) ∧ zs.length = n ∧ n ≤ 20 ∧ (∀ z ∈ zs, (Lit.int .i64 z).wf = true) ∧ ((Lit.int .i64 x).wf = true ∧ (Lit.int .i64 y).wf = true ∧ (Lit.int .i64 z).wf = true) ∧ w'.ownsRow w.heap.size 2 1 (.slice (some ⟨g, 0, none⟩) n c) n (zs.map (Value.int .i64)) ∧ Below w.heap.size w w'
set_option maxHeartbeats 3200000 in
theorem drawSeamMinutes_any (w : World) (nc cc : Nat) (ac : Option Addr) (hc : CodeAt w ac nc) : Calls Try.prog 45 #[.slice ac nc cc] w (SeamEnd w) := by
  have HC := Lib.hid hc
  clear hc
  have HT := Lib.hid (fun W A (hA : A ≤ 1000) (hb : Bel w.heap.size w W) (hs : SrcAt W w.heap.size w.heap.size ac nc cc A) => one_any w W w.heap.size nc cc A ac 10 HC.out hb hs (by omega) (by omega))
  have HM := Lib.hid (fun W A (hA : A ≤ 1000) (hb : Bel w.heap.size w W) (hs : SrcAt W w.heap.size w.heap.size ac nc cc A) => among_lit w W w.heap.size nc cc A 4 2 ac [-1, 0, 600, 601] rfl (by omega) (by omega) HC.out hb hs (by omega))
  have HK := Lib.hid (fun W A (n : Int) (hA : A ≤ 1000) (hn : n ≤ 1000) (hb : Bel w.heap.size w W) (hs : SrcAt W w.heap.size w.heap.size ac nc cc A) => pick_any w W w.heap.size nc cc A ac n HC.out hb hs (by omega) (by omega))
  go_enter Try.func45, Try.ntmps45
  go_wp2_with fail
  refine (l00From_any w w.heap.size ac nc cc (Nat.le_refl _)).mono ?_
  rintro e w1 ⟨rfl, hs1, hb1⟩
  have HS1 := Lib.hid hs1
  have HB1 := Lib.hid (Bel.of hb1)
  clear hs1 hb1
  go_wp2_with fail
  refine (sidesDraw_any w w1 w.heap.size nc cc ac HC.out HB1.out HS1.out).mono ?_
  rintro e w2 ⟨g, n, c, zs, rfl, hl, hn, hpg, hwf, hown, hs2, hb2⟩
  have HL := Lib.hid (And.intro hl (And.intro hn hwf))
  have HO2 := Lib.hid hown
  have HS2 := Lib.hid hs2
  have HB2 := Lib.hid hb2
  clear hl hn hwf hown hs2 hb2
  have HD := Lib.hid (fun (W W' : World) (h : W.ownsRow w.heap.size 2 1 (.slice (some ⟨g, 0, none⟩) n c) n (zs.map (Value.int .i64))) (hg : W.grownBy W' (some w.heap.size)) => own_drawn h hg (fun e => by have h1 : g = w.heap.size := (by simpa [Value.ownBlock] using e); omega))
  have HG := Lib.hid (fun (W W' : World) (h : Bel w.heap.size w W) (hg : W.grownBy W' (some w.heap.size)) => h.grown hg (fun k h => by cases h; exact Nat.le_refl _))
  go_wp2_with fail
  refine (stitchDraw_any w w2 w.heap.size nc cc 100 ac HC.out HB2.out HS2.out (by omega)).mono ?_
  rintro e w3 ⟨r, rfl, hr, hs3, hg3⟩
  have HR := Lib.hid hr
  have HS3 := Lib.hid hs3
  have HO3 := Lib.hid (HD.out _ _ HO2.out hg3)
  have HB3 := Lib.hid (HG.out _ _ HB2.out hg3)
  clear hr hs3 hg3
  go_wp2_with fail
  refine (HK.out w3 _ 40 (by omega) (by omega) HB3.out HS3.out).mono ?_
  rintro e w4 ⟨s, rfl, s1, s2, hs4, hg4⟩
  have HS4 := Lib.hid hs4
  have HO4 := Lib.hid (HD.out _ _ HO3.out hg4)
  have HB4 := Lib.hid (HG.out _ _ HB3.out hg4)
  have HSw := Lib.hid (wf_of (z := s) (by omega) (by omega))
  clear hs4 hg4
  go_wp2_with fail
  refine (HT.out w4 _ (by omega) HB4.out HS4.out).mono ?_
  rintro e w5 ⟨b1, rfl, hs5, hg5⟩
  have HS5 := Lib.hid hs5
  have HO5 := Lib.hid (HD.out _ _ HO4.out hg5)
  have HB5 := Lib.hid (HG.out _ _ HB4.out hg5)
  clear hs5 hg5
  cases b1
  · go_wp2_with fail
    refine (HT.out w5 _ (by omega) HB5.out HS5.out).mono ?_
    rintro e w6 ⟨b2, rfl, hs6, hg6⟩
    have HS6 := Lib.hid hs6
    have HO6 := Lib.hid (HD.out _ _ HO5.out hg6)
    have HB6 := Lib.hid (HG.out _ _ HB5.out hg6)
    clear hs6 hg6
    cases b2
    · go_wp2_with fail
      refine (HK.out w6 _ 90 (by omega) (by omega) HB6.out HS6.out).mono ?_
      rintro e w7 ⟨u, rfl, u1, u2, _, hg7⟩
      have HO7 := Lib.hid (HD.out _ _ HO6.out hg7)
      have HB7 := Lib.hid (HG.out _ _ HB6.out hg7)
      clear hg7
      go_wp2_with fail
      refine bodyPost_ret (v := .tuple #[.slice (some ⟨g, 0, none⟩) n c, .int .i64 r, .int .i64 s, _]) (by simp [results, Try.results45]; rfl) rfl ?_
      exact ⟨g, n, c, zs, r, s, u, rfl, HL.out.1, HL.out.2.1, HL.out.2.2, ⟨HR.out, HSw.out, wf_of (by omega) (by omega)⟩, HO7.out, HB7.out.1⟩
    · go_wp2_with fail
      refine (HM.out w6 _ (by omega) HB6.out HS6.out).mono ?_
      rintro e w7 ⟨u, rfl, hu, _, hg7⟩
      have HU := Lib.hid (show (Lit.int .i64 u).wf = true by simp only [List.mem_cons, List.not_mem_nil, or_false] at hu; exact wf_of (by omega) (by omega))
      have HO7 := Lib.hid (HD.out _ _ HO6.out hg7)
      have HB7 := Lib.hid (HG.out _ _ HB6.out hg7)
      clear hg7 hu
      go_wp2_with fail
      refine bodyPost_ret (v := .tuple #[.slice (some ⟨g, 0, none⟩) n c, .int .i64 r, .int .i64 s, _]) (by simp [results, Try.results45]; rfl) rfl ?_
      exact ⟨g, n, c, zs, r, s, u, rfl, HL.out.1, HL.out.2.1, HL.out.2.2, ⟨HR.out, HSw.out, HU.out⟩, HO7.out, HB7.out.1⟩
  · go_wp2_with fail
    refine (HM.out w5 _ (by omega) HB5.out HS5.out).mono ?_
    rintro e w8 ⟨s', rfl, hs', hs8, hg8⟩
    have HSw' := Lib.hid (show (Lit.int .i64 s').wf = true by simp only [List.mem_cons, List.not_mem_nil, or_false] at hs'; exact wf_of (by omega) (by omega))
    have HS8 := Lib.hid hs8
    have HO8 := Lib.hid (HD.out _ _ HO5.out hg8)
    have HB8 := Lib.hid (HG.out _ _ HB5.out hg8)
    clear hs8 hg8 hs'
    go_wp2_with fail
    refine (HT.out w8 _ (by omega) HB8.out HS8.out).mono ?_
    rintro e w6 ⟨b2, rfl, hs6, hg6⟩
    have HS6 := Lib.hid hs6
    have HO6 := Lib.hid (HD.out _ _ HO8.out hg6)
    have HB6 := Lib.hid (HG.out _ _ HB8.out hg6)
    clear hs6 hg6
    cases b2
    · go_wp2_with fail
      refine (HK.out w6 _ 90 (by omega) (by omega) HB6.out HS6.out).mono ?_
      rintro e w7 ⟨u, rfl, u1, u2, _, hg7⟩
      have HO7 := Lib.hid (HD.out _ _ HO6.out hg7)
      have HB7 := Lib.hid (HG.out _ _ HB6.out hg7)
      clear hg7
      go_wp2_with fail
      refine bodyPost_ret (v := .tuple #[.slice (some ⟨g, 0, none⟩) n c, .int .i64 r, .int .i64 s', _]) (by simp [results, Try.results45]; rfl) rfl ?_
      exact ⟨g, n, c, zs, r, s', u, rfl, HL.out.1, HL.out.2.1, HL.out.2.2, ⟨HR.out, HSw'.out, wf_of (by omega) (by omega)⟩, HO7.out, HB7.out.1⟩
    · go_wp2_with fail
      refine (HM.out w6 _ (by omega) HB6.out HS6.out).mono ?_
      rintro e w7 ⟨u, rfl, hu, _, hg7⟩
      have HU := Lib.hid (show (Lit.int .i64 u).wf = true by simp only [List.mem_cons, List.not_mem_nil, or_false] at hu; exact wf_of (by omega) (by omega))
      have HO7 := Lib.hid (HD.out _ _ HO6.out hg7)
      have HB7 := Lib.hid (HG.out _ _ HB6.out hg7)
      clear hg7 hu
      go_wp2_with fail
      refine bodyPost_ret (v := .tuple #[.slice (some ⟨g, 0, none⟩) n c, .int .i64 r, .int .i64 s', _]) (by simp [results, Try.results45]; rfl) rfl ?_
      exact ⟨g, n, c, zs, r, s', u, rfl, HL.out.1, HL.out.2.1, HL.out.2.2, ⟨HR.out, HSw'.out, HU.out⟩, HO7.out, HB7.out.1⟩
end Go.Proofs.Ytgdndmpnnocgiaa
