/-
  Contracts of the draws of sides and stitches. No condition of its own.
-/
import Derived.Test.YtfkojbkgpbpjhaaDoorDraws
namespace Go.Proofs.YtfkojbkgpbpjhaaDoor
open Go.ChangeShapes Go.WideShapes Go.ChangeAt Go.RowKit Go.Deep

/-- Drawn sides: some numbers in a row of the call's own; the source has gone on. -/
def SidesEnd (w0 : World) (p nc cc A : Nat) (ac : Option Addr) (e : Ending) (w' : World) : Prop :=
  ∃ (g n c : Nat) (zs : List Int), e = .returned (.slice (some ⟨g, 0, none⟩) n c) ∧ zs.length = n ∧ n ≤ 20 ∧ p < g ∧ (∀ z ∈ zs, (Lit.int .i64 z).wf = true) ∧ w'.ownsRow w0.heap.size 2 1 (.slice (some ⟨g, 0, none⟩) n c) n (zs.map (Value.int .i64)) ∧ SrcAt w' w0.heap.size p ac nc cc A ∧ Bel w0.heap.size w0 w'
theorem wf_of {z : Int} (h1 : -9223372036854775808 ≤ z) (h2 : z ≤ 9223372036854775807) : (Lit.int .i64 z).wf = true := by
  have e1 : IntKind.i64.min = -9223372036854775808 := by rfl
  have e2 : IntKind.i64.max = 9223372036854775807 := by rfl
  simp [Lit.wf, e1, e2]; omega
theorem wf_snoc {zs : List Int} {z : Int} (h : ∀ x ∈ zs, (Lit.int .i64 x).wf = true) (hz : (Lit.int .i64 z).wf = true) : ∀ x ∈ zs ++ [z], (Lit.int .i64 x).wf = true := fun x hx => by
  rcases List.mem_append.1 hx with h1 | h1
  · exact h x h1
  · rw [List.mem_singleton.1 h1]; exact hz
theorem wf_set {zs : List Int} {z : Int} {k : Nat} (h : ∀ x ∈ zs, (Lit.int .i64 x).wf = true) (hz : (Lit.int .i64 z).wf = true) : ∀ x ∈ zs.set k z, (Lit.int .i64 x).wf = true := fun x hx => by
  rcases List.mem_or_eq_of_mem_set hx with h1 | h1
  · exact h x h1
  · rw [h1]; exact hz

set_option maxRecDepth 100000 in
set_option maxHeartbeats 6400000 in
theorem sidesDraw_any (w0 w : World) (p nc cc : Nat) (ac : Option Addr) (hc : CodeAt w0 ac nc) (hb : Bel w0.heap.size w0 w) (hs : SrcAt w w0.heap.size p ac nc cc 0) :
    Calls Tryd.prog 80 #[.pointer (some ⟨p, 0, none⟩)] w (SidesEnd w0 p nc cc 100 ac) := by
  have hp := hs.base
  obtain ⟨hp1, hp2⟩ := hp
  have HC := Lib.hid hc
  have HB0 := Lib.hid (hb.alloc (.cells #[] 2))
  have HS0 := Lib.hid (hs.alloc (.cells #[] 2))
  have HO0 := Lib.hid (own_none' w w0.heap.size 2 1 hb.2)
  clear hc hb hs
  go_enter Tryd.func80, Tryd.ntmps80
  go_wp2_with fail
  refine (pick_any w0 _ p nc cc 0 ac 5 HC.out HB0.out HS0.out (by omega) (by omega)).mono ?_
  rintro e w1 ⟨k0, rfl, k1, k2, hs1, hg1⟩
  have HS1 := Lib.hid hs1
  have HB1 := Lib.hid (HB0.out.grown hg1 (fun k h => by cases h; exact hp1))
  have HO1 := Lib.hid (own_drawn HO0.out hg1 (fun e => by have h1 : w.heap.size = p := (by simpa [Value.ownBlock] using e); omega))
  clear hs1 hg1
  have k3 : k0 ≤ 4 := by omega
  go_wp2
  go_loopw [3, 4] (fun v u wr => ∃ (j : Nat) (k : Int), u = .int .i64 k ∧ 0 ≤ k ∧ (j : Int) + k ≤ 5 ∧ 1 ≤ (j : Int) + k ∧ ∃ (g co : Nat) (zs : List Int), v = .slice (some ⟨g, 0, none⟩) j co ∧ p < g ∧ Hid (zs.length = j ∧ ∀ z ∈ zs, (Lit.int .i64 z).wf = true) ∧ Hid (SrcAt wr w0.heap.size p ac nc cc (2 + 2 * j)) ∧ Hid (wr.ownsRow w0.heap.size 2 1 (.slice (some ⟨g, 0, none⟩) j co) j (zs.map (Value.int .i64))) ∧ Hid (Bel w0.heap.size w0 wr)) (fun _ u _ => (intOf u).toNat)
  case atStart => exact ⟨0, 1 + k0, rfl, by omega, by omega, by omega, w.heap.size, 0, [], rfl, hp2, Lib.hid ⟨rfl, fun z hz => by cases hz⟩, HS1, HO1, HB1⟩
  case round =>
    obtain ⟨j, k, rfl, hk0, hjk, hj1, g, co, zs, rfl, hpg, hzs, hsrc, hown, hbw⟩ := hrel
    by_cases hlt : 0 < k
    · go_wp2_with fail
      refine (pick_any w0 wr p nc cc (2 + 2 * j) ac 600 HC.out hbw.out hsrc.out (by omega) (by omega)).mono ?_
      rintro e w2 ⟨r, rfl, r1, r2, hs2, hg2⟩
      have HS2 := Lib.hid hs2
      have HB2 := Lib.hid (hbw.out.grown hg2 (fun k h => by cases h; exact hp1))
      have HO2 := Lib.hid (own_drawn hown.out hg2 (fun e => by have h1 : g = p := (by simpa [Value.ownBlock] using e); omega))
      have HP2 := Lib.hid (hs2.base).2
      clear hs2 hg2
      have r3 : r ≤ 599 := by omega
      go_wp2_with (at_builtin; refine appJ (by rfl) _ _ (by rfl) w0.heap.size _ _ _ (by rfl) HO2.out _ 1 w2.heap.size (by simp) (by rfl) (by omega) HB2.out ?_; intro g5 cap5 w5 ho5 hb5 hg5 hat5; have Ho5 := Lib.hid ho5; have Hb5 := Lib.hid hb5; have Hs5 := Lib.hid (HS2.out.grown hg5 (fun e => by have h1 : g = p := (by simpa [Value.ownBlock] using e); omega)); have Hg5 := Lib.hid (show p < g5 by rcases hat5 with h | h; (have h1 : g = g5 := (by simpa [Value.ownBlock] using h); omega); have := HP2.out; omega); clear ho5 hb5 hg5 hat5)
      have hg5' := Hg5.out
      go_roundw
      case rel => exact ⟨j + 1, k - 1, rfl, by omega, by omega, by omega, g5, cap5, zs ++ [5 + r], rfl, hg5', Lib.hid ⟨by simp [hzs.out.1], wf_snoc hzs.out.2 (wf_of (by omega) (by omega))⟩, Lib.hid (Hs5.out.more (by omega)), Lib.hid (by rw [List.map_append]; exact Ho5.out), Hb5⟩
      case measure => simp [intOf]; omega
    · obtain rfl : k = 0 := by omega
      have hj5 : j ≤ 5 := by omega
      have hj1' : 1 ≤ j := by omega
      go_wp2_with fail
      refine (pick_any w0 wr p nc cc (2 + 2 * j) ac 16 HC.out hbw.out hsrc.out (by omega) (by omega)).mono ?_
      rintro e w2 ⟨r, rfl, r1, r2, hs2, hg2⟩
      have HS2 := Lib.hid hs2
      have HB2 := Lib.hid (hbw.out.grown hg2 (fun k h => by cases h; exact hp1))
      have HO2 := Lib.hid (own_drawn hown.out hg2 (fun e => by have h1 : g = p := (by simpa [Value.ownBlock] using e); omega))
      have HP2 := Lib.hid (hs2.base).2
      clear hs2 hg2
      by_cases h0 : r = 0
      · subst h0
        have hp3 := HP2.out
        have HAm := Lib.hid (among_any w0 (w2.alloc (.cells (([-1, 0, 1, 5000, 5001, -9223372036854775808] : List Int).map (Value.int .i64)).toArray 2)) p nc cc (2 + 2 * j + 2) ac w2.heap.size 6 6 [-1, 0, 1, 5000, 5001, -9223372036854775808] rfl (by omega) (by omega) (lit_cells _ _ _) hp3 (by simp) HC.out (HB2.out.alloc _) (HS2.out.alloc _) (by omega))
        have HO3 := Lib.hid (HO2.out.alloc (.cells (([-1, 0, 1, 5000, 5001, -9223372036854775808] : List Int).map (Value.int .i64)).toArray 2))
        have HB3 := Lib.hid (HB2.out.alloc (.cells (([-1, 0, 1, 5000, 5001, -9223372036854775808] : List Int).map (Value.int .i64)).toArray 2))
        go_wp2_with fail
        refine HAm.out.mono ?_
        rintro e w3 ⟨u, rfl, hu, hs3, hg3⟩
        have HS3 := Lib.hid hs3
        have HB4 := Lib.hid (HB3.out.grown hg3 (fun k h => by cases h; exact hp1))
        have HO4 := Lib.hid (own_drawn HO3.out hg3 (fun e => by have h1 : g = p := (by simpa [Value.ownBlock] using e); omega))
        have HU := Lib.hid (show (Lit.int .i64 u).wf = true by simp only [List.mem_cons, List.not_mem_nil, or_false] at hu; exact wf_of (by omega) (by omega))
        clear hs3 hg3 hu
        have hst := HO4.out.stored 0 (.int .i64 u)
        rw [← List.map_set] at hst
        have Hst := Lib.hid hst
        have f0 := HO4.out.frozenAt 0
        obtain ⟨q, zt, hq⟩ : ∃ q zt, zs = q :: zt := by
          cases zs with
          | nil => have := hzs.out.1; simp at this; omega
          | cons q zt => exact ⟨q, zt, rfl⟩
        have c0 : w3.cell? ⟨g, 0, none⟩ = some (.int .i64 q) := by rw [HO4.out.cellAt 0 (by omega), hq]; rfl
        have hj0 : 0 < j := by omega
        clear hst hq
        go_wp2_with fail
        go_ret
        exact ⟨g, j, co, zs.set 0 u, rfl, by simp [hzs.out.1], by omega, hpg, wf_set hzs.out.2 HU.out, Hst.out.1, (HS3.out.grown Hst.out.2 (fun e => by have h1 : g = p := (by simpa [Value.ownBlock] using e); omega)).more (by omega), HB4.out.grown Hst.out.2 (fun k hk => (own_block HO4.out hk).1)⟩
      · by_cases h1 : r = 1
        · subst h1
          have hp3 : p < (w2.alloc (.cells #[] 2)).heap.size := by have := HP2.out; simp; omega
          have hbs3 : (w2.alloc (.cells #[] 2)).heap.size < ((w2.alloc (.cells #[] 2)).alloc (.cells (([0, 12, 13] : List Int).map (Value.int .i64)).toArray 2)).heap.size := by simp
          have hAm := among_any w0 ((w2.alloc (.cells #[] 2)).alloc (.cells (([0, 12, 13] : List Int).map (Value.int .i64)).toArray 2)) p nc cc (2 + 2 * j + 2) ac (w2.alloc (.cells #[] 2)).heap.size 3 3 [0, 12, 13] rfl (by omega) (by omega) (lit_cells _ _ _) hp3 hbs3 HC.out ((HB2.out.alloc _).alloc _) ((HS2.out.alloc _).alloc _) (by omega)
          simp only [World.size_alloc] at hAm
          have HAm := Lib.hid hAm
          clear hAm
          have HO3 := Lib.hid ((own_none' w2 w0.heap.size 2 1 HB2.out.2).alloc (.cells (([0, 12, 13] : List Int).map (Value.int .i64)).toArray 2))
          have HB3 := Lib.hid ((HB2.out.alloc (.cells #[] 2)).alloc (.cells (([0, 12, 13] : List Int).map (Value.int .i64)).toArray 2))
          clear hp3 hbs3
          go_wp2_with fail
          refine HAm.out.mono ?_
          rintro e w3 ⟨k1, rfl, hu, hs3, hg3⟩
          have HS3 := Lib.hid hs3
          have HP3 := HP2.out
          have HB4 := Lib.hid (HB3.out.grown hg3 (fun k h => by cases h; exact hp1))
          have HO4 := Lib.hid (own_drawn HO3.out hg3 (fun e => by have h1 : w2.heap.size = p := (by simpa [Value.ownBlock] using e); omega))
          have hk1 : 0 ≤ k1 ∧ k1 ≤ 13 := by simp only [List.mem_cons, List.not_mem_nil, or_false] at hu; omega
          clear hs3 hg3 hu HAm
          go_wp2_with fail
          go_loopw [3, 5] (fun v u wr => ∃ (j : Nat) (k : Int), u = .int .i64 k ∧ 0 ≤ k ∧ (j : Int) + k ≤ 13 ∧ ∃ (g co : Nat) (zs : List Int), v = .slice (some ⟨g, 0, none⟩) j co ∧ p < g ∧ Hid (zs.length = j ∧ ∀ z ∈ zs, (Lit.int .i64 z).wf = true) ∧ Hid (SrcAt wr w0.heap.size p ac nc cc 40) ∧ Hid (wr.ownsRow w0.heap.size 2 1 (.slice (some ⟨g, 0, none⟩) j co) j (zs.map (Value.int .i64))) ∧ Hid (Bel w0.heap.size w0 wr)) (fun _ u _ => (intOf u).toNat)
          case atStart => exact ⟨0, k1, rfl, hk1.1, by omega, w2.heap.size, 0, [], rfl, HP3, Lib.hid ⟨rfl, fun z hz => by cases hz⟩, Lib.hid (HS3.out.more (by omega)), HO4, HB4⟩
          case round =>
            clear hzs hsrc hown hbw
            obtain ⟨j, k, rfl, hk0, hjk, g, co, zs, rfl, hpg, hzs, hsrc, hown, hbw⟩ := hrel
            by_cases hlt : 0 < k
            · have HP5 := Lib.hid (hsrc.out.base).2
              go_wp2_with (at_builtin; refine appJ (by rfl) _ _ (by rfl) w0.heap.size _ _ _ (by rfl) hown.out _ 1 wr.heap.size (by simp) (by rfl) (by omega) hbw.out ?_; intro g5 cap5 w5 ho5 hb5 hg5 hat5; have Ho5 := Lib.hid ho5; have Hb5 := Lib.hid hb5; have Hs5 := Lib.hid (hsrc.out.grown hg5 (fun e => by have h1 : g = p := (by simpa [Value.ownBlock] using e); omega)); have Hg5 := Lib.hid (show p < g5 by rcases hat5 with h | h; (have h1 : g = g5 := (by simpa [Value.ownBlock] using h); omega); have := HP5.out; omega); clear ho5 hb5 hg5 hat5)
              have hg5' := Hg5.out
              go_roundw
              case rel => exact ⟨j + 1, k - 1, rfl, by omega, by omega, g5, cap5, zs ++ [40 + k], rfl, hg5', Lib.hid ⟨by simp [hzs.out.1], wf_snoc hzs.out.2 (wf_of (by omega) (by omega))⟩, Hs5, Lib.hid (by rw [List.map_append]; exact Ho5.out), Hb5⟩
              case measure => simp [intOf]; omega
            · go_wp2_with fail
              go_ret
              exact ⟨g, j, co, zs, rfl, hzs.out.1, by omega, hpg, hzs.out.2, hown.out, hsrc.out.more (by omega), hbw.out⟩
        · have e0 : (r == 0) = false := by simpa using h0
          have e1 : (r == 1) = false := by simpa using h1
          go_wp2_with fail
          go_ret
          exact ⟨g, j, co, zs, rfl, hzs.out.1, by omega, hpg, hzs.out.2, HO2.out, HS2.out.more (by omega), HB2.out⟩
set_option maxHeartbeats 1600000 in
/-- A drawn stitch. -/
theorem stitchDraw_any (w0 w : World) (p nc cc A : Nat) (ac : Option Addr) (hc : CodeAt w0 ac nc) (hb : Bel w0.heap.size w0 w) (hs : SrcAt w w0.heap.size p ac nc cc A) (hA : A ≤ 900000) :
    Calls Tryd.prog 87 #[.pointer (some ⟨p, 0, none⟩)] w fun e w' => ∃ r : Int, e = .returned (.int .i64 r) ∧ (Lit.int .i64 r).wf = true ∧ SrcAt w' w0.heap.size p ac nc cc (A + 4) ∧ w.grownBy w' (some p) := by
  have hp := hs.base
  obtain ⟨hp1, hp2⟩ := hp
  have HC := Lib.hid hc
  have HB := Lib.hid hb
  have HS := Lib.hid hs
  clear hc hb hs
  go_enter Tryd.func87, Tryd.ntmps87
  go_wp2_with fail
  refine (one_any w0 w p nc cc A ac 8 HC.out HB.out HS.out (by omega) (by omega)).mono ?_
  rintro e w1 ⟨q, rfl, hs1, hg1⟩
  have HS1 := Lib.hid hs1
  have HG1 := Lib.hid hg1
  have HB1 := Lib.hid (HB.out.grown hg1 (fun k h => by cases h; exact hp1))
  have hp3 := hs1.base.2
  clear hs1 hg1
  cases q
  · go_wp2_with fail
    refine (pick_any w0 w1 p nc cc (A + 2) ac 60 HC.out HB1.out HS1.out (by omega) (by omega)).mono ?_
    rintro e w2 ⟨r, rfl, r1, r2, hs2, hg2⟩
    have HS2 := Lib.hid hs2
    have HG2 := Lib.hid (grown_trans_row HG1.out hg2)
    clear hs2 hg2
    have r3 : r ≤ 59 := by omega
    go_wp2_with fail
    go_ret
    exact ⟨15 + r, rfl, wf_of (by omega) (by omega), HS2.out.more (by omega), HG2.out⟩
  · have hAm := among_any w0 (w1.alloc (.cells (([9, 10, 120, 121, -9223372036854775808] : List Int).map (Value.int .i64)).toArray 2)) p nc cc (A + 2) ac w1.heap.size 5 5 [9, 10, 120, 121, -9223372036854775808] rfl (by omega) (by omega) (lit_cells _ _ _) hp3 (by simp) HC.out (HB1.out.alloc _) (HS1.out.alloc _) (by omega)
    have HAm := Lib.hid hAm
    have HG0 := Lib.hid (World.grownBy_alloc w1 (.cells (([9, 10, 120, 121, -9223372036854775808] : List Int).map (Value.int .i64)).toArray 2) (some p))
    clear hAm
    go_wp2_with fail
    refine HAm.out.mono ?_
    rintro e w2 ⟨u, rfl, hu, hs2, hg2⟩
    have HU := Lib.hid (show (Lit.int .i64 u).wf = true by simp only [List.mem_cons, List.not_mem_nil, or_false] at hu; exact wf_of (by omega) (by omega))
    have HS2 := Lib.hid hs2
    have HG2 := Lib.hid (grown_trans_row HG1.out (grown_trans_row HG0.out hg2))
    clear hs2 hg2 hu HAm
    go_wp2_with fail
    go_ret
    exact ⟨u, rfl, HU.out, HS2.out, HG2.out⟩
/-- Drawn sides and a drawn stitch. -/
def BothEnd (w : World) (e : Ending) (w' : World) : Prop :=
  ∃ (g n c : Nat) (zs : List Int) (r : Int), e = .returned (.tuple #[.slice (some ⟨g, 0, none⟩) n c, .int .i64 r]) ∧ zs.length = n ∧ n ≤ 20 ∧ (∀ z ∈ zs, (Lit.int .i64 z).wf = true) ∧ (Lit.int .i64 r).wf = true ∧ w'.ownsRow w.heap.size 2 1 (.slice (some ⟨g, 0, none⟩) n c) n (zs.map (Value.int .i64)) ∧ Below w.heap.size w w'
set_option maxHeartbeats 1600000 in
theorem both_any (w : World) (nc cc : Nat) (ac : Option Addr) (hc : CodeAt w ac nc) : Calls Tryd.prog 76 #[.slice ac nc cc] w (BothEnd w) := by
  have HC := Lib.hid hc
  clear hc
  go_enter Tryd.func76, Tryd.ntmps76
  go_wp2_with fail
  refine (l00From_any w w.heap.size ac nc cc (Nat.le_refl _)).mono ?_
  rintro e w1 ⟨rfl, hs1, hb1⟩
  have HS1 := Lib.hid hs1
  have HB1 := Lib.hid (Bel.of hb1)
  clear hs1 hb1
  go_wp2_with fail
  refine (sidesDraw_any w w1 w.heap.size nc cc ac HC.out HB1.out HS1.out).mono ?_
  rintro e w2 ⟨g, n, c, zs, rfl, hl, hn, hpg, hwf, hown, hs2, hb2⟩
  have HL := Lib.hid (And.intro hl (And.intro hn hwf))
  have HO2 := Lib.hid hown
  have HS2 := Lib.hid hs2
  have HB2 := Lib.hid hb2
  clear hl hn hwf hown hs2 hb2
  go_wp2_with fail
  refine (stitchDraw_any w w2 w.heap.size nc cc 100 ac HC.out HB2.out HS2.out (by omega)).mono ?_
  rintro e w3 ⟨r, rfl, hr, _, hg3⟩
  have HR := Lib.hid hr
  have HO3 := Lib.hid (own_drawn HO2.out hg3 (fun e => by have h1 : g = w.heap.size := (by simpa [Value.ownBlock] using e); omega))
  have HB3 := Lib.hid (HB2.out.grown hg3 (fun k h => by cases h; exact Nat.le_refl _))
  clear hr hg3
  go_wp2_with fail
  go_ret2
  exact ⟨g, n, c, zs, r, rfl, HL.out.1, HL.out.2.1, HL.out.2.2, HR.out, HO3.out, HB3.out.1⟩
end Go.Proofs.YtfkojbkgpbpjhaaDoor
