/-
  Contract of the draw of holes. No condition of its own.
-/
import Derived.Test.YtgdndmpnnocgiaaSeamDraw
namespace Go.Proofs.Ytgdndmpnnocgiaa
open Go.ChangeShapes Go.WideShapes Go.ChangeAt Go.RowKit Go.Deep

/-- Drawn holes: some numbers in a row of the call's own; the source has gone on. -/
def HolesEnd (w0 w : World) (p nc cc A : Nat) (ac : Option Addr) (e : Ending) (w' : World) : Prop :=
  ∃ (g n c : Nat) (zs : List Int), e = .returned (.slice (some ⟨g, 0, none⟩) n c) ∧ zs.length = n ∧ n ≤ 1001 ∧ p < g ∧ (∀ z ∈ zs, (Lit.int .i64 z).wf = true) ∧ w'.ownsRow w0.heap.size 2 1 (.slice (some ⟨g, 0, none⟩) n c) n (zs.map (Value.int .i64)) ∧ SrcAt w' w0.heap.size p ac nc cc A ∧ Bel w0.heap.size w0 w' ∧ w.grownBy w' (some p)
/-- A row that is newer than w grows: w has grown as before. -/
theorem app_far {w wr w5 : World} {p g j co g5 : Nat} (hr : w.heap.size ≤ g ∧ w.grownBy wr (some p)) (hg5 : wr.grownBy w5 (Value.slice (some ⟨g, 0, none⟩) j co).ownBlock) (hat : (Value.slice (some ⟨g, 0, none⟩) j co).ownBlock = some g5 ∨ wr.heap.size ≤ g5) :
    w.heap.size ≤ g5 ∧ w.grownBy w5 (some p) := by
  have hs := hr.2.size
  refine ⟨?_, hg5.os.trans hr.2.os, hg5.tape.trans hr.2.tape, hg5.output.trans hr.2.output, Nat.le_trans hr.2.size hg5.size, fun i hi hne => (hg5.block i (by omega) ?_).trans (hr.2.block i hi hne)⟩
  · rcases hat with h | h
    · have h1 : g = g5 := (by simpa [Value.ownBlock] using h)
      omega
    · omega
  · intro e
    have h1 : i = g := (by simpa [Value.ownBlock] using e)
    omega
/-- A draw behind it. -/
theorem far_drawn {w wr w5 : World} {p g : Nat} (hr : w.heap.size ≤ g ∧ w.grownBy wr (some p)) (hg : wr.grownBy w5 (some p)) : w.heap.size ≤ g ∧ w.grownBy w5 (some p) := ⟨hr.1, grown_trans_row hr.2 hg⟩

set_option maxRecDepth 100000 in
set_option maxHeartbeats 3200000 in
theorem holesDraw_any (w0 w : World) (p nc cc A : Nat) (ac : Option Addr) (hc : CodeAt w0 ac nc) (hb : Bel w0.heap.size w0 w) (hs : SrcAt w w0.heap.size p ac nc cc A) (hA : A ≤ 1000) :
    Calls Try.prog 77 #[.pointer (some ⟨p, 0, none⟩)] w (HolesEnd w0 w p nc cc (A + 100) ac) := by
  have hp := hs.base
  obtain ⟨hp1, hp2⟩ := hp
  have HK := Lib.hid (fun W A (n : Int) (hA : A ≤ 2000) (hn : n ≤ 1000) (hb : Bel w0.heap.size w0 W) (hs : SrcAt W w0.heap.size p ac nc cc A) => pick_any w0 W p nc cc A ac n hc hb hs (by omega) (by omega))
  have HM := Lib.hid (fun W A (hA : A ≤ 2000) (hb : Bel w0.heap.size w0 W) (hs : SrcAt W w0.heap.size p ac nc cc A) => among_lit w0 W p nc cc A 4 2 ac [-1, 0, 100000, 100001] rfl (by omega) (by omega) hc hb hs (by omega))
  have HG := Lib.hid (fun (W W' : World) (h : Bel w0.heap.size w0 W) (hg : W.grownBy W' (some p)) => h.grown hg (fun k h => by cases h; exact hp1))
  have HB0 := Lib.hid (hb.alloc (.cells #[] 2))
  have HS0 := Lib.hid (hs.alloc (.cells #[] 2))
  have HO0 := Lib.hid (own_none' w w0.heap.size 2 1 hb.2)
  have HF0 := Lib.hid (show w.heap.size ≤ w.heap.size ∧ w.grownBy (w.alloc (.cells #[] 2)) (some p) from ⟨Nat.le_refl _, World.grownBy_alloc w _ (some p)⟩)
  clear hc hb hs
  go_enter Try.func77, Try.ntmps77
  go_wp2_with fail
  refine (HK.out _ _ 20 (by omega) (by omega) HB0.out HS0.out).mono ?_
  rintro e w1 ⟨k0, rfl, k1, k2, hs1, hg1⟩
  have HS1 := Lib.hid hs1
  have HB1 := Lib.hid (HG.out _ _ HB0.out hg1)
  have HO1 := Lib.hid (own_drawn HO0.out hg1 (fun e => by have h1 : w.heap.size = p := (by simpa [Value.ownBlock] using e); omega))
  have HF1 := Lib.hid (far_drawn HF0.out hg1)
  clear hs1 hg1
  have k3 : k0 ≤ 19 := by omega
  go_wp2_with fail
  refine (HK.out _ _ 8 (by omega) (by omega) HB1.out HS1.out).mono ?_
  rintro e w2 ⟨m0, rfl, m1, m2, hs2, hg2⟩
  have HS2 := Lib.hid hs2
  have HB2 := Lib.hid (HG.out _ _ HB1.out hg2)
  have HO2 := Lib.hid (own_drawn HO1.out hg2 (fun e => by have h1 : w.heap.size = p := (by simpa [Value.ownBlock] using e); omega))
  have HF2 := Lib.hid (far_drawn HF1.out hg2)
  clear hs2 hg2
  have m3 : m0 ≤ 7 := by omega
  go_wp2
  go_loopw [3, 4, 5] (fun v t u wr => ∃ (j : Nat) (at_ k : Int), t = .int .i64 at_ ∧ u = .int .i64 k ∧ 0 ≤ k ∧ (j : Int) + k ≤ 7 ∧ 0 ≤ at_ ∧ at_ ≤ 19 + 60 * (j : Int) ∧ ∃ (g co : Nat) (zs : List Int), v = .slice (some ⟨g, 0, none⟩) j co ∧ p < g ∧ Hid (zs.length = j ∧ ∀ z ∈ zs, (Lit.int .i64 z).wf = true) ∧ Hid (SrcAt wr w0.heap.size p ac nc cc (A + 4 + 2 * j)) ∧ Hid (wr.ownsRow w0.heap.size 2 1 (.slice (some ⟨g, 0, none⟩) j co) j (zs.map (Value.int .i64))) ∧ Hid (Bel w0.heap.size w0 wr) ∧ Hid (w.heap.size ≤ g ∧ w.grownBy wr (some p))) (fun _ _ u _ => (intOf u).toNat)
  case atStart => exact ⟨0, k0, m0, rfl, rfl, by omega, by omega, by omega, by omega, w.heap.size, 0, [], rfl, hp2, Lib.hid ⟨rfl, fun z hz => by cases hz⟩, HS2, HO2, HB2, HF2⟩
  case round =>
    obtain ⟨j, at_, k, rfl, rfl, hk0, hjk, ha0, ha1, g, co, zs, rfl, hpg, hzs, hsrc, hown, hbw, hfar⟩ := hrel
    by_cases hlt : 0 < k
    · have HP5 := Lib.hid (hsrc.out.base).2
      go_wp2_with (at_builtin; refine appJ (by rfl) _ _ (by rfl) w0.heap.size _ _ _ (by rfl) hown.out _ 1 wr.heap.size (by simp) (by rfl) (by omega) hbw.out ?_; intro g5 cap5 w5 ho5 hb5 hg5 hat5; have Ho5 := Lib.hid ho5; have Hb5 := Lib.hid hb5; have Hf5 := Lib.hid (app_far hfar.out hg5 hat5); have Hs5 := Lib.hid (hsrc.out.grown hg5 (fun e => by have h1 : g = p := (by simpa [Value.ownBlock] using e); omega)); have Hg5 := Lib.hid (show p < g5 by rcases hat5 with h | h; (have h1 : g = g5 := (by simpa [Value.ownBlock] using h); omega); have := HP5.out; omega); clear ho5 hb5 hg5 hat5)
      refine (HK.out _ _ 60 (by omega) (by omega) Hb5.out Hs5.out).mono ?_
      rintro e w6 ⟨r, rfl, r1, r2, hs6, hg6⟩
      have hg5' := Hg5.out
      have HS6 := Lib.hid hs6
      have HB6 := Lib.hid (HG.out _ _ Hb5.out hg6)
      have HO6 := Lib.hid (own_drawn Ho5.out hg6 (fun e => by have h1 : g5 = p := (by simpa [Value.ownBlock] using e); omega))
      have HF6 := Lib.hid (far_drawn Hf5.out hg6)
      clear hs6 hg6
      have r3 : r ≤ 59 := by omega
      go_wp2_with fail
      go_roundw
      case rel => exact ⟨j + 1, at_ + (1 + r), k - 1, rfl, rfl, by omega, by omega, by omega, by omega, g5, cap5, zs ++ [at_], rfl, hg5', Lib.hid ⟨by simp [hzs.out.1], wf_snoc hzs.out.2 (wf_of (by omega) (by omega))⟩, Lib.hid (HS6.out.more (by omega)), Lib.hid (by rw [List.map_append]; exact HO6.out), HB6, HF6⟩
      case measure => simp [intOf]; omega
    · obtain rfl : k = 0 := by omega
      have hj7 : j ≤ 7 := by omega
      go_wp2_with fail
      refine (HK.out _ _ 20 (by omega) (by omega) hbw.out hsrc.out).mono ?_
      rintro e w2 ⟨r, rfl, r1, r2, hs2, hg2⟩
      have HS2 := Lib.hid hs2
      have HB2 := Lib.hid (HG.out _ _ hbw.out hg2)
      have HO2 := Lib.hid (own_drawn hown.out hg2 (fun e => by have h1 : g = p := (by simpa [Value.ownBlock] using e); omega))
      have HP2 := Lib.hid (hs2.base).2
      have HF2 := Lib.hid (far_drawn hfar.out hg2)
      clear hs2 hg2
      by_cases h0 : r = 0
      · subst h0
        have HAm := Lib.hid (HM.out w2 _ (by omega) HB2.out HS2.out)
        go_wp2_with fail
        refine HAm.out.mono ?_
        rintro e w3 ⟨u, rfl, hu, hs3, hg3⟩
        have HU := Lib.hid (show (Lit.int .i64 u).wf = true by simp only [List.mem_cons, List.not_mem_nil, or_false] at hu; exact wf_of (by omega) (by omega))
        have HS3 := Lib.hid hs3
        have HP3 := Lib.hid (hs3.base).2
        have HB3 := Lib.hid (HG.out _ _ HB2.out hg3)
        have HO3 := Lib.hid (own_drawn HO2.out hg3 (fun e => by have h1 : g = p := (by simpa [Value.ownBlock] using e); omega))
        have HF3 := Lib.hid (far_drawn HF2.out hg3)
        clear hs3 hg3 hu HAm
        go_wp2_with (at_builtin; refine appJ (by rfl) _ _ (by rfl) w0.heap.size _ _ _ (by rfl) HO3.out _ 1 w3.heap.size (by simp) (by rfl) (by omega) HB3.out ?_; intro g5 cap5 w5 ho5 hb5 hg5 hat5; have Ho5 := Lib.hid ho5; have Hb5 := Lib.hid hb5; have Hf5 := Lib.hid (app_far HF3.out hg5 hat5); have Hs5 := Lib.hid (HS3.out.grown hg5 (fun e => by have h1 : g = p := (by simpa [Value.ownBlock] using e); omega)); have Hg5 := Lib.hid (show p < g5 by rcases hat5 with h | h; (have h1 : g = g5 := (by simpa [Value.ownBlock] using h); omega); have := HP3.out; omega); clear ho5 hb5 hg5 hat5)
        go_ret
        exact ⟨g5, j + 1, cap5, zs ++ [u], rfl, by simp [hzs.out.1], by omega, Hg5.out, wf_snoc hzs.out.2 HU.out, by rw [List.map_append]; exact Ho5.out, Hs5.out.more (by omega), Hb5.out, Hf5.out.2⟩
      · by_cases h1 : r = 1
        · subst h1
          have HB3 := Lib.hid (HB2.out.alloc (.cells #[] 2))
          have HS3 := Lib.hid (HS2.out.alloc (.cells #[] 2))
          have HO3 := Lib.hid (own_none' w2 w0.heap.size 2 1 HB2.out.2)
          have hp3 := HP2.out
          have HF3 := Lib.hid (show w.heap.size ≤ w2.heap.size ∧ w.grownBy (w2.alloc (.cells #[] 2)) (some p) from ⟨HF2.out.2.size, grown_trans_row HF2.out.2 (World.grownBy_alloc w2 _ (some p))⟩)
          go_wp2_with fail
          refine (HK.out _ _ 2 (by omega) (by omega) HB3.out HS3.out).mono ?_
          rintro e w3 ⟨q, rfl, q1, q2, hs3, hg3⟩
          have HS4 := Lib.hid hs3
          have HB4 := Lib.hid (HG.out _ _ HB3.out hg3)
          have HO4 := Lib.hid (own_drawn HO3.out hg3 (fun e => by have h1 : w2.heap.size = p := (by simpa [Value.ownBlock] using e); omega))
          have HF4 := Lib.hid (far_drawn HF3.out hg3)
          clear hs3 hg3
          have q3 : q ≤ 1 := by omega
          go_wp2_with fail
          go_loopw [3, 6] (fun v u wr => ∃ (j : Nat) (k : Int), u = .int .i64 k ∧ 0 ≤ k ∧ (j : Int) + k ≤ 1001 ∧ ∃ (g co : Nat) (zs : List Int), v = .slice (some ⟨g, 0, none⟩) j co ∧ p < g ∧ Hid (zs.length = j ∧ ∀ z ∈ zs, (Lit.int .i64 z).wf = true) ∧ Hid (SrcAt wr w0.heap.size p ac nc cc (A + 60)) ∧ Hid (wr.ownsRow w0.heap.size 2 1 (.slice (some ⟨g, 0, none⟩) j co) j (zs.map (Value.int .i64))) ∧ Hid (Bel w0.heap.size w0 wr) ∧ Hid (w.heap.size ≤ g ∧ w.grownBy wr (some p))) (fun _ u _ => (intOf u).toNat)
          case atStart => exact ⟨0, 1000 + q, rfl, by omega, by omega, w2.heap.size, 0, [], rfl, hp3, Lib.hid ⟨rfl, fun z hz => by cases hz⟩, Lib.hid (HS4.out.more (by omega)), HO4, HB4, HF4⟩
          case round =>
            clear hzs hsrc hown hbw hfar
            obtain ⟨j, k, rfl, hk0, hjk, g, co, zs, rfl, hpg, hzs, hsrc, hown, hbw, hfar⟩ := hrel
            by_cases hlt : 0 < k
            · have HP5 := Lib.hid (hsrc.out.base).2
              have w9 : IntKind.i64.wrap (7 * (j : Int)) = 7 * (j : Int) := IntWalk.i64_in _ (by omega)
              go_wp2_with (at_builtin; refine appJ (by rfl) _ _ (by rfl) w0.heap.size _ _ _ (by rfl) hown.out _ 1 wr.heap.size (by simp) (by rfl) (by omega) hbw.out ?_; intro g5 cap5 w5 ho5 hb5 hg5 hat5; have Ho5 := Lib.hid ho5; have Hb5 := Lib.hid hb5; have Hf5 := Lib.hid (app_far hfar.out hg5 hat5); have Hs5 := Lib.hid (hsrc.out.grown hg5 (fun e => by have h1 : g = p := (by simpa [Value.ownBlock] using e); omega)); have Hg5 := Lib.hid (show p < g5 by rcases hat5 with h | h; (have h1 : g = g5 := (by simpa [Value.ownBlock] using h); omega); have := HP5.out; omega); clear ho5 hb5 hg5 hat5)
              have hg5' := Hg5.out
              go_roundw
              case rel => exact ⟨j + 1, k - 1, rfl, by omega, by omega, g5, cap5, zs ++ [7 * (j : Int)], rfl, hg5', Lib.hid ⟨by simp [hzs.out.1], wf_snoc hzs.out.2 (wf_of (by omega) (by omega))⟩, Hs5, Lib.hid (by rw [List.map_append]; exact Ho5.out), Hb5, Hf5⟩
              case measure => simp [intOf]; omega
            · go_wp2_with fail
              go_ret
              exact ⟨g, j, co, zs, rfl, hzs.out.1, by omega, hpg, hzs.out.2, hown.out, hsrc.out.more (by omega), hbw.out, hfar.out.2⟩
        · have e0 : (r == 0) = false := by simpa using h0
          have e1 : (r == 1) = false := by simpa using h1
          go_wp2_with fail
          go_ret
          exact ⟨g, j, co, zs, rfl, hzs.out.1, by omega, hpg, hzs.out.2, HO2.out, HS2.out.more (by omega), HB2.out, HF2.out.2⟩
end Go.Proofs.Ytgdndmpnnocgiaa
