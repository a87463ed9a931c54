/-
  Contract of the draw of two lists of joins. No condition of its own.
-/
import Derived.Test.YtcajpedhfljhdaaPressDraw
import Derived.OwnWalk
import Derived.Deep.RegionLaw
import Derived.Deep.AppendLies
namespace Go.Proofs.Ytcajpedhfljhdaa
open Go.ChangeShapes Go.WideShapes Go.ChangeAt Go.RowKit Go.Deep

/-- Two drawn lists of joins. -/
def SameEnd (w : World) (e : Ending) (w' : World) : Prop :=
  ∃ (g n c : Nat) (zs : List Int) (g' n' c' : Nat) (ys : List Int), e = .returned (.tuple #[.slice (some ⟨g, 0, none⟩) n c, .slice (some ⟨g', 0, none⟩) n' c']) ∧ zs.length = n * 4 ∧ n ≤ 21 ∧ (∀ z ∈ zs, (Lit.int .i64 z).wf = true) ∧ CellsAt w' (some ⟨g, 0, none⟩) (zs.map (Value.int .i64)) ∧
    ys.length = n' * 4 ∧ n' ≤ 22 ∧ (∀ z ∈ ys, (Lit.int .i64 z).wf = true) ∧ CellsAt w' (some ⟨g', 0, none⟩) (ys.map (Value.int .i64)) ∧ Bel w.heap.size w w'
theorem wf_wrap (x : Int) : (Lit.int .i64 (IntKind.i64.wrap x)).wf = true := by
  have := IntKind.wrap_i64 x
  exact wf_gl (by omega) (by omega)
theorem wf_app0 {zs : List Int} (h : ∀ z ∈ zs, (Lit.int .i64 z).wf = true) : ∀ z ∈ zs ++ [0, 0, 0, 0], (Lit.int .i64 z).wf = true := fun z hz => by
  simp only [List.mem_append, List.mem_cons, List.not_mem_nil, or_false] at hz
  rcases hz with hz | rfl | rfl | rfl | rfl
  · exact h z hz
  all_goals exact wf_gl (by omega) (by omega)
theorem wf_setW {zs : List Int} {u : Int} {k : Nat} (h : ∀ z ∈ zs, (Lit.int .i64 z).wf = true) (hu : (Lit.int .i64 u).wf = true) : ∀ z ∈ zs.set k u, (Lit.int .i64 z).wf = true := fun z hz => by
  rcases List.mem_or_eq_of_mem_set hz with h1 | h1
  · exact h z h1
  · rw [h1]; exact hu
set_option maxRecDepth 100000 in
set_option maxHeartbeats 6400000 in
theorem drawSameJoins_any (w : World) (nc cc : Nat) (ac : Option Addr) (hc : CodeAt w ac nc) : Calls Try.prog 51 #[.slice ac nc cc] w (SameEnd w) := by
  have HC := Lib.hid hc
  clear hc
  go_enter Try.func51, Try.ntmps51
  go_wp2_with fail
  refine (l00From_any w w.heap.size ac nc cc (Nat.le_refl _)).mono ?_
  rintro e w1 ⟨rfl, hs1, hb1⟩
  obtain ⟨p, hp⟩ : ∃ p, p = w.heap.size := ⟨_, rfl⟩
  rw [← hp] at hs1 ⊢
  have hw1 := hs1.base.2
  have HS1 := Lib.hid hs1
  have HB1 := Lib.hid (Bel.of hb1)
  have HP := Lib.hid hp
  clear hs1 hb1 hp
  go_wp2_with fail
  refine (l19Some_any w w1 p nc cc 0 ac HC.out HB1.out (by rw [← HP.out]; exact HS1.out) (by omega)).mono ?_
  rintro e w2 ⟨g, n, c, zs, rfl, hl, hn, hz, hgw, ho, hs2, hg2⟩
  have HL := Lib.hid hl
  have HZ := Lib.hid hz
  have HS2 := Lib.hid hs2
  have HB2 := Lib.hid (HB1.out.grown hg2 (fun k h => by cases h; rw [HP.out]; exact Nat.le_refl _))
  have HO2 := Lib.hid ho
  have hpg : p ≠ g := by omega
  have hgl : g < w2.heap.size := (own_block ho rfl).2
  obtain ⟨inf, hi, h0, h1, h2⟩ := info_parts infoJoin
  have HI := Lib.hid (And.intro hi (And.intro h0 (And.intro h1 h2)))
  clear hl hz hs2 hg2 ho hi h0 h1 h2
  go_upto_region 3 with fail
  go_cut [6] (fun t6 W => ∃ (g' c' : Nat), t6 = .slice (some ⟨g', 0, none⟩) n c' ∧ w2.heap.size ≤ g' ∧ Hid (W.ownsRow w2.heap.size 45 4 (.slice (some ⟨g', 0, none⟩) n c') n (zs.map (Value.int .i64))) ∧ Hid (Below w2.heap.size w2 W))
  case first =>
    by_cases hn0 : n = 0
    · subst hn0
      have e : zs = [] := List.eq_nil_of_length_eq_zero (by rw [HL.out])
      subst e
      go_wp2_with (at_builtin; refine wpList_append_fits_any _ rfl _ _ 38 rfl w2.heap.size 45 inf 4 Try.underlying38 HI.out.1 HI.out.2.2.1 w2.heap.size 0 0 [] rfl (own_none w2 45 4) (some ⟨g, 0, none⟩) 0 c [] rfl (by simp) (by simp) (by simp) (by simp) (by omega) ?_; intro w3 ho hg)
      try simp only [Nat.zero_add, List.nil_append] at ho
      have Ho := Lib.hid ho
      have Hg := Lib.hid hg
      clear ho hg
      go_wp2_with fail
      go_meet
      exact ⟨w2.heap.size, 0, rfl, Nat.le_refl _, Ho, Lib.hid (((Bel.refl w2).alloc _).grown Hg.out (fun k h => by cases h; exact Nat.le_refl _)).1⟩
    · have hcell : ∀ j u, (zs.map (Value.int .i64))[j]? = some u → (w2.alloc (.cells #[] 45)).cell? ((⟨g, 0, none⟩ : Addr).add j) = some u := by
        intro j u hj
        have hjl : j < zs.length := by have := (List.getElem?_eq_some_iff.1 hj).1; simpa using this
        rw [addr_add, Nat.zero_add, (HO2.out.alloc (.cells #[] 45)).cellAt j (by rw [HL.out] at hjl; omega)]
        exact hj
      have HCe := Lib.hid hcell
      clear hcell
      go_wp2_with (at_builtin; refine wpList_append_lies _ (by rfl) _ _ 38 (by rfl) w2.heap.size 45 inf (.agg #[.int .i64 0, .int .i64 0, .int .i64 0, .int .i64 0]) 4 32 Try.underlying38 HI.out.1 HI.out.2.1 HI.out.2.2.1 HI.out.2.2.2 (by rfl) (by omega) _ 0 [] (by rfl) (own_none w2 45 4) ⟨g, 0, none⟩ n c (zs.map (Value.int .i64)) (by rfl) (by have := HL.out; simp; omega) HCe.out ?qc2 (by omega) (by unfold maxLen; omega) (by omega) (by simp) _ rfl ?_)
      case qc2 =>
        intro u hu
        obtain ⟨z, _, rfl⟩ := List.mem_map.1 hu
        rfl
      intro g' c' w3 ho hg _ _
      try simp only [Nat.zero_add, List.nil_append] at ho
      have Ho := Lib.hid ho
      have Hg := Lib.hid hg
      have hg' := (own_block ho rfl).1
      clear ho hg
      go_wp2_with fail
      go_meet
      exact ⟨g', c', rfl, hg', Ho, Lib.hid (((Bel.refl w2).alloc _).grown Hg.out (fun k h => by cases h; exact Nat.le_refl _)).1⟩
  case rest =>
    obtain ⟨g', c', rfl, hg', ho', hbc⟩ := hcut
    have HA3 := Lib.hid (own_below HO2.out hbc.out)
    have HB3 := Lib.hid (HB2.out.step hbc.out)
    have HS3 := Lib.hid (HS2.out.below hbc.out)
    have HO3 := Lib.hid (own_base ho'.out (show w.heap.size ≤ w2.heap.size from HB2.out.2))
    have hgg : g ≠ g' := by omega
    have hpg' : p ≠ g' := by have := HS2.out.base.2; omega
    clear ho' hbc HS2 HO2 HS1
    have HG := Lib.hid (fun (W W' : World) (h : Bel w.heap.size w W) (hg : W.grownBy W' (some p)) => h.grown hg (fun k h => by cases h; rw [HP.out]; exact Nat.le_refl _))
    have HD := Lib.hid (fun (W W' : World) (x m d : Nat) (us : List Value) (hx : p ≠ x) (h : W.ownsRow w.heap.size 45 4 (.slice (some ⟨x, 0, none⟩) m d) m us) (hg : W.grownBy W' (some p)) => own_drawn h hg (fun e => hx (by have h1 : x = p := (by simpa [Value.ownBlock] using e); exact h1.symm)))
    have HA3' := Lib.hid (own_base HA3.out (show w.heap.size ≤ w1.heap.size from HB1.out.2))
    have hsz := HB1.out.2
    clear HA3 HB1 HB2
    go_upto_region 4 with fail
    go_cut [20] (fun t20 W => ∃ qb : Bool, t20 = .bool qb ∧ Hid (qb = true → 0 < n) ∧ Hid (SrcAt W w.heap.size p ac nc cc 302) ∧ Hid (Bel w.heap.size w W) ∧ Hid (W.ownsRow w.heap.size 45 4 (.slice (some ⟨g, 0, none⟩) n c) n (zs.map (Value.int .i64))) ∧ Hid (W.ownsRow w.heap.size 45 4 (.slice (some ⟨g', 0, none⟩) n c') n (zs.map (Value.int .i64))))
    case first =>
      by_cases hn0 : 0 < n
      · have hn' : (0 : Int) < (n : Int) := by omega
        go_wp2_with fail
        refine (one_any w wc p nc cc 300 ac 2 HC.out HB3.out HS3.out (by omega) (by omega)).mono ?_
        rintro e w3 ⟨qb, rfl, hs3, hg3⟩
        have HS4 := Lib.hid hs3
        have HB4 := Lib.hid (HG.out _ _ HB3.out hg3)
        have HA4 := Lib.hid (HD.out _ _ _ _ _ _ hpg HA3'.out hg3)
        have HO4 := Lib.hid (HD.out _ _ _ _ _ _ hpg' HO3.out hg3)
        clear hs3 hg3
        go_wp2_with fail
        go_meet
        exact ⟨qb, rfl, Lib.hid (fun _ => hn0), HS4, HB4, HA4, HO4⟩
      · obtain rfl : n = 0 := by omega
        go_wp2_with fail
        go_meet
        exact ⟨false, rfl, Lib.hid (fun h => by cases h), Lib.hid (HS3.out.more (by omega)), HB3, HA3', HO3⟩
    case rest =>
      clear HS3 HB3 HO3 HA3'
      obtain ⟨qb, rfl, hqn, hsc, hbc, hac, hoc⟩ := hcut
      go_upto_if 20 with fail
      go_cut [] (fun W => ∃ ys : List Int, Hid (ys.length = n * 4 ∧ ∀ z ∈ ys, (Lit.int .i64 z).wf = true) ∧ Hid (SrcAt W w.heap.size p ac nc cc 304) ∧ Hid (Bel w.heap.size w W) ∧ Hid (W.ownsRow w.heap.size 45 4 (.slice (some ⟨g, 0, none⟩) n c) n (zs.map (Value.int .i64))) ∧ Hid (W.ownsRow w.heap.size 45 4 (.slice (some ⟨g', 0, none⟩) n c') n (ys.map (Value.int .i64))))
      case first =>
        cases qb
        · go_wp2_with fail
          go_meet
          exact ⟨zs, Lib.hid ⟨HL.out, HZ.out⟩, Lib.hid (hsc.out.more (by omega)), hbc, hac, hoc⟩
        · have hn0 := hqn.out rfl
          have hn' : (0 : Int) < (n : Int) := by omega
          obtain ⟨x3, hx3⟩ : ∃ x, zs.getD 3 0 = x := ⟨_, rfl⟩
          have HX3 := Lib.hid hx3
          have k3 := joins_cell hoc.out (j := 3) (by omega) hx3
          have HSd := Lib.hid (show SrcAt wc.drew w.heap.size p ac nc cc 302 from hsc.out)
          clear hx3
          go_wp2_with fail
          go_region_law (first | (go_simp; go_at_call 78; refine (pick_any w wc.drew p nc cc 302 ac 2 HC.out hbc.out.drew HSd.out (by omega) (by omega)).mono ?_; rintro e w4 ⟨r, rfl, ra, rb, hs4, hg4⟩; have hg5 := grown_from_drew hg4; have hO4 := HD.out _ _ _ _ _ _ hpg' hoc.out hg5; have hK2 := joins_cell hO4 (j := 3) (by omega) HX3.out; have hF := hO4.frozenAt 3; have HO4 := Lib.hid hO4; have HA4 := Lib.hid (HD.out _ _ _ _ _ _ hpg hac.out hg5); have HS4 := Lib.hid hs4; have HB4 := Lib.hid (HG.out _ _ hbc.out hg5); clear hO4 hs4 hg4 hg5))
          all_goals
            have hst := HO4.out.stored 3 (.int .i64 (IntKind.i64.wrap (x3 + r)))
            rw [← List.map_set] at hst
            have HO5 := Lib.hid hst.1
            have HA5 := Lib.hid (own_grown_ne HA4.out hst.2 (fun b hb e => hgg (by have h1 : g = b := (by simpa [Value.ownBlock] using hb); have h2 : g' = b := (by simpa [Value.ownBlock] using e); omega)))
            have HS5 := Lib.hid (HS4.out.grown hst.2 (fun e => hpg' (by have h1 : g' = p := (by simpa [Value.ownBlock] using e); exact h1.symm)))
            have HB5 := Lib.hid (HB4.out.grown hst.2 (fun j hj => (own_block HO4.out hj).1))
            clear hst hK2 hF
            go_wp2_with fail
            go_meet
            exact ⟨zs.set 3 (IntKind.i64.wrap (x3 + r)), Lib.hid ⟨by rw [List.length_set]; exact HL.out, wf_setW HZ.out (wf_wrap _)⟩, HS5, HB5, HA5, HO5⟩
      case rest =>
        clear hsc hbc hac hoc
        obtain ⟨ys, hys, hsc, hbc, hac, hoc⟩ := hcut
        go_wp2_with fail
        refine (one_any w _ p nc cc 304 ac 5 HC.out hbc.out hsc.out (by omega) (by omega)).mono ?_
        rintro e w5 ⟨qc, rfl, hs5, hg5⟩
        have HB5 := Lib.hid (HG.out _ _ hbc.out hg5)
        have HA5 := Lib.hid (HD.out _ _ _ _ _ _ hpg hac.out hg5)
        have HO5 := Lib.hid (HD.out _ _ _ _ _ _ hpg' hoc.out hg5)
        clear hs5 hg5
        cases qc
        · go_wp2_with fail
          go_ret2
          exact ⟨g, n, c, zs, g', n, c', ys, rfl, HL.out, hn, HZ.out, CellsAt.of_own HA5.out, hys.out.1, by omega, hys.out.2, CellsAt.of_own HO5.out, HB5.out⟩
        · go_wp2_with (at_builtin; refine appJoin (by rfl) _ _ (by rfl) w.heap.size _ _ _ (by rfl) HO5.out _ _ _ _ 1 w5.heap.size (by simp) (by rfl) (by omega) HB5.out ?_; intro g6 cap6 w6 ho6 hb6 hg6 _; have Ho6 := Lib.hid ho6; have Hb6 := Lib.hid hb6; have HA6 := Lib.hid (own_grown_ne HA5.out hg6 (fun b hb e => hgg (by have h1 : g = b := (by simpa [Value.ownBlock] using hb); have h2 : g' = b := (by simpa [Value.ownBlock] using e); omega))); clear ho6 hb6 hg6)
          go_ret2
          exact ⟨g, n, c, zs, g6, n + 1, cap6, ys ++ [0, 0, 0, 0], rfl, HL.out, hn, HZ.out, CellsAt.of_own HA6.out, by rw [List.length_append, hys.out.1]; simp; omega, by omega, wf_app0 hys.out.2, by rw [List.map_append]; exact CellsAt.of_own Ho6.out, Hb6.out⟩
end Go.Proofs.Ytcajpedhfljhdaa
