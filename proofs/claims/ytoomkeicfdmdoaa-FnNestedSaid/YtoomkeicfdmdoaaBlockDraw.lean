/-
  Contracts of the draw of blocks and a roll. No condition of its own.
-/
import Derived.Test.YtoomkeicfdmdoaaBlock
import Derived.Test.YtoomkeicfdmdoaaDraws
import Derived.Test.YtoomkeicfdmdoaaNestI
namespace Go.Proofs.Ytoomkeicfdmdoaa
open Go.ChangeShapes Go.WideShapes Go.ChangeAt Go.RowKit Go.Deep Go.Shelf

set_option maxHeartbeats 800000 in
theorem appBlock {w0 W : World} {ops : Array Oper} {rest : List Oper} {o : Oper} {a : Act} {Q : Exit → Act → World → Prop} (hgd : o.guard = none) (s x : Operand)
    (ho : o.op = .call { callee := .builtin .append, args := #[s, x], argTypes := #[43, 43] }) (B : Nat) (v : Value) (n : Nat) (xs : List Value) (hs : a.eval s = v) (hown : W.ownsRow B 72 2 v n xs)
    (x0 x1 : Int) (c H : Nat) (hH : W.heap.size = H) (hx : a.eval x = .slice (some ⟨H, 0, none⟩) 1 c) (hn : n ≤ 1099511627776) (hb : Bel B w0 W)
    (h : ∀ g cap w', w'.ownsRow B 72 2 (.slice (some ⟨g, 0, none⟩) (n + 1) cap) (n + 1) (xs ++ [.int .i64 x0, .int .i64 x1]) → Bel B w0 w' → W.grownBy w' v.ownBlock → (v.ownBlock = some g ∨ W.heap.size ≤ g) → wpList Try.prog ops Q rest (a.put o.dst (.slice (some ⟨g, 0, none⟩) (n + 1) cap)) w') :
    wpList Try.prog ops Q (o :: rest) a (W.alloc (.cells #[.int .i64 x0, .int .i64 x1] 72)) := by
  subst hH
  obtain ⟨i, hi, h0, h1, h2⟩ := info_parts infoBlock
  refine wpList_append_lies _ hgd s x 43 ho B 72 i (.agg #[.int .i64 0, .int .i64 0]) 2 16 Try.underlying43 hi h0 h1 h2 rfl (by omega) v n xs hs (hown.alloc _) ⟨W.heap.size, 0, none⟩ 1 c [.int .i64 x0, .int .i64 x1] hx rfl ?_ ?_ (by omega) (by unfold maxLen; omega) (by omega) (by have := hb.2; simp; omega) _ rfl ?_
  · intro j u hj
    match j, hj with
    | 0, hj => simp at hj; subst hj; simp [Addr.add]
    | 1, hj => simp at hj; subst hj; simp [Addr.add]
  · intro u hu
    simp only [List.mem_cons, List.not_mem_nil, or_false] at hu
    rcases hu with rfl | rfl <;> rfl
  · intro g cap w' h3 h4 h5 _
    refine h g cap w' h3 ((hb.alloc _).grown h4 (fun k hk => (own_block hown hk).1)) ?_ ?_
    · exact ⟨h4.os, h4.tape, h4.output, Nat.le_trans (by simp) h4.size, fun i hi hne => (h4.block i (by simp; omega) hne).trans ((World.grownBy_alloc W _ none).block i hi (by simp))⟩
    · rcases h5 with h5 | h5
      · exact .inl h5
      · exact .inr (by rw [h5]; simp)


/-- Drawn blocks and a drawn roll. -/
def BlocksEnd (w0 : World) (e : Ending) (w' : World) : Prop :=
  ∃ (g n c : Nat) (zs : List Int) (roll : Int), e = .returned (.tuple #[.slice (some ⟨g, 0, none⟩) n c, .int .i64 roll]) ∧ zs.length = n * 2 ∧ n ≤ 11 ∧ (∀ z ∈ zs, (Lit.int .i64 z).wf = true) ∧ (Lit.int .i64 roll).wf = true ∧ CellsAt w' (some ⟨g, 0, none⟩) (zs.map (Value.int .i64)) ∧ Bel w0.heap.size w0 w'
theorem wf_small {z : Int} (h1 : -1000000 ≤ z) (h2 : z ≤ 1000000) : (Lit.int .i64 z).wf = true := WalkArith.wf_i64 (by omega)
theorem wf_two {zs : List Int} {x y : Int} (h : ∀ z ∈ zs, (Lit.int .i64 z).wf = true) (hx : (Lit.int .i64 x).wf = true) (hy : (Lit.int .i64 y).wf = true) : ∀ z ∈ zs ++ [x, y], (Lit.int .i64 z).wf = true := fun z hz => by
  simp only [List.mem_append, List.mem_cons, List.not_mem_nil, or_false] at hz
  rcases hz with hz | rfl | rfl
  · exact h z hz
  · exact hx
  · exact hy
theorem grow_far {W : World} {g g5 n c p : Nat} (hat : (Value.slice (some ⟨g, 0, none⟩) n c).ownBlock = some g5 ∨ W.heap.size ≤ g5) (h1 : p < g) (h3 : p < W.heap.size) : p < g5 := by
  rcases hat with h | h
  · have : g = g5 := by simpa [Value.ownBlock] using h
    omega
  · omega

set_option maxRecDepth 100000 in
set_option maxHeartbeats 6400000 in
theorem blocksDraw_any (w0 w : World) (p nc cc : Nat) (ac : Option Addr) (hc : CodeAt w0 ac nc) (hb : Bel w0.heap.size w0 w) (hs : SrcAt w w0.heap.size p ac nc cc 0) :
    Calls Try.prog 88 #[.pointer (some ⟨p, 0, none⟩)] w (BlocksEnd w0) := by
  have hp := hs.base
  obtain ⟨hp1, hp2⟩ := hp
  have HC := Lib.hid hc
  have HB := Lib.hid hb
  have HS := Lib.hid hs
  clear hc hb hs
  go_enter Try.func88, Try.ntmps88
  go_wp2_with fail
  refine (pick_any w0 w p nc cc 0 ac 40 HC.out HB.out HS.out (by omega) (by omega)).mono ?_
  rintro e w1 ⟨r0, rfl, a0, a1, hs1, hg1⟩
  have HS1 := Lib.hid (hs1.alloc (.cells #[] 72))
  have hB1 := HB.out.grown hg1 (fun k h => by cases h; exact hp1)
  have HB1 := Lib.hid (hB1.alloc (.cells #[] 72))
  have HO1 := Lib.hid (own_none' w1 w0.heap.size 72 2 hB1.2)
  have hp3 := hs1.base.2
  obtain ⟨roll, hroll⟩ : ∃ v, 40 + r0 = v := ⟨_, rfl⟩
  have hrb : 40 ≤ roll ∧ roll ≤ 79 := by omega
  clear hs1 hg1 hB1
  go_wp2_with fail
  refine (pick_any w0 _ p nc cc 2 ac 7 HC.out HB1.out HS1.out (by omega) (by omega)).mono ?_
  rintro e w2 ⟨n0, rfl, b0, b1, hs2, hg2⟩
  have HS2 := Lib.hid hs2
  have HB2 := Lib.hid (HB1.out.grown hg2 (fun k h => by cases h; exact hp1))
  have HO2 := Lib.hid (own_drawn HO1.out hg2 (fun e => by have h1 : w1.heap.size = p := (by simpa [Value.ownBlock] using e); omega))
  clear hs2 hg2 hroll
  go_wp2_with fail
  refine (one_any w0 w2 p nc cc 4 ac 24 HC.out HB2.out HS2.out (by omega) (by omega)).mono ?_
  rintro e w3 ⟨q0, rfl, hs3, hg3⟩
  have HS3 := Lib.hid hs3
  have HB3 := Lib.hid (HB2.out.grown hg3 (fun k h => by cases h; exact hp1))
  have HO3 := Lib.hid (own_drawn HO2.out hg3 (fun e => by have h1 : w1.heap.size = p := (by simpa [Value.ownBlock] using e); omega))
  clear hs3 hg3
  go_upto_if 16 with fail
  go_cut [6] (fun t6 W => ∃ K : Int, t6 = .int .i64 K ∧ 0 ≤ K ∧ K ≤ 10 ∧ Hid (SrcAt W w0.heap.size p ac nc cc 8) ∧ Hid (Bel w0.heap.size w0 W) ∧ Hid (W.ownsRow w0.heap.size 72 2 (.slice (some ⟨w1.heap.size, 0, none⟩) 0 0) 0 []))
  case first =>
    cases q0
    · go_wp2_with fail
      go_meet
      exact ⟨n0, rfl, b0, by omega, Lib.hid (HS3.out.more (by omega)), HB3, HO3⟩
    · go_wp2_with fail
      refine (pick_any w0 w3 p nc cc 6 ac 2 HC.out HB3.out HS3.out (by omega) (by omega)).mono ?_
      rintro e w4 ⟨r4, rfl, d0, d1, hs4, hg4⟩
      have HS4 := Lib.hid hs4
      have HB4 := Lib.hid (HB3.out.grown hg4 (fun k h => by cases h; exact hp1))
      have HO4 := Lib.hid (own_drawn HO3.out hg4 (fun e => by have h1 : w1.heap.size = p := (by simpa [Value.ownBlock] using e); omega))
      clear hs4 hg4
      go_wp2_with fail
      go_meet
      exact ⟨9 + r4, rfl, by omega, by omega, HS4, HB4, HO4⟩
  case rest =>
    obtain ⟨K0, rfl, e0, e1, hsc, hbc, hoc⟩ := hcut
    clear HS1 HS2 HS3 HB1 HB2 HB3 HO1 HO2 HO3 b0 b1
    go_wp2_with fail
    go_loopw [5, 7, 8] (fun v u _ wr => ∃ (j : Nat) (k : Int), u = .int .i64 k ∧ 0 ≤ k ∧ (j : Int) + k ≤ 10 ∧ ∃ (g co : Nat) (zs : List Int), v = .slice (some ⟨g, 0, none⟩) j co ∧ p < g ∧ Hid (zs.length = j * 2 ∧ ∀ z ∈ zs, (Lit.int .i64 z).wf = true) ∧ Hid (SrcAt wr w0.heap.size p ac nc cc (8 + 8 * j)) ∧ Hid (wr.ownsRow w0.heap.size 72 2 (.slice (some ⟨g, 0, none⟩) j co) j (zs.map (Value.int .i64))) ∧ Hid (Bel w0.heap.size w0 wr)) (fun _ u _ _ => (intOf u).toNat)
    case atStart => exact ⟨0, K0, rfl, e0, by omega, w1.heap.size, 0, [], rfl, hp3, Lib.hid ⟨rfl, fun z hz => by cases hz⟩, hsc, hoc, hbc⟩
    case round =>
      clear hsc hbc hoc
      obtain ⟨j, k, rfl, hk0, hjk, g, co, zs, rfl, hpg, hzs, hsrc, hown, hbw⟩ := hrel
      by_cases hlt : 0 < k
      · go_wp2_with fail
        refine (pick_any w0 wr p nc cc (8 + 8 * j) ac roll HC.out hbw.out hsrc.out (by omega) (by omega)).mono ?_
        rintro e w2 ⟨x, rfl, x0, x1, hs2, hg2⟩
        have hp4 := hs2.base.2
        have HB2 := Lib.hid ((hbw.out.grown hg2 (fun k h => by cases h; exact hp1)))
        have HO2 := Lib.hid (own_drawn hown.out hg2 (fun e => by have h1 : g = p := (by simpa [Value.ownBlock] using e); omega))
        obtain ⟨bw, hbw1⟩ : ∃ v, 1 + x = v := ⟨_, rfl⟩
        have hbwb : 1 ≤ bw ∧ bw ≤ 79 := by omega
        have hg2s : g < w2.heap.size := (own_block HO2.out rfl).2
        obtain ⟨q, hq⟩ : ∃ q, w2.heap.size = q := ⟨_, rfl⟩
        obtain ⟨w5, hw5⟩ : ∃ W, w2.alloc (.cells #[.int .i64 bw, .int .i64 0] 72) = W := ⟨_, rfl⟩
        have HS5 := Lib.hid (show SrcAt w5 w0.heap.size p ac nc cc (8 + 8 * j + 2) by rw [← hw5]; exact hs2.alloc _)
        have HB5 := Lib.hid (show Bel w0.heap.size w0 w5 by rw [← hw5]; exact HB2.out.alloc _)
        have HO5 := Lib.hid (show w5.ownsRow w0.heap.size 72 2 (.slice (some ⟨g, 0, none⟩) j co) j (zs.map (Value.int .i64)) by rw [← hw5]; exact HO2.out.alloc _)
        have HQ5 := Lib.hid (show w5.ownsRow w0.heap.size 72 2 (.slice (some ⟨q, 0, none⟩) 1 1) 1 [.int .i64 bw, .int .i64 0] by rw [← hw5]; exact box2 _ _ _ _ _ _ HB2.out.2 hq.symm)
        have hpq : p < q := by omega
        have hgq : g < q := by omega
        have HW5 := Lib.hid hw5
        clear hs2 hg2 hw5 x0 x1
        go_wp2_with fail
        rw [HW5.out]
        clear hbw1 hq
        refine (pick_any w0 w5 p nc cc (8 + 8 * j + 2) ac 50 HC.out HB5.out HS5.out (by omega) (by omega)).mono ?_
        rintro e w6 ⟨y, rfl, y0, y1, hs6, hg6⟩
        have HS6 := Lib.hid hs6
        have HB6 := Lib.hid (HB5.out.grown hg6 (fun k h => by cases h; exact hp1))
        have HO6 := Lib.hid (own_drawn HO5.out hg6 (fun e => by have h1 : g = p := (by simpa [Value.ownBlock] using e); omega))
        have HQ6 := Lib.hid (own_drawn HQ5.out hg6 (fun e => by have h1 : q = p := (by simpa [Value.ownBlock] using e); omega))
        obtain ⟨bh, hbh⟩ : ∃ v, 1 + y = v := ⟨_, rfl⟩
        have hbhb : 1 ≤ bh ∧ bh ≤ 50 := by omega
        obtain ⟨q0, q1⟩ := box2_at HQ6.out
        have f1 := HQ6.out.frozenAt 1
        have hst := HQ6.out.stored 1 (.int .i64 bh)
        have hB7 := HB6.out.grown hst.2 (fun k h => by cases h; have := HB5.out.2; exact (own_block (b := q) HQ6.out rfl).1)
        have HQ7 := Lib.hid (show (w6.setCell ⟨q, 1, none⟩ (.int .i64 bh)).ownsRow w0.heap.size 72 2 (.slice (some ⟨q, 0, none⟩) 1 1) 1 [.int .i64 bw, .int .i64 bh] from hst.1)
        have HO7 := Lib.hid (own_grown_ne HO6.out hst.2 (fun b hb e => by have h1 : g = b := (by simpa [Value.ownBlock] using hb); have h2 : q = b := (by simpa [Value.ownBlock] using e); omega))
        have HS7 := Lib.hid (HS6.out.grown hst.2 (fun e => by have h1 : q = p := (by simpa [Value.ownBlock] using e); omega))
        have HB7 := Lib.hid hB7
        clear hs6 hg6 hst hB7 y0 y1
        go_wp2_with fail
        generalize w6.setCell _ _ = w7 at HQ7 HO7 HS7 HB7 ⊢
        clear q0 q1 f1 hbh HQ6 HO6 HS6 HB6
        refine (one_any w0 w7 p nc cc (8 + 8 * j + 2 + 2) ac 2 HC.out HB7.out HS7.out (by omega) (by omega)).mono ?_
        rintro e w8 ⟨qb, rfl, hs8, hg8⟩
        have HS8 := Lib.hid hs8
        have HB8 := Lib.hid (HB7.out.grown hg8 (fun k h => by cases h; exact hp1))
        have HO8 := Lib.hid (own_drawn HO7.out hg8 (fun e => by have h1 : g = p := (by simpa [Value.ownBlock] using e); omega))
        have HQ8 := Lib.hid (own_drawn HQ7.out hg8 (fun e => by have h1 : q = p := (by simpa [Value.ownBlock] using e); omega))
        clear hs8 hg8
        go_upto_if 35 with fail
        go_cut [] (fun W => ∃ bw : Int, 1 ≤ bw ∧ bw ≤ 79 ∧ Hid (SrcAt W w0.heap.size p ac nc cc (8 + 8 * (j + 1))) ∧ Hid (Bel w0.heap.size w0 W) ∧ Hid (W.ownsRow w0.heap.size 72 2 (.slice (some ⟨g, 0, none⟩) j co) j (zs.map (Value.int .i64))) ∧ Hid (W.ownsRow w0.heap.size 72 2 (.slice (some ⟨q, 0, none⟩) 1 1) 1 [.int .i64 bw, .int .i64 bh]))
        case first =>
          cases qb
          · go_wp2_with fail
            go_meet
            exact ⟨bw, hbwb.1, hbwb.2, Lib.hid (HS8.out.more (by omega)), HB8, HO8, HQ8⟩
          · go_wp2_with fail
            refine (pick_any w0 w8 p nc cc (8 + 8 * j + 2 + 2 + 2) ac 25 HC.out HB8.out HS8.out (by omega) (by omega)).mono ?_
            rintro e w9 ⟨z, rfl, z0, z1, hs9, hg9⟩
            have HS9 := Lib.hid hs9
            have HB9 := Lib.hid (HB8.out.grown hg9 (fun k h => by cases h; exact hp1))
            have HO9 := Lib.hid (own_drawn HO8.out hg9 (fun e => by have h1 : g = p := (by simpa [Value.ownBlock] using e); omega))
            have HQ9 := Lib.hid (own_drawn HQ8.out hg9 (fun e => by have h1 : q = p := (by simpa [Value.ownBlock] using e); omega))
            obtain ⟨q0, q1⟩ := box2_at HQ9.out
            have f0 := HQ9.out.frozenAt 0
            have hst := HQ9.out.stored 0 (.int .i64 (1 + z))
            have HQa := Lib.hid (show (w9.setCell ⟨q, 0, none⟩ (.int .i64 (1 + z))).ownsRow w0.heap.size 72 2 (.slice (some ⟨q, 0, none⟩) 1 1) 1 [.int .i64 (1 + z), .int .i64 bh] from hst.1)
            have HOa := Lib.hid (own_grown_ne HO9.out hst.2 (fun b hb e => by have h1 : g = b := (by simpa [Value.ownBlock] using hb); have h2 : q = b := (by simpa [Value.ownBlock] using e); omega))
            have HSa := Lib.hid (HS9.out.grown hst.2 (fun e => by have h1 : q = p := (by simpa [Value.ownBlock] using e); omega))
            have HBa := Lib.hid (HB9.out.grown hst.2 (fun k h => by cases h; exact (own_block (b := q) HQ9.out rfl).1))
            clear hs9 hg9 hst
            go_wp2_with fail
            go_meet
            exact ⟨1 + z, by omega, by omega, Lib.hid (HSa.out.more (by omega)), HBa, HOa, HQa⟩
        case rest =>
          obtain ⟨bw2, bw3, bw4, hsc, hbc, hoc, hqc⟩ := hcut
          clear HQ7 HO7 HS7 HB7 HS8 HB8 HO8 HQ8 HW5 HS5 HB5 HO5 HQ5 HB2 HO2
          obtain ⟨q0, q1⟩ := box2_at hqc.out
          have hps := hsc.out.base.2
          go_wp2_with (at_builtin; refine appBlock (by rfl) _ _ (by rfl) w0.heap.size _ _ _ (by rfl) hoc.out _ _ 1 wc.heap.size (by simp) (by rfl) (by omega) hbc.out ?_; intro g5 cap5 w5 ho5 hb5 hg5 hat5; have Ho5 := Lib.hid ho5; have Hb5 := Lib.hid hb5; have Hs5 := Lib.hid (hsc.out.grown hg5 (fun e => by have h1 : g = p := (by simpa [Value.ownBlock] using e); omega)); have Hg5 := Lib.hid (grow_far hat5 hpg hps); clear ho5 hb5 hg5 hat5)
          have hg5' := Hg5.out
          go_roundw
          case rel => exact ⟨j + 1, k - 1, rfl, by omega, by omega, g5, cap5, zs ++ [bw2, bh], rfl, hg5', Lib.hid ⟨by simp [hzs.out.1]; omega, wf_two hzs.out.2 (wf_small (by omega) (by omega)) (wf_small (by omega) (by omega))⟩, Hs5, Lib.hid (by rw [List.map_append]; exact Ho5.out), Hb5⟩
          case measure => simp [intOf]; omega
      · obtain rfl : k = 0 := by omega
        have hj10 : j ≤ 10 := by omega
        go_wp2_with fail
        refine (pick_any w0 wr p nc cc (8 + 8 * j) ac 24 HC.out hbw.out hsrc.out (by omega) (by omega)).mono ?_
        rintro e w2 ⟨r, rfl, s0, s1, hs2, hg2⟩
        have hps := hs2.base.2
        have HS2 := Lib.hid hs2
        have HB2 := Lib.hid (hbw.out.grown hg2 (fun k h => by cases h; exact hp1))
        have HO2 := Lib.hid (own_drawn hown.out hg2 (fun e => by have h1 : g = p := (by simpa [Value.ownBlock] using e); omega))
        clear hs2 hg2
        by_cases h0 : r = 0
        · subst h0
          have HAm := Lib.hid (among_lit w0 w2 p nc cc (8 + 8 * j + 2) 5 2 ac [-1, 0, 1, 5000, 5001] rfl (by omega) (by omega) HC.out HB2.out HS2.out (by omega))
          go_wp2_with fail
          refine HAm.out.mono ?_
          rintro e w3 ⟨u, rfl, hu, _, hg3⟩
          have HB3 := Lib.hid (HB2.out.grown hg3 (fun k h => by cases h; exact hp1))
          have HO3 := Lib.hid (own_drawn HO2.out hg3 (fun e => by have h1 : g = p := (by simpa [Value.ownBlock] using e); omega))
          have HU := Lib.hid (show (Lit.int .i64 u).wf = true by simp only [List.mem_cons, List.not_mem_nil, or_false] at hu; exact wf_small (by omega) (by omega))
          clear hg3 hu
          go_wp2_with fail
          go_ret2
          exact ⟨g, j, co, zs, u, rfl, hzs.out.1, by omega, hzs.out.2, HU.out, CellsAt.of_own HO3.out, HB3.out⟩
        · by_cases h1 : r = 1
          · subst h1
            have HAm := Lib.hid (among_lit w0 w2 p nc cc (8 + 8 * j + 2) 4 2 ac [-1, 0, roll, roll + 1] rfl (by omega) (by omega) HC.out HB2.out HS2.out (by omega))
            go_wp2_with fail
            refine HAm.out.mono ?_
            rintro e w3 ⟨u, rfl, hu, _, hg3⟩
            have HB3 := Lib.hid (HB2.out.grown hg3 (fun k h => by cases h; exact hp1))
            have HO3 := Lib.hid (own_drawn HO2.out hg3 (fun e => by have h1 : g = p := (by simpa [Value.ownBlock] using e); omega))
            have HU := Lib.hid (show (Lit.int .i64 u).wf = true by simp only [List.mem_cons, List.not_mem_nil, or_false] at hu; exact wf_small (by omega) (by omega))
            clear hg3 hu
            go_wp2_with (at_builtin; refine appBlock (by rfl) _ _ (by rfl) w0.heap.size _ _ _ (by rfl) HO3.out _ _ 1 w3.heap.size (by simp) (by rfl) (by omega) HB3.out ?_; intro g5 cap5 w5 ho5 hb5 _ _; have Ho5 := Lib.hid ho5; have Hb5 := Lib.hid hb5; clear ho5 hb5)
            go_ret2
            exact ⟨g5, j + 1, cap5, zs ++ [u, 5], roll, rfl, by simp [hzs.out.1]; omega, by omega, wf_two hzs.out.2 HU.out (wf_small (by omega) (by omega)), wf_small (by omega) (by omega), by have h := CellsAt.of_own Ho5.out; rw [List.map_append]; exact h, Hb5.out⟩
          · by_cases h2 : r = 2
            · subst h2
              have HAm := Lib.hid (among_lit w0 w2 p nc cc (8 + 8 * j + 2) 4 2 ac [-1, 0, 5000, 5001] rfl (by omega) (by omega) HC.out HB2.out HS2.out (by omega))
              go_wp2_with fail
              refine HAm.out.mono ?_
              rintro e w3 ⟨u, rfl, hu, _, hg3⟩
              have HB3 := Lib.hid (HB2.out.grown hg3 (fun k h => by cases h; exact hp1))
              have HO3 := Lib.hid (own_drawn HO2.out hg3 (fun e => by have h1 : g = p := (by simpa [Value.ownBlock] using e); omega))
              have HU := Lib.hid (show (Lit.int .i64 u).wf = true by simp only [List.mem_cons, List.not_mem_nil, or_false] at hu; exact wf_small (by omega) (by omega))
              clear hg3 hu
              go_wp2_with (at_builtin; refine appBlock (by rfl) _ _ (by rfl) w0.heap.size _ _ _ (by rfl) HO3.out _ _ 1 w3.heap.size (by simp) (by rfl) (by omega) HB3.out ?_; intro g5 cap5 w5 ho5 hb5 _ _; have Ho5 := Lib.hid ho5; have Hb5 := Lib.hid hb5; clear ho5 hb5)
              go_ret2
              exact ⟨g5, j + 1, cap5, zs ++ [5, u], roll, rfl, by simp [hzs.out.1]; omega, by omega, wf_two hzs.out.2 (wf_small (by omega) (by omega)) HU.out, wf_small (by omega) (by omega), by have h := CellsAt.of_own Ho5.out; rw [List.map_append]; exact h, Hb5.out⟩
            · have e0 : (r == 0) = false := by simpa using h0
              have e1 : (r == 1) = false := by simpa using h1
              have e2 : (r == 2) = false := by simpa using h2
              go_wp2_with fail
              go_ret2
              exact ⟨g, j, co, zs, roll, rfl, hzs.out.1, by omega, hzs.out.2, wf_small (by omega) (by omega), CellsAt.of_own HO2.out, HB2.out⟩
theorem drawBlocks_any (w : World) (nc cc : Nat) (ac : Option Addr) (hc : CodeAt w ac nc) : Calls Try.prog 36 #[.slice ac nc cc] w (BlocksEnd w) := by
  have HC := Lib.hid hc
  clear hc
  go_enter Try.func36, Try.ntmps36
  go_wp2_with (go_at_call 67; go_in)
  refine (l00From_any w w.heap.size ac nc cc (Nat.le_refl _)).mono ?_
  rintro e w1 ⟨rfl, hs1, hb1⟩
  have HS1 := Lib.hid hs1
  have HB1 := Lib.hid (Bel.of hb1)
  clear hs1 hb1
  go_wp2_with fail
  refine (blocksDraw_any w w1 w.heap.size nc cc ac HC.out HB1.out HS1.out).mono ?_
  rintro e w2 ⟨g, n, c, zs, roll, rfl, hl, hn, hwf, hwr, hcz, hb2⟩
  have HE := Lib.hid (show BlocksEnd w (.returned (.tuple #[.slice (some ⟨g, 0, none⟩) n c, .int .i64 roll])) w2 from ⟨g, n, c, zs, roll, rfl, hl, hn, hwf, hwr, hcz, hb2⟩)
  clear hl hn hwf hwr hcz hb2
  go_wp2_with fail
  go_ret2
  exact HE.out
end Go.Proofs.Ytoomkeicfdmdoaa
