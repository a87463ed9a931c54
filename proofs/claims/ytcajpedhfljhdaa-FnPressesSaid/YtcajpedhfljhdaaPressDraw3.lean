/-
  Contract of the draw of a plan of presses. No condition of its own.
-/
import Derived.Test.YtcajpedhfljhdaaPressDraw2
namespace Go.Proofs.Ytcajpedhfljhdaa
open Go.ChangeShapes Go.WideShapes Go.ChangeAt Go.RowKit Go.Deep

/-- A drawn glue, two lists of minutes and a number of presses. -/
def AskEnd (w : World) (e : Ending) (w' : World) : Prop :=
  ∃ (d o q : Int) (a : Option Addr) (n c : Nat) (xs : List Int) (a' : Option Addr) (m c' : Nat) (ys : List Int) (pr : Int), e = .returned (.tuple #[.agg #[.int .i64 d, .int .i64 o, .int .i64 q], .slice a n c, .slice a' m c', .int .i64 pr]) ∧
    ((Lit.int .i64 d).wf = true ∧ (Lit.int .i64 o).wf = true ∧ (Lit.int .i64 q).wf = true) ∧ xs.length = n ∧ n ≤ 21 ∧ (∀ z ∈ xs, (Lit.int .i64 z).wf = true) ∧ CellsAt w' a (xs.map (Value.int .i64)) ∧ ys.length = m ∧ m ≤ 21 ∧ (∀ z ∈ ys, (Lit.int .i64 z).wf = true) ∧ CellsAt w' a' (ys.map (Value.int .i64)) ∧ (Lit.int .i64 pr).wf = true ∧ Bel w.heap.size w w'
theorem own_capge {W : World} {B E k n c m g : Nat} {cs : List Value} (h : W.ownsRow B E k (.slice (some ⟨g, 0, none⟩) n c) m cs) : n ≤ c := by
  rcases h.2 with ⟨h0, _⟩ | ⟨g', cap, cur, hv, _, _, hc, _⟩
  · cases h0
  · simp only [Value.slice.injEq] at hv
    omega
/-- The second list as the law gets it: whole, or without its first number. -/
def Cut1 (g n : Nat) (v : Value) : Prop := ∃ (a : Option Addr) (m c : Nat), v = .slice a m c ∧ ((m = n ∧ a = some ⟨g, 0, none⟩) ∨ (m + 1 = n ∧ (m = 0 ∨ a = some ⟨g, 1, none⟩)))
theorem Cut1.cells {W : World} {B g n co : Nat} {v : Value} {ys : List Int} (h : Cut1 g n v) (hl : ys.length = n) (hn : n ≤ 21) (hy : ∀ z ∈ ys, (Lit.int .i64 z).wf = true) (ho : W.ownsRow B 2 1 (.slice (some ⟨g, 0, none⟩) n co) n (ys.map (Value.int .i64))) :
    ∃ (a : Option Addr) (m c : Nat) (us : List Int), v = .slice a m c ∧ us.length = m ∧ m ≤ 21 ∧ (∀ z ∈ us, (Lit.int .i64 z).wf = true) ∧ CellsAt W a (us.map (Value.int .i64)) := by
  obtain ⟨a, m, c, rfl, h⟩ := h
  rcases h with ⟨rfl, rfl⟩ | ⟨hm, h⟩
  · exact ⟨_, m, c, ys, rfl, hl, hn, hy, CellsAt.of_own ho⟩
  · refine ⟨a, m, c, ys.drop 1, rfl, by simp [hl]; omega, by omega, fun z hz => hy z (List.mem_of_mem_drop hz), ?_⟩
    rcases h with h | h
    · left
      have : ys.drop 1 = [] := List.eq_nil_of_length_eq_zero (by simp [hl]; omega)
      rw [this]; rfl
    · right
      refine ⟨g, 1, h, (own_block (b := g) ho rfl).2, fun i hi => ?_⟩
      simp only [List.length_map, List.length_drop, hl] at hi
      rw [ho.cellAt (1 + i) (by omega), List.map_drop, List.getElem?_drop]
theorem wf_small3 {zs : List Int} {z : Int} (h : ∀ x ∈ zs, (Lit.int .i64 x).wf = true) (h0 : 0 ≤ z) (h1 : z ≤ 1000000) : ∀ x ∈ zs ++ [z], (Lit.int .i64 x).wf = true := fun x hx => by
  rcases List.mem_append.1 hx with h2 | h2
  · exact h x h2
  · rw [List.mem_singleton.1 h2]; exact wf_gl (by omega) (by omega)
set_option maxRecDepth 100000 in
set_option maxHeartbeats 12800000 in
theorem drawPressPlan_any (w : World) (nc cc : Nat) (ac : Option Addr) (hc : CodeAt w ac nc) : Calls Try.prog 48 #[.slice ac nc cc] w (AskEnd w) := by
  have HC := Lib.hid hc
  have HR0 := Lib.hid (Obx.new w w.heap.size 25 3 #[.int .i64 0, .int .i64 0, .int .i64 0] (Nat.le_refl _) rfl)
  have HB0 := Lib.hid ((Bel.refl w).alloc (.cells #[.int .i64 0, .int .i64 0, .int .i64 0] 25))
  clear hc
  go_enter Try.func48, Try.ntmps48
  go_wp2_with fail
  refine (l00From_any _ w.heap.size ac nc cc (by simp)).mono ?_
  rintro e w1 ⟨rfl, hs1, hb1⟩
  obtain ⟨p, hp⟩ : ∃ p, p = (w.alloc (.cells #[.int .i64 0, .int .i64 0, .int .i64 0] 25)).heap.size := ⟨_, rfl⟩
  rw [← hp] at hs1 ⊢
  have hpw : w.heap.size < p := by rw [hp]; simp
  have HS1 := Lib.hid hs1
  have HB1 := Lib.hid (HB0.out.step hb1)
  have HR1 := Lib.hid (HR0.out.below hb1)
  have HG := Lib.hid (fun (W W' : World) (h : Bel w.heap.size w W) (hg : W.grownBy W' (some p)) => h.grown hg (fun k h => by cases h; omega))
  clear hs1 hb1 hp
  go_wp2_with fail
  refine (l19Bent_any w w1 p nc cc 0 ac HC.out HB1.out HS1.out (by omega)).mono ?_
  rintro e w2 ⟨d, o, y, rfl, hwf, hs2, hg2⟩
  have HWf := Lib.hid hwf
  obtain ⟨q, hq⟩ : ∃ q, w2.heap.size = q := ⟨_, rfl⟩
  obtain ⟨w3, hw3⟩ : ∃ W, ((w2.alloc (.cells #[.int .i64 d, .int .i64 o, .int .i64 y] 25)).alloc (.cells #[] 2)).alloc (.cells #[] 2) = W := ⟨_, rfl⟩
  have hR2 := HR1.out.grown hg2 (fun e => by have h1 : p = w.heap.size := (by simpa using e); omega)
  have hpq : p < q := by rw [← hq]; exact hs2.base.2
  have hwq := hR2.lt.2
  have HS3 := Lib.hid (show SrcAt w3 w.heap.size p ac nc cc 10 by rw [← hw3]; exact ((hs2.alloc _).alloc _).alloc _)
  have HB3 := Lib.hid (show Bel w.heap.size w w3 by rw [← hw3]; exact (((HG.out _ _ HB1.out hg2).alloc _).alloc _).alloc _)
  have HF3 := Lib.hid (show Obx w3 w.heap.size q 25 3 [.int .i64 d, .int .i64 o, .int .i64 y] by rw [← hw3, ← hq]; exact ((Obx.new w2 w.heap.size 25 3 #[.int .i64 d, .int .i64 o, .int .i64 y] (by omega) rfl).alloc _).alloc _)
  have HR3 := Lib.hid (show Obx w3 w.heap.size w.heap.size 25 3 [.int .i64 0, .int .i64 0, .int .i64 0] by rw [← hw3]; exact ((hR2.alloc _).alloc _).alloc _)
  have HX3 := Lib.hid (show w3.ownsRow w.heap.size 2 1 (.slice (some ⟨q + 1, 0, none⟩) 0 0) 0 [] by
    rw [← hw3, ← hq]
    have h := (own_none' (w2.alloc (.cells #[.int .i64 d, .int .i64 o, .int .i64 y] 25)) w.heap.size 2 1 (by simp; omega)).alloc (.cells #[] 2)
    rw [World.size_alloc] at h
    exact h)
  have HY3 := Lib.hid (show w3.ownsRow w.heap.size 2 1 (.slice (some ⟨q + 1 + 1, 0, none⟩) 0 0) 0 [] by
    rw [← hw3, ← hq]
    have h := own_none' ((w2.alloc (.cells #[.int .i64 d, .int .i64 o, .int .i64 y] 25)).alloc (.cells #[] 2)) w.heap.size 2 1 (by simp; omega)
    rw [World.size_alloc, World.size_alloc] at h
    exact h)
  have HW3 := Lib.hid hw3
  have hqr : w.heap.size ≠ q := by omega
  have HD := Lib.hid (fun (W W' : World) (x m b : Nat) (us : List Value) (hx : p < x) (h : W.ownsRow w.heap.size 2 1 (.slice (some ⟨x, 0, none⟩) m b) m us) (hg : W.grownBy W' (some p)) => own_drawn h hg (fun e => by have h1 : x = p := (by simpa [Value.ownBlock] using e); omega))
  have HDB := Lib.hid (fun (W W' : World) (x : Nat) (us : List Value) (hx : x ≠ p) (h : Obx W w.heap.size x 25 3 us) (hg : W.grownBy W' (some p)) => h.grown hg (fun e => hx (by have h1 : p = x := (by simpa using e); exact h1.symm)))
  clear hwf hs2 hg2 hw3 hR2 HS1 HB1 HR1 HB0 HR0
  go_wp2_with fail
  rw [HW3.out]
  refine (pick_any w w3 p nc cc 10 ac 7 HC.out HB3.out HS3.out (by omega) (by omega)).mono ?_
  rintro e w4 ⟨n0, rfl, a0, a1, hs4, hg4⟩
  have HS4 := Lib.hid hs4
  have HB4 := Lib.hid (HG.out _ _ HB3.out hg4)
  have HF4 := Lib.hid (HDB.out _ _ _ _ (by omega) HF3.out hg4)
  have HR4 := Lib.hid (HDB.out _ _ _ _ (by omega) HR3.out hg4)
  have HX4 := Lib.hid (HD.out _ _ _ _ _ _ (by omega) HX3.out hg4)
  have HY4 := Lib.hid (HD.out _ _ _ _ _ _ (by omega) HY3.out hg4)
  clear hs4 hg4 HS3 HB3 HF3 HR3 HX3 HY3 HW3
  go_wp2_with fail
  refine (one_any w w4 p nc cc 12 ac 24 HC.out HB4.out HS4.out (by omega) (by omega)).mono ?_
  rintro e w5 ⟨qb, rfl, hs5, hg5⟩
  have HS5 := Lib.hid hs5
  have HB5 := Lib.hid (HG.out _ _ HB4.out hg5)
  have HF5 := Lib.hid (HDB.out _ _ _ _ (by omega) HF4.out hg5)
  have HR5 := Lib.hid (HDB.out _ _ _ _ (by omega) HR4.out hg5)
  have HX5 := Lib.hid (HD.out _ _ _ _ _ _ (by omega) HX4.out hg5)
  have HY5 := Lib.hid (HD.out _ _ _ _ _ _ (by omega) HY4.out hg5)
  clear hs5 hg5 HS4 HB4 HF4 HR4 HX4 HY4
  go_upto_if 22 with fail
  go_cut [10] (fun t10 W => ∃ N : Nat, t10 = .int .i64 (N : Int) ∧ N ≤ 21 ∧ Hid (SrcAt W w.heap.size p ac nc cc 16) ∧ Hid (Bel w.heap.size w W) ∧ Hid (Obx W w.heap.size q 25 3 [.int .i64 d, .int .i64 o, .int .i64 y]) ∧ Hid (Obx W w.heap.size w.heap.size 25 3 [.int .i64 0, .int .i64 0, .int .i64 0]) ∧ Hid (W.ownsRow w.heap.size 2 1 (.slice (some ⟨q + 1, 0, none⟩) 0 0) 0 []) ∧ Hid (W.ownsRow w.heap.size 2 1 (.slice (some ⟨q + 1 + 1, 0, none⟩) 0 0) 0 []))
  case first =>
    cases qb
    · go_wp2_with fail
      go_meet
      exact ⟨n0.toNat, by rw [show ((n0.toNat : Nat) : Int) = n0 by omega], by omega, Lib.hid (HS5.out.more (by omega)), HB5, HF5, HR5, HX5, HY5⟩
    · go_wp2_with fail
      refine (pick_any w w5 p nc cc 14 ac 2 HC.out HB5.out HS5.out (by omega) (by omega)).mono ?_
      rintro e w6 ⟨r6, rfl, d0, d1, hs6, hg6⟩
      have HS6 := Lib.hid hs6
      have HB6 := Lib.hid (HG.out _ _ HB5.out hg6)
      have HF6 := Lib.hid (HDB.out _ _ _ _ (by omega) HF5.out hg6)
      have HR6 := Lib.hid (HDB.out _ _ _ _ (by omega) HR5.out hg6)
      have HX6 := Lib.hid (HD.out _ _ _ _ _ _ (by omega) HX5.out hg6)
      have HY6 := Lib.hid (HD.out _ _ _ _ _ _ (by omega) HY5.out hg6)
      clear hs6 hg6
      go_wp2_with fail
      go_meet
      exact ⟨(20 + r6).toNat, by rw [show (((20 + r6).toNat : Nat) : Int) = 20 + r6 by omega], by omega, HS6, HB6, HF6, HR6, HX6, HY6⟩
  case rest =>
    obtain ⟨N, rfl, hN, hsc, hbc, hfc, hrc, hxc, hyc⟩ := hcut
    clear HS5 HB5 HF5 HR5 HX5 HY5 a0 a1
    go_wp2_with fail
    refine (pick_any w wc p nc cc 16 ac 20 HC.out hbc.out hsc.out (by omega) (by omega)).mono ?_
    rintro e w6 ⟨at0, rfl, t0, t1, hs6, hg6⟩
    have HS6 := Lib.hid hs6
    have HB6 := Lib.hid (HG.out _ _ hbc.out hg6)
    have HF6 := Lib.hid (HDB.out _ _ _ _ (by omega) hfc.out hg6)
    have HR6 := Lib.hid (HDB.out _ _ _ _ (by omega) hrc.out hg6)
    have HX6 := Lib.hid (HD.out _ _ _ _ _ _ (by omega) hxc.out hg6)
    have HY6 := Lib.hid (HD.out _ _ _ _ _ _ (by omega) hyc.out hg6)
    have ht : at0 ≤ 19 := by omega
    clear hs6 hg6 hsc hbc hfc hrc hxc hyc t1 hq
    go_wp2_with fail
    go_loopw [8, 9, 11, 12] (fun v1 v2 va u wr => ∃ k : Nat, k ≤ N ∧ u = .int .i64 (k : Int) ∧ ∃ (at1 : Int) (g1 c1 g2 c2 : Nat) (xs ys : List Int), va = .int .i64 at1 ∧ 0 ≤ at1 ∧ at1 ≤ 19 + 24 * k ∧ v1 = .slice (some ⟨g1, 0, none⟩) k c1 ∧ v2 = .slice (some ⟨g2, 0, none⟩) k c2 ∧ p < g1 ∧ p < g2 ∧ q < g1 ∧ q < g2 ∧ g1 ≠ g2 ∧ Hid (xs.length = k ∧ ys.length = k ∧ (∀ z ∈ xs, (Lit.int .i64 z).wf = true) ∧ (∀ z ∈ ys, (Lit.int .i64 z).wf = true)) ∧ Hid (SrcAt wr w.heap.size p ac nc cc (18 + 4 * k)) ∧ Hid (wr.ownsRow w.heap.size 2 1 (.slice (some ⟨g1, 0, none⟩) k c1) k (xs.map (Value.int .i64))) ∧ Hid (wr.ownsRow w.heap.size 2 1 (.slice (some ⟨g2, 0, none⟩) k c2) k (ys.map (Value.int .i64))) ∧ Hid (Bel w.heap.size w wr) ∧ Hid (Obx wr w.heap.size q 25 3 [.int .i64 d, .int .i64 o, .int .i64 y]) ∧ Hid (Obx wr w.heap.size w.heap.size 25 3 [.int .i64 0, .int .i64 0, .int .i64 0])) (fun _ _ _ u _ => N - (intOf u).toNat)
    case atStart => exact ⟨0, Nat.zero_le _, rfl, at0, q + 1, 0, q + 1 + 1, 0, [], [], rfl, t0, by omega, rfl, rfl, by omega, by omega, by omega, by omega, by omega, Lib.hid ⟨rfl, rfl, (fun z hz => by cases hz), (fun z hz => by cases hz)⟩, HS6, HX6, HY6, HB6, HF6, HR6⟩
    case round =>
      clear HS6 HB6 HF6 HR6 HX6 HY6
      obtain ⟨k, hk, rfl, at1, g1, c1, g2, c2, xs, ys, rfl, u0, u1, rfl, rfl, hp1, hp2, hq1, hq2, hne, hlw, hsr, hxr, hyr, hbr, hfr, hrr⟩ := hrel
      by_cases hlt : k < N
      · have hlt' : (k : Int) < (N : Int) := by omega
        have hgl2 : g2 < wr.heap.size := (own_block hyr.out rfl).2
        have hgq : q < wr.heap.size := hfr.out.lt.2
        go_wp2_with (at_builtin; refine appJ (by rfl) _ _ (by rfl) w.heap.size _ _ _ (by rfl) hxr.out _ 1 wr.heap.size (by simp) (by rfl) (by omega) hbr.out ?_; intro g5 cap5 w5 ho5 hb5 hg5 hat5; have Ho5 := Lib.hid ho5; have Hb5 := Lib.hid hb5; have Hs5 := Lib.hid (hsr.out.grown hg5 (fun e => by have h1 : g1 = p := (by simpa [Value.ownBlock] using e); omega)); have Hy5 := Lib.hid (own_grown_ne hyr.out hg5 (fun b hb e => by have h1 : g2 = b := (by simpa [Value.ownBlock] using hb); have h2 : g1 = b := (by simpa [Value.ownBlock] using e); omega)); have Hf5 := Lib.hid (hfr.out.grown hg5 (fun e => by have h1 : g1 = q := (by simpa [Value.ownBlock] using e); omega)); have Hr5 := Lib.hid (hrr.out.grown hg5 (fun e => by have h1 : g1 = w.heap.size := (by simpa [Value.ownBlock] using e); omega)); have Hg5 := Lib.hid (show p < g5 ∧ q < g5 ∧ g5 ≠ g2 by rcases hat5 with h | h; (have h1 : g1 = g5 := (by simpa [Value.ownBlock] using h); omega); omega); clear ho5 hb5 hg5 hat5)
        refine (pick_any w w5 p nc cc (18 + 4 * k) ac 8 HC.out Hb5.out Hs5.out (by omega) (by omega)).mono ?_
        rintro e w6 ⟨r6, rfl, v0, v1, hs6, hg6⟩
        have HS6 := Lib.hid hs6
        have HB6 := Lib.hid (HG.out _ _ Hb5.out hg6)
        have HF6 := Lib.hid (HDB.out _ _ _ _ (by omega) Hf5.out hg6)
        have HR6 := Lib.hid (HDB.out _ _ _ _ (by omega) Hr5.out hg6)
        have HX6 := Lib.hid (HD.out _ _ _ _ _ _ Hg5.out.1 Ho5.out hg6)
        have HY6 := Lib.hid (HD.out _ _ _ _ _ _ hp2 Hy5.out hg6)
        have hgl5 : g5 < w6.heap.size := (own_block HX6.out rfl).2
        have hgl6 : g2 < w6.heap.size := (own_block HY6.out rfl).2
        have hgq6 : q < w6.heap.size := HF6.out.lt.2
        have r6b : r6 ≤ 7 := by omega
        have hg5a := Hg5.out.1
        have hg5b := Hg5.out.2.1
        have hg5c := Hg5.out.2.2
        clear hs6 hg6 Ho5 Hb5 Hs5 Hy5 Hf5 Hr5 Hg5 v1
        go_wp2_with (at_builtin; refine appJ (by rfl) _ _ (by rfl) w.heap.size _ _ _ (by rfl) HY6.out _ 1 w6.heap.size (by simp) (by rfl) (by omega) HB6.out ?_; intro g7 cap7 w7 ho7 hb7 hg7 hat7; have Ho7 := Lib.hid ho7; have Hb7 := Lib.hid hb7; have Hs7 := Lib.hid (HS6.out.grown hg7 (fun e => by have h1 : g2 = p := (by simpa [Value.ownBlock] using e); omega)); have Hx7 := Lib.hid (own_grown_ne HX6.out hg7 (fun b hb e => by have h1 : g5 = b := (by simpa [Value.ownBlock] using hb); have h2 : g2 = b := (by simpa [Value.ownBlock] using e); omega)); have Hf7 := Lib.hid (HF6.out.grown hg7 (fun e => by have h1 : g2 = q := (by simpa [Value.ownBlock] using e); omega)); have Hr7 := Lib.hid (HR6.out.grown hg7 (fun e => by have h1 : g2 = w.heap.size := (by simpa [Value.ownBlock] using e); omega)); have Hg7 := Lib.hid (show p < g7 ∧ q < g7 ∧ g5 ≠ g7 by rcases hat7 with h | h; (have h1 : g2 = g7 := (by simpa [Value.ownBlock] using h); omega); omega); clear ho7 hb7 hg7 hat7)
        refine (pick_any w w7 p nc cc (18 + 4 * k + 2) ac 25 HC.out Hb7.out Hs7.out (by omega) (by omega)).mono ?_
        rintro e w8 ⟨r8, rfl, v0', v1', hs8, hg8⟩
        have HS8 := Lib.hid (hs8.more (show 18 + 4 * k + 2 + 2 ≤ 18 + 4 * (k + 1) by omega))
        have HB8 := Lib.hid (HG.out _ _ Hb7.out hg8)
        have HF8 := Lib.hid (HDB.out _ _ _ _ (by omega) Hf7.out hg8)
        have HR8 := Lib.hid (HDB.out _ _ _ _ (by omega) Hr7.out hg8)
        have HX8 := Lib.hid (HD.out _ _ _ _ _ _ hg5a Hx7.out hg8)
        have HY8 := Lib.hid (HD.out _ _ _ _ _ _ Hg7.out.1 Ho7.out hg8)
        have r8b : r8 ≤ 24 := by omega
        have hg7a := Hg7.out.1
        have hg7b := Hg7.out.2.1
        have hg7c := Hg7.out.2.2
        clear hs8 hg8 Ho7 Hb7 Hs7 Hx7 Hf7 Hr7 Hg7 v1'
        go_wp2_with fail
        go_roundw
        case rel => exact ⟨k + 1, by omega, by go_num, at1 + r8, g5, cap5, g7, cap7, xs ++ [at1], ys ++ [at1 + r6], rfl, by omega, by omega, rfl, rfl, hg5a, hg7a, hg5b, hg7b, hg7c, Lib.hid ⟨by simp [hlw.out.1], by simp [hlw.out.2.1], wf_small3 hlw.out.2.2.1 (by omega) (by omega), wf_small3 hlw.out.2.2.2 (by omega) (by omega)⟩, HS8, Lib.hid (by rw [List.map_append]; exact HX8.out), Lib.hid (by rw [List.map_append]; exact HY8.out), HB8, HF8, HR8⟩
        case measure => simp [intOf]; omega
      · obtain rfl : k = N := by omega
        have hlt' : ¬ (k : Int) < (k : Int) := by omega
        have hc2 := own_capge hyr.out
        go_upto_if 49 with fail
        go_cut [9] (fun t9 W => Hid (Cut1 g2 k t9) ∧ ∃ us : List Int, Hid (us.length = k ∧ ∀ z ∈ us, (Lit.int .i64 z).wf = true) ∧ Hid (SrcAt W w.heap.size p ac nc cc 200) ∧ Hid (W.ownsRow w.heap.size 2 1 (.slice (some ⟨g1, 0, none⟩) k c1) k (us.map (Value.int .i64))) ∧ Hid (W.ownsRow w.heap.size 2 1 (.slice (some ⟨g2, 0, none⟩) k c2) k (ys.map (Value.int .i64))) ∧ Hid (Bel w.heap.size w W) ∧ Hid (Obx W w.heap.size q 25 3 [.int .i64 d, .int .i64 o, .int .i64 y]) ∧ Hid (Obx W w.heap.size w.heap.size 25 3 [.int .i64 0, .int .i64 0, .int .i64 0]))
        case first =>
          by_cases hk0 : 0 < k
          · have hk' : (0 : Int) < (k : Int) := by omega
            go_wp2_with fail
            refine (pick_any w wr p nc cc (18 + 4 * k) ac 16 HC.out hbr.out hsr.out (by omega) (by omega)).mono ?_
            rintro e w6 ⟨r, rfl, ra, rb, hs6, hg6⟩
            have HS6 := Lib.hid hs6
            have HB6 := Lib.hid (HG.out _ _ hbr.out hg6)
            have HF6 := Lib.hid (HDB.out _ _ _ _ (by omega) hfr.out hg6)
            have HR6 := Lib.hid (HDB.out _ _ _ _ (by omega) hrr.out hg6)
            have HX6 := Lib.hid (HD.out _ _ _ _ _ _ hp1 hxr.out hg6)
            have HY6 := Lib.hid (HD.out _ _ _ _ _ _ hp2 hyr.out hg6)
            clear hs6 hg6
            by_cases h0 : r = 0
            · subst h0
              have HAm := Lib.hid (among_lit w w6 p nc cc (18 + 4 * k + 2) 4 2 ac [-1, 0, 50000, 50001] rfl (by omega) (by omega) HC.out HB6.out HS6.out (by omega))
              go_wp2_with fail
              refine HAm.out.mono ?_
              rintro e w7 ⟨u, rfl, hu, hs7, hg7⟩
              have HS7 := Lib.hid hs7
              have HB7 := Lib.hid (HG.out _ _ HB6.out hg7)
              have HF7 := Lib.hid (HDB.out _ _ _ _ (by omega) HF6.out hg7)
              have HR7 := Lib.hid (HDB.out _ _ _ _ (by omega) HR6.out hg7)
              have HX7 := Lib.hid (HD.out _ _ _ _ _ _ hp1 HX6.out hg7)
              have HY7 := Lib.hid (HD.out _ _ _ _ _ _ hp2 HY6.out hg7)
              have HU := Lib.hid (show (Lit.int .i64 u).wf = true by simp only [List.mem_cons, List.not_mem_nil, or_false] at hu; exact wf_gl (by omega) (by omega))
              have hst := HX7.out.stored 0 (.int .i64 u)
              rw [← List.map_set] at hst
              have f0 := HX7.out.frozenAt 0
              have hcx : ∃ v, w7.cell? ⟨g1, 0, none⟩ = some v := by
                rw [HX7.out.cellAt 0 (by omega)]
                exact ⟨_, List.getElem?_eq_getElem (by have := hlw.out.1; simp; omega)⟩
              obtain ⟨vx, k0⟩ := hcx
              have HX8 := Lib.hid hst.1
              have HY8 := Lib.hid (own_grown_ne HY7.out hst.2 (fun b hb e => hne (by have h1 : g2 = b := (by simpa [Value.ownBlock] using hb); have h2 : g1 = b := (by simpa [Value.ownBlock] using e); omega)))
              have HS8 := Lib.hid (HS7.out.grown hst.2 (fun e => by have h1 : g1 = p := (by simpa [Value.ownBlock] using e); omega))
              have HB8 := Lib.hid (HB7.out.grown hst.2 (fun j hj => (own_block HX7.out hj).1))
              have HF8 := Lib.hid (HF7.out.grown hst.2 (fun e => by have h1 : g1 = q := (by simpa [Value.ownBlock] using e); omega))
              have HR8 := Lib.hid (HR7.out.grown hst.2 (fun e => by have h1 : g1 = w.heap.size := (by simpa [Value.ownBlock] using e); omega))
              clear hs7 hg7 hu hst
              go_wp2_with fail
              go_meet
              exact ⟨Lib.hid ⟨_, _, _, rfl, .inl ⟨rfl, rfl⟩⟩, xs.set 0 u, Lib.hid ⟨by rw [List.length_set]; exact hlw.out.1, wf_setW hlw.out.2.2.1 HU.out⟩, Lib.hid (HS8.out.more (by omega)), HX8, HY8, HB8, HF8, HR8⟩
            · by_cases h1 : r = 1
              · subst h1
                have hk1 : (1 : Int) ≤ (k : Int) := by omega
                have hc1 : (1 : Int) ≤ (c2 : Int) := by omega
                have hk1' : 1 ≤ k := by omega
                have hc1' : 1 ≤ c2 := by omega
                go_wp2_with fail
                all_goals
                  go_meet
                  refine ⟨Lib.hid ⟨_, _, _, rfl, .inr ⟨by omega, ?_⟩⟩, xs, Lib.hid ⟨hlw.out.1, hlw.out.2.2.1⟩, Lib.hid (HS6.out.more (by omega)), HX6, HY6, HB6, HF6, HR6⟩
                  first
                    | (right; rfl)
                    | (left; omega)
              · have e0 : (r == 0) = false := by simpa using h0
                have e1 : (r == 1) = false := by simpa using h1
                go_wp2_with fail
                go_meet
                exact ⟨Lib.hid ⟨_, _, _, rfl, .inl ⟨rfl, rfl⟩⟩, xs, Lib.hid ⟨hlw.out.1, hlw.out.2.2.1⟩, Lib.hid (HS6.out.more (by omega)), HX6, HY6, HB6, HF6, HR6⟩
          · have hk' : ¬ (0 : Int) < (k : Int) := by omega
            go_wp2_with fail
            go_meet
            exact ⟨Lib.hid ⟨_, _, _, rfl, .inl ⟨rfl, rfl⟩⟩, xs, Lib.hid ⟨hlw.out.1, hlw.out.2.2.1⟩, Lib.hid (hsr.out.more (by omega)), hxr, hyr, hbr, hfr, hrr⟩
        case rest =>
          have HLY := Lib.hid (And.intro hlw.out.2.1 hlw.out.2.2.2)
          obtain ⟨hcut1, us, hus, hsc, hxc, hyc, hbc, hfc, hrc⟩ := hcut
          clear hsr hxr hyr hbr hfr hrr hlw
          obtain ⟨a9, m9, c9, vs, hv9, hvl, hm9, hvw, _⟩ := hcut1.out.cells HLY.out.1 hN HLY.out.2 hyc.out
          have HCut := Lib.hid (fun (W : World) (h : W.ownsRow w.heap.size 2 1 (.slice (some ⟨g2, 0, none⟩) k c2) k (ys.map (Value.int .i64))) => hcut1.out.cells HLY.out.1 hN HLY.out.2 h)
          clear hv9 hvl hm9 hvw
          go_wp2_with fail
          refine (one_any w _ p nc cc 200 ac 10 HC.out hbc.out hsc.out (by omega) (by omega)).mono ?_
          rintro e w6 ⟨qc, rfl, hs6, hg6⟩
          have HS6 := Lib.hid hs6
          have HB6 := Lib.hid (HG.out _ _ hbc.out hg6)
          have HF6 := Lib.hid (HDB.out _ _ _ _ (by omega) hfc.out hg6)
          have HR6 := Lib.hid (HDB.out _ _ _ _ (by omega) hrc.out hg6)
          have HX6 := Lib.hid (HD.out _ _ _ _ _ _ hp1 hxc.out hg6)
          have HY6 := Lib.hid (HD.out _ _ _ _ _ _ hp2 hyc.out hg6)
          have HPr := Lib.hid (And.intro (show SrcAt w6.drew w.heap.size p ac nc cc 202 from HS6.out) (show Bel w.heap.size w w6.drew from HB6.out.drew))
          obtain ⟨⟨k0, k1, k2⟩, _⟩ := HF6.out.three
          have HAll := Lib.hid (fun (W : World) (hg : w6.grownBy W (some p)) => (show (W.cell? ⟨q, 0, none⟩ = some (.int .i64 d) ∧ W.cell? ⟨q, 1, none⟩ = some (.int .i64 o) ∧ W.cell? ⟨q, 2, none⟩ = some (.int .i64 y)) ∧ (((((W.setCell ⟨w.heap.size, 0, none⟩ (.int .i64 d)).setCell ⟨w.heap.size, 1, none⟩ (.int .i64 o)).setCell ⟨w.heap.size, 2, none⟩ (.int .i64 y)).cell? ⟨q, 0, none⟩ = some (.int .i64 d)) ∧ ((((W.setCell ⟨w.heap.size, 0, none⟩ (.int .i64 d)).setCell ⟨w.heap.size, 1, none⟩ (.int .i64 o)).setCell ⟨w.heap.size, 2, none⟩ (.int .i64 y)).cell? ⟨q, 1, none⟩ = some (.int .i64 o)) ∧ ((((W.setCell ⟨w.heap.size, 0, none⟩ (.int .i64 d)).setCell ⟨w.heap.size, 1, none⟩ (.int .i64 o)).setCell ⟨w.heap.size, 2, none⟩ (.int .i64 y)).cell? ⟨q, 2, none⟩ = some (.int .i64 y))) ∧ Obx W w.heap.size w.heap.size 25 3 [.int .i64 0, .int .i64 0, .int .i64 0] from by
            have hF := HDB.out _ _ _ _ (show q ≠ p by omega) HF6.out hg
            have hR := HDB.out _ _ _ _ (show w.heap.size ≠ p by omega) HR6.out hg
            have hF2 := ((hF.setOther (q' := w.heap.size) 0 (.int .i64 d) hqr).setOther (q' := w.heap.size) 1 (.int .i64 o) hqr).setOther (q' := w.heap.size) 2 (.int .i64 y) hqr
            exact ⟨hF.three.1, hF2.three.1, hR⟩))
          have HFin := Lib.hid (fun (W : World) (pr : Int) (hpr : (Lit.int .i64 pr).wf = true) (hg : w6.grownBy W (some p)) => (show ∀ v9, Cut1 g2 k v9 → AskEnd w (.returned (.tuple #[.agg #[.int .i64 d, .int .i64 o, .int .i64 y], .slice (some ⟨g1, 0, none⟩) k c1, v9, .int .i64 pr])) (((W.setCell ⟨w.heap.size, 0, none⟩ (.int .i64 d)).setCell ⟨w.heap.size, 1, none⟩ (.int .i64 o)).setCell ⟨w.heap.size, 2, none⟩ (.int .i64 y)) from fun v9 h9 => by
            have hx := HD.out _ _ _ _ _ _ hp1 HX6.out hg
            have hy := HD.out _ _ _ _ _ _ hp2 HY6.out hg
            have hb := HG.out _ _ HB6.out hg
            have hset := fun (W : World) (x m b j : Nat) (us : List Value) (u : Value) (hx : p < x) (h : W.ownsRow w.heap.size 2 1 (.slice (some ⟨x, 0, none⟩) m b) m us) => own_grown_ne h (setCell_grown W w.heap.size j u) (fun b hb e => by have h1 : x = b := (by simpa [Value.ownBlock] using hb); have h2 : w.heap.size = b := (by simpa using e); omega)
            have hx3 := hset _ _ _ _ 2 _ (.int .i64 y) hp1 (hset _ _ _ _ 1 _ (.int .i64 o) hp1 (hset _ _ _ _ 0 _ (.int .i64 d) hp1 hx))
            have hy3 := hset _ _ _ _ 2 _ (.int .i64 y) hp2 (hset _ _ _ _ 1 _ (.int .i64 o) hp2 (hset _ _ _ _ 0 _ (.int .i64 d) hp2 hy))
            obtain ⟨a9, m9, c9, vs, rfl, e1, e2, e3, e4⟩ := h9.cells HLY.out.1 hN HLY.out.2 hy3
            exact ⟨d, o, y, _, k, c1, us, a9, m9, c9, vs, pr, rfl, HWf.out, hus.out.1, hN, hus.out.2, CellsAt.of_own hx3, e1, e2, e3, e4, hpr, ((hb.setCell (p := ⟨w.heap.size, 0, none⟩) (Nat.le_refl _) _).setCell (p := ⟨w.heap.size, 1, none⟩) (Nat.le_refl _) _).setCell (p := ⟨w.heap.size, 2, none⟩) (Nat.le_refl _) _⟩))
          clear hs6 hg6 hsc hxc hyc hbc hfc hrc
          cases qc
          · go_wp2_with fail
            go_region_held3 (fun W => W.cell? ⟨q, 0, none⟩ = some (.int .i64 d) ∧ W.cell? ⟨q, 1, none⟩ = some (.int .i64 o) ∧ W.cell? ⟨q, 2, none⟩ = some (.int .i64 y)) (first | (with_reducible exact hK2) | (with_reducible exact hK3) | go_keep)
              ((go_at_call 78; refine (pick_any w w6.drew p nc cc 202 ac 3 HC.out HPr.out.2 HPr.out.1 (by omega) (by omega)).mono ?_; rintro e w7 ⟨r, rfl, ra, rb, hs7, hg7⟩; have hall := HAll.out w7 (grown_from_drew hg7); have hK2 := hall.1; have hK3 := hall.2.1; have hr0 := hall.2.2.three; obtain ⟨⟨n0, n1, n2⟩, ⟨f0, f1, f2⟩⟩ := hr0; have HE := Lib.hid (HFin.out w7 (IntKind.i64.wrap (1 + r)) (wf_wrap _) (grown_from_drew hg7)); clear hall hs7 hg7))
            have HE2 := Lib.hid (HE.out _ hcut1.out)
            clear hK2 hK3
            go_wp2_with fail
            refine bodyPost_ret (v := .tuple #[.agg #[.int .i64 d, .int .i64 o, .int .i64 y], .slice (some ⟨g1, 0, none⟩) k c1, u9, .int .i64 (IntKind.i64.wrap (1 + r))]) (by simp [results, Try.results48, go_sem, n0, n1, n2]) rfl ?_
            exact HE2.out
          · go_wp2_with fail
            go_region_held3 (fun W => W.cell? ⟨q, 0, none⟩ = some (.int .i64 d) ∧ W.cell? ⟨q, 1, none⟩ = some (.int .i64 o) ∧ W.cell? ⟨q, 2, none⟩ = some (.int .i64 y)) (first | (with_reducible exact hK2) | (with_reducible exact hK3) | go_keep)
              ((go_at_call 80; refine (among_lit w w6.drew p nc cc 202 4 2 ac [-1, 0, 5, 6] rfl (by omega) (by omega) HC.out HPr.out.2 HPr.out.1 (by omega)).mono ?_; rintro e w7 ⟨r, rfl, hu, hs7, hg7⟩; have hall := HAll.out w7 (grown_from_drew hg7); have hK2 := hall.1; have hK3 := hall.2.1; have hr0 := hall.2.2.three; obtain ⟨⟨n0, n1, n2⟩, ⟨f0, f1, f2⟩⟩ := hr0; have hwr : (Lit.int .i64 r).wf = true := (by simp only [List.mem_cons, List.not_mem_nil, or_false] at hu; exact wf_gl (by omega) (by omega)); have HE := Lib.hid (HFin.out w7 r hwr (grown_from_drew hg7)); clear hall hs7 hg7 hu hwr))
            have HE2 := Lib.hid (HE.out _ hcut1.out)
            clear hK2 hK3
            go_wp2_with fail
            refine bodyPost_ret (v := .tuple #[.agg #[.int .i64 d, .int .i64 o, .int .i64 y], .slice (some ⟨g1, 0, none⟩) k c1, u9, .int .i64 r]) (by simp [results, Try.results48, go_sem, n0, n1, n2]) rfl ?_
            exact HE2.out
end Go.Proofs.Ytcajpedhfljhdaa
