/-
  The reference's draw of a fit. No condition of its own.
-/
import Derived.Test.YthemlamdchcicaaGreatDoorTopLasts
import Derived.Test.YthemlamdchcicaaGreatDoorPatNw
namespace Go.Proofs.YthemlamdchcicaaGreatDoor
open Go.ChangeShapes Go.WideShapes Go.ChangeAt Go.RowKit Go.Deep Go.Shelf Go.ChangeMaps

/-- The memory of a draw of a fit: d weights are drawn. -/
structure FMem (w0 w wr : World) (p q : Nat) (ac : Option Addr) (nc cc A : Nat) (mn mx gi : Int) (a : Option Addr) (d c : Nat) (zs : List Int) : Prop where
  res : Obx wr w.heap.size w.heap.size 31 4 [.int .i64 0, .int .i64 0, .int .i64 0, .slice none 0 0]
  x : Obx wr (w.heap.size + 1) q 31 4 [.int .i64 mn, .int .i64 mx, .int .i64 gi, .slice a d c]
  row : wr.ownsRow (w.heap.size + 1) 2 1 (.slice a d c) d (zs.map (Value.int .i64))
  ne : ∀ b, (Value.slice a d c).ownBlock = some b → b ≠ q
  src : SrcAt wr w0.heap.size p ac nc cc A
  bel : Bel w0.heap.size w0 wr
  gr : w.grownBy wr (some p)
  len : zs.length = d
  ok : ∀ z ∈ zs, 0 ≤ z ∧ z ≤ 5
theorem FMem.drawn {w0 w wr w' : World} {p q nc cc A A' d c : Nat} {ac a : Option Addr} {mn mx gi : Int} {zs : List Int} (h : FMem w0 w wr p q ac nc cc A mn mx gi a d c zs) (hp1 : w0.heap.size ≤ p) (hp2 : p < w.heap.size) (hs : SrcAt w' w0.heap.size p ac nc cc A') (hg : wr.grownBy w' (some p)) :
    FMem w0 w w' p q ac nc cc A' mn mx gi a d c zs :=
  ⟨h.res.grown hg (fun e => by have h1 : p = w.heap.size := Option.some.inj e; omega), h.x.grown hg (fun e => by have h1 : p = q := Option.some.inj e; have := h.x.lt.1; omega), own_grown_ne h.row hg (fun b hb e => by have h1 : p = b := Option.some.inj e; have := (own_block h.row hb).1; omega), h.ne, hs, h.bel.grown hg (fun k e => by have h1 : p = k := Option.some.inj e; omega), grown_trans_row h.gr hg, h.len, h.ok⟩
theorem FMem.set {w0 w wr : World} {p q nc cc A d c j : Nat} {ac a : Option Addr} {mn mx gi mn' mx' gi' : Int} {zs : List Int} (h : FMem w0 w wr p q ac nc cc A mn mx gi a d c zs) (hp1 : w0.heap.size ≤ p) (hp2 : p < w.heap.size) (u : Value) (hx : Obx (wr.setCell ⟨q, j, none⟩ u) (w.heap.size + 1) q 31 4 [.int .i64 mn', .int .i64 mx', .int .i64 gi', .slice a d c]) :
    FMem w0 w (wr.setCell ⟨q, j, none⟩ u) p q ac nc cc A mn' mx' gi' a d c zs := by
  have hg := setCell_grown wr q j u
  have hq := h.x.lt
  exact ⟨h.res.setOther (q' := q) j u (by omega), hx, own_grown_ne h.row hg (fun b hb e => h.ne b hb (Option.some.inj e).symm), h.ne, h.src.grown hg (fun e => by have h1 : q = p := Option.some.inj e; omega), h.bel.setCell (p := ⟨q, j, none⟩) (by show w0.heap.size ≤ q; omega) _, grown_new_l h.gr hg (by omega), h.len, h.ok⟩
theorem FMem.more {w0 w w5 w6 : World} {p q nc cc A d c c' : Nat} {ac a a' : Option Addr} {mn mx gi : Int} {zs : List Int} {z : Int} {o : Obj} (h : FMem w0 w w5 p q ac nc cc A mn mx gi a d c zs) (hp2 : p < w.heap.size) (hz : 0 ≤ z ∧ z ≤ 5)
    (hg : (w5.alloc o).grownBy w6 (Value.slice a d c).ownBlock) (ho : w6.ownsRow (w.heap.size + 1) 2 1 (.slice a' (d + 1) c') (d + 1) (zs.map (Value.int .i64) ++ [.int .i64 z]))
    (hat : (Value.slice a' (d + 1) c').ownBlock = (Value.slice a d c).ownBlock ∨ (Value.slice a' (d + 1) c').ownBlock = some (w5.alloc o).heap.size) :
    FMem w0 w (w6.setCell ⟨q, 3, none⟩ (.slice a' (d + 1) c')) p q ac nc cc A mn mx gi a' (d + 1) c' (zs ++ [z]) := by
  have hq := h.x.lt
  have hb5 := h.bel.2
  have hg7 := setCell_grown w6 q 3 (.slice a' (d + 1) c')
  have hlo : ∀ b, (Value.slice a d c).ownBlock = some b → w.heap.size + 1 ≤ b := fun b hb => (own_block h.row hb).1
  have hr6 := Obx.grown (h.res.alloc o) hg (fun e => by have := hlo _ e; omega)
  have hx6 := Obx.grown (h.x.alloc o) hg (fun e => h.ne q e rfl)
  have hs6 := (h.src.alloc o).grown hg (fun e => by have := hlo _ e; omega)
  have hbl : w0.heap.size ≤ w.heap.size := by have := h.src.base.1; omega
  have hb6 := (h.bel.alloc o).grown hg (fun k e => by have := hlo _ e; omega)
  have hw5 : w.heap.size ≤ w5.heap.size := h.gr.size
  have hnb : ∀ b, (Value.slice a' (d + 1) c').ownBlock = some b → b ≠ q := fun b hb => by
    rcases hat with h1 | h1
    · exact h.ne b (by rw [← h1]; exact hb)
    · rw [hb] at h1
      have h2 := Option.some.inj h1
      simp at h2
      omega
  refine ⟨hr6.setOther (q' := q) 3 _ (by omega), hx6.set 3 _, ?_, hnb, hs6.grown hg7 (fun e => by have h1 : q = p := Option.some.inj e; omega), hb6.setCell (p := ⟨q, 3, none⟩) (by show w0.heap.size ≤ q; omega) _, ?_, by simp [h.len], fun u hu => ?_⟩
  · rw [List.map_append]
    exact own_grown_ne ho hg7 (fun b hb e => hnb b hb (Option.some.inj e).symm)
  · have h1 : w.grownBy (w5.alloc o) (some p) := grown_alloc_l h.gr o
    have h2 : w.grownBy w6 (some p) := by
      cases hv : (Value.slice a d c).ownBlock with
      | none =>
        rw [hv] at hg
        exact ⟨hg.os.trans h1.os, hg.tape.trans h1.tape, hg.output.trans h1.output, Nat.le_trans h1.size hg.size, fun i hi hne => (hg.block i (Nat.lt_of_lt_of_le hi h1.size) (by simp)).trans (h1.block i hi hne)⟩
      | some b =>
        rw [hv] at hg
        exact grown_new_l h1 hg (by have := hlo _ hv; omega)
    exact grown_new_l h2 hg7 (by omega)
  · rcases List.mem_append.1 hu with h1 | h1
    · exact h.ok u h1
    · simp at h1
      subst h1
      exact hz
/-- A drawn fit. -/
def FitEnd (w0 w : World) (p : Nat) (ac : Option Addr) (nc cc A : Nat) (e : Ending) (w' : World) : Prop :=
  ∃ (mn mx gi : Int) (a : Option Addr) (c : Nat) (zs : List Int), e = .returned (.agg #[.int .i64 mn, .int .i64 mx, .int .i64 gi, .slice a 4 c]) ∧ FitOk mn mx gi zs ∧ w'.ownsRow w.heap.size 2 1 (.slice a 4 c) 4 (zs.map (Value.int .i64)) ∧ SrcAt w' w0.heap.size p ac nc cc A ∧ w.grownBy w' (some p) ∧ Bel w0.heap.size w0 w'
set_option maxRecDepth 100000 in
set_option maxHeartbeats 6400000 in
theorem l04DrawFit_any (w0 w : World) (p nc cc A : Nat) (ac : Option Addr) (hc : CodeAt w0 ac nc) (hb : Bel w0.heap.size w0 w) (hs : SrcAt w w0.heap.size p ac nc cc A) (hA : A ≤ 500) :
    Calls Tryz.prog 23 #[.pointer (some ⟨p, 0, none⟩)] w (FitEnd w0 w p ac nc cc (A + 20)) := by
  obtain ⟨hp1, hp2⟩ := hs.base
  have HC := Lib.hid hc
  have HG := Lib.hid (fun (W W' : World) (h : Bel w0.heap.size w0 W) (hg : W.grownBy W' (some p)) => h.grown hg (fun k h => by cases h; exact hp1))
  obtain ⟨W, hW⟩ : ∃ W, w.alloc (.cells #[.int .i64 0, .int .i64 0, .int .i64 0, .slice none 0 0] 31) = W := ⟨_, rfl⟩
  have HW := Lib.hid hW
  have HR := Lib.hid (show Obx W w.heap.size w.heap.size 31 4 [.int .i64 0, .int .i64 0, .int .i64 0, .slice none 0 0] by rw [← hW]; exact Obx.new w w.heap.size 31 4 #[.int .i64 0, .int .i64 0, .int .i64 0, .slice none 0 0] (Nat.le_refl _) rfl)
  have HB := Lib.hid (show Bel w0.heap.size w0 W by rw [← hW]; exact hb.alloc _)
  have HS := Lib.hid (show SrcAt W w0.heap.size p ac nc cc A by rw [← hW]; exact hs.alloc _)
  have HGw := Lib.hid (show w.grownBy W (some p) by rw [← hW]; exact World.grownBy_alloc w _ (some p))
  have HWs := Lib.hid (show W.heap.size = w.heap.size + 1 by rw [← hW]; simp)
  clear hW hc hb hs
  go_enter Tryz.func23, Tryz.ntmps23
  go_wp2_with fail
  rw [HW.out]
  refine (pick_any w0 W p nc cc A ac 20 HC.out HB.out HS.out (by omega) (by omega)).mono ?_
  rintro e w1 ⟨r1, rfl, r1a, r1b, hs1, hg1⟩
  have r1c : r1 ≤ 19 := by omega
  have HM := Lib.hid (show FMem w0 w (w1.alloc (.cells #[.int .i64 (5 * r1), .int .i64 0, .int .i64 0, .slice none 0 0] 31)) p w1.heap.size ac nc cc (A + 2) (5 * r1) 0 0 none 0 0 [] from by
    have h1 := hg1.size
    have h2 := HWs.out
    exact ⟨Obx.alloc (Obx.grown HR.out hg1 (fun e => by have h1 : p = w.heap.size := Option.some.inj e; omega)) _, Obx.new w1 (w.heap.size + 1) 31 4 #[.int .i64 (5 * r1), .int .i64 0, .int .i64 0, .slice none 0 0] (by omega) rfl, World.ownsRow_nil _ _ _ _, fun b hb => by simp [Value.ownBlock] at hb, hs1.alloc _, ((HG.out _ _ HB.out hg1).alloc _), grown_alloc_l (grown_trans_row HGw.out hg1) _, rfl, fun z hz => by cases hz⟩)
  clear hs1 hg1 r1b
  go_upto_region 2 with fail
  generalize w1.alloc (.cells #[.int .i64 (5 * r1), .int .i64 0, .int .i64 0, .slice none 0 0] 31) = W1 at HM ⊢
  generalize w1.heap.size = q at HM ⊢
  have x0 : W1.cell? ⟨q, 0, none⟩ = some (.int .i64 (5 * r1)) := HM.out.x.cell 0 (by omega)
  have xl := HM.out.x.lt.2
  have HP1 := Lib.hid (pick_any w0 W1.drew p nc cc (A + 2) ac 40 HC.out HM.out.bel.drew (show SrcAt W1.drew w0.heap.size p ac nc cc (A + 2) from HM.out.src) (by omega) (by omega))
  go_region_held3 (fun X => X.cell? ⟨q, 0, none⟩ = some (.int .i64 (5 * r1))) (first | (with_reducible exact hK3) | (with_reducible exact hK2) | go_keep)
    (first | (go_at_call 36; (with_reducible refine HP1.out.mono ?_); rintro e w2 ⟨r2, rfl, r2a, r2b, hs2, hg2⟩; have HM2 := Lib.hid (HM.out.drawn hp1 hp2 hs2 (grown_from_drew hg2)); have hK2 : w2.cell? ⟨q, 0, none⟩ = some (.int .i64 (5 * r1)) := HM2.out.x.cell 0 (by omega); have y0 := HM2.out.x.cell 1 (by omega); have y1 := HM2.out.x.fr 1; have y2 := HM2.out.x.lt.2; have r2c : r2 ≤ 39 := (by omega); have v1 : IntKind.i64.wrap (5 * r2) = 5 * r2 := IntWalk.i64_in _ (by omega); have v2 : IntKind.i64.wrap (5 * r1 + 5 * r2) = 5 * r1 + 5 * r2 := IntWalk.i64_in _ (by omega); have HM3 := Lib.hid (HM2.out.set (j := 1) (mn' := 5 * r1) (mx' := 5 * r1 + 5 * r2) (gi' := 0) hp1 hp2 (.int .i64 (5 * r1 + 5 * r2)) (HM2.out.x.set 1 _)); have hK3 : (w2.setCell ⟨q, 1, none⟩ (.int .i64 (5 * r1 + 5 * r2))).cell? ⟨q, 0, none⟩ = some (.int .i64 (5 * r1)) := HM3.out.x.cell 0 (by omega); clear hs2 hg2 r2b))
  clear hK2 hK3 y0 y1 y2 x0 xl v1 v2 HP1 HM HM2
  generalize w2.setCell ⟨q, 1, none⟩ (.int .i64 (5 * r1 + 5 * r2)) = W2 at HM3 ⊢
  go_wp2_with fail
  refine (pick_any w0 W2 p nc cc (A + 2 + 2) ac 30 HC.out HM3.out.bel HM3.out.src (by omega) (by omega)).mono ?_
  rintro e w3 ⟨r3, rfl, r3a, r3b, hs3, hg3⟩
  have r3c : r3 ≤ 29 := by omega
  have HM4 := Lib.hid (HM3.out.drawn hp1 hp2 hs3 hg3)
  have y0 := HM4.out.x.cell 2 (by omega)
  have y1 := HM4.out.x.fr 2
  have y2 := HM4.out.x.lt.2
  have HM5 := Lib.hid (HM4.out.set (j := 2) (mn' := 5 * r1) (mx' := 5 * r1 + 5 * r2) (gi' := 5 * r3) hp1 hp2 (.int .i64 (5 * r3)) (HM4.out.x.set 2 _))
  clear hs3 hg3 r3b HM3
  go_upto_region 4 with fail
  clear y0 y1 y2 HM4
  generalize w3.setCell ⟨q, 2, none⟩ (.int .i64 (5 * r3)) = W3 at HM5 ⊢
  go_wp2_with fail
  go_loopw [4] (fun i wr => ∃ d : Nat, d ≤ 4 ∧ i = .int .i64 (d : Int) ∧ ∃ (a : Option Addr) (c : Nat) (zs : List Int), Hid (FMem w0 w wr p q ac nc cc (A + 6 + 2 * d) (5 * r1) (5 * r1 + 5 * r2) (5 * r3) a d c zs)) (fun i _ => 4 - (intOf i).toNat)
  case atStart => exact ⟨0, by omega, rfl, none, 0, [], HM5⟩
  case round =>
    clear HM5
    obtain ⟨d, hd, rfl, a, c, zs, HM3⟩ := hrel
    by_cases hlt : d < 4
    · have hlt' : (d : Int) < 4 := by omega
      obtain ⟨ix, hix, i0, i1, i2⟩ := info_parts infoNum
      have HIx := Lib.hid (And.intro hix (And.intro i0 (And.intro i1 i2)))
      clear hix i0 i1 i2
      have x1 : wr.cell? ⟨q, 3, none⟩ = some (.slice a d c) := HM3.out.x.cell 3 (by omega)
      have xl := HM3.out.x.lt.2
      have HP3 := Lib.hid (pick_any w0 wr.drew p nc cc (A + 6 + 2 * d) ac 6 HC.out HM3.out.bel.drew (show SrcAt wr.drew w0.heap.size p ac nc cc (A + 6 + 2 * d) from HM3.out.src) (by omega) (by omega))
      go_upto_region 7 with fail
      go_region_law (first
        | (go_simp; go_at_call 36; (with_reducible refine HP3.out.mono ?_); rintro e w4 ⟨u, rfl, ua, ub, hs4, hg4⟩; have HM4 := Lib.hid (HM3.out.drawn hp1 hp2 hs4 (grown_from_drew hg4)); have x2 : w4.cell? ⟨q, 3, none⟩ = some (.slice a d c) := HM4.out.x.cell 3 (by omega); have x3 := HM4.out.x.lt.2; have u2 : u ≤ 5 := (by omega); clear hs4 hg4 ub)
        | (refine step_append_any (by rfl) _ _ 29 (by rfl) (w.heap.size + 1) 2 ix (.int .i64 0) 1 8 Tryz.underlying29 HIx.out.1 HIx.out.2.1 HIx.out.2.2.1 HIx.out.2.2.2 rfl (by omega) (.slice a d c) d (zs.map (Value.int .i64)) (by rfl) (HM4.out.row.alloc _) (some ⟨w4.heap.size, 0, none⟩) 1 1 [.int .i64 u] (by rfl) rfl (fun h => by cases h) (fun ad had => by cases had; exact new_cells (w := w4) (cs := #[.int .i64 u]) (t := 2) rfl rfl) (fun u hu => by simp only [List.mem_cons, List.not_mem_nil, or_false] at hu; rcases hu with rfl; rfl) (by unfold maxLen; omega) (by omega) (by have h1 := HM4.out.x.lt; simp; omega) ?_; intro a' c' w6 ho6 hg6 hat6; have HX6 := Lib.hid (Obx.grown (HM4.out.x.alloc (.cells #[.int .i64 u] 2)) hg6 (fun e => HM4.out.ne q e rfl)); have y0 := HX6.out.cell 3 (by omega); have y1 := HX6.out.fr 3; have y2 := HX6.out.lt.2)
        | fail)
      all_goals
        have HM7 := Lib.hid (HM4.out.more (a' := a') (c' := c') (z := u) hp2 (by omega) hg6 ho6 hat6)
        clear ho6 hg6 hat6 y0 y1 y2 HX6 x1 x2 x3 xl
        go_wp2_with fail
        go_roundw
        case rel => exact ⟨d + 1, by omega, by go_num, a', c', _, Lib.hid (by have h := HM7.out; rw [show A + 6 + 2 * (d + 1) = A + 6 + 2 * d + 2 by omega]; exact h)⟩
        case measure => simp [intOf]; omega
    · obtain rfl : d = 4 := by omega
      have hm := HM3.out
      have k0 : wr.cell? ⟨q, 0, none⟩ = some (.int .i64 (5 * r1)) := hm.x.cell 0 (by omega)
      have k1 : wr.cell? ⟨q, 1, none⟩ = some (.int .i64 (5 * r1 + 5 * r2)) := hm.x.cell 1 (by omega)
      have k2 : wr.cell? ⟨q, 2, none⟩ = some (.int .i64 (5 * r3)) := hm.x.cell 2 (by omega)
      have k3 : wr.cell? ⟨q, 3, none⟩ = some (.slice a 4 c) := hm.x.cell 3 (by omega)
      have q0 : wr.cell? ⟨w.heap.size, 0, none⟩ = some (.int .i64 0) := hm.res.cell 0 (by omega)
      have q1 : wr.cell? ⟨w.heap.size, 1, none⟩ = some (.int .i64 0) := hm.res.cell 1 (by omega)
      have q2 : wr.cell? ⟨w.heap.size, 2, none⟩ = some (.int .i64 0) := hm.res.cell 2 (by omega)
      have q3 : wr.cell? ⟨w.heap.size, 3, none⟩ = some (.slice none 0 0) := hm.res.cell 3 (by omega)
      have f0 := hm.res.fr 0
      have f1 := hm.res.fr 1
      have f2 := hm.res.fr 2
      have f3 := hm.res.fr 3
      have n1 : ¬ q = w.heap.size := by have := hm.x.lt.1; omega
      have n2 : ¬ w.heap.size = q := by omega
      have l1 := hm.x.lt.2
      have l2 := hm.res.lt.2
      have HF := Lib.hid (show Obx ((((wr.setCell ⟨w.heap.size, 0, none⟩ (.int .i64 (5 * r1))).setCell ⟨w.heap.size, 1, none⟩ (.int .i64 (5 * r1 + 5 * r2))).setCell ⟨w.heap.size, 2, none⟩ (.int .i64 (5 * r3))).setCell ⟨w.heap.size, 3, none⟩ (.slice a 4 c)) w.heap.size w.heap.size 31 4 [.int .i64 (5 * r1), .int .i64 (5 * r1 + 5 * r2), .int .i64 (5 * r3), .slice a 4 c] from (((hm.res.set 0 _).set 1 _).set 2 _).set 3 _)
      have z0 := HF.out.cell 0 (by omega)
      have z1 := HF.out.cell 1 (by omega)
      have z2 := HF.out.cell 2 (by omega)
      have z3 := HF.out.cell 3 (by omega)
      clear hm
      go_wp2_with fail
      refine bodyPost_ret (v := .agg #[.int .i64 (5 * r1), .int .i64 (5 * r1 + 5 * r2), .int .i64 (5 * r3), .slice a 4 c]) (by simp [results, Tryz.results23, go_sem, z0, z1, z2, z3]) rfl ?_
      have hg : wr.grownBy ((((wr.setCell ⟨w.heap.size, 0, none⟩ (.int .i64 (5 * r1))).setCell ⟨w.heap.size, 1, none⟩ (.int .i64 (5 * r1 + 5 * r2))).setCell ⟨w.heap.size, 2, none⟩ (.int .i64 (5 * r3))).setCell ⟨w.heap.size, 3, none⟩ (.slice a 4 c)) (some w.heap.size) := grown_trans_row (grown_trans_row (grown_trans_row (setCell_grown _ w.heap.size 0 _) (setCell_grown _ w.heap.size 1 _)) (setCell_grown _ w.heap.size 2 _)) (setCell_grown _ w.heap.size 3 _)
      have hm := HM3.out
      have hrow := own_base (own_grown_ne hm.row hg (fun b hb e => by have h1 : w.heap.size = b := Option.some.inj e; have := (own_block hm.row hb).1; omega)) (show w.heap.size ≤ w.heap.size + 1 by omega)
      exact ⟨_, _, _, a, c, zs, rfl, ⟨⟨by omega, by omega, by omega⟩, ⟨by omega, by omega⟩, hm.len, fun z hz => by have := hm.ok z hz; omega⟩, hrow, (hm.src.grown hg (fun e => by have h1 : w.heap.size = p := Option.some.inj e; omega)).more (by omega), grown_new_l hm.gr hg (Nat.le_refl _), hm.bel.grown hg (fun k e => by have h1 : w.heap.size = k := Option.some.inj e; omega)⟩
end Go.Proofs.YthemlamdchcicaaGreatDoor
