/-
  The reference's draw of a piece. No condition of its own.
-/
import Derived.Test.YthemlamdchcicaaGreatDoorGLast
import Derived.Test.YthemlamdchcicaaGreatDoorPatO1
namespace Go.Proofs.YthemlamdchcicaaGreatDoor
open Go.ChangeShapes Go.WideShapes Go.ChangeAt Go.RowKit Go.Deep Go.Shelf Go.ChangeMaps

theorem infoNum : (Tryz.prog.info? 2).map (fun i => (i.zero, i.size, i.bytes)) = some (some (.int .i64 0), 1, 8) := by kernel_rfl
/-- A draw of one of a literal's texts, told from the world ahead of the literal. -/
theorem text_any (w0 w : World) (p nc cc A : Nat) (ac : Option Addr) (b m c : Nat) (zs : List ByteArray) (hl : zs.length = m) (h1 : 1 ≤ m) (hm : m ≤ 1000) (hL : ∀ (j : Nat) (u : ByteArray), zs[j]? = some u → w.cell? ⟨b, j, none⟩ = some (.string u)) (hbp : p < b) (hbs : b < w.heap.size)
    (hc : CodeAt w0 ac nc) (hb : Bel w0.heap.size w0 w) (hs : SrcAt w w0.heap.size p ac nc cc A) (hA : A ≤ 1000000) :
    Calls Tryz.prog 94 #[.pointer (some ⟨p, 0, none⟩), .slice (some ⟨b, 0, none⟩) m c] w fun e w' => ∃ r : ByteArray, e = .returned (.string r) ∧ r ∈ zs ∧ SrcAt w' w0.heap.size p ac nc cc (A + 2) ∧ w.grownBy w' (some p) := by
  have HP := Lib.hid (pick_any w0 w p nc cc A ac (m : Int) hc hb hs hA (by omega))
  have HL := Lib.hid hL
  have Hl := Lib.hid hl
  clear hc hb hs hL hl
  go_enter Tryz.func94, Tryz.ntmps94
  go_wp2_with fail
  refine HP.out.mono ?_
  rintro e w1 ⟨r, rfl, r1, r2, hs1, hg1⟩
  obtain ⟨k, rfl⟩ : ∃ k : Nat, r = (k : Int) := ⟨r.toNat, by omega⟩
  have hk : k < m := by omega
  have hkl : k < zs.length := by rw [Hl.out]; exact hk
  obtain ⟨u, hu⟩ : ∃ u, zs[k]? = some u := ⟨zs[k], List.getElem?_eq_getElem hkl⟩
  have hcell : w1.cell? ⟨b, k, none⟩ = some (.string u) := (hg1.cell_far ⟨b, k, none⟩ hbs (fun e => by have h1 : b = p := (by simpa using e); omega)).trans (HL.out k u hu)
  have HM := Lib.hid (List.mem_of_getElem? hu)
  have H := Lib.hid (And.intro hs1 hg1)
  clear hs1 hg1 hu hkl r1 r2
  go_wp2_with fail
  go_ret
  exact ⟨u, rfl, HM.out, H.out.1, H.out.2⟩
def toeNames : List ByteArray := [⟨#[118, 97, 109, 112]⟩, ⟨#[116, 111, 110, 103, 117, 101]⟩, ⟨#[113, 117, 97, 114, 116, 101, 114, 45, 49]⟩, ⟨#[108, 105, 110, 105, 110, 103]⟩, ⟨#[116, 111, 101]⟩]
theorem toeNames_ok : ∀ s ∈ toeNames, okName s = true ∧ s.size ≤ 20 := by decide +kernel
/-- A drawn piece. -/
def NewEnd (w0 w : World) (p : Nat) (ac : Option Addr) (nc cc A : Nat) (e : Ending) (w' : World) : Prop :=
  ∃ (s : ByteArray) (b L c : Nat) (zs : List Int), e = .returned (.agg #[.string s, .slice (some ⟨b, 0, none⟩) L c]) ∧ (okName s = true ∧ s.size ≤ 20) ∧ (3 ≤ L ∧ L ≤ 6) ∧ zs.length = L ∧ (∀ z ∈ zs, 1 ≤ z ∧ z ≤ 10000) ∧ w'.ownsRow w.heap.size 2 1 (.slice (some ⟨b, 0, none⟩) L c) L (zs.map (Value.int .i64)) ∧
    SrcAt w' w0.heap.size p ac nc cc A ∧ w.grownBy w' (some p) ∧ Bel w0.heap.size w0 w'
/-- The memory of a draw of a piece: d lengths are drawn. -/
structure NewMem (w0 w wr : World) (p q : Nat) (ac : Option Addr) (nc cc A : Nat) (s : ByteArray) (a : Option Addr) (d c : Nat) (zs : List Int) : Prop where
  res : Obx wr w.heap.size w.heap.size 107 2 [.string ⟨#[]⟩, .slice none 0 0]
  x : Obx wr (w.heap.size + 1) q 107 2 [.string s, .slice a d c]
  row : wr.ownsRow (w.heap.size + 1) 2 1 (.slice a d c) d (zs.map (Value.int .i64))
  ne : ∀ b, (Value.slice a d c).ownBlock = some b → b ≠ q
  src : SrcAt wr w0.heap.size p ac nc cc A
  bel : Bel w0.heap.size w0 wr
  gr : w.grownBy wr (some p)
  len : zs.length = d
  ok : ∀ z ∈ zs, 1 ≤ z ∧ z ≤ 10000
theorem NewMem.drawn {w0 w wr w' : World} {p q nc cc A A' d c : Nat} {ac a : Option Addr} {s : ByteArray} {zs : List Int} (h : NewMem w0 w wr p q ac nc cc A s a d c zs) (hp1 : w0.heap.size ≤ p) (hp2 : p < w.heap.size) (hs : SrcAt w' w0.heap.size p ac nc cc A') (hg : wr.grownBy w' (some p)) :
    NewMem w0 w w' p q ac nc cc A' s a d c zs :=
  ⟨h.res.grown hg (fun e => by have h1 : p = w.heap.size := Option.some.inj e; omega), h.x.grown hg (fun e => by have h1 : p = q := Option.some.inj e; have := h.x.lt.1; omega), own_grown_ne h.row hg (fun b hb e => by have h1 : p = b := Option.some.inj e; have := (own_block h.row hb).1; omega), h.ne, hs, h.bel.grown hg (fun k e => by have h1 : p = k := Option.some.inj e; omega), grown_trans_row h.gr hg, h.len, h.ok⟩
theorem NewMem.more {w0 w w5 w6 : World} {p q nc cc A d c c' : Nat} {ac a a' : Option Addr} {s : ByteArray} {zs : List Int} {z : Int} {o : Obj} (h : NewMem w0 w w5 p q ac nc cc A s a d c zs) (hp2 : p < w.heap.size) (hz : 1 ≤ z ∧ z ≤ 10000)
    (hg : (w5.alloc o).grownBy w6 (Value.slice a d c).ownBlock) (ho : w6.ownsRow (w.heap.size + 1) 2 1 (.slice a' (d + 1) c') (d + 1) (zs.map (Value.int .i64) ++ [.int .i64 z]))
    (hat : (Value.slice a' (d + 1) c').ownBlock = (Value.slice a d c).ownBlock ∨ (Value.slice a' (d + 1) c').ownBlock = some (w5.alloc o).heap.size) :
    NewMem w0 w (w6.setCell ⟨q, 1, none⟩ (.slice a' (d + 1) c')) p q ac nc cc A s a' (d + 1) c' (zs ++ [z]) := by
  have hq := h.x.lt
  have hb5 := h.bel.2
  have hg7 := setCell_grown w6 q 1 (.slice a' (d + 1) c')
  have hlo : ∀ b, (Value.slice a d c).ownBlock = some b → w.heap.size + 1 ≤ b := fun b hb => (own_block h.row hb).1
  have hr6 := Obx.grown (h.res.alloc o) hg (fun e => by have := hlo _ e; omega)
  have hx6 := Obx.grown (h.x.alloc o) hg (fun e => h.ne q e rfl)
  have hs6 := (h.src.alloc o).grown hg (fun e => by have := hlo _ e; omega)
  have hbl : w0.heap.size ≤ w.heap.size := by have := h.src.base.1; omega
  have hb6 := (h.bel.alloc o).grown hg (fun k e => by have := hlo _ e; omega)
  have hw5 : w.heap.size ≤ w5.heap.size := h.gr.size
  have hnb : ∀ b, (Value.slice a' (d + 1) c').ownBlock = some b → b ≠ q := fun b hb => by
    rcases hat with h1 | h1
    · exact h.ne b (by rw [← h1]; exact hb)
    · rw [hb] at h1
      have h2 := Option.some.inj h1
      simp at h2
      omega
  refine ⟨hr6.setOther (q' := q) 1 _ (by omega), hx6.set 1 _, ?_, hnb, hs6.grown hg7 (fun e => by have h1 : q = p := Option.some.inj e; omega), hb6.setCell (p := ⟨q, 1, none⟩) (by show w0.heap.size ≤ q; omega) _, ?_, by simp [h.len], fun u hu => ?_⟩
  · rw [List.map_append]
    exact own_grown_ne ho hg7 (fun b hb e => hnb b hb (Option.some.inj e).symm)
  · have h1 : w.grownBy (w5.alloc o) (some p) := grown_alloc_l h.gr o
    have h2 : w.grownBy w6 (some p) := by
      cases hv : (Value.slice a d c).ownBlock with
      | none =>
        rw [hv] at hg
        exact ⟨hg.os.trans h1.os, hg.tape.trans h1.tape, hg.output.trans h1.output, Nat.le_trans h1.size hg.size, fun i hi hne => (hg.block i (Nat.lt_of_lt_of_le hi h1.size) (by simp)).trans (h1.block i hi hne)⟩
      | some b =>
        rw [hv] at hg
        exact grown_new_l h1 hg (by have := hlo _ hv; omega)
    exact grown_new_l h2 hg7 (by omega)
  · rcases List.mem_append.1 hu with h1 | h1
    · exact h.ok u h1
    · simp at h1
      subst h1
      exact hz
set_option maxRecDepth 100000 in
set_option maxHeartbeats 6400000 in
theorem l08New_any (w0 w : World) (p nc cc A : Nat) (ac : Option Addr) (hc : CodeAt w0 ac nc) (hb : Bel w0.heap.size w0 w) (hs : SrcAt w w0.heap.size p ac nc cc A) (hA : A ≤ 100000) :
    Calls Tryz.prog 60 #[.pointer (some ⟨p, 0, none⟩)] w (NewEnd w0 w p ac nc cc (A + 40)) := by
  obtain ⟨hp1, hp2⟩ := hs.base
  have HC := Lib.hid hc
  have HG := Lib.hid (fun (W W' : World) (h : Bel w0.heap.size w0 W) (hg : W.grownBy W' (some p)) => h.grown hg (fun k h => by cases h; exact hp1))
  obtain ⟨W, hW⟩ : ∃ W, (w.alloc (.cells #[.string ⟨#[]⟩, .slice none 0 0] 107)) = W := ⟨_, rfl⟩
  have HW := Lib.hid hW
  have HR := Lib.hid (show Obx W w.heap.size w.heap.size 107 2 [.string ⟨#[]⟩, .slice none 0 0] by rw [← hW]; exact Obx.new w w.heap.size 107 2 #[.string ⟨#[]⟩, .slice none 0 0] (Nat.le_refl _) rfl)
  have HB := Lib.hid (show Bel w0.heap.size w0 W by rw [← hW]; exact hb.alloc _)
  have HS := Lib.hid (show SrcAt W w0.heap.size p ac nc cc A by rw [← hW]; exact hs.alloc _)
  have HGw := Lib.hid (show w.grownBy W (some p) by rw [← hW]; exact World.grownBy_alloc w _ (some p))
  have HWs := Lib.hid (show W.heap.size = w.heap.size + 1 by rw [← hW]; simp)
  clear hW hc hb hs
  go_enter Tryz.func60, Tryz.ntmps60
  go_upto_region 1 with fail
  rw [HW.out]
  go_upto_region 2 with (go_at_call 94; refine (text_any w0 _ p nc cc A ac W.heap.size 5 5 toeNames rfl (by omega) (by omega) (fun j u hj => by (rcases j with _ | _ | _ | _ | _ | j <;> simp [toeNames] at hj) <;> (subst hj; simp [go_sem])) (by have := HWs.out; omega) (by simp) HC.out (HB.out.alloc _) (HS.out.alloc _) (by omega)).mono ?_; rintro e w1 ⟨s, rfl, hs0, hs1, hg1⟩)
  have hM : NewMem w0 w (w1.alloc (.cells #[.string s, .slice none 0 0] 107)) p w1.heap.size ac nc cc (A + 2) s none 0 0 [] := by
    have h1 := hg1.size
    have h2 := HWs.out
    simp at h1
    refine ⟨?_, Obx.new w1 (w.heap.size + 1) 107 2 #[.string s, .slice none 0 0] (by omega) rfl, World.ownsRow_nil _ _ _ _, fun b hb => by simp [Value.ownBlock] at hb, hs1.alloc _, ((HG.out _ _ (HB.out.alloc _) hg1).alloc _), grown_alloc_l (grown_trans_row HGw.out (grown_trans_row (World.grownBy_alloc W _ (some p)) hg1)) _, rfl, fun z hz => by cases hz⟩
    exact Obx.alloc (Obx.grown (HR.out.alloc _) hg1 (fun e => by have h1 : p = w.heap.size := Option.some.inj e; omega)) _
  generalize w1.alloc (.cells #[.string s, .slice none 0 0] 107) = W1 at hM ⊢
  generalize w1.heap.size = q at hM ⊢
  have HSn := Lib.hid (toeNames_ok s hs0)
  have HM := Lib.hid hM
  clear hM hs0 hs1 hg1
  go_wp2_with fail
  refine (pick_any w0 _ p nc cc (A + 2) ac 4 HC.out HM.out.bel HM.out.src (by omega) (by omega)).mono ?_
  rintro e w2 ⟨r, rfl, ra, rb, hs2, hg2⟩
  obtain ⟨r, rfl⟩ : ∃ k : Nat, r = (k : Int) := ⟨r.toNat, by omega⟩
  have hr3 : r ≤ 3 := by omega
  have HM2 := Lib.hid (HM.out.drawn hp1 hp2 hs2 hg2)
  clear hs2 hg2 HM ra rb
  go_wp2_with fail
  go_loopw [4] (fun i wr => ∃ k d : Nat, k + d = 3 + r ∧ i = .int .i64 (k : Int) ∧ ∃ (a : Option Addr) (c : Nat) (zs : List Int), Hid (NewMem w0 w wr p q ac nc cc (A + 4 + 4 * d) s a d c zs)) (fun i _ => (intOf i).toNat)
  case atStart => exact ⟨3 + r, 0, by omega, by first | rfl | (congr 1 <;> omega) | (simp), none, 0, [], HM2⟩
  case round =>
    clear HM2
    obtain ⟨k, d, hkd, rfl, a, c, zs, HM⟩ := hrel
    by_cases hk : 0 < k
    · have hk' : (0 : Int) < (k : Int) := by omega
      go_wp2_with fail
      refine (pick_any w0 _ p nc cc (A + 4 + 4 * d) ac 4 HC.out HM.out.bel HM.out.src (by omega) (by omega)).mono ?_
      rintro e w3 ⟨v, rfl, va, vb, hs3, hg3⟩
      have HM3 := Lib.hid (HM.out.drawn hp1 hp2 hs3 hg3)
      have v3 : v ≤ 3 := by omega
      clear hs3 hg3 HM vb
      obtain ⟨ix, hix, i0, i1, i2⟩ := info_parts infoNum
      have HIx := Lib.hid (And.intro hix (And.intro i0 (And.intro i1 i2)))
      clear hix i0 i1 i2
      go_upto_region 6 with fail
      have x1 : w3.cell? ⟨q, 1, none⟩ = some (.slice a d c) := HM3.out.x.cell 1 (by omega)
      have xl := HM3.out.x.lt.2
      have HP3 := Lib.hid (pick_any w0 w3.drew p nc cc (A + 4 + 4 * d + 2) ac 3 HC.out HM3.out.bel.drew (show SrcAt w3.drew w0.heap.size p ac nc cc (A + 4 + 4 * d + 2) from HM3.out.src) (by omega) (by omega))
      go_region_law (first
        | (go_simp; go_at_call 36; (with_reducible refine HP3.out.mono ?_); rintro e w4 ⟨u, rfl, ua, ub, hs4, hg4⟩; have HM4 := Lib.hid (HM3.out.drawn hp1 hp2 hs4 (grown_from_drew hg4)); have x2 : w4.cell? ⟨q, 1, none⟩ = some (.slice a d c) := HM4.out.x.cell 1 (by omega); have x3 := HM4.out.x.lt.2; have u2 : u ≤ 2 := (by omega); have v9 : IntKind.i64.wrap (100 * (1 + v) + u) = 100 * (1 + v) + u := IntWalk.i64_in _ (by omega); clear hs4 hg4 ub)
        | (refine step_append_any (by rfl) _ _ 29 (by rfl) (w.heap.size + 1) 2 ix (.int .i64 0) 1 8 Tryz.underlying29 HIx.out.1 HIx.out.2.1 HIx.out.2.2.1 HIx.out.2.2.2 rfl (by omega) (.slice a d c) d (zs.map (Value.int .i64)) (by rfl) (HM4.out.row.alloc _) (some ⟨w4.heap.size, 0, none⟩) 1 1 [.int .i64 (100 * (1 + v) + u)] (by rfl) rfl (fun h => by cases h) (fun ad had => by cases had; exact new_cells (w := w4) (cs := #[.int .i64 (100 * (1 + v) + u)]) (t := 2) rfl rfl) (fun u hu => by simp only [List.mem_cons, List.not_mem_nil, or_false] at hu; rcases hu with rfl; rfl) (by unfold maxLen; omega) (by omega) (by have h1 := HM4.out.x.lt; simp; omega) ?_; intro a' c' w6 ho6 hg6 hat6; have HX6 := Lib.hid (Obx.grown (HM4.out.x.alloc (.cells #[.int .i64 (100 * (1 + v) + u)] 2)) hg6 (fun e => HM4.out.ne q e rfl)); have y0 := HX6.out.cell 1 (by omega); have y1 := HX6.out.fr 1; have y2 := HX6.out.lt.2)
        | fail)
      all_goals
        have HM7 := Lib.hid (HM4.out.more (a' := a') (c' := c') (z := 100 * (1 + v) + u) hp2 (by omega) hg6 ho6 hat6)
        clear ho6 hg6 hat6 y0 y1 y2 HX6 x1 x2 x3 xl
        go_wp2_with fail
        go_roundw
        case rel => exact ⟨k - 1, d + 1, by omega, by first | go_num | (congr 1; omega), a', c', _, Lib.hid (by have h := HM7.out; rw [show A + 4 + 4 * (d + 1) = A + 4 + 4 * d + 2 + 2 by omega]; exact h)⟩
        case measure => simp [intOf]; omega
    · obtain rfl : k = 0 := by omega
      have hm := HM.out
      obtain rfl : d = 3 + r := by omega
      have k0 : wr.cell? ⟨q, 0, none⟩ = some (.string s) := hm.x.cell 0 (by omega)
      have k1 : wr.cell? ⟨q, 1, none⟩ = some (.slice a (3 + r) c) := hm.x.cell 1 (by omega)
      have q0 : wr.cell? ⟨w.heap.size, 0, none⟩ = some (.string ⟨#[]⟩) := hm.res.cell 0 (by omega)
      have q1 : wr.cell? ⟨w.heap.size, 1, none⟩ = some (.slice none 0 0) := hm.res.cell 1 (by omega)
      have f0 := hm.res.fr 0
      have f1 := hm.res.fr 1
      have n1 : ¬ q = w.heap.size := by have := hm.x.lt.1; omega
      have n2 : ¬ w.heap.size = q := by omega
      have l1 := hm.x.lt.2
      have l2 := hm.res.lt.2
      have HF := Lib.hid (show Obx ((wr.setCell ⟨w.heap.size, 0, none⟩ (.string s)).setCell ⟨w.heap.size, 1, none⟩ (.slice a (3 + r) c)) w.heap.size w.heap.size 107 2 [.string s, .slice a (3 + r) c] from (hm.res.set 0 (.string s)).set 1 (.slice a (3 + r) c))
      have z0 := HF.out.cell 0 (by omega)
      have z1 := HF.out.cell 1 (by omega)
      clear hm
      go_wp2_with fail
      refine bodyPost_ret (v := .agg #[.string s, .slice a (3 + r) c]) (by simp [results, Tryz.results60, go_sem, z0, z1]) rfl ?_
      have hg : wr.grownBy ((wr.setCell ⟨w.heap.size, 0, none⟩ (.string s)).setCell ⟨w.heap.size, 1, none⟩ (.slice a (3 + r) c)) (some w.heap.size) := grown_trans_row (setCell_grown _ w.heap.size 0 _) (setCell_grown _ w.heap.size 1 _)
      have hm := HM.out
      have hrow := own_base (own_grown_ne hm.row hg (fun b hb e => by have h1 : w.heap.size = b := Option.some.inj e; have := (own_block hm.row hb).1; omega)) (show w.heap.size ≤ w.heap.size + 1 by omega)
      obtain ⟨b, rfl⟩ : ∃ b, a = some ⟨b, 0, none⟩ := by
        rcases own_form hm.row with h0 | h0
        · omega
        · exact h0
      exact ⟨s, b, 3 + r, c, zs, rfl, HSn.out, ⟨by omega, by omega⟩, hm.len, hm.ok, hrow, (hm.src.grown hg (fun e => by have h1 : w.heap.size = p := Option.some.inj e; omega)).more (by omega), grown_new_l hm.gr hg (Nat.le_refl _), hm.bel.grown hg (fun k e => by have h1 : w.heap.size = k := Option.some.inj e; omega)⟩
end Go.Proofs.YthemlamdchcicaaGreatDoor
