/-
  Rows of bytes as a string's bytes are laid; slices.Reverse over them; impl.MirrorHide. No condition of its own.
-/
import Derived.Test.YthemlamdchcicaaDoorHideSound
import Derived.RegionTactic
import Derived.ChangeAlike
import Derived.BigRegion
import Derived.Laws.IdiomStrings
namespace Go.Proofs.YthemlamdchcicaaDoor
open Go.ChangeShapes Go.WideShapes Go.ChangeAt Go.RowKit Go.Deep

/-- The block g begins with the cells l (as '[]byte(s)' lays it). -/
def BRow (W : World) (B g : Nat) (l : List Value) : Prop := B ≤ g ∧ ∃ cur : Array Value, W.heap[g]? = some (.cells cur 5 (cur.size, cur.size + 1)) ∧ l.length ≤ cur.size ∧ cur.toList.take l.length = l
theorem BRow.lt {W : World} {B g : Nat} {l : List Value} (h : BRow W B g l) : B ≤ g ∧ g < W.heap.size := by
  obtain ⟨hB, cur, hg, _⟩ := h
  exact ⟨hB, (Array.getElem?_eq_some_iff.1 hg).1⟩
theorem BRow.cell {W : World} {B g : Nat} {l : List Value} (h : BRow W B g l) (j : Nat) (hj : j < l.length) : W.cell? ⟨g, j, none⟩ = l[j]? := by
  obtain ⟨_, cur, hg, h1, h2⟩ := h
  rw [cell_of_row W g j cur _ _ hg]
  have e : l[j]? = (cur.toList.take l.length)[j]? := by rw [h2]
  rw [e, List.getElem?_take, if_pos hj]
  simp
theorem BRow.fr {W : World} {B g : Nat} {l : List Value} (h : BRow W B g l) (j : Nat) (hj : j < l.length) : W.frozen? ⟨g, j, none⟩ = false := by
  obtain ⟨_, cur, hg, h1, h2⟩ := h
  unfold World.frozen?
  simp only [hg]
  simp
  omega
theorem BRow.set {W : World} {B g : Nat} {l : List Value} (h : BRow W B g l) (j : Nat) (u : Value) : BRow (W.setCell ⟨g, j, none⟩ u) B g (l.set j u) := by
  obtain ⟨hB, cur, hg, h1, h2⟩ := h
  refine ⟨hB, cur.setIfInBounds j u, ?_, by simpa using h1, ?_⟩
  · simp [World.setCell, Array.getElem?_modify, hg]
  · rw [Array.toList_setIfInBounds, List.length_set, List.take_set, h2]
theorem BRow.grown {W W' : World} {B g : Nat} {l : List Value} {row : Option Nat} (h : BRow W B g l) (hg : W.grownBy W' row) (hr : row ≠ some g) : BRow W' B g l := by
  obtain ⟨hB, cur, h0, h1, h2⟩ := h
  exact ⟨hB, cur, (hg.block g (Array.getElem?_eq_some_iff.1 h0).1 (fun e => hr e.symm)).trans h0, h1, h2⟩
theorem BRow.below {W W' : World} {B g : Nat} {l : List Value} (h : BRow W B g l) (hb : Below W.heap.size W W') : BRow W' B g l := by
  obtain ⟨hB, cur, h0, h1, h2⟩ := h
  exact ⟨hB, cur, (hb.block g (Array.getElem?_eq_some_iff.1 h0).1).trans h0, h1, h2⟩
/-- '[]byte(s)'. -/
theorem bytes_of (W : World) (s : ByteArray) (B : Nat) (hB : B ≤ W.heap.size) : ∃ (W2 : World) (c : Nat), (convert 9 22 (.string s)).run Tryd.prog W = .ok (.slice (some ⟨W.heap.size, 0, none⟩) s.size c) W2 ∧ BRow W2 B W.heap.size (u8s s.data.toList) ∧ Below W.heap.size W W2 ∧ s.size ≤ c := by
  refine ⟨_, _, run_bytes_of_string (P := Tryd.prog) W 9 22 5 s Tryd.underlying9 Tryd.underlying22 Tryd.underlying5, ?_, ?_, grownCap_ge _ _ _ _⟩
  · refine ⟨hB, bytesRow s (grownCap W s.size 0 5), ?_, ?_, ?_⟩
    · exact heap_alloc_new W.drew _
    · unfold bytesRow
      simp [u8s]
    · have hl : (u8s s.data.toList).length = s.data.size := by simp [u8s]
      rw [hl]
      unfold bytesRow
      simp [u8s]
  · have g := World.grownBy_alloc W.drew (.cells (bytesRow s (grownCap W s.size 0 5)) 5 ((bytesRow s (grownCap W s.size 0 5)).size, (bytesRow s (grownCap W s.size 0 5)).size + 1)) none
    exact (Below.refl W.heap.size W).grown (row := none) ⟨g.os, g.tape, g.output, g.size, g.block⟩ (Nat.le_refl _) (by simp)
/-- The numbers, the first k and the last k exchanged. -/
def revL (zs : List Int) (n k : Nat) : List Int := (List.range n).map fun x => if x < k ∨ n ≤ x + k then zs.getD (n - 1 - x) 0 else zs.getD x 0
theorem length_revL (zs : List Int) (n k : Nat) : (revL zs n k).length = n := by simp [revL]
theorem revL_at (zs : List Int) {n k x : Nat} (h : x < n) : (revL zs n k).getD x 0 = if x < k ∨ n ≤ x + k then zs.getD (n - 1 - x) 0 else zs.getD x 0 := by
  simp [revL, h]
theorem revL_zero {zs : List Int} {n : Nat} (hl : zs.length = n) : revL zs n 0 = zs := by
  apply List.ext_getElem
  · simp [length_revL, hl]
  · intro x h1 h2
    simp only [revL, List.getElem_map, List.getElem_range]
    rw [if_neg (by omega)]
    simp [List.getElem?_eq_getElem h2]
theorem revL_end {zs : List Int} {n k : Nat} (hl : zs.length = n) (h : n ≤ 2 * k + 1) (hk : 2 * k ≤ n) : revL zs n k = zs.reverse := by
  apply List.ext_getElem
  · simp [length_revL, hl]
  · intro x h1 h2
    rw [length_revL] at h1
    simp only [revL, List.getElem_map, List.getElem_range, List.getElem_reverse]
    have e : zs.getD (n - 1 - x) 0 = zs[zs.length - 1 - x]'(by omega) := by
      subst hl
      simp [List.getElem?_eq_getElem (show zs.length - 1 - x < zs.length by omega)]
    split
    · exact e
    · have ex : x = n - 1 - x := by omega
      rw [← e, ← ex]
theorem revL_step {zs : List Int} {n k J : Nat} (hn : k + J + 1 = n) (hk : k < J) : (((revL zs n k).map (Value.int .u8)).set k (.int .u8 (zs.getD J 0))).set J (.int .u8 (zs.getD k 0)) = (revL zs n (k + 1)).map (Value.int .u8) := by
  apply List.ext_getElem
  · simp [length_revL]
  · intro x h1 h2
    simp only [List.length_map, length_revL] at h2
    rw [List.getElem_set, List.getElem_set]
    simp only [List.getElem_map, revL, List.getElem_range]
    by_cases e1 : J = x
    · subst e1
      rw [if_pos rfl, if_pos (by omega), show n - 1 - J = k by omega]
    · rw [if_neg e1]
      by_cases e2 : k = x
      · subst e2
        rw [if_pos rfl, if_pos (by omega), show n - 1 - k = J by omega]
      · rw [if_neg e2]
        by_cases e3 : x < k ∨ n ≤ x + k
        · rw [if_pos e3, if_pos (by omega)]
        · rw [if_neg e3, if_neg (by omega)]
theorem revL_cells {zs : List Int} {n k J : Nat} (hn : k + J + 1 = n) (hk : k < J) : (revL zs n k).getD k 0 = zs.getD k 0 ∧ (revL zs n k).getD J 0 = zs.getD J 0 := by
  constructor
  · rw [revL_at _ (by omega), if_neg (by omega)]
  · rw [revL_at _ (by omega), if_neg (by omega)]

/-- What Reverse leaves: the row holds the bytes reversed; only its block has turned. -/
def RevEnd (w : World) (B g : Nat) (ds : List Int) (e : Ending) (w' : World) : Prop := e = .returned (.tuple #[]) ∧ BRow w' B g (ds.map (Value.int .u8)) ∧ w.grownBy w' (some g)
set_option maxRecDepth 100000 in
set_option maxHeartbeats 1600000 in
theorem reverse_any (g n c B : Nat) (zs : List Int) (w : World) (hl : zs.length = n) (hn : n ≤ 1048576) (h1 : 0 < n) (ho : BRow w B g (zs.map (Value.int .u8))) :
    Calls Tryd.prog 34 #[.slice (some ⟨g, 0, none⟩) n c] w (RevEnd w B g zs.reverse) := by
  have HO := Lib.hid ho
  have HL := Lib.hid hl
  have v0 : IntKind.i64.wrap ((n : Int) - 1) = (n : Int) - 1 := IntWalk.i64_in _ (by omega)
  clear ho hl
  go_enter Tryd.func34, Tryd.ntmps34
  go_wp2
  go_loopw [2, 3] (fun u v wr => ∃ k J : Nat, k + J + 1 = n ∧ k ≤ J + 1 ∧ u = .int .i64 k ∧ (∃ z : Int, v = .int .i64 z ∧ Hid (z = (J : Int))) ∧ Hid (BRow wr B g ((revL zs n k).map (Value.int .u8))) ∧ Hid (w.grownBy wr (some g))) (fun u _ _ => n - (intOf u).toNat)
  case atStart => exact ⟨0, n - 1, by omega, by omega, rfl, ⟨_, rfl, Lib.hid (by omega)⟩, Lib.hid (by rw [revL_zero HL.out]; exact HO.out), Lib.hid (World.grownBy.refl _ _)⟩
  case round =>
    obtain ⟨k, J, hkJ, hk, rfl, ⟨z, rfl, hz⟩, hown, hgr⟩ := hrel
    obtain rfl : z = (J : Int) := hz.out
    by_cases hlt : k < J
    · have hc := revL_cells (zs := zs) hkJ hlt
      have hlen := length_revL zs n k
      obtain ⟨x, hx⟩ : ∃ x, zs.getD k 0 = x := ⟨_, rfl⟩
      obtain ⟨y, hy⟩ : ∃ y, zs.getD J 0 = y := ⟨_, rfl⟩
      have c1 : wr.cell? ⟨g, k, none⟩ = some (.int .u8 x) := by
        rw [hown.out.cell k (by rw [List.length_map]; omega), ← hx, ← hc.1]
        simp [List.getElem?_eq_getElem (show k < (revL zs n k).length by omega)]
      have c2 : wr.cell? ⟨g, J, none⟩ = some (.int .u8 y) := by
        rw [hown.out.cell J (by rw [List.length_map]; omega), ← hy, ← hc.2]
        simp [List.getElem?_eq_getElem (show J < (revL zs n k).length by omega)]
      have f1 := hown.out.fr k (by rw [List.length_map]; omega)
      have f2 := hown.out.fr J (by rw [List.length_map]; omega)
      have s1 := hown.out.set k (.int .u8 y)
      have s2 := s1.set J (.int .u8 x)
      have HS := Lib.hid (show BRow ((wr.setCell ⟨g, k, none⟩ (.int .u8 y)).setCell ⟨g, J, none⟩ (.int .u8 x)) B g ((revL zs n (k + 1)).map (Value.int .u8)) from by
        have h := s2
        rw [← hx, ← hy, revL_step hkJ hlt] at h
        rw [← hx, ← hy]
        exact h)
      have HG := Lib.hid (show w.grownBy ((wr.setCell ⟨g, k, none⟩ (.int .u8 y)).setCell ⟨g, J, none⟩ (.int .u8 x)) (some g) from grown_trans_row hgr.out (grown_trans_row (setCell_grown wr g k _) (setCell_grown _ g J _)))
      have i1 : (k : Int) < (n : Int) := by omega
      have i2 : (J : Int) < (n : Int) := by omega
      have i3 : (k : Int) < (J : Int) := by omega
      clear hx hy hc hlen s1 s2 hown hgr hz
      go_wp2
      go_region
      all_goals
        go_wp2
        go_roundw
        case rel =>
          obtain ⟨J', rfl⟩ : ∃ J', J = J' + 1 := ⟨J - 1, by omega⟩
          exact ⟨k + 1, J', by omega, by omega, by go_num, ⟨_, rfl, Lib.hid (by omega)⟩, Lib.hid HS.out, Lib.hid ⟨HG.out.os, HG.out.tape, HG.out.output, HG.out.size, HG.out.block⟩⟩
        case measure => simp [intOf]; omega
    · have HE := Lib.hid (show BRow wr B g (zs.reverse.map (Value.int .u8)) from by
        have h := hown.out
        rw [revL_end HL.out (by omega) (by omega)] at h
        exact h)
      go_wp2
      go_end0
      exact ⟨rfl, HE.out, hgr.out⟩
end Go.Proofs.YthemlamdchcicaaDoor
