/-
  slices.Reverse over []int64: a contract. No condition of its own.
-/
import Derived.Test.YthihhkabbdkohaaApp2
import Derived.RegionTactic
import Derived.ChangeAlike
import Derived.BigRegion
namespace Go.Proofs.Ythihhkabbdkohaa
open Go.ChangeShapes Go.WideShapes Go.ChangeAt Go.RowKit Go.Deep

/-- The numbers, the first k and the last k exchanged. -/
def revL (zs : List Int) (n k : Nat) : List Int := (List.range n).map fun x => if x < k ∨ n ≤ x + k then zs.getD (n - 1 - x) 0 else zs.getD x 0
theorem length_revL (zs : List Int) (n k : Nat) : (revL zs n k).length = n := by simp [revL]
theorem revL_at (zs : List Int) {n k x : Nat} (h : x < n) : (revL zs n k).getD x 0 = if x < k ∨ n ≤ x + k then zs.getD (n - 1 - x) 0 else zs.getD x 0 := by
  simp [revL, h]
theorem revL_zero {zs : List Int} {n : Nat} (hl : zs.length = n) : revL zs n 0 = zs := by
  apply List.ext_getElem
  · simp [length_revL, hl]
  · intro x h1 h2
    simp only [revL, List.getElem_map, List.getElem_range]
    rw [if_neg (by omega)]
    simp [List.getElem?_eq_getElem h2]
theorem revL_end {zs : List Int} {n k : Nat} (hl : zs.length = n) (h : n ≤ 2 * k + 1) (hk : 2 * k ≤ n) : revL zs n k = zs.reverse := by
  apply List.ext_getElem
  · simp [length_revL, hl]
  · intro x h1 h2
    rw [length_revL] at h1
    simp only [revL, List.getElem_map, List.getElem_range, List.getElem_reverse]
    have e : zs.getD (n - 1 - x) 0 = zs[zs.length - 1 - x]'(by omega) := by
      subst hl
      simp [List.getElem?_eq_getElem (show zs.length - 1 - x < zs.length by omega)]
    split
    · exact e
    · have ex : x = n - 1 - x := by omega
      rw [← e, ← ex]
theorem revL_step {zs : List Int} {n k J : Nat} (hn : k + J + 1 = n) (hk : k < J) : (((revL zs n k).map (Value.int .i64)).set k (.int .i64 (zs.getD J 0))).set J (.int .i64 (zs.getD k 0)) = (revL zs n (k + 1)).map (Value.int .i64) := by
  apply List.ext_getElem
  · simp [length_revL]
  · intro x h1 h2
    simp only [List.length_map, length_revL] at h2
    rw [List.getElem_set, List.getElem_set]
    simp only [List.getElem_map, revL, List.getElem_range]
    by_cases e1 : J = x
    · subst e1
      rw [if_pos rfl, if_pos (by omega), show n - 1 - J = k by omega]
    · rw [if_neg e1]
      by_cases e2 : k = x
      · subst e2
        rw [if_pos rfl, if_pos (by omega), show n - 1 - k = J by omega]
      · rw [if_neg e2]
        by_cases e3 : x < k ∨ n ≤ x + k
        · rw [if_pos e3, if_pos (by omega)]
        · rw [if_neg e3, if_neg (by omega)]
theorem revL_cells {zs : List Int} {n k J : Nat} (hn : k + J + 1 = n) (hk : k < J) : (revL zs n k).getD k 0 = zs.getD k 0 ∧ (revL zs n k).getD J 0 = zs.getD J 0 := by
  constructor
  · rw [revL_at _ (by omega), if_neg (by omega)]
  · rw [revL_at _ (by omega), if_neg (by omega)]

/-- What Reverse leaves: the row holds the numbers reversed; only its block has turned. -/
def RevEnd (w : World) (B : Nat) (v : Value) (n : Nat) (ds : List Int) (e : Ending) (w' : World) : Prop := e = .returned (.tuple #[]) ∧ w'.ownsRow B 2 1 v n (ds.map (Value.int .i64)) ∧ w.grownBy w' v.ownBlock
set_option maxRecDepth 100000 in
set_option maxHeartbeats 1600000 in
theorem reverse_any (g n c B : Nat) (zs : List Int) (w : World) (hl : zs.length = n) (hn : n ≤ 1048576) (ho : w.ownsRow B 2 1 (.slice (some ⟨g, 0, none⟩) n c) n (zs.map (Value.int .i64))) :
    Calls Try.prog 42 #[.slice (some ⟨g, 0, none⟩) n c] w (RevEnd w B (.slice (some ⟨g, 0, none⟩) n c) n zs.reverse) := by
  by_cases h0 : n = 0
  · subst h0
    have HO := Lib.hid ho
    obtain rfl : zs = [] := List.eq_nil_of_length_eq_zero hl
    clear ho
    go_enter Try.func42, Try.ntmps42
    go_wp2
    refine wp_loop_once ?_
    go_wp2
    go_end0
    exact ⟨rfl, HO.out, World.grownBy.refl _ _⟩
  · have HO := Lib.hid ho
    have HL := Lib.hid hl
    have v0 : IntKind.i64.wrap ((n : Int) - 1) = (n : Int) - 1 := IntWalk.i64_in _ (by omega)
    clear ho hl
    go_enter Try.func42, Try.ntmps42
    go_wp2
    go_loopw [2, 3] (fun u v wr => ∃ k J : Nat, k + J + 1 = n ∧ k ≤ J + 1 ∧ u = .int .i64 k ∧ (∃ z : Int, v = .int .i64 z ∧ Hid (z = (J : Int))) ∧ Hid (wr.ownsRow B 2 1 (.slice (some ⟨g, 0, none⟩) n c) n ((revL zs n k).map (Value.int .i64))) ∧ Hid (w.grownBy wr (some g))) (fun u _ _ => n - (intOf u).toNat)
    case atStart => exact ⟨0, n - 1, by omega, by omega, rfl, ⟨_, rfl, Lib.hid (by omega)⟩, Lib.hid (by rw [revL_zero HL.out]; exact HO.out), Lib.hid (World.grownBy.refl _ _)⟩
    case round =>
      obtain ⟨k, J, hkJ, hk, rfl, ⟨z, rfl, hz⟩, hown, hgr⟩ := hrel
      obtain rfl : z = (J : Int) := hz.out
      by_cases hlt : k < J
      · have hc := revL_cells (zs := zs) hkJ hlt
        have hlen := length_revL zs n k
        obtain ⟨x, hx⟩ : ∃ x, zs.getD k 0 = x := ⟨_, rfl⟩
        obtain ⟨y, hy⟩ : ∃ y, zs.getD J 0 = y := ⟨_, rfl⟩
        have c1 : wr.cell? ⟨g, k, none⟩ = some (.int .i64 x) := by
          rw [hown.out.cellAt k (by omega), ← hx, ← hc.1]
          simp [List.getElem?_eq_getElem (show k < (revL zs n k).length by omega)]
        have c2 : wr.cell? ⟨g, J, none⟩ = some (.int .i64 y) := by
          rw [hown.out.cellAt J (by omega), ← hy, ← hc.2]
          simp [List.getElem?_eq_getElem (show J < (revL zs n k).length by omega)]
        have f1 := hown.out.frozenAt k
        have f2 := hown.out.frozenAt J
        have s1 := hown.out.stored k (.int .i64 y)
        have s2 := s1.1.stored J (.int .i64 x)
        have HS := Lib.hid (show ((wr.setCell ⟨g, k, none⟩ (.int .i64 y)).setCell ⟨g, J, none⟩ (.int .i64 x)).ownsRow B 2 1 (.slice (some ⟨g, 0, none⟩) n c) n ((revL zs n (k + 1)).map (Value.int .i64)) from by
          have h := s2.1
          rw [← hx, ← hy, revL_step hkJ hlt] at h
          rw [← hx, ← hy]
          exact h)
        have HG := Lib.hid (show w.grownBy ((wr.setCell ⟨g, k, none⟩ (.int .i64 y)).setCell ⟨g, J, none⟩ (.int .i64 x)) (some g) from grown_trans_row hgr.out (grown_trans_row s1.2 s2.2))
        have i1 : (k : Int) < (n : Int) := by omega
        have i2 : (J : Int) < (n : Int) := by omega
        have i3 : (k : Int) < (J : Int) := by omega
        clear hx hy hc hlen s1 s2 hown hgr hz
        go_wp2
        go_region
        all_goals
          go_wp2
          go_roundw
          case rel =>
            obtain ⟨J', rfl⟩ : ∃ J', J = J' + 1 := ⟨J - 1, by omega⟩
            exact ⟨k + 1, J', by omega, by omega, by go_num, ⟨_, rfl, Lib.hid (by omega)⟩, Lib.hid HS.out, Lib.hid ⟨HG.out.os, HG.out.tape, HG.out.output, HG.out.size, HG.out.block⟩⟩
          case measure => simp [intOf]; omega
      · have HE := Lib.hid (show (wr.ownsRow B 2 1 (.slice (some ⟨g, 0, none⟩) n c) n (zs.reverse.map (Value.int .i64))) from by
          have h := hown.out
          rw [revL_end HL.out (by omega) (by omega)] at h
          exact h)
        go_wp2
        go_end0
        exact ⟨rfl, HE.out, hgr.out⟩
end Go.Proofs.Ythihhkabbdkohaa
