/-
  Copies of slices: contracts. No condition of its own.
-/
import Derived.Test.YthemlamdchcicaaDoorApp
import Derived.Lib.SliceRun
import Derived.WalkKit
namespace Go.Proofs.YthemlamdchcicaaDoor
open Go.ChangeShapes Go.WideShapes Go.ChangeAt Go.RowKit Go.Deep

/-- A new slice of the call's own that holds the cells cs. -/
def OwnRow (w : World) (E k n : Nat) (cs : List Value) (e : Ending) (w' : World) : Prop :=
  ∃ a cap, e = .returned (.slice a n cap) ∧ w'.ownsRow w.heap.size E k (.slice a n cap) n cs ∧ Below w.heap.size w w'

set_option maxHeartbeats 1600000 in
theorem l00Own_any (g n c : Nat) (zs : List Int) (w : World) (hz : zs.length = n) (hn : n ≤ 1073741824) (hc : CellsAt w (some ⟨g, 0, none⟩) (zs.map (Value.int .i64))) :
    Calls Tryd.prog 72 #[.slice (some ⟨g, 0, none⟩) n c] w (OwnRow w 2 1 n (zs.map (Value.int .i64))) := by
  obtain ⟨i, hi, h0, h1, h2⟩ := info_parts infoI
  have q := fun (w : World) (a : Option Addr) (n c n' c' : Nat) => Lib.run_eql_slice_nil w _ _ a n c n' c' Tryd.underlying28
  by_cases hn0 : n = 0
  · subst hn0
    have e : zs = [] := List.eq_nil_of_length_eq_zero (by simpa using hz)
    subst e
    clear hz hc
    go_enter Tryd.func72, Tryd.ntmps72
    go_wp2_with (at_builtin; refine wpList_append_fits_any _ rfl _ _ 28 rfl w.heap.size 2 i 1 Tryd.underlying28 hi h1 w.heap.size 0 0 [] rfl (own_none w 2 1) (some ⟨g, 0, none⟩) 0 c [] rfl (by simp) (by simp) (by simp) (by simp) (by omega) ?_; intro w1 ho hg)
    try simp only [Nat.zero_add, List.nil_append] at ho
    have Ho := Lib.hid ho
    have Hg := Lib.hid hg
    clear ho hg
    go_wp2
    go_ret
    exact ⟨_, _, rfl, Ho.out, (((Bel.refl w).alloc _).grown Hg.out (fun k h => by cases h; exact Nat.le_refl _)).1⟩
  · obtain ⟨b, o, he, hb, hcell⟩ := hc.at_ (by simp; omega)
    obtain ⟨rfl, rfl⟩ : g = b ∧ 0 = o := by simpa using he
    have Hz := Lib.hid hz
    have Hc := Lib.hid hcell
    clear hz hc hcell he
    go_enter Tryd.func72, Tryd.ntmps72
    go_wp2_with (at_builtin; refine wpList_append_lies _ (by rfl) _ _ 28 (by rfl) w.heap.size 2 i (.int .i64 0) 1 8 Tryd.underlying28 hi h0 h1 h2 (by rfl) (by omega) _ 0 [] (by rfl) (own_none w 2 1) ⟨g, 0, none⟩ n c (zs.map (Value.int .i64)) (by rfl) (by have := Hz.out; simp; omega) ?qc1 ?qc2 (by omega) (by unfold maxLen; omega) (by omega) (by simp) _ rfl ?_)
    case qc1 =>
      intro j u hj
      have hjl : j < (zs.map (Value.int .i64)).length := (List.getElem?_eq_some_iff.1 hj).1
      rw [Addr.add_lit]
      refine Lib.cell?_alloc_some _ ?_
      rw [Hc.out j hjl]
      exact hj
    case qc2 =>
      intro u hu
      obtain ⟨z, _, rfl⟩ := List.mem_map.1 hu
      rfl
    intro g' cap w1 ho hg _ _
    try simp only [Nat.zero_add, List.nil_append] at ho
    have Ho := Lib.hid ho
    have Hg := Lib.hid hg
    clear ho hg
    go_wp2
    go_ret
    exact ⟨_, _, rfl, Ho.out, (((Bel.refl w).alloc _).grown Hg.out (fun k h => by cases h; exact Nat.le_refl _)).1⟩


set_option maxHeartbeats 1600000 in
theorem cloneI_any (g n c : Nat) (zs : List Int) (w : World) (hz : zs.length = n) (hn : n ≤ 1073741824) (hc : CellsAt w (some ⟨g, 0, none⟩) (zs.map (Value.int .i64))) :
    Calls Tryd.prog 57 #[.slice (some ⟨g, 0, none⟩) n c] w (OwnRow w 2 1 n (zs.map (Value.int .i64))) := by
  obtain ⟨i, hi, h0, h1, h2⟩ := info_parts infoI
  have q := fun (w : World) (a : Option Addr) (n c n' c' : Nat) => Lib.run_eql_slice_nil w _ _ a n c n' c' Tryd.underlying28
  by_cases hn0 : n = 0
  · subst hn0
    have e : zs = [] := List.eq_nil_of_length_eq_zero (by simpa using hz)
    subst e
    clear hz hc
    go_enter Tryd.func57, Tryd.ntmps57
    go_wp2_with (at_builtin; refine wpList_append_fits_any _ rfl _ _ 28 rfl w.heap.size 2 i 1 Tryd.underlying28 hi h1 w.heap.size 0 0 [] rfl (own_none w 2 1) (some ⟨g, 0, none⟩) 0 c [] rfl (by simp) (by simp) (by simp) (by simp) (by omega) ?_; intro w1 ho hg)
    try simp only [Nat.zero_add, List.nil_append] at ho
    have Ho := Lib.hid ho
    have Hg := Lib.hid hg
    clear ho hg
    go_wp2
    go_ret
    exact ⟨_, _, rfl, Ho.out, (((Bel.refl w).alloc _).grown Hg.out (fun k h => by cases h; exact Nat.le_refl _)).1⟩
  · obtain ⟨b, o, he, hb, hcell⟩ := hc.at_ (by simp; omega)
    obtain ⟨rfl, rfl⟩ : g = b ∧ 0 = o := by simpa using he
    have Hz := Lib.hid hz
    have Hc := Lib.hid hcell
    clear hz hc hcell he
    go_enter Tryd.func57, Tryd.ntmps57
    go_wp2_with (at_builtin; refine wpList_append_lies _ (by rfl) _ _ 28 (by rfl) w.heap.size 2 i (.int .i64 0) 1 8 Tryd.underlying28 hi h0 h1 h2 (by rfl) (by omega) _ 0 [] (by rfl) (own_none w 2 1) ⟨g, 0, none⟩ n c (zs.map (Value.int .i64)) (by rfl) (by have := Hz.out; simp; omega) ?qc1 ?qc2 (by omega) (by unfold maxLen; omega) (by omega) (by simp) _ rfl ?_)
    case qc1 =>
      intro j u hj
      have hjl : j < (zs.map (Value.int .i64)).length := (List.getElem?_eq_some_iff.1 hj).1
      rw [Addr.add_lit]
      refine Lib.cell?_alloc_some _ ?_
      rw [Hc.out j hjl]
      exact hj
    case qc2 =>
      intro u hu
      obtain ⟨z, _, rfl⟩ := List.mem_map.1 hu
      rfl
    intro g' cap w1 ho hg _ _
    try simp only [Nat.zero_add, List.nil_append] at ho
    have Ho := Lib.hid ho
    have Hg := Lib.hid hg
    clear ho hg
    go_wp2
    go_ret
    exact ⟨_, _, rfl, Ho.out, (((Bel.refl w).alloc _).grown Hg.out (fun k h => by cases h; exact Nat.le_refl _)).1⟩


end Go.Proofs.YthemlamdchcicaaDoor
