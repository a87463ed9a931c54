/-
  Contracts of the draws one and among. No condition of its own.
-/
import Derived.Test.YtfkojbkgpbpjhaaGreatDoorSrc
namespace Go.Proofs.YtfkojbkgpbpjhaaGreatDoor
open Go.ChangeShapes Go.WideShapes Go.ChangeAt Go.RowKit Go.Deep

/-- A draw that answers yes or no. -/
theorem one_any (w0 w : World) (p nc cc A : Nat) (ac : Option Addr) (n : Int) (hc : CodeAt w0 ac nc) (hb : Bel w0.heap.size w0 w) (hs : SrcAt w w0.heap.size p ac nc cc A) (hA : A ≤ 1000000) (hn : n ≤ 1000000000000) :
    Calls Tryz.prog 28 #[.pointer (some ⟨p, 0, none⟩), .int .i64 n] w fun e w' => ∃ q : Bool, e = .returned (.bool q) ∧ SrcAt w' w0.heap.size p ac nc cc (A + 2) ∧ w.grownBy w' (some p) := by
  have HP := Lib.hid (pick_any w0 w p nc cc A ac n hc hb hs hA hn)
  clear hc hb hs
  go_enter Tryz.func28, Tryz.ntmps28
  go_wp2_with fail
  refine HP.out.mono ?_
  rintro e w1 ⟨r, rfl, _, _, hs1, hg1⟩
  have H := Lib.hid (And.intro hs1 hg1)
  clear hs1 hg1
  go_wp2_with fail
  go_ret
  exact ⟨_, rfl, H.out.1, H.out.2⟩
/-- A draw of one of some numbers that lie in a block of their own. -/
theorem among_any (w0 w : World) (p nc cc A : Nat) (ac : Option Addr) (b m c : Nat) (zs : List Int) (hl : zs.length = m) (h1 : 1 ≤ m) (hm : m ≤ 1000) (hL : ∀ (j : Nat) (u : Int), zs[j]? = some u → w.cell? ⟨b, j, none⟩ = some (.int .i64 u)) (hbp : p < b) (hbs : b < w.heap.size)
    (hc : CodeAt w0 ac nc) (hb : Bel w0.heap.size w0 w) (hs : SrcAt w w0.heap.size p ac nc cc A) (hA : A ≤ 1000000) :
    Calls Tryz.prog 29 #[.pointer (some ⟨p, 0, none⟩), .slice (some ⟨b, 0, none⟩) m c] w fun e w' => ∃ r : Int, e = .returned (.int .i64 r) ∧ r ∈ zs ∧ SrcAt w' w0.heap.size p ac nc cc (A + 2) ∧ w.grownBy w' (some p) := by
  have HP := Lib.hid (pick_any w0 w p nc cc A ac (m : Int) hc hb hs hA (by omega))
  have HL := Lib.hid hL
  have Hl := Lib.hid hl
  clear hc hb hs hL hl
  go_enter Tryz.func29, Tryz.ntmps29
  go_wp2_with fail
  refine HP.out.mono ?_
  rintro e w1 ⟨r, rfl, r1, r2, hs1, hg1⟩
  obtain ⟨k, rfl⟩ : ∃ k : Nat, r = (k : Int) := ⟨r.toNat, by omega⟩
  have hk : k < m := by omega
  have hkl : k < zs.length := by rw [Hl.out]; exact hk
  obtain ⟨u, hu⟩ : ∃ u, zs[k]? = some u := ⟨zs[k], List.getElem?_eq_getElem hkl⟩
  have hcell : w1.cell? ⟨b, k, none⟩ = some (.int .i64 u) := (hg1.cell_far ⟨b, k, none⟩ hbs (fun e => by have h1 : b = p := (by simpa using e); omega)).trans (HL.out k u hu)
  have HM := Lib.hid (List.mem_of_getElem? hu)
  have H := Lib.hid (And.intro hs1 hg1)
  clear hs1 hg1 hu hkl r1 r2
  go_wp2_with fail
  go_ret
  exact ⟨u, rfl, HM.out, H.out.1, H.out.2⟩
/-- The numbers of a literal in memory. -/
theorem lit_cells (w : World) (zs : List Int) (T : Nat) : ∀ (j : Nat) (u : Int), zs[j]? = some u → (w.alloc (.cells (zs.map (Value.int .i64)).toArray T)).cell? ⟨w.heap.size, j, none⟩ = some (.int .i64 u) := by
  intro j u hj
  have h := World.news_of_block (heap_alloc_new w (.cells (zs.map (Value.int .i64)).toArray T)) j (.int .i64 u) (by simp [hj])
  rw [addr_add, Nat.zero_add] at h
  exact h
/-- A draw of one of a literal's numbers, told from the world ahead of the literal. -/
theorem among_lit (w0 w : World) (p nc cc A m T : Nat) (ac : Option Addr) (zs : List Int) (hl : zs.length = m) (h1 : 1 ≤ m) (hm : m ≤ 1000)
    (hc : CodeAt w0 ac nc) (hb : Bel w0.heap.size w0 w) (hs : SrcAt w w0.heap.size p ac nc cc A) (hA : A ≤ 1000000) :
    Calls Tryz.prog 29 #[.pointer (some ⟨p, 0, none⟩), .slice (some ⟨w.heap.size, 0, none⟩) m m] (w.alloc (.cells (zs.map (Value.int .i64)).toArray T)) fun e w' => ∃ r : Int, e = .returned (.int .i64 r) ∧ r ∈ zs ∧ SrcAt w' w0.heap.size p ac nc cc (A + 2) ∧ w.grownBy w' (some p) := by
  refine (among_any w0 _ p nc cc A ac w.heap.size m m zs hl h1 hm (lit_cells w zs T) hs.base.2 (by simp) hc (hb.alloc _) (hs.alloc _) hA).mono ?_
  rintro e w' ⟨r, he, hr, h3, h4⟩
  exact ⟨r, he, hr, h3, grown_trans_row (World.grownBy_alloc w _ (some p)) h4⟩
end Go.Proofs.YtfkojbkgpbpjhaaGreatDoor
