/-
  Contracts of the tests of spools and needs, both sides. No condition of its own.
-/
import Derived.Test.YtoomkeicfdmdoaaSlices
import Derived.Test.YtoomkeicfdmdoaaClone
import Derived.BigQuiet
import Derived.WalkLawsBesides
namespace Go.Proofs.Ytoomkeicfdmdoaa
open Go.ChangeShapes Go.WideShapes Go.ChangeAt Go.RowKit Go.Deep Go.Shelf

def spoolsB (zs ys : List Int) (n m : Nat) : Bool := (!outB zs 0 1000000) && ((!outB ys 1 1000000) && (decide (n ≤ 6) && decide (m ≤ 8)))

theorem outB_bad {zs : List Int} {lo hi x : Int} {k : Nat} (hk : k < zs.length) (hx : zs.getD k 0 = x) (h : inB x lo hi = false) : outB zs lo hi = true := by
  have : zs[k] = x := by rw [← hx]; simp [List.getElem?_eq_getElem hk]
  simp only [outB, List.any_eq_true]
  exact ⟨x, by rw [← this]; exact List.getElem_mem hk, by simp [h]⟩
theorem outB_good {zs : List Int} {lo hi : Int} {k : Nat} (hk : zs.length ≤ k) (h : ∀ j, j < k → inB (zs.getD j 0) lo hi = true) : outB zs lo hi = false := by
  rw [outB_false]
  intro z hz
  obtain ⟨j, hj, rfl⟩ := List.mem_iff_getElem.1 hz
  have := h j (by omega)
  rw [inB_true] at this
  simpa [List.getElem?_eq_getElem hj] using this
theorem inB_more {zs : List Int} {lo hi x : Int} {k : Nat} (h : ∀ j, j < k → inB (zs.getD j 0) lo hi = true) (hx : zs.getD k 0 = x) (hk : inB x lo hi = true) : ∀ j, j < k + 1 → inB (zs.getD j 0) lo hi = true := fun j hj => by
  by_cases e : j = k
  · subst e; rw [hx]; exact hk
  · exact h j (by omega)
theorem cell_int {w W : World} {b o j : Nat} {zs : List Int} {x : Int} (hb : b < w.heap.size) (hbw : Below w.heap.size w W) (hc : ∀ i, i < (zs.map (Value.int .i64)).length → w.cell? ⟨b, o + i, none⟩ = (zs.map (Value.int .i64))[i]?) (hj : j < zs.length) (hx : zs.getD j 0 = x) :
    W.cell? ⟨b, o + j, none⟩ = some (.int .i64 x) := by
  rw [(hbw.cell (p := ⟨b, o + j, none⟩) hb).trans (hc j (by simpa using hj)), ← hx]
  simp [List.getElem?_eq_getElem hj]

set_option maxRecDepth 100000 in
set_option maxHeartbeats 1600000 in
theorem l16Spools_any (a : Option Addr) (n c : Nat) (zs : List Int) (a' : Option Addr) (m d : Nat) (ys : List Int) (w : World) (hz : zs.length = n) (hy : ys.length = m) (hn : n ≤ 1073741824) (hm : m ≤ 1073741824)
    (ha : CellsAt w a (zs.map (Value.int .i64))) (hb : CellsAt w a' (ys.map (Value.int .i64))) :
    Calls Try.prog 52 #[.slice a n c, .slice a' m d] w fun e w' => e = .returned (.bool (spoolsB zs ys n m)) ∧ Below w.heap.size w w' := by
  obtain ⟨r, hr⟩ : ∃ r, spoolsB zs ys n m = r := ⟨_, rfl⟩
  rw [hr]
  have HR := Lib.hid hr
  have Hz := Lib.hid hz
  have Hy := Lib.hid hy
  have HA := Lib.hid ha
  have HB := Lib.hid hb
  clear hr hz hy ha hb
  go_enter Try.func52, Try.ntmps52
  go_wp2
  go_loopw [5] (fun i wr => ∃ k : Nat, k ≤ n ∧ i = .int .i64 k ∧ Hid (∀ j, j < k → inB (zs.getD j 0) 0 1000000 = true) ∧ Below w.heap.size w wr) (fun i _ => n - (intOf i).toNat)
  case atStart => exact ⟨0, Nat.zero_le _, rfl, Lib.hid (fun j hj => absurd hj (by omega)), Below.refl _ _⟩
  case round =>
    obtain ⟨k, hk, rfl, hall, hbw⟩ := hrel
    have Hbw := Lib.hid hbw
    clear hbw
    by_cases hlt : k < n
    · obtain ⟨b, o, rfl, hb, hc⟩ := HA.out.at_ (by have := Hz.out; simp; omega)
      obtain ⟨x, hx⟩ : ∃ z, zs.getD k 0 = z := ⟨_, rfl⟩
      have hcx := cell_int hb Hbw.out hc (by rw [Hz.out]; exact hlt) hx
      have Hx := Lib.hid hx
      clear hc hx
      have hlt' : (k : Int) < (n : Int) := by omega
      cases h1 : inB x 0 1000000 with
      | false =>
        obtain rfl : r = false := by rw [← HR.out, spoolsB, outB_bad (by rw [Hz.out]; exact hlt) Hx.out h1]; rfl
        go_wp2_with (go_at_call 83; refine (l00In_any _ _ _ _).mono ?_; rintro e w1 ⟨rfl, rfl⟩)
        go_ret
        exact ⟨rfl, Hbw.out⟩
      | true =>
        have H1 := Lib.hid h1
        go_wp2_with (go_at_call 83; refine (l00In_any _ _ _ _).mono ?_; rintro e w1 ⟨rfl, rfl⟩)
        go_roundw
        case rel => exact ⟨k + 1, by omega, by go_num, Lib.hid (inB_more hall.out Hx.out H1.out), Hbw.out⟩
        case measure => simp [intOf]; omega
    · have Hzg := Lib.hid (outB_good (zs := zs) (lo := 0) (hi := 1000000) (k := k) (by rw [Hz.out]; omega) hall.out)
      go_wp2
      go_loopw [6] (fun i wi => ∃ j : Nat, j ≤ m ∧ i = .int .i64 j ∧ Hid (∀ q, q < j → inB (ys.getD q 0) 1 1000000 = true) ∧ Hid (Below w.heap.size w wi)) (fun i _ => m - (intOf i).toNat)
      case atStart => exact ⟨0, Nat.zero_le _, rfl, Lib.hid (fun j hj => absurd hj (by omega)), Hbw⟩
      case round =>
        obtain ⟨j, hj, rfl, hall2, Hbi⟩ := hrel
        by_cases hlj : j < m
        · obtain ⟨b, o, rfl, hb, hc⟩ := HB.out.at_ (by have := Hy.out; simp; omega)
          obtain ⟨x, hx⟩ : ∃ z, ys.getD j 0 = z := ⟨_, rfl⟩
          have hcx := cell_int hb Hbi.out hc (by rw [Hy.out]; exact hlj) hx
          have Hx := Lib.hid hx
          clear hc hx
          have hlt' : (j : Int) < (m : Int) := by omega
          cases h1 : inB x 1 1000000 with
          | false =>
            obtain rfl : r = false := by rw [← HR.out, spoolsB, outB_bad (by rw [Hy.out]; exact hlj) Hx.out h1]; simp
            go_wp2_with (go_at_call 83; refine (l00In_any _ _ _ _).mono ?_; rintro e w1 ⟨rfl, rfl⟩)
            go_ret
            exact ⟨rfl, Hbi.out⟩
          | true =>
            have H1 := Lib.hid h1
            go_wp2_with (go_at_call 83; refine (l00In_any _ _ _ _).mono ?_; rintro e w1 ⟨rfl, rfl⟩)
            go_roundw
            case rel => exact ⟨j + 1, by omega, by go_num, Lib.hid (inB_more hall2.out Hx.out H1.out), Hbi⟩
            case measure => simp [intOf]; omega
        · have Hyg := Lib.hid (outB_good (zs := ys) (lo := 1) (hi := 1000000) (k := j) (by rw [Hy.out]; omega) hall2.out)
          go_wp2
          all_goals
            go_ret
            exact ⟨ret_bool (by rw [← HR.out, spoolsB, Hzg.out, Hyg.out, Bool.eq_iff_iff]; simp; omega), Hbi.out⟩

set_option maxRecDepth 100000 in
set_option maxHeartbeats 1600000 in
theorem areSpools_any (a : Option Addr) (n c : Nat) (zs : List Int) (a' : Option Addr) (m d : Nat) (ys : List Int) (w : World) (hz : zs.length = n) (hy : ys.length = m) (hn : n ≤ 1073741824) (hm : m ≤ 1073741824)
    (ha : CellsAt w a (zs.map (Value.int .i64))) (hb : CellsAt w a' (ys.map (Value.int .i64))) :
    Calls Try.prog 54 #[.slice a n c, .slice a' m d] w fun e w' => e = .returned (.bool (spoolsB zs ys n m)) ∧ Below w.heap.size w w' := by
  have h1 := outside_any a n c zs 0 1000000 w hz hn ha
  have h2 := fun W (e : Below w.heap.size w W) => outside_any a' m d ys 1 1000000 W hy hm (hb.below e)
  obtain ⟨r, hr⟩ : ∃ r, spoolsB zs ys n m = r := ⟨_, rfl⟩
  rw [hr]
  rw [spoolsB] at hr
  generalize outB zs 0 1000000 = p at h1 hr
  generalize outB ys 1 1000000 = q at h2 hr
  have HR := Lib.hid hr
  have H1 := Lib.hid h1
  have H2 := Lib.hid h2
  clear hr h1 h2 hz hy ha hb
  cases p
  all_goals cases q
  all_goals
    go_enter Try.func54, Try.ntmps54
    go_wp2_with (first | (go_at_call 84; refine (H2.out _ HB1.out).mono ?_; rintro e w2 ⟨rfl, hb2⟩; have HB2 := Lib.hid hb2; clear hb2) | (go_at_call 84; refine H1.out.mono ?_; rintro e w1 ⟨rfl, hb1⟩; have HB1 := Lib.hid hb1; clear hb1))
  all_goals
    go_ret
    refine ⟨ret_bool (by rw [← HR.out, Bool.eq_iff_iff]; simp; try omega), ?_⟩
    first | exact Below.refl _ _ | exact ((Bel.of HB1.out).step HB2.out).1 | exact HB1.out
end Go.Proofs.Ytoomkeicfdmdoaa
