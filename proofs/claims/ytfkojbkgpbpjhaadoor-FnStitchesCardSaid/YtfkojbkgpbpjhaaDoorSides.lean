/-
  Contracts of the tests of sides and of the number of stitches of a side, both sides. No condition of its own.
-/
import Derived.Test.YtfkojbkgpbpjhaaDoorSlices
import Derived.BigQuiet
import Derived.WalkLawsBesides
import Derived.StillTailTactics
namespace Go.Proofs.YtfkojbkgpbpjhaaDoor
open Go.ChangeShapes Go.WideShapes Go.ChangeAt Go.RowKit Go.Deep Go.Shelf

theorem outB_bad {zs : List Int} {lo hi x : Int} {k : Nat} (hk : k < zs.length) (hx : zs.getD k 0 = x) (h : inB x lo hi = false) : outB zs lo hi = true := by
  have : zs[k] = x := by rw [← hx]; simp [List.getElem?_eq_getElem hk]
  simp only [outB, List.any_eq_true]
  exact ⟨x, by rw [← this]; exact List.getElem_mem hk, by simp [h]⟩
theorem outB_good {zs : List Int} {lo hi : Int} {k : Nat} (hk : zs.length ≤ k) (h : ∀ j, j < k → inB (zs.getD j 0) lo hi = true) : outB zs lo hi = false := by
  rw [outB_false]
  intro z hz
  obtain ⟨j, hj, rfl⟩ := List.mem_iff_getElem.1 hz
  have := h j (by omega)
  rw [inB_true] at this
  simpa [List.getElem?_eq_getElem hj] using this
theorem inB_more {zs : List Int} {lo hi x : Int} {k : Nat} (h : ∀ j, j < k → inB (zs.getD j 0) lo hi = true) (hx : zs.getD k 0 = x) (hk : inB x lo hi = true) : ∀ j, j < k + 1 → inB (zs.getD j 0) lo hi = true := fun j hj => by
  by_cases e : j = k
  · subst e; rw [hx]; exact hk
  · exact h j (by omega)
theorem cell_int {w W : World} {b o j : Nat} {zs : List Int} {x : Int} (hb : b < w.heap.size) (hbw : Below w.heap.size w W) (hc : ∀ i, i < (zs.map (Value.int .i64)).length → w.cell? ⟨b, o + i, none⟩ = (zs.map (Value.int .i64))[i]?) (hj : j < zs.length) (hx : zs.getD j 0 = x) :
    W.cell? ⟨b, o + j, none⟩ = some (.int .i64 x) := by
  rw [(hbw.cell (p := ⟨b, o + j, none⟩) hb).trans (hc j (by simpa using hj)), ← hx]
  simp [List.getElem?_eq_getElem hj]
theorem outB_at {ys : List Int} {lo hi : Int} {j : Nat} (h : outB ys lo hi = false) (hj : j < ys.length) : lo ≤ ys.getD j 0 ∧ ys.getD j 0 ≤ hi := by
  have := outB_false.1 h ys[j] (List.getElem_mem hj)
  simpa [List.getElem?_eq_getElem hj] using this
theorem cell_at0 {w W : World} {g j : Nat} {zs : List Int} {x : Int} (hc : CellsAt w (some ⟨g, 0, none⟩) (zs.map (Value.int .i64))) (hbw : Below w.heap.size w W) (hj : j < zs.length) (hx : zs.getD j 0 = x) :
    W.cell? ⟨g, j, none⟩ = some (.int .i64 x) := by
  obtain ⟨b, off, hae, hb, hcc⟩ := hc.at_ (by simp; omega)
  obtain ⟨rfl, rfl⟩ : g = b ∧ 0 = off := by simpa using hae
  have h := cell_int hb hbw hcc hj hx
  rw [Nat.zero_add] at h
  exact h

def sidesB (zs : List Int) (n : Nat) : Bool := inB (n : Int) 1 12 && !outB zs 1 5000
def sidesC (zs : List Int) (n : Nat) (s : Int) : Int := if sidesB zs n then (if inB s 10 120 then 0 else 2) else 1
/-- The nearest number to a quotient. -/
def rndI (a b : Int) : Int := (2 * a + b) / (2 * b)
def cntI (a s : Int) : Int := max (rndI a s) 1
theorem rndI_bd {a b : Int} (h1 : 0 ≤ a) (h2 : 1 ≤ b) : 0 ≤ rndI a b ∧ rndI a b ≤ a + 1 := by
  constructor
  · exact Int.ediv_nonneg (by omega) (by omega)
  · unfold rndI
    have h3 : (2 * a + b) / (2 * b) < a + 2 := by
      rw [Int.ediv_lt_iff_lt_mul (by omega)]
      have : 0 ≤ a * (b - 1) := Int.mul_nonneg h1 (by omega)
      rw [Int.mul_sub] at this
      rw [Int.add_mul, show a * (2 * b) = 2 * (a * b) from by rw [← Int.mul_assoc, Int.mul_comm a 2, Int.mul_assoc]]
      omega
    omega
theorem cntI_bd {a s : Int} (h1 : 0 ≤ a) (h2 : 1 ≤ s) : 1 ≤ cntI a s ∧ cntI a s ≤ a + 1 := by
  have := rndI_bd h1 h2
  unfold cntI
  omega
theorem sides_at {zs : List Int} {n : Nat} (h : sidesB zs n = true) (hl : zs.length = n) {k : Nat} (hk : k < n) : 1 ≤ zs.getD k 0 ∧ zs.getD k 0 ≤ 5000 := by
  simp only [sidesB, Bool.and_eq_true, Bool.not_eq_true'] at h
  exact outB_at h.2 (by omega)
theorem sides_n {zs : List Int} {n : Nat} (h : sidesB zs n = true) : 1 ≤ n ∧ n ≤ 12 := by
  simp only [sidesB, Bool.and_eq_true, inB_true] at h
  omega

set_option maxHeartbeats 800000 in
theorem validSides_any (a : Option Addr) (n c : Nat) (zs : List Int) (w : World) (hz : zs.length = n) (hn : n ≤ 1073741824) (hc : CellsAt w a (zs.map (Value.int .i64))) :
    Calls Tryd.prog 49 #[.slice a n c] w fun e w' => e = .returned (.bool (sidesB zs n)) ∧ Below w.heap.size w w' := by
  have h1 := outside_any a n c zs 1 5000 w hz hn hc
  obtain ⟨r, hr⟩ : ∃ r, sidesB zs n = r := ⟨_, rfl⟩
  rw [hr]
  rw [sidesB] at hr
  generalize outB zs 1 5000 = p at h1 hr
  have HR := Lib.hid hr
  have H1 := Lib.hid h1
  clear hr h1 hz hc
  cases hi : inB (n : Int) 1 12
  all_goals cases p
  all_goals
    have Hi := Lib.hid hi
    go_enter Tryd.func49, Tryd.ntmps49
    go_wp2_with (first | (go_at_call 63; refine (within_any _ _ _ _).mono ?_; rintro e w1 ⟨rfl, rfl⟩) | (go_at_call 95; refine H1.out.mono ?_; rintro e w1 ⟨rfl, hb1⟩; have HB1 := Lib.hid hb1; clear hb1))
    go_ret
    refine ⟨ret_bool (by rw [← HR.out, Hi.out]; rfl), ?_⟩
    first | exact Below.refl _ _ | exact HB1.out

set_option maxRecDepth 100000 in
set_option maxHeartbeats 1600000 in
theorem l15Ok_any (a : Option Addr) (n c : Nat) (zs : List Int) (w : World) (hz : zs.length = n) (hn : n ≤ 1073741824) (hc : CellsAt w a (zs.map (Value.int .i64))) :
    Calls Tryd.prog 85 #[.slice a n c] w fun e w' => e = .returned (.bool (sidesB zs n)) ∧ Below w.heap.size w w' := by
  obtain ⟨r, hr⟩ : ∃ r, sidesB zs n = r := ⟨_, rfl⟩
  rw [hr]
  have HR := Lib.hid hr
  have Hz := Lib.hid hz
  have HA := Lib.hid hc
  clear hr hz hc
  go_enter Tryd.func85, Tryd.ntmps85
  go_wp2
  go_loopw [3] (fun i wr => ∃ k : Nat, k ≤ n ∧ i = .int .i64 k ∧ Hid (∀ j, j < k → inB (zs.getD j 0) 1 5000 = true) ∧ Below w.heap.size w wr) (fun i _ => n - (intOf i).toNat)
  case atStart => exact ⟨0, Nat.zero_le _, rfl, Lib.hid (fun j hj => absurd hj (by omega)), Below.refl _ _⟩
  case round =>
    obtain ⟨k, hk, rfl, hall, hbw⟩ := hrel
    have Hbw := Lib.hid hbw
    clear hbw
    by_cases hlt : k < n
    · obtain ⟨b, o, rfl, hb, hc⟩ := HA.out.at_ (by have := Hz.out; simp; omega)
      obtain ⟨x, hx⟩ : ∃ z, zs.getD k 0 = z := ⟨_, rfl⟩
      have hcx := cell_int hb Hbw.out hc (by rw [Hz.out]; exact hlt) hx
      have Hx := Lib.hid hx
      clear hc hx
      have hlt' : (k : Int) < (n : Int) := by omega
      cases h1 : inB x 1 5000 with
      | false =>
        obtain rfl : r = false := by rw [← HR.out, sidesB, outB_bad (by rw [Hz.out]; exact hlt) Hx.out h1]; simp
        go_wp2_with (go_at_call 86; refine (l00In_any _ _ _ _).mono ?_; rintro e w1 ⟨rfl, rfl⟩)
        go_ret
        exact ⟨rfl, Hbw.out⟩
      | true =>
        have H1 := Lib.hid h1
        go_wp2_with (go_at_call 86; refine (l00In_any _ _ _ _).mono ?_; rintro e w1 ⟨rfl, rfl⟩)
        go_roundw
        case rel => exact ⟨k + 1, by omega, by go_num, Lib.hid (inB_more hall.out Hx.out H1.out), Hbw.out⟩
        case measure => simp [intOf]; omega
    · have Hzg := Lib.hid (outB_good (zs := zs) (lo := 1) (hi := 5000) (k := k) (by rw [Hz.out]; omega) hall.out)
      go_wp2_with (go_at_call 86; refine (l00In_any _ _ _ _).mono ?_; rintro e w1 ⟨rfl, rfl⟩)
      go_ret
      exact ⟨ret_bool (by rw [← HR.out, sidesB, Hzg.out]; simp), Hbw.out⟩

theorem isStitch_any (s : Int) (w : World) : Calls Tryd.prog 94 #[.int .i64 s] w fun e w' => e = .returned (.bool (inB s 10 120)) ∧ w = w' := by
  go_enter Tryd.func94, Tryd.ntmps94
  go_wp2_with (go_at_call 63; refine (within_any _ _ _ _).mono ?_; rintro e w1 ⟨rfl, rfl⟩)
  go_ret
  exact ⟨rfl, rfl⟩
theorem l15Stitch_any (s : Int) (w : World) : Calls Tryd.prog 92 #[.int .i64 s] w fun e w' => e = .returned (.bool (inB s 10 120)) ∧ w = w' := by
  go_enter Tryd.func92, Tryd.ntmps92
  go_wp2_with (go_at_call 86; refine (l00In_any _ _ _ _).mono ?_; rintro e w1 ⟨rfl, rfl⟩)
  go_ret
  exact ⟨rfl, rfl⟩

set_option maxHeartbeats 800000 in
theorem sidesCode_any (a : Option Addr) (n c : Nat) (zs : List Int) (s : Int) (w : World) (hz : zs.length = n) (hn : n ≤ 1073741824) (hc : CellsAt w a (zs.map (Value.int .i64))) :
    Calls Tryd.prog 73 #[.slice a n c, .int .i64 s] w fun e w' => e = .returned (.int .i64 (sidesC zs n s)) ∧ Below w.heap.size w w' := by
  have h1 := validSides_any a n c zs w hz hn hc
  obtain ⟨r, hr⟩ : ∃ r, sidesC zs n s = r := ⟨_, rfl⟩
  rw [hr]
  rw [sidesC] at hr
  generalize sidesB zs n = p at h1 hr
  have H1 := Lib.hid h1
  clear h1 hz hc
  cases hi : inB s 10 120
  all_goals cases p
  all_goals
    simp only [hi, if_true, Bool.false_eq_true, if_false] at hr
    subst hr
    go_enter Tryd.func73, Tryd.ntmps73
    go_wp2_with (first | (go_at_call 94; refine (isStitch_any _ _).mono ?_; rintro e w1 ⟨rfl, rfl⟩) | (go_at_call 49; refine H1.out.mono ?_; rintro e w1 ⟨rfl, hb1⟩; have HB1 := Lib.hid hb1; clear hb1))
    go_ret
    exact ⟨rfl, HB1.out⟩
set_option maxHeartbeats 800000 in
theorem l15Code_any (a : Option Addr) (n c : Nat) (zs : List Int) (s : Int) (w : World) (hz : zs.length = n) (hn : n ≤ 1073741824) (hc : CellsAt w a (zs.map (Value.int .i64))) :
    Calls Tryd.prog 70 #[.slice a n c, .int .i64 s] w fun e w' => e = .returned (.int .i64 (sidesC zs n s)) ∧ Below w.heap.size w w' := by
  have h1 := l15Ok_any a n c zs w hz hn hc
  obtain ⟨r, hr⟩ : ∃ r, sidesC zs n s = r := ⟨_, rfl⟩
  rw [hr]
  rw [sidesC] at hr
  generalize sidesB zs n = p at h1 hr
  have H1 := Lib.hid h1
  clear h1 hz hc
  cases hi : inB s 10 120
  all_goals cases p
  all_goals
    simp only [hi, if_true, Bool.false_eq_true, if_false] at hr
    subst hr
    go_enter Tryd.func70, Tryd.ntmps70
    go_wp2_with (first | (go_at_call 92; refine (l15Stitch_any _ _).mono ?_; rintro e w1 ⟨rfl, rfl⟩) | (go_at_call 85; refine H1.out.mono ?_; rintro e w1 ⟨rfl, hb1⟩; have HB1 := Lib.hid hb1; clear hb1))
    go_ret
    exact ⟨rfl, HB1.out⟩

theorem rounded_any (x y : Int) (w : World) (h1 : 0 ≤ x) (h2 : x ≤ 1000000000000) (h3 : 1 ≤ y) (h4 : y ≤ 1000000000000) :
    Calls Tryd.prog 104 #[.int .i64 x, .int .i64 y] w fun e w' => e = .returned (.int .i64 (rndI x y)) ∧ w = w' := by
  have m1 := Int.emod_nonneg (2 * x + y) (show 2 * y ≠ 0 by omega)
  have d1 := rndI_bd h1 h3
  unfold rndI at d1 ⊢
  obtain ⟨d1, d2⟩ := d1
  have hne : (2 * y == 0) = false := by simp; omega
  go_enter Tryd.func104, Tryd.ntmps104
  go_wp2
  go_ret
  exact ⟨rfl, rfl⟩
theorem l02Floor_any (x y : Int) (w : World) (h1 : 0 ≤ x) (h2 : x ≤ 4000000000000) (h3 : 1 ≤ y) (h4 : y ≤ 4000000000000) :
    Calls Tryd.prog 123 #[.int .i64 x, .int .i64 y] w fun e w' => e = .returned (.int .i64 (x / y)) ∧ w = w' := by
  have m1 := Int.emod_nonneg x (show y ≠ 0 by omega)
  have d1 : 0 ≤ x / y := Int.ediv_nonneg (by omega) (by omega)
  have d2 : x / y ≤ x := Int.ediv_le_self _ h1
  go_enter Tryd.func123, Tryd.ntmps123
  go_wp2
  go_ret
  exact ⟨rfl, rfl⟩
theorem l02Round_any (x y : Int) (w : World) (h1 : 0 ≤ x) (h2 : x ≤ 1000000000000) (h3 : 1 ≤ y) (h4 : y ≤ 1000000000000) :
    Calls Tryd.prog 103 #[.int .i64 x, .int .i64 y] w fun e w' => e = .returned (.int .i64 (rndI x y)) ∧ w = w' := by
  go_enter Tryd.func103, Tryd.ntmps103
  go_wp2_with (go_at_call 123; refine (l02Floor_any _ _ _ (by omega) (by omega) (by omega) (by omega)).mono ?_; rintro e w1 ⟨rfl, rfl⟩)
  go_ret
  exact ⟨rfl, rfl⟩
theorem l00Max_any (x y : Int) (w : World) : Calls Tryd.prog 89 #[.int .i64 x, .int .i64 y] w fun e w' => e = .returned (.int .i64 (max x y)) ∧ w = w' := by
  by_cases h : y < x
  · go_enter Tryd.func89, Tryd.ntmps89
    go_wp2
    go_ret
    exact ⟨ret_int (by omega), rfl⟩
  · go_enter Tryd.func89, Tryd.ntmps89
    go_wp2
    go_ret
    exact ⟨ret_int (by omega), rfl⟩
theorem stitchesFor_any (x y : Int) (w : World) (h1 : 0 ≤ x) (h2 : x ≤ 1000000000000) (h3 : 1 ≤ y) (h4 : y ≤ 1000000000000) :
    Calls Tryd.prog 74 #[.int .i64 x, .int .i64 y] w fun e w' => e = .returned (.int .i64 (cntI x y)) ∧ w = w' := by
  go_enter Tryd.func74, Tryd.ntmps74
  go_wp2_with (go_at_call 104; refine (rounded_any _ _ _ h1 h2 h3 h4).mono ?_; rintro e w1 ⟨rfl, rfl⟩)
  all_goals
    go_ret
    exact ⟨ret_int (by unfold cntI; omega), rfl⟩
theorem l15Count_any (x y : Int) (w : World) (h1 : 0 ≤ x) (h2 : x ≤ 1000000000000) (h3 : 1 ≤ y) (h4 : y ≤ 1000000000000) :
    Calls Tryd.prog 72 #[.int .i64 x, .int .i64 y] w fun e w' => e = .returned (.int .i64 (cntI x y)) ∧ w = w' := by
  go_enter Tryd.func72, Tryd.ntmps72
  go_wp2_with (first | (go_at_call 103; refine (l02Round_any _ _ _ h1 h2 h3 h4).mono ?_; rintro e w1 ⟨rfl, rfl⟩) | (go_at_call 89; refine (l00Max_any _ _ _).mono ?_; rintro e w1 ⟨rfl, rfl⟩))
  go_ret
  exact ⟨ret_int (by unfold cntI; omega), rfl⟩
end Go.Proofs.YtfkojbkgpbpjhaaDoor
