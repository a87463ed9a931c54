/-
  The laws' helpers f6ints, f6has, f6sum: contracts. No condition of its own.
-/
import Derived.Test.YtgdndmpnnocgiaaKeep
import Derived.Test.YtgdndmpnnocgiaaSlices
import Derived.Test.YtgdndmpnnocgiaaSides
import Derived.Outline
namespace Go.Proofs.Ytgdndmpnnocgiaa
open Go.ChangeShapes Go.WideShapes Go.ChangeAt Go.RowKit Go.Deep

set_option maxHeartbeats 800000 in
theorem f6ints_any (a b : Option Addr) (n c d : Nat) (zs : List Int) (w : World) (hz : zs.length = n) (hn : n ≤ 1073741824) (ha : CellsAt w a (zs.map (Value.int .i64))) (hb : CellsAt w b (zs.map (Value.int .i64))) :
    Calls Try.prog 46 #[.slice a n c, .slice b n d] w fun e w' => e = .returned (.bool true) ∧ Below w.heap.size w w' := by
  by_cases h0 : n = 0
  · subst h0
    have Hz := Lib.hid hz
    clear hz ha hb
    go_enter Try.func46, Try.ntmps46
    go_wp2
    refine wp_loop_once ?_
    go_wp2
    go_ret
    exact ⟨rfl, Below.refl _ _⟩
  · obtain ⟨b1, o1, rfl, hb1, hc1⟩ := ha.at_ (by simp; omega)
    obtain ⟨b2, o2, rfl, hb2, hc2⟩ := hb.at_ (by simp; omega)
    have Hz := Lib.hid hz
    have H1 := Lib.hid hc1
    have H2 := Lib.hid hc2
    clear hz hc1 hc2 ha hb
    have hnn : ((n : Int) != (n : Int)) = false := by simp
    go_enter Try.func46, Try.ntmps46
    go_wp2
    go_loopw [5] (fun i wr => ∃ k : Nat, k ≤ n ∧ i = .int .i64 k ∧ Below w.heap.size w wr) (fun i _ => n - (intOf i).toNat)
    case atStart => exact ⟨0, Nat.zero_le _, rfl, Below.refl _ _⟩
    case round =>
      obtain ⟨k, hk, rfl, hbw⟩ := hrel
      by_cases hlt : k < n
      · have hx1 : wr.cell? ⟨b1, o1 + k, none⟩ = some (.int .i64 (zs.getD k 0)) := by
          rw [hbw.cell (p := ⟨b1, o1 + k, none⟩) hb1, H1.out k (by simpa [Hz.out] using hlt)]
          simp [List.getElem?_eq_getElem (show k < zs.length by rw [Hz.out]; exact hlt)]
        have hx2 : wr.cell? ⟨b2, o2 + k, none⟩ = some (.int .i64 (zs.getD k 0)) := by
          rw [hbw.cell (p := ⟨b2, o2 + k, none⟩) hb2, H2.out k (by simpa [Hz.out] using hlt)]
          simp [List.getElem?_eq_getElem (show k < zs.length by rw [Hz.out]; exact hlt)]
        have Hb := Lib.hid hbw
        clear hbw
        have hlt' : (k : Int) < (n : Int) := by omega
        go_wp2
        go_quiet (fail)
        go_wp2
        go_roundw
        case rel => exact ⟨k + 1, by omega, by go_num, below_drewN Hb.out _⟩
        case measure => simp [intOf]; omega
      · go_wp2
        go_ret
        exact ⟨rfl, hbw⟩
/-- None of the first k numbers is x. -/
def noneTo (zs : List Int) (x : Int) (k : Nat) : Prop := ∀ j, j < k → zs.getD j 0 ≠ x
theorem none_all {zs : List Int} {x : Int} {k : Nat} (hk : zs.length ≤ k) (h : noneTo zs x k) : decide (x ∈ zs) = false := by
  apply decide_eq_false
  intro hx
  obtain ⟨j, hj, rfl⟩ := List.mem_iff_getElem.1 hx
  exact h j (by omega) (by simp [List.getElem?_eq_getElem hj])
set_option maxHeartbeats 800000 in
theorem f6has_any (a : Option Addr) (n c : Nat) (zs : List Int) (x : Int) (w : World) (hz : zs.length = n) (hn : n ≤ 1073741824) (ha : CellsAt w a (zs.map (Value.int .i64))) :
    Calls Try.prog 47 #[.slice a n c, .int .i64 x] w fun e w' => e = .returned (.bool (decide (x ∈ zs))) ∧ w = w' := by
  obtain ⟨r, hr⟩ : ∃ r, decide (x ∈ zs) = r := ⟨_, rfl⟩
  rw [hr]
  have HR := Lib.hid hr
  have Hz := Lib.hid hz
  have HA := Lib.hid ha
  clear hr hz ha
  go_enter Try.func47, Try.ntmps47
  go_wp2
  go_loop [5] (fun i => ∃ k : Nat, k ≤ n ∧ i = .int .i64 k ∧ Hid (noneTo zs x k)) (fun i => n - (intOf i).toNat)
  case atStart => exact ⟨0, Nat.zero_le _, rfl, Lib.hid (fun j hj => by omega)⟩
  case round =>
    obtain ⟨k, hk, rfl, hno⟩ := hrel
    by_cases hlt : k < n
    · obtain ⟨b, o, rfl, hb, hcc⟩ := HA.out.at_ (by have := Hz.out; simp; omega)
      obtain ⟨y, hy⟩ : ∃ y, zs.getD k 0 = y := ⟨_, rfl⟩
      have k1 := cell_int hb (Below.refl _ _) hcc (by rw [Hz.out]; exact hlt) hy
      have HY := Lib.hid hy
      clear hcc hy
      by_cases hxy : y = x
      · subst hxy
        obtain rfl : r = true := by
          rw [← HR.out, ← HY.out]
          simp [List.getElem?_eq_getElem (show k < zs.length by rw [Hz.out]; exact hlt)]
        have gg : (y == y) = true := by simp
        go_wp2
        go_ret
        exact ⟨rfl, rfl⟩
      · have gg : (y == x) = false := by simpa using hxy
        have HN := Lib.hid (show noneTo zs x (k + 1) from fun j hj => by
          by_cases e : j = k
          · subst e; rw [HY.out]; exact hxy
          · exact hno.out j (by omega))
        clear hxy
        go_wp2
        go_round
        case rel => exact ⟨k + 1, by omega, by go_num, HN⟩
        case measure => simp [intOf]; omega
    · obtain rfl : r = false := by rw [← HR.out]; exact none_all (by rw [Hz.out]; omega) hno.out
      go_wp2
      go_ret
      exact ⟨rfl, rfl⟩
/-- The sum of the first i numbers. -/
def sumTo (zs : List Int) : Nat → Int
  | 0 => 0
  | i + 1 => sumTo zs i + zs.getD i 0
theorem sumTo_bd {zs : List Int} {n : Nat} {B : Nat} (h : ∀ k, k < n → 0 ≤ zs.getD k 0 ∧ zs.getD k 0 ≤ (B : Int)) : ∀ {i : Nat}, i ≤ n → 0 ≤ sumTo zs i ∧ sumTo zs i ≤ ((i * B : Nat) : Int) := by
  intro i
  induction i with
  | zero => intro _; simp [sumTo]
  | succ i ih =>
    intro hi
    have h1 := ih (by omega)
    have h2 := h i (by omega)
    simp only [sumTo]
    rw [Nat.add_mul, Nat.one_mul]
    omega
set_option maxHeartbeats 800000 in
theorem f6sum_any (a : Option Addr) (n c : Nat) (zs : List Int) (w : World) (hz : zs.length = n) (hn : n ≤ 1000000) (hB : ∀ k, k < n → 0 ≤ zs.getD k 0 ∧ zs.getD k 0 ≤ ((1000000 : Nat) : Int)) (ha : CellsAt w a (zs.map (Value.int .i64))) :
    Calls Try.prog 48 #[.slice a n c] w fun e w' => e = .returned (.int .i64 (sumTo zs n)) ∧ w = w' := by
  have HB := Lib.hid hB
  have HS := Lib.hid (fun i (hi : i ≤ n) => sumTo_bd hB hi)
  have Hz := Lib.hid hz
  have HA := Lib.hid ha
  clear hz ha hB
  go_enter Try.func48, Try.ntmps48
  go_wp2
  go_loop [3, 4] (fun v i => ∃ k : Nat, k ≤ n ∧ i = .int .i64 k ∧ ∃ x : Int, v = .int .i64 x ∧ Hid (x = sumTo zs k)) (fun _ i => n - (intOf i).toNat)
  case atStart => exact ⟨0, Nat.zero_le _, rfl, 0, rfl, Lib.hid rfl⟩
  case round =>
    obtain ⟨k, hk, rfl, x, rfl, hx⟩ := hrel
    have hxb := HS.out k hk
    rw [← hx.out] at hxb
    obtain ⟨x1, x2⟩ := hxb
    have x3 : x ≤ 1000000000000 := by
      have : k * 1000000 ≤ 1000000 * 1000000 := Nat.mul_le_mul_right _ (by omega)
      omega
    clear x2
    by_cases hlt : k < n
    · obtain ⟨b, o, rfl, hb, hcc⟩ := HA.out.at_ (by have := Hz.out; simp; omega)
      obtain ⟨y, hy⟩ : ∃ y, zs.getD k 0 = y := ⟨_, rfl⟩
      have k1 := cell_int hb (Below.refl _ _) hcc (by rw [Hz.out]; exact hlt) hy
      have hyb := HB.out k hlt
      rw [hy] at hyb
      obtain ⟨y1, y2⟩ := hyb
      have y3 : y ≤ 1000000 := y2
      have HN := Lib.hid (show x + y = sumTo zs (k + 1) by rw [hx.out, ← hy]; rfl)
      clear hcc hy y2
      go_wp2
      go_round
      case rel => exact ⟨k + 1, by omega, by go_num, _, rfl, HN⟩
      case measure => simp [intOf]; omega
    · obtain rfl : k = n := by omega
      have HX := Lib.hid hx.out
      go_wp2
      go_ret
      exact ⟨ret_int HX.out, rfl⟩
end Go.Proofs.Ytgdndmpnnocgiaa
