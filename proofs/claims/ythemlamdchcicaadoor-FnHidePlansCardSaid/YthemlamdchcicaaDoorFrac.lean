/-
  Contracts of gcd, lowest and their twins in the reference. No condition of its own.
-/
import Derived.Test.YthemlamdchcicaaDoorBase
import Derived.WalkLawsBesides
import Derived.Outline
namespace Go.Proofs.YthemlamdchcicaaDoor
open Go.ChangeShapes Go.WideShapes Go.ChangeAt Go.RowKit Go.Deep

theorem gcd_step {x y : Int} (hx : 0 ≤ x) (hy : 0 ≤ y) : Int.gcd y (x % y) = Int.gcd x y := by
  obtain ⟨a, rfl⟩ := Int.eq_ofNat_of_zero_le hx
  obtain ⟨b, rfl⟩ := Int.eq_ofNat_of_zero_le hy
  show Int.gcd (b : Int) ((a % b : Nat) : Int) = _
  rw [Int.gcd_natCast_natCast, Int.gcd_natCast_natCast, Nat.gcd_comm b (a % b), ← Nat.gcd_rec, Nat.gcd_comm]

def Drawn (w w' : World) : Prop := ∃ q, w.drewN q = w'
theorem Drawn.refl (w : World) : Drawn w w := ⟨0, rfl⟩

set_option maxHeartbeats 800000 in
theorem gcd_any (a b : Int) (w : World) (h1 : 0 ≤ a) (h2 : a ≤ 4611686018427387904) (h3 : 0 ≤ b) (h4 : b ≤ 4611686018427387904) :
    Calls Tryd.prog 68 #[.int .i64 a, .int .i64 b] w fun e w' => e = .returned (.int .i64 (Int.gcd a b)) ∧ Drawn w w' := by
  go_enter Tryd.func68, Tryd.ntmps68
  go_wp2
  go_loopw [0, 1] (fun u v wr => ∃ x y : Int, 0 ≤ x ∧ x ≤ 4611686018427387904 ∧ 0 ≤ y ∧ y ≤ 4611686018427387904 ∧ u = .int .i64 x ∧ v = .int .i64 y ∧ Hid (Int.gcd x y = Int.gcd a b) ∧ Drawn w wr) (fun _ v _ => (intOf v).toNat)
  case atStart => exact ⟨a, b, h1, h2, h3, h4, rfl, rfl, Lib.hid rfl, Drawn.refl w⟩
  case round =>
    obtain ⟨x, y, x1, x2, y1, y2, rfl, rfl, hg, q, rfl⟩ := hrel
    clear h1 h2 h3 h4
    by_cases hy : y = 0
    · subst hy
      go_wp2
      all_goals
        go_ret
        refine ⟨ret_int ?_, _, rfl⟩
        rw [← hg.out]
        simp [Int.gcd]
        omega
    · have hy0 : (y != 0) = true := by simpa using hy
      have hy1 : (y == 0) = false := by simpa using hy
      have hy2 : 1 ≤ y := by omega
      have hm1 := Int.emod_nonneg x hy
      have hm2 := Int.emod_lt_of_pos x (show 0 < y by omega)
      clear hy
      go_wp2
      go_region
      go_wp2
      go_roundw
      case rel => exact ⟨y, x % y, by omega, by omega, hm1, by omega, rfl, rfl, Lib.hid ((gcd_step x1 y1).trans hg.out), q + 1, rfl⟩
      case measure => simp [intOf]; omega


theorem gcd_pos {n d : Int} (h : 1 ≤ d) : 1 ≤ (Int.gcd n d : Int) := by
  have : 0 < Int.gcd n d := Int.gcd_pos_of_ne_zero_right n (by omega)
  omega
theorem gcd_le {n d : Int} (h : 1 ≤ d) : (Int.gcd n d : Int) ≤ d := by
  have : Int.gcd n d ≤ d.natAbs := Nat.le_of_dvd (by omega) (Int.gcd_dvd_natAbs_right n d)
  omega

set_option maxHeartbeats 800000 in
theorem lowest_any (n d : Int) (w : World) (h1 : 0 ≤ n) (h2 : n ≤ 4611686018427387904) (h3 : 1 ≤ d) (h4 : d ≤ 4611686018427387904) :
    Calls Tryd.prog 41 #[.int .i64 n, .int .i64 d] w fun e w' => e = .returned (.agg #[.int .i64 (n / Int.gcd n d), .int .i64 (d / Int.gcd n d)]) ∧ Below w.heap.size w w' := by
  have g1 := gcd_pos (n := n) h3
  have g2 := gcd_le (n := n) h3
  have hg := fun W => gcd_any n d W h1 h2 (by omega) h4
  generalize (Int.gcd n d : Int) = g at g1 g2 hg ⊢
  have b1 : 0 ≤ n / g := Int.ediv_nonneg h1 (by omega)
  have b2 : n / g ≤ n := Int.ediv_le_self _ h1
  have b3 : 0 ≤ d / g := Int.ediv_nonneg (by omega) (by omega)
  have b4 : d / g ≤ d := Int.ediv_le_self _ (by omega)
  go_enter Tryd.func41, Tryd.ntmps41
  go_wp2_with (go_at_call 68; refine (hg _).mono ?_; rintro e w1 ⟨rfl, q, rfl⟩)
  clear hg
  go_region
  all_goals
    go_wp2
    refine bodyPost_ret (v := .agg #[.int .i64 (n / g), .int .i64 (d / g)]) (by simp [results, Tryd.results41, go_sem]) rfl ⟨rfl, (by repeat (first | exact Below.refl _ _ | assumption | refine Below.drew ?_ | refine below_drewN ?_ _ | refine Below.alloc ?_ (by simp; try omega) _ | refine Below.setCell ?_ (by simp; try omega) _))⟩

end Go.Proofs.YthemlamdchcicaaDoor
