/-
  The law FnExactValidStuffs returns true for all arguments. No condition.
-/
import Derived.Test.YthihhkabbdkohaaStuffB
import Derived.Test.YthihhkabbdkohaaRow
import Derived.Test.YthihhkabbdkohaaRows
import Derived.Test.YthihhkabbdkohaaBase
import Derived.Outline
namespace Go.Proofs.Ythihhkabbdkohaa
open Go.ChangeShapes Go.WideShapes Go.ChangeAt Go.RowKit Go.Deep
open Go.ChangeMaps (open_string shut_string)
open Go.Joins


set_option maxRecDepth 100000 in
set_option maxHeartbeats 3200000 in
theorem FnExactValidStuffs_walk (w : World) (a : Option Addr) (n c : Nat) (S : Nat → ByteArray × Int × Int × Int × Int) (hm : n ≤ maxLen) (hs : CellsAt w a (stfC S n)) (hok : StfOk S n) :
    Calls Try.prog 3 #[.slice a n c] w (LawEnd w) := by
  have hsz := szStuffS_any a n c S 1048576 w (by omega) (by omega) hm hok hs
  by_cases g : (1048576 : Int) < (n : Int) + (nmTo S n : Int)
  · rw [if_pos g] at hsz
    have H := Lib.hid hsz
    clear hsz hs hok
    go_enter Try.func3, Try.ntmps3
    go_wp2_with fail
    refine H.out.mono ?_
    rintro e w1 ⟨rfl, hb1⟩
    have HB1 := Lib.hid hb1
    clear hb1
    go_wp2_with fail
    go_ret
    exact ⟨rfl, HB1.out⟩
  · rw [if_neg g] at hsz
    have H := Lib.hid hsz
    have HS := Lib.hid hs
    have HO := Lib.hid hok
    obtain ⟨r, hr⟩ : ∃ r, stfB S n = r := ⟨_, rfl⟩
    have hn : n ≤ 1048576 := by omega
    have HC1 := Lib.hid (fun a c W (hc : CellsAt W a (stfC S n)) => specStuffs' a n c S W hn hok hc)
    have HC2 := Lib.hid (fun a W (hc : CellsAt W a (stfC S n)) => implStuffs a n n S W (Nat.le_refl _) hn hok hc)
    rw [hr] at HC1 HC2
    have h0 : ¬ (1048576 : Int) - (n : Int) - (nmTo S n : Int) < 0 := by omega
    have hrr : (r != r) = false := by simp
    clear hsz hs hok hr
    go_enter Try.func3, Try.ntmps3
    go_wp2_with fail
    refine H.out.mono ?_
    rintro e w1 ⟨rfl, hb1⟩
    have HB1 := Lib.hid (Bel.of hb1)
    have HS1 := Lib.hid (HS.out.below hb1)
    clear hb1
    go_wp2_with fail
    refine (toStuffS_any a n c S _ hn HS1.out).mono ?_
    rintro e w2 ⟨g1, rfl, ho, hb2⟩
    have HB2 := Lib.hid (HB1.out.step hb2)
    have HS2 := Lib.hid (HS1.out.below hb2)
    have HD2 := Lib.hid (CellsAt.of_own ho)
    clear hb2 ho
    go_wp2_with fail
    refine (HC1.out _ _ _ HD2.out).mono ?_
    rintro e w3 ⟨rfl, hb3⟩
    have HB3 := Lib.hid (HB2.out.step hb3)
    have HS3 := Lib.hid (HS2.out.below hb3)
    clear hb3
    go_wp2_with fail
    refine (toStuffS_any a n c S _ hn HS3.out).mono ?_
    rintro e w4 ⟨g2, rfl, ho, hb4⟩
    have HB4 := Lib.hid (HB3.out.step hb4)
    have HS4 := Lib.hid (HS3.out.below hb4)
    have HD4 := Lib.hid (CellsAt.of_own ho)
    clear hb4 ho
    go_wp2_with fail
    refine (HC2.out _ _ HD4.out).mono ?_
    rintro e w5 ⟨rfl, hb5⟩
    have HB5 := Lib.hid (HB4.out.step hb5)
    have HS5 := Lib.hid (HS4.out.below hb5)
    have HD5 := Lib.hid (HD4.out.below hb5)
    clear hb5
    go_wp2_with fail
    refine (toStuffS_any a n c S _ hn HS5.out).mono ?_
    rintro e w6 ⟨g3, rfl, ho, hb6⟩
    have HB6 := Lib.hid (HB5.out.step hb6)
    have HD6 := Lib.hid (HD5.out.below hb6)
    have HE6 := Lib.hid (CellsAt.of_own ho)
    clear hb6 ho
    go_wp2_with fail
    refine (eqStuffS_any _ _ n _ _ S _ (by omega) HD6.out HE6.out).mono ?_
    rintro e w7 ⟨rfl, hb7⟩
    have HB7 := Lib.hid (HB6.out.step hb7)
    clear hb7
    go_wp2_with fail
    go_ret
    exact lawEnd_of HB7.out

/-! ### From the walk to the statement -/
set_option maxRecDepth 100000 in
theorem FnExactValidStuffs_lifted (os : Os) (started : os.Started) (H : Type) (enc : TypeId × Value → H) :
    ReturnsInHanded {} Try.checked os 3 .any (Rows.fnExactValidStuffsSpec.pre6 enc Try.prog Try.f3 Rows.fnExactValidStuffsRow.domain false) (Rows.fnExactValidStuffsSpec.post enc Try.prog Try.f3 false true false false) := by
  refine lifted_law (C := Try.checked) (tb := 4) own started (by kernel_rfl) Try.func3
    (ChangeSpec.witness6 (enc := enc) (C := Try.checked) false ⟨#[], #[.slice none 0 0], []⟩ 8 (by kernel_rfl) (by kernel_rfl) (by kernel_rfl) (by kernel_rfl))
    laidOut (by kernel_rfl) rfl rfl Try.underlying4 (fun ds h => by match ds, h with | [_], _ => rfl) ?_
  intro W base args ds p hval hA
  rw [Try.params3] at hA hval
  obtain ⟨v0, vs0, d0, ds0, p0, q0, hargs, rfl, rfl, h0, r0⟩ := trodAll_cons hA
  obtain ⟨rfl, rfl, rfl⟩ := trodAll_nil r0
  obtain rfl : args = #[v0] := by cases args; simp_all
  obtain ⟨a0, n0, c0, S0, rfl, m0, s0, w0⟩ := open_stuff_at (tI := 2) (tS := 9) Try.underlying22 Try.underlying48 (by kernel_rfl) (by kernel_rfl) Try.underlying2 Try.underlying9 (by rfl) (hval 0 22 v0 rfl rfl) h0
  first | exact FnExactValidStuffs_walk a0 n0 c0 S0 m0 s0 w0 W | exact FnExactValidStuffs_walk W a0 n0 c0 S0 m0 s0 w0

theorem FnExactValidStuffs_over : Rows.fnExactValidStuffsRow.holds Try.pinned (OpenSpec.ofChange Rows.fnExactValidStuffsSpec) :=
  OpenClaim.holds_of_wide 3 Try.f3 rfl rfl rfl rfl rfl rfl rfl ⟨rfl, rfl, rfl, rfl, rfl⟩ rfl rfl rfl rfl rfl (by kernel_rfl) Try.func3 (by kernel_rfl)
    (of_decide_eq_true (by kernel_rfl)) (by unfold Func.isWrapper; first | (rw [if_pos (by decide +kernel)]; kernel_rfl) | (rw [if_neg (by decide +kernel)]; exact ⟨rfl, rfl⟩))
    (fun os started H enc _ => FnExactValidStuffs_lifted os started H enc)

/-- The statement. -/
theorem FnExactValidStuffs_holds : Rows.FnExactValidStuffsSaid := FnExactValidStuffs_over
#print axioms FnExactValidStuffs_holds

end Go.Proofs.Ythihhkabbdkohaa
