/-
  The walk of FnExactSeamText. No condition of its own.
-/
import Derived.Test.YtfkojbkgpbpjhaaDoorSeamS
import Derived.Test.YtfkojbkgpbpjhaaDoorRow
namespace Go.Proofs.YtfkojbkgpbpjhaaDoor
open Go.ChangeShapes Go.WideShapes Go.ChangeAt Go.RowKit Go.Deep

set_option maxRecDepth 100000 in
set_option maxHeartbeats 6400000 in
theorem fnExactSeamText_walk0 (w : World) (a0 : Option Addr) (n0 c0 : Nat) (z0 : List Int) (l0 : z0.length = n0) (_ : n0 ≤ maxLen) (s0 : CellsAt w a0 (z0.map (Value.int .i64))) (_ : ∀ z ∈ z0, (Lit.int .i64 z).wf = true) (a1 : Int) (_ : (Lit.int .i64 a1).wf = true) (ht : Pow w) :
    Calls Tryd.prog 8 #[.slice a0 n0 c0, .int .i64 a1] w fun e w' => e = .returned (.bool true) ∧ Below w.heap.size w w' := by
  have L0 := Lib.hid l0
  have S0 := Lib.hid s0
  have HT := Lib.hid ht
  clear s0 l0 ht
  by_cases g0 : 1048576 < (n0 : Int)
  · go_enter Tryd.func8, Tryd.ntmps8
    go_wp2_with fail
    go_ret
    exact ⟨rfl, Below.refl _ _⟩
  have b0 : n0 ≤ 1048576 := by omega
  obtain ⟨t, ht⟩ : ∃ t, seamT z0 n0 a1 = t := ⟨_, rfl⟩
  have ET := Lib.hid ht
  clear ht
  go_enter Tryd.func8, Tryd.ntmps8
  have HB0 := Lib.hid (Bel.refl w)
  go_wp2_with fail
  refine (toInt64S_any a0 n0 c0 z0 w L0.out b0 (S0.out.below HB0.out.1)).mono ?_
  rintro d w_1 ⟨g1000, rfl, ho, hb⟩
  have RW0 := Lib.hid (Row.mk_ ho)
  have HB1 := Lib.hid (HB0.out.step hb)
  clear ho hb
  go_wp2_with fail
  refine (spec_SeamText g1000 n0 n0 z0 a1 w_1 L0.out b0 (RW0.out.cells)).mono ?_
  rw [ET.out]
  rintro d w_2 ⟨rfl, hb⟩
  have HB2 := Lib.hid (HB1.out.step hb)
  clear hb
  go_wp2_with fail
  refine (toInt64S_any a0 n0 c0 z0 w_2 L0.out b0 (S0.out.below HB2.out.1)).mono ?_
  rintro d w_3 ⟨g1001, rfl, ho, hb⟩
  have RW1 := Lib.hid (Row.mk_ ho)
  have HB3 := Lib.hid (HB2.out.step hb)
  clear ho hb
  go_wp2_with fail
  refine (impl_SeamText (some ⟨g1001, 0, none⟩) n0 n0 z0 a1 w_3 L0.out (by omega) (RW1.out.cells) (HT.out.below HB3.out.1)).mono ?_
  rw [ET.out]
  rintro d w_4 ⟨rfl, hb⟩
  have HB4 := Lib.hid (HB3.out.step hb)
  replace RW1 := Lib.hid (RW1.out.below hb)
  clear hb
  go_wp2_with fail
  refine (toInt64S_any a0 n0 c0 z0 w_4 L0.out b0 (S0.out.below HB4.out.1)).mono ?_
  rintro d w_5 ⟨g1002, rfl, ho, hb⟩
  have RW2 := Lib.hid (Row.mk_ ho)
  have HB5 := Lib.hid (HB4.out.step hb)
  replace RW1 := Lib.hid (RW1.out.below hb)
  clear ho hb
  go_wp2_with fail
  refine (eqInt64S_any (some ⟨g1001, 0, none⟩) (some ⟨g1002, 0, none⟩) n0 n0 n0 z0 w_5 L0.out (by omega) (RW1.out.cells) (RW2.out.cells)).mono ?_
  rintro d w_6 ⟨rfl, hb⟩
  have HB6 := Lib.hid (HB5.out.step hb)
  clear hb
  go_wp2_with fail
  go_ret
  exact ⟨rfl, HB6.out.1⟩
theorem fnExactSeamText_walk (a0 : Option Addr) (n0 c0 : Nat) (z0 : List Int) (l0 : z0.length = n0) (m0 : n0 ≤ maxLen) {w : World} (s0 : CellsAt w a0 (z0.map (Value.int .i64))) (w0 : ∀ z ∈ z0, (Lit.int .i64 z).wf = true) (a1 : Int) (w1 : (Lit.int .i64 a1).wf = true) (W : World) (hW : W = w) (ht : Pow W) :
    Calls Tryd.prog 8 #[.slice a0 n0 c0, .int .i64 a1] W fun e w' => e = .returned (.bool true) ∧ Below W.heap.size W w' := by
  subst hW
  exact fnExactSeamText_walk0 W a0 n0 c0 z0 l0 m0 s0 w0 a1 w1 ht
end Go.Proofs.YtfkojbkgpbpjhaaDoor
