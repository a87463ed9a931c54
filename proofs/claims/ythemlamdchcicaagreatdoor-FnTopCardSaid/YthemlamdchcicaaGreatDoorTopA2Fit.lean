/-
  The reference's drawn fit. No condition of its own.
-/
import Derived.Test.YthemlamdchcicaaGreatDoorTopDrawFit
namespace Go.Proofs.YthemlamdchcicaaGreatDoor
open Go.ChangeShapes Go.WideShapes Go.ChangeAt Go.RowKit Go.Deep Go.Shelf Go.ChangeMaps

def A2FitEnd (w : World) (e : Ending) (w' : World) : Prop :=
  ∃ (mn mx gi : Int) (a : Option Addr) (c : Nat) (zs : List Int), e = .returned (.agg #[.int .i64 mn, .int .i64 mx, .int .i64 gi, .slice a 4 c]) ∧ FitOk mn mx gi zs ∧ w'.ownsRow w.heap.size 2 1 (.slice a 4 c) 4 (zs.map (Value.int .i64)) ∧ Below w.heap.size w w'
theorem set4_grown (W : World) (q : Nat) (a b c d : Value) : W.grownBy ((((W.setCell ⟨q, 0, none⟩ a).setCell ⟨q, 1, none⟩ b).setCell ⟨q, 2, none⟩ c).setCell ⟨q, 3, none⟩ d) (some q) :=
  grown_trans_row (grown_trans_row (grown_trans_row (setCell_grown _ q 0 a) (setCell_grown _ q 1 b)) (setCell_grown _ q 2 c)) (setCell_grown _ q 3 d)
set_option maxRecDepth 100000 in
set_option maxHeartbeats 6400000 in
theorem a2Fit_any (w : World) (nc cc : Nat) (ac : Option Addr) (hc : CodeAt w ac nc) : Calls Tryz.prog 7 #[.slice ac nc cc] w (A2FitEnd w) := by
  obtain ⟨W0, hW0⟩ : ∃ W, w.alloc (.cells #[.int .i64 0, .int .i64 0, .int .i64 0, .slice none 0 0] 31) = W := ⟨_, rfl⟩
  have HR0 := Lib.hid (show Obx W0 w.heap.size w.heap.size 31 4 [.int .i64 0, .int .i64 0, .int .i64 0, .slice none 0 0] by rw [← hW0]; exact Obx.new w w.heap.size 31 4 #[.int .i64 0, .int .i64 0, .int .i64 0, .slice none 0 0] (Nat.le_refl _) rfl)
  have HW0 := Lib.hid (show Below w.heap.size w W0 by rw [← hW0]; exact (Below.refl _ _).alloc (Nat.le_refl _) _)
  have HW := Lib.hid hW0
  have HC := Lib.hid (hc.below HW0.out)
  clear hc hW0
  go_enter Tryz.func7, Tryz.ntmps7
  go_wp2_with fail
  rw [HW.out]
  refine (l00From_any W0 W0.heap.size ac nc cc (Nat.le_refl _)).mono ?_
  rintro e w1 ⟨rfl, hs1, hb1⟩
  have HS1 := Lib.hid hs1
  have HB1 := Lib.hid (Bel.of hb1)
  clear hs1 hb1
  go_wp2_with fail
  refine (l04DrawFit_any W0 w1 W0.heap.size nc cc 0 ac HC.out HB1.out HS1.out (by omega)).mono ?_
  rintro e w2 ⟨mn, mx, gi, a, c, zs, rfl, hok, ho, _, _, hb2⟩
  have HO := Lib.hid (show Obx w2 w.heap.size w.heap.size 31 4 [.int .i64 0, .int .i64 0, .int .i64 0, .slice none 0 0] from own_below HR0.out hb2.1)
  have HB2 := Lib.hid (HW0.out.trans (hb2.1.mono HW0.out.size))
  have HK := Lib.hid (And.intro hok ho)
  have HL := Lib.hid (show w.heap.size < w1.heap.size from by have h1 := HR0.out.lt.2; have h2 := HB1.out.1.size; omega)
  obtain ⟨n0, n1, n2, n3⟩ := HO.out.four0
  have f0 := HO.out.fr 0
  have f1 := HO.out.fr 1
  have f2 := HO.out.fr 2
  have f3 := HO.out.fr 3
  have nl := HO.out.lt.2
  have HF := Lib.hid (show Obx ((((w2.setCell ⟨w.heap.size, 0, none⟩ (.int .i64 mn)).setCell ⟨w.heap.size, 1, none⟩ (.int .i64 mx)).setCell ⟨w.heap.size, 2, none⟩ (.int .i64 gi)).setCell ⟨w.heap.size, 3, none⟩ (.slice a 4 c)) w.heap.size w.heap.size 31 4 [.int .i64 mn, .int .i64 mx, .int .i64 gi, .slice a 4 c] from (((HO.out.set 0 _).set 1 _).set 2 _).set 3 _)
  obtain ⟨z0, z1, z2, z3⟩ := HF.out.four0
  clear hok ho hb2
  go_wp2_with fail
  refine bodyPost_ret (v := .agg #[.int .i64 mn, .int .i64 mx, .int .i64 gi, .slice a 4 c]) (by simp [results, Tryz.results7, go_sem, z0, z1, z2, z3]) rfl ?_
  have hg := set4_grown w2 w.heap.size (.int .i64 mn) (.int .i64 mx) (.int .i64 gi) (.slice a 4 c)
  have hl := HL.out
  exact ⟨mn, mx, gi, a, c, zs, rfl, HK.out.1, own_base (own_grown_ne HK.out.2 hg (fun b hb e => by have h1 : w.heap.size = b := Option.some.inj e; have := (own_block HK.out.2 hb).1; omega)) (by omega), ((Bel.of HB2.out).grown hg (fun k e => by have h1 : w.heap.size = k := Option.some.inj e; omega)).1⟩
end Go.Proofs.YthemlamdchcicaaGreatDoor
