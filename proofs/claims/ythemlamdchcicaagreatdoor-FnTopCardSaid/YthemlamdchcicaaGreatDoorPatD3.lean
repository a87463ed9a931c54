/-
  The reference's drawn pattern. No condition of its own.
-/
import Derived.Test.YthemlamdchcicaaGreatDoorPatD2
import Derived.Test.YthemlamdchcicaaGreatDoorPatOa
namespace Go.Proofs.YthemlamdchcicaaGreatDoor
open Go.ChangeShapes Go.WideShapes Go.ChangeAt Go.RowKit Go.Deep Go.Shelf Go.ChangeMaps

theorem ownLaw : OwnLaw := fun p hp aP aS cP cS op g cE B0 q w hq h => l08Own_any p hp aP aS cP cS op g cE B0 q w hq h
def A2PatEnd (w : World) (e : Ending) (w' : World) : Prop :=
  ∃ (p : Pat) (a : Option Addr) (c : Nat) (aS : Option Addr) (cS : Nat) (op : Int) (g cE : Nat → Nat), e = .returned (.agg #[.slice a p.n c, .slice aS p.m cS, .int .i64 op]) ∧ p.Ok ∧ (0 ≤ op ∧ op ≤ 100) ∧ PatOwn w' w.heap.size p a c aS cS g cE ∧ Below w.heap.size w w'
set_option maxRecDepth 100000 in
set_option maxHeartbeats 6400000 in
theorem a2Pattern_any (w : World) (nc cc : Nat) (ac : Option Addr) (hc : CodeAt w ac nc) : Calls Tryz.prog 10 #[.slice ac nc cc] w (A2PatEnd w) := by
  obtain ⟨W0, hW0⟩ : ∃ W, w.alloc (.cells #[.slice none 0 0, .slice none 0 0, .int .i64 0] 41) = W := ⟨_, rfl⟩
  have HR0 := Lib.hid (show Obx W0 w.heap.size w.heap.size 41 3 [.slice none 0 0, .slice none 0 0, .int .i64 0] by rw [← hW0]; exact Obx.new w w.heap.size 41 3 #[.slice none 0 0, .slice none 0 0, .int .i64 0] (Nat.le_refl _) rfl)
  have HW0 := Lib.hid (show Below w.heap.size w W0 by rw [← hW0]; exact (Below.refl _ _).alloc (Nat.le_refl _) _)
  have HW := Lib.hid hW0
  have HC := Lib.hid (hc.below HW0.out)
  clear hc hW0
  go_enter Tryz.func10, Tryz.ntmps10
  go_wp2_with fail
  rw [HW.out]
  refine (l00From_any W0 W0.heap.size ac nc cc (Nat.le_refl _)).mono ?_
  rintro e w1 ⟨rfl, hs1, hb1⟩
  have HS1 := Lib.hid hs1
  have HB1 := Lib.hid (Bel.of hb1)
  clear hs1 hb1
  go_wp2_with fail
  refine (l08Draw_with ownLaw W0 w1 W0.heap.size nc cc 0 ac HC.out HB1.out HS1.out (by omega)).mono ?_
  rintro e w2 ⟨p, a, c, aS, cS, op, g, cE, rfl, hok, hop, ho, _, _, hb2⟩
  have HO := Lib.hid (show Obx w2 w.heap.size w.heap.size 41 3 [.slice none 0 0, .slice none 0 0, .int .i64 0] from own_below HR0.out hb2.1)
  have HB2 := Lib.hid (HW0.out.trans (hb2.1.mono HW0.out.size))
  have HK := Lib.hid (And.intro hok (And.intro hop ho))
  have HL := Lib.hid (show w.heap.size < w1.heap.size from by have h1 := HR0.out.lt.2; have h2 := HB1.out.1.size; omega)
  obtain ⟨⟨n0, n1, n2⟩, ⟨f0, f1, f2⟩, nl⟩ := HO.out.three
  obtain ⟨⟨z0, z1, z2⟩, _, _⟩ := (HO.out.set3 (a := .slice a p.n c) (b := .slice aS p.m cS) (c := .int .i64 op)).three
  clear hok hop ho hb2
  go_wp2_with fail
  refine bodyPost_ret (v := .agg #[.slice a p.n c, .slice aS p.m cS, .int .i64 op]) (by simp [results, Tryz.results10, go_sem, z0, z1, z2]) rfl ?_
  have hg := set3_grown w2 w.heap.size (.slice a p.n c) (.slice aS p.m cS) (.int .i64 op)
  have hl := HL.out
  exact ⟨p, a, c, aS, cS, op, g, cE, rfl, HK.out.1, HK.out.2.1, (HK.out.2.2.grown hg hl).base (by omega), ((Bel.of HB2.out).grown hg (fun k e => by have h1 : w.heap.size = k := Option.some.inj e; omega)).1⟩
end Go.Proofs.YthemlamdchcicaaGreatDoor
