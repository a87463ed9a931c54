/-
  The drawn thread of the law on threads. No condition of its own.
-/
import Derived.Test.YtfkojbkgpbpjhaaDoorThreadDraw
import Derived.Test.YtfkojbkgpbpjhaaDoorThreadD
namespace Go.Proofs.YtfkojbkgpbpjhaaDoor
open Go.ChangeShapes Go.WideShapes Go.ChangeAt Go.RowKit Go.Deep

def A2End (w : World) (e : Ending) (w' : World) : Prop := ∃ (x y : Int) (b : Bool), e = .returned (.agg #[.int .i64 x, .int .i64 y, .bool b]) ∧ (1 ≤ x ∧ x ≤ 8 ∧ 5 ≤ y ∧ y ≤ 64) ∧ Bel w.heap.size w w'
set_option maxRecDepth 100000 in
set_option maxHeartbeats 1600000 in
theorem a2Thread_any (w : World) (nc cc : Nat) (ac : Option Addr) (hc : CodeAt w ac nc) :
    Calls Tryd.prog 17 #[.slice ac nc cc] w (A2End w) := by
  have HC := Lib.hid hc
  have HB0 := Lib.hid ((Bel.refl w).alloc (.cells #[.int .i64 0, .int .i64 0, .bool false] 25))
  have HR0 := Lib.hid (Obx.new w w.heap.size 25 3 #[.int .i64 0, .int .i64 0, .bool false] (Nat.le_refl _) rfl)
  clear hc
  go_enter Tryd.func17, Tryd.ntmps17
  go_wp2_with fail
  refine (l00From_any _ w.heap.size ac nc cc HB0.out.2).mono ?_
  rintro e w1 ⟨rfl, hs1, hb1⟩
  have HB1 := Lib.hid (Bel.step HB0.out hb1)
  have HR1 := Lib.hid (HR0.out.below hb1)
  have HS1 := Lib.hid hs1
  have hp : w.heap.size < (w.alloc (.cells #[.int .i64 0, .int .i64 0, .bool false] 25)).heap.size := HR0.out.lt.2
  generalize (w.alloc (.cells #[.int .i64 0, .int .i64 0, .bool false] 25)).heap.size = p at HS1 hp ⊢
  clear hs1 hb1 HB0 HR0
  go_wp2_with fail
  refine (l16Draw_any w w1 p nc cc 0 ac HC.out HB1.out HS1.out (by omega)).mono ?_
  rintro e w2 ⟨x, y, b, rfl, hxy, hs2, hg2⟩
  have HX := Lib.hid hxy
  have HR2 := Lib.hid (HR1.out.grown hg2 (fun e => by have h1 : p = w.heap.size := (by simpa using e); omega))
  have HB2 := Lib.hid (HB1.out.grown hg2 (fun k h => by cases h; omega))
  have r0 : w2.cell? ⟨w.heap.size, 0, none⟩ = some (.int .i64 0) := HR2.out.cell 0 (by omega)
  have r1 : w2.cell? ⟨w.heap.size, 1, none⟩ = some (.int .i64 0) := HR2.out.cell 1 (by omega)
  have r2 : w2.cell? ⟨w.heap.size, 2, none⟩ = some (.bool false) := HR2.out.cell 2 (by omega)
  have fr := HR2.out.fr
  have f0 := fr 0
  have f1 := fr 1
  have f2 := fr 2
  clear fr hxy hs2 hg2
  go_wp2_with fail
  refine bodyPost_ret (v := .agg #[.int .i64 x, .int .i64 y, .bool b]) (by simp [results, Tryd.results17, go_sem, r0, r1, r2]) rfl ?_
  exact ⟨x, y, b, rfl, HX.out, ((HB2.out.setCell (p := ⟨w.heap.size, 0, none⟩) (Nat.le_refl _) _).setCell (p := ⟨w.heap.size, 1, none⟩) (Nat.le_refl _) _).setCell (p := ⟨w.heap.size, 2, none⟩) (Nat.le_refl _) _⟩
end Go.Proofs.YtfkojbkgpbpjhaaDoor
