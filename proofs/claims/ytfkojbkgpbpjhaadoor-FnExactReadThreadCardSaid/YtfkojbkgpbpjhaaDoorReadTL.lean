/-
  The walk of the law FnExactReadThread. Conditions: the listed tables are laid.
-/
import Derived.Test.YtfkojbkgpbpjhaaDoorReadV
namespace Go.Proofs.YtfkojbkgpbpjhaaDoor
open Go.ChangeShapes Go.WideShapes Go.ChangeAt Go.RowKit Go.Deep Go.Shelf Go.Sort

theorem eqThread_any (d o : Int) (p : Bool) (w : World) : Calls Tryd.prog 15 #[.agg #[.int .i64 d, .int .i64 o, .bool p], .agg #[.int .i64 d, .int .i64 o, .bool p]] w fun e w' => e = .returned (.bool true) ∧ (w.alloc (.cells #[.int .i64 d, .int .i64 o, .bool p] 25)).alloc (.cells #[.int .i64 d, .int .i64 o, .bool p] 25) = w' := by
  go_enter Tryd.func15, Tryd.ntmps15
  go_wp2
  go_ret
  exact ⟨rfl, rfl⟩

set_option maxRecDepth 100000 in
set_option maxHeartbeats 3200000 in
theorem fnExactReadThread_walk (s : ByteArray) (w : World) (ht : Tabs w) :
    Calls Tryd.prog 4 #[.string s] w fun e w' => e = .returned (.bool true) ∧ Below w.heap.size w w' := by
  by_cases hs : 1048576 < s.size
  · have hs' : (1048576 : Int) < (s.size : Int) := by omega
    clear hs ht
    go_enter Tryd.func4, Tryd.ntmps4
    go_wp2
    go_ret
    exact ⟨rfl, (by repeat (first | exact Below.refl _ _ | assumption | refine Below.drew ?_ | refine below_drewN ?_ _ | refine Below.alloc ?_ (by simp; try omega) _ | refine Below.setCell ?_ (by simp; try omega) _))⟩
  have hs' : ¬ (1048576 : Int) < (s.size : Int) := by omega
  obtain ⟨d, o, p, b, hr⟩ := threadRes_ex s
  have HS := Lib.hid (fun W => spec_ReadThread s W (by omega) d o p b hr)
  have HI := Lib.hid (fun W (hb : Bel w.heap.size w W) => impl_ReadThread s W (by omega) (ht.below hb.1) d o p b hr)
  clear hs ht hr
  go_enter Tryd.func4, Tryd.ntmps4
  go_wp2_with fail
  refine (HS.out _).mono ?_
  rintro e w1 ⟨rfl, hb1⟩
  have HB1 := Lib.hid (Bel.step (Bel.refl w) hb1)
  have HB2 := Lib.hid (HB1.out.alloc (.cells #[.int .i64 d, .int .i64 o, .bool p] 25))
  have HQ1 := Lib.hid (Obx.new w1 w.heap.size 25 3 #[.int .i64 d, .int .i64 o, .bool p] HB1.out.2 rfl)
  clear hb1
  go_wp2_with fail
  refine (HI.out _ HB2.out).mono ?_
  rintro e w2 ⟨rfl, hb2⟩
  have HB3 := Lib.hid (Bel.step HB2.out hb2)
  have HQ2 := Lib.hid (HQ1.out.below hb2)
  have q0 : w2.cell? ⟨w1.heap.size, 0, none⟩ = some (.int .i64 d) := HQ2.out.cell 0 (by omega)
  have q1 : w2.cell? ⟨w1.heap.size, 1, none⟩ = some (.int .i64 o) := HQ2.out.cell 1 (by omega)
  have q2 : w2.cell? ⟨w1.heap.size, 2, none⟩ = some (.bool p) := HQ2.out.cell 2 (by omega)
  have hlt : w1.heap.size < w2.heap.size := HQ2.out.lt.2
  clear hb2 HQ1 HQ2
  cases b <;> (go_wp2_with (go_at_call 15; refine (eqThread_any _ _ _ _).mono ?_; rintro e w3 ⟨rfl, rfl⟩))
  all_goals go_ret
  all_goals exact ⟨rfl, (((HB3.out.alloc _).alloc _).alloc _).1⟩
end Go.Proofs.YtfkojbkgpbpjhaaDoor
