/-
  The program's test of a pattern. No condition of its own.
-/
import Derived.Test.YthemlamdchcicaaGreatDoorGPatD
namespace Go.Proofs.YthemlamdchcicaaGreatDoor
open Go.ChangeShapes Go.WideShapes Go.ChangeAt Go.RowKit Go.Deep Go.Shelf Go.ChangeMaps

theorem PairsAt.len {w : World} {b : Nat} {p : Pat} {m : Nat} (h : PairsAt w b p p.m) (hm : p.m = m) : (Builtin.len_ #[120] 3 #[.map (some b)]).run Tryz.prog w = .ok (.int .i64 (2 * (m : Int))) w := by
  obtain ⟨ps, h1, hl, _⟩ := h
  have h2 := h1.len Tryz.underlying120 3
  rw [h2, hl, hm]
  simp
theorem step_len_ed {ops : Array Oper} {o : Oper} {a : Act} {W : World} {K : Act → World → Prop} {Q : Exit → Act → World → Prop} {E : Prop} (hw : Region.wanted o (yielded ops a.tmps) = true) (m : Operand)
    (hop : o.op = Op.call { callee := Callee.builtin Builtin.len, args := #[m], argTypes := #[120] }) (hty : o.type = 3) (v u : Value) (hm : a.eval m = v)
    (hrun : (Builtin.len_ #[120] 3 #[v]).run Tryz.prog W = .ok u W) (hK : K (a.put o.dst u) W) : if Region.wanted o (yielded ops a.tmps) = true then Oper.wp Tryz.prog o a W K Q else E := by
  rw [if_pos hw]
  unfold Oper.wp
  simp [execOp, hop, hty, resolve, invoke, builtin, hm, hrun, Result.andThen]
  exact hK
set_option maxRecDepth 100000 in
set_option maxHeartbeats 6400000 in
theorem validPattern_ok (p : Pat) (hp : p.Ok) (aP aS : Option Addr) (cP cS : Nat) (op : Int) (hop : 0 ≤ op ∧ op ≤ 100) (w : World) (h : PatAt w p aP aS) :
    Calls Tryz.prog 32 #[.agg #[.slice aP p.n cP, .slice aS p.m cS, .int .i64 op]] w fun r w' => r = .returned (.bool true) ∧ Below w.heap.size w w' := by
  have n1 := hp.n1
  have n2 := hp.n2
  have m8 := hp.m
  have eg : ∀ args w, (callFunc 71 args).run Tryz.prog w = .ok (.enter 71 args) w := enters_of Tryz.func71 (by kernel_rfl) rfl
  obtain ⟨W, hW⟩ : ∃ W, w.alloc (.cells #[.slice aP p.n cP, .slice aS p.m cS, .int .i64 op] 41) = W := ⟨_, rfl⟩
  have HB := Lib.hid (show Bel w.heap.size w W by rw [← hW]; exact (Bel.refl w).alloc _)
  have HBx := Lib.hid (show PBox W w.heap.size aP p.n cP aS p.m cS op by rw [← hW]; exact PBox.new w aP p.n cP aS p.m cS op)
  have HW := Lib.hid hW
  have HPa := Lib.hid (h.below HB.out.1)
  have H1 := Lib.hid (fun X (hb : Below W.heap.size W X) => containsPiece_none p hp aP cP X (HPa.out.1.below hb))
  have H2 := Lib.hid (fun X (hb : Below W.heap.size W X) => containsSeam_none p aS cS 71 #[.pointer (some ⟨w.heap.size, 0, none⟩)] X eg m8 (HPa.out.2.below hb) (fun k Y hY hk => vp2_ok p hp aP aS cP cS op k hk w.heap.size Y (HPa.out.1.below (hb.trans (hY.mono hb.size))) (HBx.out.below (hb.trans (hY.mono hb.size)))))
  have H3 := Lib.hid (fun X (hb : Below W.heap.size W X) => joined_any p hp aP aS cP cS op X (HPa.out.2.below hb))
  have i1 : inB (p.n : Int) 1 10 = true := inB_true.2 ⟨by omega, by omega⟩
  have i2 : inB op 0 100 = true := inB_true.2 hop
  obtain ⟨n, hn⟩ : ∃ n, p.n = n := ⟨_, rfl⟩
  obtain ⟨m, hm⟩ : ∃ m, p.m = m := ⟨_, rfl⟩
  have HM := Lib.hid hm
  rw [hn] at H1 H3 HBx HW i1 n1 n2 ⊢
  rw [hm] at H2 H3 HBx HW m8 ⊢
  have I1 := Lib.hid (fun X => within_any (n : Int) 1 10 X)
  rw [i1] at I1
  have I2 := Lib.hid (fun X => within_any op 0 100 X)
  rw [i2] at I2
  have b0 := HBx.out.1
  have b1 := HBx.out.2.1
  have b2 := HBx.out.2.2.1
  have v1 : IntKind.i64.wrap (2 * (m : Int)) = 2 * (m : Int) := IntWalk.i64_in _ (by omega)
  have HSk := Lib.hid (fun (X : World) (hb : Below W.heap.size W X) => (show (X.cell? ⟨w.heap.size, 0, none⟩ = some (.slice aP n cP) ∧ X.cell? ⟨w.heap.size, 1, none⟩ = some (.slice aS m cS) ∧ X.cell? ⟨w.heap.size, 2, none⟩ = some (.int .i64 op)) from ⟨(HBx.out.below hb).1, (HBx.out.below hb).2.1, (HBx.out.below hb).2.2.1⟩))
  clear h hp hop i1 i2 hW hn hm eg
  go_enter Tryz.func32, Tryz.ntmps32
  go_upto_region 1 with fail
  rw [HW.out]
  go_region_with
    (first
      | (go_at_call 53; with_reducible refine (I1.out _).mono ?_; rintro e w4 ⟨rfl, rfl⟩)
      | (go_at_call 53; with_reducible refine (I2.out _).mono ?_; rintro e w4 ⟨rfl, rfl⟩)
      | (go_at_call 67; refine (H1.out W.drew (Below.refl _ _).drew).mono ?_; rintro e w5 ⟨rfl, hb5⟩; have HB5 := Lib.hid (show Below W.heap.size W w5 from (Below.refl _ _).drew.trans hb5); clear hb5; obtain ⟨g0, g1, g2⟩ := HSk.out w5 HB5.out)
      | (go_at_call 70; refine (H2.out w5 HB5.out).mono ?_; rintro e w6 ⟨rfl, hb6⟩; have HB6 := Lib.hid (show Below W.heap.size W w6 from HB5.out.trans (hb6.mono HB5.out.size)); clear hb6; obtain ⟨k0, k1, k2⟩ := HSk.out w6 HB6.out)
      | (go_at_call 73; refine (H3.out w6 HB6.out).mono ?_; rintro e w7 ⟨rfl, hp7, hb7⟩; have hlen := PairsAt.len (show PairsAt w7 _ p p.m by rw [HM.out]; exact hp7) HM.out; have HB7 := Lib.hid (show Below W.heap.size W w7 from HB6.out.trans (hb7.mono HB6.out.size)); clear hb7 hp7; obtain ⟨l0, l1, l2⟩ := HSk.out w7 HB7.out)
      | fail)
  all_goals
    have HB8 := Lib.hid (HB.out.step HB7.out)
    go_wp2_with fail
    go_ret
    exact ⟨rfl, HB8.out.1⟩
end Go.Proofs.YthemlamdchcicaaGreatDoor
