/-
  The first fault, soundness, openings and differences of a valid pattern. IsSound, OpeningsOf and SeamDifferences of a valid pattern. No condition of its own.
-/
import Derived.Test.YthemlamdchcicaaGreatDoorPatF
import Derived.Test.YthemlamdchcicaaGreatDoorPatG
import Derived.Test.YthemlamdchcicaaGreatDoorGPatO
import Derived.Test.YthemlamdchcicaaGreatDoorPatR

namespace Go.Proofs.YthemlamdchcicaaGreatDoor
open Go.ChangeShapes Go.WideShapes Go.ChangeAt Go.RowKit Go.Deep Go.Shelf Go.ChangeMaps

theorem fault1_any (z x : Int) (q : Nat) (w : World) (hq : w.cell? ⟨q, 0, none⟩ = some (.int .i64 x)) :
    Calls Tryz.prog 64 #[.int .i64 z, .pointer (some ⟨q, 0, none⟩)] w fun e w' => e = .returned (.bool (decide (x < z))) ∧ Below w.heap.size w w' := by
  go_enter Tryz.func64, Tryz.ntmps64
  go_wp2
  go_ret
  exact ⟨rfl, (by repeat (first | exact Below.refl _ _ | assumption | refine Below.drew ?_ | refine below_drewN ?_ _ | refine Below.alloc ?_ (by simp; try omega) _ | refine Below.setCell ?_ (by simp; try omega) _))⟩
theorem fault2_any (z : Int) (w : World) :
    Calls Tryz.prog 66 #[.int .i64 z] w fun e w' => e = .returned (.bool (decide (0 < z))) ∧ Below w.heap.size w w' := by
  go_enter Tryz.func66, Tryz.ntmps66
  go_wp2
  go_ret
  exact ⟨rfl, (by repeat (first | exact Below.refl _ _ | assumption | refine Below.drew ?_ | refine below_drewN ?_ _ | refine Below.alloc ?_ (by simp; try omega) _ | refine Below.setCell ?_ (by simp; try omega) _))⟩
theorem idxI_neg_all {p : Int → Bool} {zs : List Int} (h : ¬ 0 ≤ idxI p zs) : ∀ z ∈ zs, p z = false := by
  have h1 := idxI_neg p zs
  rw [decide_eq_false h] at h1
  intro z hz
  cases hp : p z with
  | false => rfl
  | true => exact absurd (List.any_eq_true.2 ⟨z, hz, hp⟩) (by rw [← h1]; simp)
def FaultEnd (p : Pat) (op most : Int) (w : World) (e : Ending) (w' : World) : Prop :=
  ∃ x y cde : Int, e = .returned (.tuple #[.int .i64 x, .int .i64 y, .int .i64 cde]) ∧ (cde = 0 ∨ cde = 3 ∧ (∀ d ∈ p.diffs p.m, d ≤ most) ∧ ((p.rings p.opens p.opens.length).1 : Int) = op) ∧ Below w.heap.size w w'
set_option maxRecDepth 100000 in
set_option maxHeartbeats 6400000 in
theorem firstFault_any (p : Pat) (hp : p.Ok) (aP aS : Option Addr) (cP cS : Nat) (op most : Int) (hop : 0 ≤ op ∧ op ≤ 100) (hmost : 0 ≤ most ∧ most ≤ 10000) (w : World) (h : PatAt w p aP aS) :
    Calls Tryz.prog 31 #[.agg #[.slice aP p.n cP, .slice aS p.m cS, .int .i64 op], .int .i64 most] w (FaultEnd p op most w) := by
  have eg1 : ∀ args w, (callFunc 64 args).run Tryz.prog w = .ok (.enter 64 args) w := enters_of Tryz.func64 (by kernel_rfl) rfl
  have eg2 : ∀ args w, (callFunc 66 args).run Tryz.prog w = .ok (.enter 66 args) w := enters_of Tryz.func66 (by kernel_rfl) rfl
  have n2 := hp.n2
  have m8 := hp.m
  have HPa := Lib.hid h
  have HV := Lib.hid (fun X (hX : PatAt X p aP aS) => validPattern_ok p hp aP aS cP cS op hop X hX)
  have HD := Lib.hid (fun X (hX : PatAt X p aP aS) => differences_any p hp aP aS cP cS op X hX)
  have HPt := Lib.hid (fun X (hX : PatAt X p aP aS) => parts_any p hp aP aS cP cS op X hX.2)
  have HOp := Lib.hid (fun X (hX : PatAt X p aP aS) => openings_any p hp aP aS cP cS op X hX)
  have HI := Lib.hid (fun X => within_any most 0 10000 X)
  rw [inB_true.2 hmost] at HI
  have hdl : (p.diffs p.m).length = p.m := by simp [Pat.diffs]
  obtain ⟨ds, hds⟩ : ∃ ds, p.diffs p.m = ds := ⟨_, rfl⟩
  have HDs := Lib.hid hds
  rw [hds] at HD hdl
  obtain ⟨n, hn⟩ : ∃ n, p.n = n := ⟨_, rfl⟩
  obtain ⟨m, hm⟩ : ∃ m, p.m = m := ⟨_, rfl⟩
  rw [hn, hm] at HV HD HPt HOp
  rw [hn] at n2 ⊢
  rw [hm] at m8 hdl ⊢
  have HDl := Lib.hid hdl
  obtain ⟨W, hW⟩ : ∃ W, (w.alloc (.cells #[.slice aP n cP, .slice aS m cS, .int .i64 op] 41)).alloc (.cells #[.int .i64 most] 2) = W := ⟨_, rfl⟩
  have HB := Lib.hid (show Bel w.heap.size w W by rw [← hW]; exact ((Bel.refl w).alloc _).alloc _)
  have HBx := Lib.hid (show PBox W w.heap.size aP n cP aS m cS op by rw [← hW]; exact (PBox.new w aP n cP aS m cS op).below ((Bel.refl _).alloc _).1)
  have HC := Lib.hid (show W.cell? ⟨w.heap.size + 1, 0, none⟩ = some (.int .i64 most) ∧ w.heap.size + 1 < W.heap.size by rw [← hW]; simp [go_sem])
  have HW := Lib.hid hW
  have HSk := Lib.hid (fun (X : World) (hX : Below W.heap.size W X) => And.intro (HBx.out.below hX) ((hX.cell (p := ⟨w.heap.size + 1, 0, none⟩) HC.out.2).trans HC.out.1))
  clear hW h hp hop hmost hds hn hm hdl
  go_enter Tryz.func31, Tryz.ntmps31
  go_upto_region 1 with fail
  rw [HW.out]
  obtain ⟨⟨p0, p1, p2, p3⟩, p4⟩ := HSk.out W (Below.refl _ _)
  go_wp2_with fail
  refine (HV.out W (HPa.out.below HB.out.1)).mono ?_
  rintro e w1 ⟨rfl, hb1⟩
  have HB1 := Lib.hid hb1
  clear hb1 p0 p1 p2 p3 p4
  obtain ⟨⟨p0, p1, p2, p3⟩, p4⟩ := HSk.out w1 HB1.out
  go_wp2_with (go_at_call 53; refine (HI.out _).mono ?_; rintro e w' ⟨rfl, rfl⟩)
  refine (HD.out w1 (HPa.out.below (HB.out.step HB1.out).1)).mono ?_
  rintro e w2 ⟨a2, c2, rfl, ho2, hb2⟩
  have HB2 := Lib.hid (HB1.out.trans (hb2.mono HB1.out.size))
  have HC2 := Lib.hid (CellsAt.of_own ho2)
  clear hb2 ho2 p0 p1 p2 p3 p4
  obtain ⟨⟨p0, p1, p2, p3⟩, p4⟩ := HSk.out w2 HB2.out
  have H5 := Lib.hid (indexFunc_any a2 m c2 ds (fun z => decide (most < z)) 64 #[.pointer (some ⟨w.heap.size + 1, 0, none⟩)] w2 eg1 HDl.out (by omega) HC2.out (fun z X hX _ => fault1_any z most (w.heap.size + 1) X (HSk.out X (HB2.out.trans (hX.mono HB2.out.size))).2))
  go_wp2_with fail
  refine H5.out.mono ?_
  rintro e w3 ⟨rfl, hb3⟩
  have HB3 := Lib.hid (HB2.out.trans (hb3.mono HB2.out.size))
  have HQ := Lib.hid (fun h => idxI_neg_all (p := fun z => decide (most < z)) (zs := ds) h)
  generalize idxI (fun z => decide (most < z)) ds = r1 at HQ ⊢
  clear hb3 p0 p1 p2 p3 p4 H5
  obtain ⟨⟨p0, p1, p2, p3⟩, p4⟩ := HSk.out w3 HB3.out
  by_cases h1 : 0 ≤ r1
  · clear p0 p1 p2 p3 p4
    go_wp2_with fail
    refine bodyPost_ret (v := .tuple #[.int .i64 1, .int .i64 r1, .int .i64 0]) (by simp [results, Tryz.results31, go_sem]) rfl ?_
    exact ⟨1, r1, 0, rfl, .inl rfl, (HB.out.step HB3.out).1⟩
  · have HQ1 := Lib.hid (fun z (hz : z ∈ ds) => HQ.out h1 z hz)
    go_wp2_with fail
    refine (HPt.out w3 (HPa.out.below (HB.out.step HB3.out).1)).mono ?_
    rintro e w4 ⟨g4, c4, zs, hz4, rfl, hc4, hb4⟩
    have HB4 := Lib.hid (HB3.out.trans (hb4.mono HB3.out.size))
    have H6 := Lib.hid (indexFunc_any (some ⟨g4, 0, none⟩) n c4 zs (fun z => decide (0 < z)) 66 #[] w4 eg2 hz4 (by omega) hc4 (fun z X _ _ => fault2_any z X))
    clear hb4 p0 p1 p2 p3 p4 hc4
    go_wp2_with fail
    refine H6.out.mono ?_
    rintro e w5 ⟨rfl, hb5⟩
    have HB5 := Lib.hid (HB4.out.trans (hb5.mono HB4.out.size))
    generalize idxI (fun z => decide (0 < z)) zs = r2
    clear hb5 H6
    obtain ⟨⟨p0, p1, p2, p3⟩, p4⟩ := HSk.out w5 HB5.out
    by_cases h2 : 0 ≤ r2
    · clear p0 p1 p2 p3 p4
      go_wp2_with fail
      refine bodyPost_ret (v := .tuple #[.int .i64 2, .int .i64 r2, .int .i64 0]) (by simp [results, Tryz.results31, go_sem]) rfl ?_
      exact ⟨2, r2, 0, rfl, .inl rfl, (HB.out.step HB5.out).1⟩
    · go_wp2_with fail
      refine (HOp.out w5 (HPa.out.below (HB.out.step HB5.out).1)).mono ?_
      rintro e w6 ⟨g6, c6, rfl, hle, hb6⟩
      have HB6 := Lib.hid (HB5.out.trans (hb6.mono HB5.out.size))
      clear hb6 p0 p1 p2 p3 p4 hle
      obtain ⟨⟨p0, p1, p2, p3⟩, p4⟩ := HSk.out w6 HB6.out
      obtain ⟨N, hN⟩ : ∃ N, (p.rings p.opens p.opens.length).1 = N := ⟨_, rfl⟩
      have HN := Lib.hid hN
      rw [hN]
      clear hN
      by_cases h3 : (N : Int) = op
      · have hb : ((N : Int) != op) = false := by simp [h3]
        have HE := Lib.hid h3
        clear h3
        go_wp2_with fail
        refine bodyPost_ret (v := .tuple #[.int .i64 0, .int .i64 0, .int .i64 3]) (by simp [results, Tryz.results31, go_sem]) rfl ?_
        exact ⟨0, 0, 3, rfl, .inr ⟨rfl, fun d hd => by
          have h4 := HQ1.out d (by rw [← HDs.out]; exact hd)
          have h5 : ¬ most < d := of_decide_eq_false h4
          omega, by rw [HN.out]; exact HE.out⟩, (HB.out.step HB6.out).1⟩
      · have hb : ((N : Int) != op) = true := by simp [h3]
        clear h3
        go_wp2_with fail
        refine bodyPost_ret (v := .tuple #[.int .i64 3, .int .i64 (N : Int), .int .i64 0]) (by simp [results, Tryz.results31, go_sem]) rfl ?_
        exact ⟨3, N, 0, rfl, .inl rfl, (HB.out.step HB6.out).1⟩
end Go.Proofs.YthemlamdchcicaaGreatDoor

namespace Go.Proofs.YthemlamdchcicaaGreatDoor
open Go.ChangeShapes Go.WideShapes Go.ChangeAt Go.RowKit Go.Deep Go.Shelf Go.ChangeMaps

def SoundEnd (p : Pat) (op most : Int) (w : World) (e : Ending) (w' : World) : Prop :=
  ∃ b : Bool, e = .returned (.tuple #[.bool b, .int .i64 0]) ∧ (b = true → (∀ d ∈ p.diffs p.m, d ≤ most) ∧ ((p.rings p.opens p.opens.length).1 : Int) = op) ∧ Below w.heap.size w w'
set_option maxRecDepth 100000 in
set_option maxHeartbeats 3200000 in
theorem isSound_any (p : Pat) (hp : p.Ok) (aP aS : Option Addr) (cP cS : Nat) (op most : Int) (hop : 0 ≤ op ∧ op ≤ 100) (hmost : 0 ≤ most ∧ most ≤ 10000) (w : World) (h : PatAt w p aP aS) :
    Calls Tryz.prog 11 #[.agg #[.slice aP p.n cP, .slice aS p.m cS, .int .i64 op], .int .i64 most] w (SoundEnd p op most w) := by
  obtain ⟨W, hW⟩ : ∃ W, w.alloc (.cells #[.slice aP p.n cP, .slice aS p.m cS, .int .i64 op] 41) = W := ⟨_, rfl⟩
  have HB := Lib.hid (show Bel w.heap.size w W by rw [← hW]; exact (Bel.refl w).alloc _)
  have HBx := Lib.hid (show PBox W w.heap.size aP p.n cP aS p.m cS op by rw [← hW]; exact PBox.new w aP p.n cP aS p.m cS op)
  have HW := Lib.hid hW
  have HF := Lib.hid (firstFault_any p hp aP aS cP cS op most hop hmost W (h.below HB.out.1))
  obtain ⟨p0, p1, p2, p3⟩ := HBx.out
  clear h hp hop hmost hW
  generalize p.n = n at HF HW p0 p1 ⊢
  obtain ⟨m, hm⟩ : ∃ m, p.m = m := ⟨_, rfl⟩
  have HM := Lib.hid hm
  rw [hm] at HW p1 ⊢
  have HF := Lib.hid (show Calls Tryz.prog 31 #[.agg #[.slice aP n cP, .slice aS m cS, .int .i64 op], .int .i64 most] W (FaultEnd p op most W) by rw [← hm]; exact HF.out)
  clear hm HBx
  go_enter Tryz.func11, Tryz.ntmps11
  go_upto_region 1 with fail
  rw [HW.out]
  go_wp2_with fail
  refine HF.out.mono ?_
  rintro e w1 ⟨x, y, cde, rfl, hc, hb1⟩
  have HB1 := Lib.hid (HB.out.step hb1)
  have HC := Lib.hid hc
  clear hb1 p0 p1 p2 p3
  rcases hc with rfl | ⟨rfl, _⟩
  · go_wp2_with fail
    go_ret2
    exact ⟨false, rfl, (fun h => absurd h (by simp)), HB1.out.1⟩
  · go_wp2_with fail
    go_ret2
    refine ⟨true, rfl, fun _ => ?_, HB1.out.1⟩
    rcases HC.out with h | h
    · exact absurd h (by decide)
    · exact h.2
def OpeningsEnd (p : Pat) (w : World) (e : Ending) (w' : World) : Prop :=
  ∃ g c, e = .returned (.tuple #[.slice (some ⟨g, 0, none⟩) (p.rings p.opens p.opens.length).1 c, .int .i64 0]) ∧ (p.rings p.opens p.opens.length).1 ≤ 80 ∧ Below w.heap.size w w'
set_option maxRecDepth 100000 in
set_option maxHeartbeats 3200000 in
theorem openingsOf_any (p : Pat) (hp : p.Ok) (aP aS : Option Addr) (cP cS : Nat) (op : Int) (hop : 0 ≤ op ∧ op ≤ 100) (w : World) (h : PatAt w p aP aS) :
    Calls Tryz.prog 12 #[.agg #[.slice aP p.n cP, .slice aS p.m cS, .int .i64 op]] w (OpeningsEnd p w) := by
  have hosl : p.opens.length ≤ 80 := by
    have h1 := Pat.edsTo_le hp p.n (Nat.le_refl _)
    have h2 := hp.n2
    have h3 : p.opens.length ≤ (p.edsTo p.n).length := List.length_filter_le _ _
    omega
  obtain ⟨W, hW⟩ : ∃ W, w.alloc (.cells #[.slice aP p.n cP, .slice aS p.m cS, .int .i64 op] 41) = W := ⟨_, rfl⟩
  have HB := Lib.hid (show Bel w.heap.size w W by rw [← hW]; exact (Bel.refl w).alloc _)
  have HBx := Lib.hid (show PBox W w.heap.size aP p.n cP aS p.m cS op by rw [← hW]; exact PBox.new w aP p.n cP aS p.m cS op)
  have HW := Lib.hid hW
  have HV := Lib.hid (validPattern_ok p hp aP aS cP cS op hop W (h.below HB.out.1))
  have HO := Lib.hid (fun X (hX : Below W.heap.size W X) => openings_any p hp aP aS cP cS op X ((h.below HB.out.1).below hX))
  obtain ⟨p0, p1, p2, p3⟩ := HBx.out
  clear h hp hop hW
  generalize p.n = n at HV HO HBx HW p0 p1 ⊢
  generalize p.m = m at HV HO HBx HW p0 p1 ⊢
  go_enter Tryz.func12, Tryz.ntmps12
  go_upto_region 1 with fail
  rw [HW.out]
  go_wp2_with fail
  refine HV.out.mono ?_
  rintro e w1 ⟨rfl, hb1⟩
  have HB1 := Lib.hid hb1
  clear hb1 p0 p1 p2 p3
  obtain ⟨p0, p1, p2, p3⟩ := HBx.out.below HB1.out
  go_wp2_with fail
  refine (HO.out w1 HB1.out).mono ?_
  rintro e w2 ⟨g, c, rfl, hle, hb2⟩
  have HB2 := Lib.hid ((HB.out.step HB1.out).step hb2)
  clear hb2 p0 p1 p2 p3
  obtain ⟨N, hN⟩ : ∃ N, (p.rings p.opens p.opens.length).1 = N := ⟨_, rfl⟩
  have HN := Lib.hid hN
  rw [hN] at hle ⊢
  clear hN
  go_wp2_with fail
  go_ret2
  exact ⟨g, c, by rw [HN.out]; rfl, by rw [HN.out]; omega, HB2.out.1⟩
def DiffsEnd (p : Pat) (w : World) (e : Ending) (w' : World) : Prop :=
  ∃ a c, e = .returned (.tuple #[.slice a p.m c, .int .i64 0]) ∧ CellsAt w' a ((p.diffs p.m).map (Value.int .i64)) ∧ Below w.heap.size w w'
set_option maxRecDepth 100000 in
set_option maxHeartbeats 3200000 in
theorem seamDifferences_any (p : Pat) (hp : p.Ok) (aP aS : Option Addr) (cP cS : Nat) (op : Int) (hop : 0 ≤ op ∧ op ≤ 100) (w : World) (h : PatAt w p aP aS) :
    Calls Tryz.prog 13 #[.agg #[.slice aP p.n cP, .slice aS p.m cS, .int .i64 op]] w (DiffsEnd p w) := by
  obtain ⟨W, hW⟩ : ∃ W, w.alloc (.cells #[.slice aP p.n cP, .slice aS p.m cS, .int .i64 op] 41) = W := ⟨_, rfl⟩
  have HB := Lib.hid (show Bel w.heap.size w W by rw [← hW]; exact (Bel.refl w).alloc _)
  have HBx := Lib.hid (show PBox W w.heap.size aP p.n cP aS p.m cS op by rw [← hW]; exact PBox.new w aP p.n cP aS p.m cS op)
  have HW := Lib.hid hW
  have HV := Lib.hid (validPattern_ok p hp aP aS cP cS op hop W (h.below HB.out.1))
  have HO := Lib.hid (fun X (hX : Below W.heap.size W X) => differences_any p hp aP aS cP cS op X ((h.below HB.out.1).below hX))
  obtain ⟨p0, p1, p2, p3⟩ := HBx.out
  clear h hp hop hW
  unfold DiffsEnd
  generalize (p.diffs p.m).map (Value.int .i64) = ds at HO ⊢
  generalize p.n = n at HV HO HBx HW p0 p1 ⊢
  generalize p.m = m at HV HO HBx HW p0 p1 ⊢
  go_enter Tryz.func13, Tryz.ntmps13
  go_upto_region 1 with fail
  rw [HW.out]
  go_wp2_with fail
  refine HV.out.mono ?_
  rintro e w1 ⟨rfl, hb1⟩
  have HB1 := Lib.hid hb1
  clear hb1 p0 p1 p2 p3
  obtain ⟨p0, p1, p2, p3⟩ := HBx.out.below HB1.out
  go_wp2_with fail
  refine (HO.out w1 HB1.out).mono ?_
  rintro e w2 ⟨a, c, rfl, ho, hb2⟩
  have HB2 := Lib.hid ((HB.out.step HB1.out).step hb2)
  have HC := Lib.hid (CellsAt.of_own ho)
  clear hb2 ho p0 p1 p2 p3
  go_wp2_with fail
  go_ret2
  exact ⟨a, c, rfl, HC.out, HB2.out.1⟩
end Go.Proofs.YthemlamdchcicaaGreatDoor
