/-
  The contracts of ReadGlue, both sides. Conditions: the listed tables are laid.
-/
import Derived.Test.YtfkojbkgpbpjhaaGreatDoorReadGP
import Derived.Test.YtfkojbkgpbpjhaaGreatDoorBox
namespace Go.Proofs.YtfkojbkgpbpjhaaGreatDoor
open Go.ChangeShapes Go.WideShapes Go.ChangeAt Go.RowKit Go.Deep Go.Shelf Go.Sort

def GluePost (s : ByteArray) (e : Ending) : Prop := ∃ d o p b, GlueRes s d o p b ∧ e = .returned (.tuple #[.agg #[.int .i64 d, .int .i64 o, .int .i64 p], .bool b])
theorem own_strs {W : World} {B g n c : Nat} {ps : List ByteArray} (h : W.ownsRow B 9 1 (.slice (some ⟨g, 0, none⟩) n c) n (strs ps)) (j : Nat) (p : ByteArray) (hj : ps[j]? = some p) : W.cell? ⟨g, j, none⟩ = some (.string p) := by
  have hl := h.1
  have hjl := (List.getElem?_eq_some_iff.1 hj).1
  rw [h.cellAt j (by simp [strs] at hl; omega)]
  simp [strs, hj]
theorem bel_set3 {B q : Nat} {w W : World} {a b c : Value} (h : Bel B w W) (hq : B ≤ q) : Bel B w (((W.setCell ⟨q, 0, none⟩ a).setCell ⟨q, 1, none⟩ b).setCell ⟨q, 2, none⟩ c) :=
  ((h.setCell (p := ⟨q, 0, none⟩) hq a).setCell (p := ⟨q, 1, none⟩) hq b).setCell (p := ⟨q, 2, none⟩) hq c
theorem lit_yes {p q : ByteArray} {l : List UInt8} (hq : q.data.toList = l) (h : p = q) : (p.toList == l) = true := by
  subst h
  rw [Lib.toList_data, hq]
  exact beq_self_eq_true _
theorem lit_no {p q : ByteArray} {l : List UInt8} (hq : q.data.toList = l) (h : ¬ p = q) : (p.toList == l) = false := by
  have := toList_ne h
  rw [Lib.toList_data q, hq] at this
  exact this

set_option maxRecDepth 100000 in
set_option maxHeartbeats 6400000 in
theorem spec_ReadGlue_ex (s : ByteArray) (w : World) (hs : s.size ≤ 1048576) :
    Calls Tryz.prog 21 #[.string s] w fun e w' => GluePost s e ∧ Below w.heap.size w w' := by
  have HS := Lib.hid (fun W => l01Split_any s 32 W hs)
  rw [show ((32 : UInt8).toNat : Int) = 32 from rfl] at HS
  have HSZ := Lib.hid hs
  have HB0 := Lib.hid ((Bel.refl w).alloc (.cells #[.int .i64 0, .int .i64 0, .int .i64 0] 25))
  have HR0 := Lib.hid (Obx.new w w.heap.size 25 3 #[.int .i64 0, .int .i64 0, .int .i64 0] (Nat.le_refl _) rfl)
  go_enter Tryz.func21, Tryz.ntmps21
  go_wp2_with fail
  refine (HS.out _).mono ?_
  rintro e w1 ⟨g, cap, rfl, ho, hb⟩
  generalize w.alloc (.cells #[.int .i64 0, .int .i64 0, .int .i64 0] 25) = w0 at HB0 HR0 ho hb ⊢
  have HB1 := Lib.hid (Bel.step HB0.out hb.1)
  have HR1 := Lib.hid (HR0.out.below hb.1)
  have HO := Lib.hid ho
  clear ho hb HB0 HR0 HS
  have r0 : w1.cell? ⟨w.heap.size, 0, none⟩ = some (.int .i64 0) := HR1.out.cell 0 (by omega)
  have r1 : w1.cell? ⟨w.heap.size, 1, none⟩ = some (.int .i64 0) := HR1.out.cell 1 (by omega)
  have r2 : w1.cell? ⟨w.heap.size, 2, none⟩ = some (.int .i64 0) := HR1.out.cell 2 (by omega)
  have fr := HR1.out.fr
  have f0 := fr 0
  have f1 := fr 1
  have f2 := fr 2
  clear fr
  by_cases h6 : (partsC 32 s).length = 6
  · obtain ⟨p0, p1, p2, p3, p4, p5, hp⟩ := six_of h6
    have ho := HO.out
    rw [hp] at ho
    have c0 := own_strs ho 0 p0 rfl
    have c1 := own_strs ho 1 p1 rfl
    have c2 := own_strs ho 2 p2 rfl
    have c3 := own_strs ho 3 p3 rfl
    have c4 := own_strs ho 4 p4 rfl
    have c5 := own_strs ho 5 p5 rfl
    have H1 := Lib.hid (show p1.size ≤ 1048576 from Nat.le_trans (part_size (c := 32) (s := s) (by rw [hp]; simp)) hs)
    have H3 := Lib.hid (show p3.size ≤ 1048576 from Nat.le_trans (part_size (c := 32) (s := s) (by rw [hp]; simp)) hs)
    have H5 := Lib.hid (show p5.size ≤ 1048576 from Nat.le_trans (part_size (c := 32) (s := s) (by rw [hp]; simp)) hs)
    rw [h6]
    have HO2 := Lib.hid ho
    have HP := Lib.hid hp
    clear h6 ho HO hs hp
    by_cases q0 : p0 = wDry
    · have e0 := lit_yes (l := [100, 114, 121]) rfl q0
      by_cases q2 : p2 = wOpen
      · have e2 := lit_yes (l := [111, 112, 101, 110]) rfl q2
        by_cases q4 : p4 = wPress
        · have e4 := lit_yes (l := [112, 114, 101, 115, 115]) rfl q4
          have HPW := Lib.hid (show partsC 32 s = [wDry, p1, wOpen, p3, wPress, p5] by rw [HP.out, q0, q2, q4])
          clear q0 q2 q4
          obtain ⟨n1, b1, hn1⟩ := numRes_ex p1
          obtain ⟨n3, b3, hn3⟩ := numRes_ex p3
          obtain ⟨n5, b5, hn5⟩ := numRes_ex p5
          have HD1 := Lib.hid (fun W => l01Number_any p1 W H1.out n1 b1 hn1)
          have HD3 := Lib.hid (fun W => l01Number_any p3 W H3.out n3 b3 hn3)
          have HD5 := Lib.hid (fun W => l01Number_any p5 W H5.out n5 b5 hn5)
          have HN1 := Lib.hid hn1
          have HN3 := Lib.hid hn3
          have HN5 := Lib.hid hn5
          clear hn1 hn3 hn5
          go_wp2_with fail
          refine (HD1.out w1).mono ?_
          rintro e w2 ⟨rfl, hb2⟩
          have HB2 := Lib.hid (Bel.step HB1.out hb2)
          have HR2 := Lib.hid (HR1.out.below hb2)
          have ho2 := own_below HO2.out hb2
          have k3 := own_strs ho2 3 p3 rfl
          have HO3 := Lib.hid ho2
          clear hb2 ho2 c0 c1 c2 c3 c4 c5 r0 r1 r2 f0 f1 f2 HO2 HR1 HB1
          go_wp2_with fail
          refine (HD3.out w2).mono ?_
          rintro e w3 ⟨rfl, hb3⟩
          have HB3 := Lib.hid (Bel.step HB2.out hb3)
          have HR3 := Lib.hid (HR2.out.below hb3)
          have ho3 := own_below HO3.out hb3
          have k5 := own_strs ho3 5 p5 rfl
          clear hb3 ho3 k3 HO3 HR2 HB2
          go_wp2_with fail
          refine (HD5.out w3).mono ?_
          rintro e w4 ⟨rfl, hb4⟩
          have HB4 := Lib.hid (Bel.step HB3.out hb4)
          have HR4 := Lib.hid (HR3.out.below hb4)
          clear hb4 k5 HR3 HB3
          have r0 : w4.cell? ⟨w.heap.size, 0, none⟩ = some (.int .i64 0) := HR4.out.cell 0 (by omega)
          have r1 : w4.cell? ⟨w.heap.size, 1, none⟩ = some (.int .i64 0) := HR4.out.cell 1 (by omega)
          have r2 : w4.cell? ⟨w.heap.size, 2, none⟩ = some (.int .i64 0) := HR4.out.cell 2 (by omega)
          have fr := HR4.out.fr
          have f0 := fr 0
          have f1 := fr 1
          have f2 := fr 2
          have hlt4 : w.heap.size < w4.heap.size := HR4.out.lt.2
          have hlt5 : w.heap.size < w4.heap.size + 1 := Nat.lt_succ_of_lt hlt4
          clear fr
          cases b1 with
          | false =>
            have HN := Lib.hid (glue_no (no_glue_num HP.out HN1.out HN3.out HN5.out (.inl rfl)))
            go_wp2_with fail
            refine bodyPost_ret (v := .tuple #[.agg #[.int .i64 0, .int .i64 0, .int .i64 0], .bool false]) (by simp [results, Tryz.results21, go_sem, r0, r1, r2, hlt4]) rfl ?_
            exact ⟨⟨0, 0, 0, false, HN.out, rfl⟩, ((bel_set3 HB4.out (Nat.le_refl _)).alloc _).1⟩
          | true =>
            cases b3 with
            | false =>
              have HN := Lib.hid (glue_no (no_glue_num HP.out HN1.out HN3.out HN5.out (.inr (.inl rfl))))
              go_wp2_with fail
              refine bodyPost_ret (v := .tuple #[.agg #[.int .i64 0, .int .i64 0, .int .i64 0], .bool false]) (by simp [results, Tryz.results21, go_sem, r0, r1, r2, hlt4]) rfl ?_
              exact ⟨⟨0, 0, 0, false, HN.out, rfl⟩, ((bel_set3 HB4.out (Nat.le_refl _)).alloc _).1⟩
            | true =>
              cases b5 with
              | false =>
                have HN := Lib.hid (glue_no (no_glue_num HP.out HN1.out HN3.out HN5.out (.inr (.inr rfl))))
                go_wp2_with fail
                refine bodyPost_ret (v := .tuple #[.agg #[.int .i64 0, .int .i64 0, .int .i64 0], .bool false]) (by simp [results, Tryz.results21, go_sem, r0, r1, r2, hlt4]) rfl ?_
                exact ⟨⟨0, 0, 0, false, HN.out, rfl⟩, ((bel_set3 HB4.out (Nat.le_refl _)).alloc _).1⟩
              | true =>
                have HV := Lib.hid (fun W => l19Ok_any n1 n3 n5 W)
                cases hg : glueB n1 n3 n5 with
                | false =>
                  rw [hg] at HV
                  have HN := Lib.hid (glue_no (spec_glue_no HP.out HN1.out HN3.out HN5.out hg))
                  clear hg
                  go_wp2_with (go_at_call 32; refine (HV.out _).mono ?_; rintro e w5 ⟨rfl, rfl⟩)
                  refine bodyPost_ret (v := .tuple #[.agg #[.int .i64 0, .int .i64 0, .int .i64 0], .bool false]) (by simp [results, Tryz.results21, go_sem, r0, r1, r2, hlt4, hlt5]) rfl ?_
                  exact ⟨⟨0, 0, 0, false, HN.out, rfl⟩, (((bel_set3 HB4.out (Nat.le_refl _)).alloc _).alloc _).1⟩
                | true =>
                  rw [hg] at HV
                  have HN := Lib.hid (glue_yes (spec_glue_yes HPW.out HN1.out HN3.out HN5.out hg))
                  clear hg
                  go_wp2_with (go_at_call 32; refine (HV.out _).mono ?_; rintro e w5 ⟨rfl, rfl⟩)
                  refine bodyPost_ret (v := .tuple #[.agg #[.int .i64 n1, .int .i64 n3, .int .i64 n5], .bool true]) (by simp [results, Tryz.results21, go_sem, r0, r1, r2, hlt4, hlt5]) rfl ?_
                  exact ⟨⟨n1, n3, n5, true, HN.out, rfl⟩, (((bel_set3 HB4.out (Nat.le_refl _)).alloc _).alloc _).1⟩
        · have e4 := lit_no (l := [112, 114, 101, 115, 115]) rfl q4
          have HN := Lib.hid (glue_no (no_glue_word HP.out (.inr (.inr q4))))
          clear q0 q2 q4
          go_wp2_with fail
          refine bodyPost_ret (v := .tuple #[.agg #[.int .i64 0, .int .i64 0, .int .i64 0], .bool false]) (by simp [results, Tryz.results21, go_sem, r0, r1, r2]) rfl ?_
          exact ⟨⟨0, 0, 0, false, HN.out, rfl⟩, (bel_set3 HB1.out (Nat.le_refl _)).1⟩
      · have e2 := lit_no (l := [111, 112, 101, 110]) rfl q2
        have HN := Lib.hid (glue_no (no_glue_word HP.out (.inr (.inl q2))))
        clear q0 q2
        go_wp2_with fail
        refine bodyPost_ret (v := .tuple #[.agg #[.int .i64 0, .int .i64 0, .int .i64 0], .bool false]) (by simp [results, Tryz.results21, go_sem, r0, r1, r2]) rfl ?_
        exact ⟨⟨0, 0, 0, false, HN.out, rfl⟩, (bel_set3 HB1.out (Nat.le_refl _)).1⟩
    · have e0 := lit_no (l := [100, 114, 121]) rfl q0
      have HN := Lib.hid (glue_no (no_glue_word HP.out (.inl q0)))
      clear q0
      go_wp2_with fail
      refine bodyPost_ret (v := .tuple #[.agg #[.int .i64 0, .int .i64 0, .int .i64 0], .bool false]) (by simp [results, Tryz.results21, go_sem, r0, r1, r2]) rfl ?_
      exact ⟨⟨0, 0, 0, false, HN.out, rfl⟩, (bel_set3 HB1.out (Nat.le_refl _)).1⟩
  · have HN := Lib.hid (glue_no (no_glue_len h6))
    obtain ⟨n, hn⟩ : ∃ n, (partsC 32 s).length = n := ⟨_, rfl⟩
    rw [hn] at h6 ⊢
    have h6' : ¬ (n : Int) = 6 := by omega
    clear h6 hn HO
    go_wp2_with fail
    refine bodyPost_ret (v := .tuple #[.agg #[.int .i64 0, .int .i64 0, .int .i64 0], .bool false]) (by simp [results, Tryz.results21, go_sem, r0, r1, r2]) rfl ?_
    exact ⟨⟨0, 0, 0, false, HN.out, rfl⟩, (bel_set3 HB1.out (Nat.le_refl _)).1⟩
theorem spec_ReadGlue (s : ByteArray) (w : World) (hs : s.size ≤ 1048576) (d o p : Int) (b : Bool) (hr : GlueRes s d o p b) :
    Calls Tryz.prog 21 #[.string s] w fun e w' => e = .returned (.tuple #[.agg #[.int .i64 d, .int .i64 o, .int .i64 p], .bool b]) ∧ Below w.heap.size w w' := by
  refine (spec_ReadGlue_ex s w hs).mono ?_
  rintro e w' ⟨⟨d', o', p', b', h', rfl⟩, hb⟩
  obtain ⟨rfl, rfl, rfl, rfl⟩ := hr.same h'
  exact ⟨rfl, hb⟩
theorem glueRes_ex (s : ByteArray) : ∃ d o p b, GlueRes s d o p b := by
  by_cases h : ∃ d o p, RG s d o p
  · obtain ⟨d, o, p, h⟩ := h
    exact ⟨d, o, p, true, glue_yes h⟩
  · exact ⟨0, 0, 0, false, glue_no fun d o p hr => h ⟨d, o, p, hr⟩⟩
end Go.Proofs.YtfkojbkgpbpjhaaGreatDoor
