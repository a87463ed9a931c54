/-
  The contract of ReadGlue of the program. Conditions: the listed tables are laid.
-/
import Derived.Test.YtfkojbkgpbpjhaaGreatDoorReadG
namespace Go.Proofs.YtfkojbkgpbpjhaaGreatDoor
open Go.ChangeShapes Go.WideShapes Go.ChangeAt Go.RowKit Go.Deep Go.Shelf Go.Sort

theorem split_any (s : ByteArray) (w : World) (hs : s.size ≤ 1048576) (m : Int) (hm : w.cell? ⟨1, 0, none⟩ = some (.int .i64 m)) :
    Calls Tryz.prog 47 #[.string s, .string ⟨#[32]⟩] w fun e w' => ∃ g cap, e = .returned (.slice (some ⟨g, 0, none⟩) ((partsC 32 s).length) cap) ∧ w'.ownsRow w.heap.size 9 1 (.slice (some ⟨g, 0, none⟩) ((partsC 32 s).length) cap) ((partsC 32 s).length) (strs (partsC 32 s)) ∧ Bel w.heap.size w w' := by
  refine (Tryz.strings_Split s ⟨#[32]⟩ m w (by omega) hm (by decide)).mono ?_
  rintro e w' ⟨rfl, rfl⟩
  rw [countB_one, splitB_parts 32 s _ (Nat.le_refl _)]
  have hl := parts_len 32 s
  rw [← hl]
  have hle : (partsC 32 s).length ≤ 1048577 := by
    rw [hl]
    have := List.count_le_length (a := (32 : UInt8)) (l := s.data.toList)
    rw [← Lib.size_eq] at this
    omega
  refine ⟨w.heap.size, _, rfl, ?_, (Bel.refl w).alloc _⟩
  have h := World.ownsRow_lit (base := w.heap.size) (size := 1) (e := 9) w ((partsC 32 s).map Value.string).toArray (partsC 32 s).length (Nat.le_refl _) (by unfold maxLen; omega) (by simp)
  simpa [strs] using h

set_option maxRecDepth 100000 in
set_option maxHeartbeats 6400000 in
theorem impl_ReadGlue_ex (s : ByteArray) (w : World) (hs : s.size ≤ 1048576) (ht : Tabs w) :
    Calls Tryz.prog 19 #[.string s] w fun e w' => GluePost s e ∧ Below w.heap.size w w' := by
  have HS := Lib.hid (fun W (hb : Below w.heap.size w W) => (let ⟨m, hm⟩ := (ht.below hb).2.2.2; split_any s W hs m hm : Calls Tryz.prog 47 #[.string s, .string ⟨#[32]⟩] W fun e w' => ∃ g cap, e = .returned (.slice (some ⟨g, 0, none⟩) ((partsC 32 s).length) cap) ∧ w'.ownsRow W.heap.size 9 1 (.slice (some ⟨g, 0, none⟩) ((partsC 32 s).length) cap) ((partsC 32 s).length) (strs (partsC 32 s)) ∧ Bel W.heap.size W w'))
  have HT := Lib.hid (fun W (hb : Below w.heap.size w W) => ht.below hb)
  clear ht
  have HB0 := Lib.hid ((Bel.refl w).alloc (.cells #[.int .i64 0, .int .i64 0, .int .i64 0] 25))
  have HR0 := Lib.hid (Obx.new w w.heap.size 25 3 #[.int .i64 0, .int .i64 0, .int .i64 0] (Nat.le_refl _) rfl)
  go_enter Tryz.func19, Tryz.ntmps19
  go_wp2_with fail
  refine (HS.out _ HB0.out.1).mono ?_
  rintro e w1 ⟨g, cap, rfl, ho, hb⟩
  generalize w.alloc (.cells #[.int .i64 0, .int .i64 0, .int .i64 0] 25) = w0 at HB0 HR0 ho hb ⊢
  have HB1 := Lib.hid (Bel.step HB0.out hb.1)
  have HR1 := Lib.hid (HR0.out.below hb.1)
  have HO := Lib.hid ho
  clear ho hb HB0 HR0 HS
  have r0 : w1.cell? ⟨w.heap.size, 0, none⟩ = some (.int .i64 0) := HR1.out.cell 0 (by omega)
  have r1 : w1.cell? ⟨w.heap.size, 1, none⟩ = some (.int .i64 0) := HR1.out.cell 1 (by omega)
  have r2 : w1.cell? ⟨w.heap.size, 2, none⟩ = some (.int .i64 0) := HR1.out.cell 2 (by omega)
  have fr := HR1.out.fr
  have f0 := fr 0
  have f1 := fr 1
  have f2 := fr 2
  clear fr
  by_cases h6 : (partsC 32 s).length = 6
  · obtain ⟨p0, p1, p2, p3, p4, p5, hp⟩ := six_of h6
    have ho := HO.out
    rw [hp] at ho
    have c1 := own_strs ho 1 p1 rfl
    have H1 := Lib.hid (show p1.size ≤ 1048576 from Nat.le_trans (part_size (c := 32) (s := s) (by rw [hp]; simp)) hs)
    have H3 := Lib.hid (show p3.size ≤ 1048576 from Nat.le_trans (part_size (c := 32) (s := s) (by rw [hp]; simp)) hs)
    have H5 := Lib.hid (show p5.size ≤ 1048576 from Nat.le_trans (part_size (c := 32) (s := s) (by rw [hp]; simp)) hs)
    rw [h6]
    have HO2 := Lib.hid ho
    have HP := Lib.hid hp
    clear h6 ho HO hs hp
    obtain ⟨n1, b1, hn1⟩ := numRes_ex p1
    obtain ⟨n3, b3, hn3⟩ := numRes_ex p3
    obtain ⟨n5, b5, hn5⟩ := numRes_ex p5
    have HD1 := Lib.hid (fun W (hb : Bel w.heap.size w W) => readDecimal_any p1 W H1.out (HT.out W hb.1) n1 b1 hn1)
    have HD3 := Lib.hid (fun W (hb : Bel w.heap.size w W) => readDecimal_any p3 W H3.out (HT.out W hb.1) n3 b3 hn3)
    have HD5 := Lib.hid (fun W (hb : Bel w.heap.size w W) => readDecimal_any p5 W H5.out (HT.out W hb.1) n5 b5 hn5)
    have HN1 := Lib.hid hn1
    have HN3 := Lib.hid hn3
    have HN5 := Lib.hid hn5
    clear hn1 hn3 hn5
    go_wp2_with fail
    refine (HD1.out w1 HB1.out).mono ?_
    rintro e w2 ⟨rfl, hb2⟩
    have HB2 := Lib.hid (Bel.step HB1.out hb2)
    have HR2 := Lib.hid (HR1.out.below hb2)
    have ho2 := own_below HO2.out hb2
    have k3 := own_strs ho2 3 p3 rfl
    have HO3 := Lib.hid ho2
    clear hb2 ho2 c1 r0 r1 r2 f0 f1 f2 HO2 HR1 HB1
    go_wp2_with fail
    refine (HD3.out w2 HB2.out).mono ?_
    rintro e w3 ⟨rfl, hb3⟩
    have HB3 := Lib.hid (Bel.step HB2.out hb3)
    have HR3 := Lib.hid (HR2.out.below hb3)
    have ho3 := own_below HO3.out hb3
    have k5 := own_strs ho3 5 p5 rfl
    clear hb3 ho3 k3 HO3 HR2 HB2
    go_wp2_with fail
    refine (HD5.out w3 HB3.out).mono ?_
    rintro e w4 ⟨rfl, hb4⟩
    have HB4 := Lib.hid (Bel.step HB3.out hb4)
    have HR4 := Lib.hid (HR3.out.below hb4)
    clear hb4 k5 HR3 HB3
    have r0 : w4.cell? ⟨w.heap.size, 0, none⟩ = some (.int .i64 0) := HR4.out.cell 0 (by omega)
    have r1 : w4.cell? ⟨w.heap.size, 1, none⟩ = some (.int .i64 0) := HR4.out.cell 1 (by omega)
    have r2 : w4.cell? ⟨w.heap.size, 2, none⟩ = some (.int .i64 0) := HR4.out.cell 2 (by omega)
    have fr := HR4.out.fr
    have f0 := fr 0
    have f1 := fr 1
    have f2 := fr 2
    have hlt4 : w.heap.size < w4.heap.size := HR4.out.lt.2
    clear fr
    cases b1 with
    | false =>
      have HN := Lib.hid (glue_no (no_glue_num HP.out HN1.out HN3.out HN5.out (.inl rfl)))
      go_wp2_with fail
      refine bodyPost_ret (v := .tuple #[.agg #[.int .i64 0, .int .i64 0, .int .i64 0], .bool false]) (by simp [results, Tryz.results19, go_sem, r0, r1, r2, hlt4]) rfl ?_
      exact ⟨⟨0, 0, 0, false, HN.out, rfl⟩, ((bel_set3 HB4.out (Nat.le_refl _)).alloc _).1⟩
    | true =>
      cases b3 with
      | false =>
        have HN := Lib.hid (glue_no (no_glue_num HP.out HN1.out HN3.out HN5.out (.inr (.inl rfl))))
        go_wp2_with fail
        refine bodyPost_ret (v := .tuple #[.agg #[.int .i64 0, .int .i64 0, .int .i64 0], .bool false]) (by simp [results, Tryz.results19, go_sem, r0, r1, r2, hlt4]) rfl ?_
        exact ⟨⟨0, 0, 0, false, HN.out, rfl⟩, ((bel_set3 HB4.out (Nat.le_refl _)).alloc _).1⟩
      | true =>
        cases b5 with
        | false =>
          have HN := Lib.hid (glue_no (no_glue_num HP.out HN1.out HN3.out HN5.out (.inr (.inr rfl))))
          go_wp2_with fail
          refine bodyPost_ret (v := .tuple #[.agg #[.int .i64 0, .int .i64 0, .int .i64 0], .bool false]) (by simp [results, Tryz.results19, go_sem, r0, r1, r2, hlt4]) rfl ?_
          exact ⟨⟨0, 0, 0, false, HN.out, rfl⟩, ((bel_set3 HB4.out (Nat.le_refl _)).alloc _).1⟩
        | true =>
          have HB5 := Lib.hid (HB4.out.alloc (.cells #[.int .i64 n1, .int .i64 n3, .int .i64 n5] 25))
          have HR5 := Lib.hid (HR4.out.alloc (.cells #[.int .i64 n1, .int .i64 n3, .int .i64 n5] 25))
          have HQ5 := Lib.hid (Obx.new w4 w4.heap.size 25 3 #[.int .i64 n1, .int .i64 n3, .int .i64 n5] (Nat.le_refl _) rfl)
          have HV := Lib.hid (fun W (hb : Bel w.heap.size w W) => impl_GlueText n1 n3 n5 W (HT.out W hb.1).1)
          obtain ⟨t, htx⟩ : ∃ t, glueT n1 n3 n5 = t := ⟨_, rfl⟩
          rw [htx] at HV
          have HTX := Lib.hid htx
          clear htx
          go_wp2_with fail
          refine (HV.out _ HB5.out).mono ?_
          rintro e w6 ⟨rfl, hb6⟩
          have HB6 := Lib.hid (Bel.step HB5.out hb6)
          have HR6 := Lib.hid (HR5.out.below hb6)
          have HQ6 := Lib.hid (HQ5.out.below hb6)
          clear hb6 r0 r1 r2 f0 f1 f2 HB5 HR5 HQ5
          have r0 : w6.cell? ⟨w.heap.size, 0, none⟩ = some (.int .i64 0) := HR6.out.cell 0 (by omega)
          have r1 : w6.cell? ⟨w.heap.size, 1, none⟩ = some (.int .i64 0) := HR6.out.cell 1 (by omega)
          have r2 : w6.cell? ⟨w.heap.size, 2, none⟩ = some (.int .i64 0) := HR6.out.cell 2 (by omega)
          have m0 : w6.cell? ⟨w4.heap.size, 0, none⟩ = some (.int .i64 n1) := HQ6.out.cell 0 (by omega)
          have m1 : w6.cell? ⟨w4.heap.size, 1, none⟩ = some (.int .i64 n3) := HQ6.out.cell 1 (by omega)
          have m2 : w6.cell? ⟨w4.heap.size, 2, none⟩ = some (.int .i64 n5) := HQ6.out.cell 2 (by omega)
          have fr := HR6.out.fr
          have f0 := fr 0
          have f1 := fr 1
          have f2 := fr 2
          clear fr
          by_cases hd : t = s
          · have HN := Lib.hid (glue_yes (impl_glue_yes HP.out (HTX.out.trans hd)))
            have e1 : (t.toList == s.toList) = true := by rw [hd]; exact beq_self_eq_true _
            clear hd
            go_wp2_with fail
            refine bodyPost_ret (v := .tuple #[.agg #[.int .i64 n1, .int .i64 n3, .int .i64 n5], .bool true]) (by simp [results, Tryz.results19, go_sem, r0, r1, r2]) rfl ?_
            exact ⟨⟨n1, n3, n5, true, HN.out, rfl⟩, (bel_set3 HB6.out (Nat.le_refl _)).1⟩
          · have HN := Lib.hid (glue_no (impl_glue_no HP.out HN1.out HN3.out HN5.out (fun e => hd (HTX.out.symm.trans e))))
            have e1 : (t.toList == s.toList) = false := toList_ne hd
            clear hd
            go_wp2_with fail
            refine bodyPost_ret (v := .tuple #[.agg #[.int .i64 0, .int .i64 0, .int .i64 0], .bool false]) (by simp [results, Tryz.results19, go_sem, r0, r1, r2]) rfl ?_
            exact ⟨⟨0, 0, 0, false, HN.out, rfl⟩, (bel_set3 HB6.out (Nat.le_refl _)).1⟩
  · have HN := Lib.hid (glue_no (no_glue_len h6))
    obtain ⟨n, hn⟩ : ∃ n, (partsC 32 s).length = n := ⟨_, rfl⟩
    rw [hn] at h6 ⊢
    have h6' : ¬ (n : Int) = 6 := by omega
    clear h6 hn HO
    go_wp2_with fail
    refine bodyPost_ret (v := .tuple #[.agg #[.int .i64 0, .int .i64 0, .int .i64 0], .bool false]) (by simp [results, Tryz.results19, go_sem, r0, r1, r2]) rfl ?_
    exact ⟨⟨0, 0, 0, false, HN.out, rfl⟩, (bel_set3 HB1.out (Nat.le_refl _)).1⟩

theorem impl_ReadGlue (s : ByteArray) (w : World) (hs : s.size ≤ 1048576) (ht : Tabs w) (d o p : Int) (b : Bool) (hr : GlueRes s d o p b) :
    Calls Tryz.prog 19 #[.string s] w fun e w' => e = .returned (.tuple #[.agg #[.int .i64 d, .int .i64 o, .int .i64 p], .bool b]) ∧ Below w.heap.size w w' := by
  refine (impl_ReadGlue_ex s w hs ht).mono ?_
  rintro e w' ⟨⟨d', o', p', b', h', rfl⟩, hb⟩
  obtain ⟨rfl, rfl, rfl, rfl⟩ := hr.same h'
  exact ⟨rfl, hb⟩
end Go.Proofs.YtfkojbkgpbpjhaaGreatDoor
