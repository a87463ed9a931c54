/-
  The contract of ReadThread of the specification. No condition of its own.
-/
import Derived.Test.YtfkojbkgpbpjhaaDoorReadTP
import Derived.Test.YtfkojbkgpbpjhaaDoorReadG
namespace Go.Proofs.YtfkojbkgpbpjhaaDoor
open Go.ChangeShapes Go.WideShapes Go.ChangeAt Go.RowKit Go.Deep Go.Shelf Go.Sort

def ThreadPost (s : ByteArray) (e : Ending) : Prop := ∃ x y b ok, ThreadRes s x y b ok ∧ e = .returned (.tuple #[.agg #[.int .i64 x, .int .i64 y, .bool b], .bool ok])
theorem two_of {α : Type} {l : List α} (h : l.length = 2) : ∃ a b, l = [a, b] := by
  match l, h with
  | [a, b], _ => exact ⟨a, b, rfl⟩
theorem one_of {α : Type} {l : List α} (h : l.length = 1) : ∃ a, l = [a] := by
  match l, h with
  | [a], _ => exact ⟨a, rfl⟩

set_option maxRecDepth 100000 in
set_option maxHeartbeats 6400000 in
theorem spec_ReadThread_ex (s : ByteArray) (w : World) (hs : s.size ≤ 1048576) :
    Calls Tryd.prog 13 #[.string s] w fun e w' => ThreadPost s e ∧ Below w.heap.size w w' := by
  have HS := Lib.hid (fun W => l01Split_any s 32 W hs)
  rw [show ((32 : UInt8).toNat : Int) = 32 from rfl] at HS
  have HB0 := Lib.hid ((Bel.refl w).alloc (.cells #[.int .i64 0, .int .i64 0, .bool false] 25))
  have HR0 := Lib.hid (Obx.new w w.heap.size 25 3 #[.int .i64 0, .int .i64 0, .bool false] (Nat.le_refl _) rfl)
  go_enter Tryd.func13, Tryd.ntmps13
  go_wp2_with fail
  refine (HS.out _).mono ?_
  rintro e w1 ⟨g, cap, rfl, ho, hb⟩
  generalize w.alloc (.cells #[.int .i64 0, .int .i64 0, .bool false] 25) = w0 at HB0 HR0 ho hb ⊢
  have HB1 := Lib.hid (Bel.step HB0.out hb.1)
  have HR1 := Lib.hid (HR0.out.below hb.1)
  have HO := Lib.hid ho
  clear ho hb HB0 HR0 HS
  have r0 : w1.cell? ⟨w.heap.size, 0, none⟩ = some (.int .i64 0) := HR1.out.cell 0 (by omega)
  have r1 : w1.cell? ⟨w.heap.size, 1, none⟩ = some (.int .i64 0) := HR1.out.cell 1 (by omega)
  have r2 : w1.cell? ⟨w.heap.size, 2, none⟩ = some (.bool false) := HR1.out.cell 2 (by omega)
  have fr := HR1.out.fr
  have f0 := fr 0
  have f1 := fr 1
  have f2 := fr 2
  clear fr
  by_cases hgt : 2 < (partsC 32 s).length
  · have HN := Lib.hid (thread_no (no_thread_len hgt))
    obtain ⟨n, hn⟩ : ∃ n, (partsC 32 s).length = n := ⟨_, rfl⟩
    rw [hn] at hgt ⊢
    have hgt' : (2 : Int) < (n : Int) := by omega
    clear hgt hn HO
    go_wp2_with fail
    refine bodyPost_ret (v := .tuple #[.agg #[.int .i64 0, .int .i64 0, .bool false], .bool false]) (by simp [results, Tryd.results13, go_sem, r0, r1, r2]) rfl ?_
    exact ⟨⟨0, 0, false, false, HN.out, rfl⟩, (bel_set3 HB1.out (Nat.le_refl _)).1⟩
  by_cases h2 : (partsC 32 s).length = 2
  · obtain ⟨p0, p1, hp⟩ := two_of h2
    have ho := HO.out
    rw [hp] at ho
    have c0 := own_strs ho 0 p0 rfl
    have c1 := own_strs ho 1 p1 rfl
    have H0 := Lib.hid (show p0.size ≤ 1048576 from Nat.le_trans (part_size (c := 32) (s := s) (by rw [hp]; simp)) hs)
    rw [h2]
    have HO2 := Lib.hid ho
    have HP := Lib.hid hp
    clear h2 ho hs hp hgt
    by_cases hw : p1 = wWaxed
    · have HWX := Lib.hid hw
      have e1 := lit_yes (l := [119, 97, 120, 101, 100]) rfl hw
      clear hw
      have HW := Lib.hid (show Words s p0 true from by unfold Words; rw [HP.out, HWX.out]; rfl)
      have HS2 := Lib.hid (fun W => l01Split_any p0 120 W H0.out)
      rw [show ((120 : UInt8).toNat : Int) = 120 from rfl] at HS2
      go_wp2_with fail
      refine (HS2.out _).mono ?_
      rintro e w2 ⟨g2, cap2, rfl, ho2, hb2⟩
      have HB2 := Lib.hid (Bel.step HB1.out hb2.1)
      have HR2 := Lib.hid (HR1.out.below hb2.1)
      clear hb2 r0 r1 r2 f0 f1 f2 HR1 HB1 HO HO2 c0 c1 e1
      by_cases h2 : (partsC 120 p0).length = 2
      · obtain ⟨q0, q1, hq⟩ := two_of h2
        rw [hq] at ho2
        have k0 := own_strs ho2 0 q0 rfl
        have k1 := own_strs ho2 1 q1 rfl
        have K0 := Lib.hid (show q0.size ≤ 1048576 from Nat.le_trans (part_size (c := 120) (s := p0) (by rw [hq]; simp)) H0.out)
        have K1 := Lib.hid (show q1.size ≤ 1048576 from Nat.le_trans (part_size (c := 120) (s := p0) (by rw [hq]; simp)) H0.out)
        rw [h2]
        have HO3 := Lib.hid ho2
        have HP2 := Lib.hid hq
        clear h2 ho2 hq
        obtain ⟨n0, b0, hn0⟩ := numRes_ex q0
        obtain ⟨n1, b1, hn1⟩ := numRes_ex q1
        have HD0 := Lib.hid (fun W => l01Number_any q0 W K0.out n0 b0 hn0)
        have HD1 := Lib.hid (fun W => l01Number_any q1 W K1.out n1 b1 hn1)
        have HN0 := Lib.hid hn0
        have HN1 := Lib.hid hn1
        clear hn0 hn1
        go_wp2_with fail
        refine (HD0.out w2).mono ?_
        rintro e w3 ⟨rfl, hb3⟩
        have HB3 := Lib.hid (Bel.step HB2.out hb3)
        have HR3 := Lib.hid (HR2.out.below hb3)
        have ho3 := own_below HO3.out hb3
        have k4 := own_strs ho3 1 q1 rfl
        clear hb3 ho3 k0 k1 HO3 HR2 HB2
        go_wp2_with fail
        refine (HD1.out w3).mono ?_
        rintro e w4 ⟨rfl, hb4⟩
        have HB4 := Lib.hid (Bel.step HB3.out hb4)
        have HR4 := Lib.hid (HR3.out.below hb4)
        clear hb4 k4 HR3 HB3
        have r0 : w4.cell? ⟨w.heap.size, 0, none⟩ = some (.int .i64 0) := HR4.out.cell 0 (by omega)
        have r1 : w4.cell? ⟨w.heap.size, 1, none⟩ = some (.int .i64 0) := HR4.out.cell 1 (by omega)
        have r2 : w4.cell? ⟨w.heap.size, 2, none⟩ = some (.bool false) := HR4.out.cell 2 (by omega)
        have fr := HR4.out.fr
        have f0 := fr 0
        have f1 := fr 1
        have f2 := fr 2
        clear fr
        have hlt4 : w.heap.size < w4.heap.size := HR4.out.lt.2
        cases b0 with
        | false =>
          have HN := Lib.hid (thread_no (no_thread_num HW.out HP2.out HN0.out HN1.out (.inl rfl)))
          go_wp2_with fail
          refine bodyPost_ret (v := .tuple #[.agg #[.int .i64 0, .int .i64 0, .bool false], .bool false]) (by simp [results, Tryd.results13, go_sem, r0, r1, r2, hlt4]) rfl ?_
          exact ⟨⟨0, 0, false, false, HN.out, rfl⟩, ((bel_set3 HB4.out (Nat.le_refl _)).alloc _).1⟩
        | true =>
          cases b1 with
          | false =>
            have HN := Lib.hid (thread_no (no_thread_num HW.out HP2.out HN0.out HN1.out (.inr rfl)))
            go_wp2_with fail
            refine bodyPost_ret (v := .tuple #[.agg #[.int .i64 0, .int .i64 0, .bool false], .bool false]) (by simp [results, Tryd.results13, go_sem, r0, r1, r2, hlt4]) rfl ?_
            exact ⟨⟨0, 0, false, false, HN.out, rfl⟩, ((bel_set3 HB4.out (Nat.le_refl _)).alloc _).1⟩
          | true =>
            have HB5 := Lib.hid (HB4.out.alloc (.cells #[.int .i64 n0, .int .i64 n1, .bool true] 25))
            have HR5 := Lib.hid (HR4.out.alloc (.cells #[.int .i64 n0, .int .i64 n1, .bool true] 25))
            have HQ5 := Lib.hid (Obx.new w4 w4.heap.size 25 3 #[.int .i64 n0, .int .i64 n1, .bool true] (Nat.le_refl _) rfl)
            have HV := Lib.hid (fun W => l16Ok_any n0 n1 true W)
            obtain ⟨t, htx⟩ : ∃ t, threadB n0 n1 = t := ⟨_, rfl⟩
            rw [htx] at HV
            have HTX := Lib.hid htx
            clear htx
            go_wp2_with fail
            refine (HV.out _).mono ?_
            rintro e w6 ⟨rfl, hb6⟩
            have HB6 := Lib.hid (Bel.step HB5.out hb6)
            have HR6 := Lib.hid (HR5.out.below hb6)
            have HQ6 := Lib.hid (HQ5.out.below hb6)
            clear hb6 r0 r1 r2 f0 f1 f2 HB5 HR5 HQ5
            have r0 : w6.cell? ⟨w.heap.size, 0, none⟩ = some (.int .i64 0) := HR6.out.cell 0 (by omega)
            have r1 : w6.cell? ⟨w.heap.size, 1, none⟩ = some (.int .i64 0) := HR6.out.cell 1 (by omega)
            have r2 : w6.cell? ⟨w.heap.size, 2, none⟩ = some (.bool false) := HR6.out.cell 2 (by omega)
            have fr := HR6.out.fr
            have f0 := fr 0
            have f1 := fr 1
            have f2 := fr 2
            clear fr
            have m0 : w6.cell? ⟨w4.heap.size, 0, none⟩ = some (.int .i64 n0) := HQ6.out.cell 0 (by omega)
            have m1 : w6.cell? ⟨w4.heap.size, 1, none⟩ = some (.int .i64 n1) := HQ6.out.cell 1 (by omega)
            have m2 : w6.cell? ⟨w4.heap.size, 2, none⟩ = some (.bool true) := HQ6.out.cell 2 (by omega)
            cases t with
            | true =>
              have HN := Lib.hid (thread_yes (spec_thread_yes HW.out HP2.out HN0.out HN1.out HTX.out))
              go_wp2_with fail
              refine bodyPost_ret (v := .tuple #[.agg #[.int .i64 n0, .int .i64 n1, .bool true], .bool true]) (by simp [results, Tryd.results13, go_sem, r0, r1, r2]) rfl ?_
              exact ⟨⟨n0, n1, true, true, HN.out, rfl⟩, (bel_set3 HB6.out (Nat.le_refl _)).1⟩
            | false =>
              have HN := Lib.hid (thread_no (spec_thread_no HW.out HP2.out HN0.out HN1.out HTX.out))
              go_wp2_with fail
              refine bodyPost_ret (v := .tuple #[.agg #[.int .i64 0, .int .i64 0, .bool false], .bool false]) (by simp [results, Tryd.results13, go_sem, r0, r1, r2]) rfl ?_
              exact ⟨⟨0, 0, false, false, HN.out, rfl⟩, (bel_set3 HB6.out (Nat.le_refl _)).1⟩
      · have HN := Lib.hid (thread_no (no_thread_sizes HW.out h2))
        obtain ⟨n, hn⟩ : ∃ n, (partsC 120 p0).length = n := ⟨_, rfl⟩
        rw [hn] at h2 ⊢
        have h2' : ¬ (n : Int) = 2 := by omega
        clear h2 hn ho2
        have r0 : w2.cell? ⟨w.heap.size, 0, none⟩ = some (.int .i64 0) := HR2.out.cell 0 (by omega)
        have r1 : w2.cell? ⟨w.heap.size, 1, none⟩ = some (.int .i64 0) := HR2.out.cell 1 (by omega)
        have r2 : w2.cell? ⟨w.heap.size, 2, none⟩ = some (.bool false) := HR2.out.cell 2 (by omega)
        have fr := HR2.out.fr
        have f0 := fr 0
        have f1 := fr 1
        have f2 := fr 2
        clear fr
        go_wp2_with fail
        refine bodyPost_ret (v := .tuple #[.agg #[.int .i64 0, .int .i64 0, .bool false], .bool false]) (by simp [results, Tryd.results13, go_sem, r0, r1, r2]) rfl ?_
        exact ⟨⟨0, 0, false, false, HN.out, rfl⟩, (bel_set3 HB2.out (Nat.le_refl _)).1⟩
    · have HN := Lib.hid (thread_no (no_thread_word HP.out hw))
      have e1 := lit_no (l := [119, 97, 120, 101, 100]) rfl hw
      clear hw
      go_wp2_with fail
      refine bodyPost_ret (v := .tuple #[.agg #[.int .i64 0, .int .i64 0, .bool false], .bool false]) (by simp [results, Tryd.results13, go_sem, r0, r1, r2]) rfl ?_
      exact ⟨⟨0, 0, false, false, HN.out, rfl⟩, (bel_set3 HB1.out (Nat.le_refl _)).1⟩
  · have h1 : (partsC 32 s).length = 1 := by
      have := parts_len 32 s
      omega
    obtain ⟨p0, hp⟩ := one_of h1
    have ho := HO.out
    rw [hp] at ho
    have c0 := own_strs ho 0 p0 rfl
    have H0 := Lib.hid (show p0.size ≤ 1048576 from Nat.le_trans (part_size (c := 32) (s := s) (by rw [hp]; simp)) hs)
    rw [h1]
    have HO2 := Lib.hid ho
    have HP := Lib.hid hp
    clear h1 h2 ho hs hp hgt
    have HW := Lib.hid (show Words s p0 false from by unfold Words; rw [HP.out]; rfl)
    have HS2 := Lib.hid (fun W => l01Split_any p0 120 W H0.out)
    rw [show ((120 : UInt8).toNat : Int) = 120 from rfl] at HS2
    go_wp2_with fail
    refine (HS2.out _).mono ?_
    rintro e w2 ⟨g2, cap2, rfl, ho2, hb2⟩
    have HB2 := Lib.hid (Bel.step HB1.out hb2.1)
    have HR2 := Lib.hid (HR1.out.below hb2.1)
    clear hb2 r0 r1 r2 f0 f1 f2 HR1 HB1 HO HO2 c0
    by_cases h2 : (partsC 120 p0).length = 2
    · obtain ⟨q0, q1, hq⟩ := two_of h2
      rw [hq] at ho2
      have k0 := own_strs ho2 0 q0 rfl
      have k1 := own_strs ho2 1 q1 rfl
      have K0 := Lib.hid (show q0.size ≤ 1048576 from Nat.le_trans (part_size (c := 120) (s := p0) (by rw [hq]; simp)) H0.out)
      have K1 := Lib.hid (show q1.size ≤ 1048576 from Nat.le_trans (part_size (c := 120) (s := p0) (by rw [hq]; simp)) H0.out)
      rw [h2]
      have HO3 := Lib.hid ho2
      have HP2 := Lib.hid hq
      clear h2 ho2 hq
      obtain ⟨n0, b0, hn0⟩ := numRes_ex q0
      obtain ⟨n1, b1, hn1⟩ := numRes_ex q1
      have HD0 := Lib.hid (fun W => l01Number_any q0 W K0.out n0 b0 hn0)
      have HD1 := Lib.hid (fun W => l01Number_any q1 W K1.out n1 b1 hn1)
      have HN0 := Lib.hid hn0
      have HN1 := Lib.hid hn1
      clear hn0 hn1
      go_wp2_with fail
      refine (HD0.out w2).mono ?_
      rintro e w3 ⟨rfl, hb3⟩
      have HB3 := Lib.hid (Bel.step HB2.out hb3)
      have HR3 := Lib.hid (HR2.out.below hb3)
      have ho3 := own_below HO3.out hb3
      have k4 := own_strs ho3 1 q1 rfl
      clear hb3 ho3 k0 k1 HO3 HR2 HB2
      go_wp2_with fail
      refine (HD1.out w3).mono ?_
      rintro e w4 ⟨rfl, hb4⟩
      have HB4 := Lib.hid (Bel.step HB3.out hb4)
      have HR4 := Lib.hid (HR3.out.below hb4)
      clear hb4 k4 HR3 HB3
      have r0 : w4.cell? ⟨w.heap.size, 0, none⟩ = some (.int .i64 0) := HR4.out.cell 0 (by omega)
      have r1 : w4.cell? ⟨w.heap.size, 1, none⟩ = some (.int .i64 0) := HR4.out.cell 1 (by omega)
      have r2 : w4.cell? ⟨w.heap.size, 2, none⟩ = some (.bool false) := HR4.out.cell 2 (by omega)
      have fr := HR4.out.fr
      have f0 := fr 0
      have f1 := fr 1
      have f2 := fr 2
      clear fr
      have hlt4 : w.heap.size < w4.heap.size := HR4.out.lt.2
      cases b0 with
      | false =>
        have HN := Lib.hid (thread_no (no_thread_num HW.out HP2.out HN0.out HN1.out (.inl rfl)))
        go_wp2_with fail
        refine bodyPost_ret (v := .tuple #[.agg #[.int .i64 0, .int .i64 0, .bool false], .bool false]) (by simp [results, Tryd.results13, go_sem, r0, r1, r2, hlt4]) rfl ?_
        exact ⟨⟨0, 0, false, false, HN.out, rfl⟩, ((bel_set3 HB4.out (Nat.le_refl _)).alloc _).1⟩
      | true =>
        cases b1 with
        | false =>
          have HN := Lib.hid (thread_no (no_thread_num HW.out HP2.out HN0.out HN1.out (.inr rfl)))
          go_wp2_with fail
          refine bodyPost_ret (v := .tuple #[.agg #[.int .i64 0, .int .i64 0, .bool false], .bool false]) (by simp [results, Tryd.results13, go_sem, r0, r1, r2, hlt4]) rfl ?_
          exact ⟨⟨0, 0, false, false, HN.out, rfl⟩, ((bel_set3 HB4.out (Nat.le_refl _)).alloc _).1⟩
        | true =>
          have HB5 := Lib.hid (HB4.out.alloc (.cells #[.int .i64 n0, .int .i64 n1, .bool false] 25))
          have HR5 := Lib.hid (HR4.out.alloc (.cells #[.int .i64 n0, .int .i64 n1, .bool false] 25))
          have HQ5 := Lib.hid (Obx.new w4 w4.heap.size 25 3 #[.int .i64 n0, .int .i64 n1, .bool false] (Nat.le_refl _) rfl)
          have HV := Lib.hid (fun W => l16Ok_any n0 n1 false W)
          obtain ⟨t, htx⟩ : ∃ t, threadB n0 n1 = t := ⟨_, rfl⟩
          rw [htx] at HV
          have HTX := Lib.hid htx
          clear htx
          go_wp2_with fail
          refine (HV.out _).mono ?_
          rintro e w6 ⟨rfl, hb6⟩
          have HB6 := Lib.hid (Bel.step HB5.out hb6)
          have HR6 := Lib.hid (HR5.out.below hb6)
          have HQ6 := Lib.hid (HQ5.out.below hb6)
          clear hb6 r0 r1 r2 f0 f1 f2 HB5 HR5 HQ5
          have r0 : w6.cell? ⟨w.heap.size, 0, none⟩ = some (.int .i64 0) := HR6.out.cell 0 (by omega)
          have r1 : w6.cell? ⟨w.heap.size, 1, none⟩ = some (.int .i64 0) := HR6.out.cell 1 (by omega)
          have r2 : w6.cell? ⟨w.heap.size, 2, none⟩ = some (.bool false) := HR6.out.cell 2 (by omega)
          have fr := HR6.out.fr
          have f0 := fr 0
          have f1 := fr 1
          have f2 := fr 2
          clear fr
          have m0 : w6.cell? ⟨w4.heap.size, 0, none⟩ = some (.int .i64 n0) := HQ6.out.cell 0 (by omega)
          have m1 : w6.cell? ⟨w4.heap.size, 1, none⟩ = some (.int .i64 n1) := HQ6.out.cell 1 (by omega)
          have m2 : w6.cell? ⟨w4.heap.size, 2, none⟩ = some (.bool false) := HQ6.out.cell 2 (by omega)
          cases t with
          | true =>
            have HN := Lib.hid (thread_yes (spec_thread_yes HW.out HP2.out HN0.out HN1.out HTX.out))
            go_wp2_with fail
            refine bodyPost_ret (v := .tuple #[.agg #[.int .i64 n0, .int .i64 n1, .bool false], .bool true]) (by simp [results, Tryd.results13, go_sem, r0, r1, r2]) rfl ?_
            exact ⟨⟨n0, n1, false, true, HN.out, rfl⟩, (bel_set3 HB6.out (Nat.le_refl _)).1⟩
          | false =>
            have HN := Lib.hid (thread_no (spec_thread_no HW.out HP2.out HN0.out HN1.out HTX.out))
            go_wp2_with fail
            refine bodyPost_ret (v := .tuple #[.agg #[.int .i64 0, .int .i64 0, .bool false], .bool false]) (by simp [results, Tryd.results13, go_sem, r0, r1, r2]) rfl ?_
            exact ⟨⟨0, 0, false, false, HN.out, rfl⟩, (bel_set3 HB6.out (Nat.le_refl _)).1⟩
    · have HN := Lib.hid (thread_no (no_thread_sizes HW.out h2))
      obtain ⟨n, hn⟩ : ∃ n, (partsC 120 p0).length = n := ⟨_, rfl⟩
      rw [hn] at h2 ⊢
      have h2' : ¬ (n : Int) = 2 := by omega
      clear h2 hn ho2
      have r0 : w2.cell? ⟨w.heap.size, 0, none⟩ = some (.int .i64 0) := HR2.out.cell 0 (by omega)
      have r1 : w2.cell? ⟨w.heap.size, 1, none⟩ = some (.int .i64 0) := HR2.out.cell 1 (by omega)
      have r2 : w2.cell? ⟨w.heap.size, 2, none⟩ = some (.bool false) := HR2.out.cell 2 (by omega)
      have fr := HR2.out.fr
      have f0 := fr 0
      have f1 := fr 1
      have f2 := fr 2
      clear fr
      go_wp2_with fail
      refine bodyPost_ret (v := .tuple #[.agg #[.int .i64 0, .int .i64 0, .bool false], .bool false]) (by simp [results, Tryd.results13, go_sem, r0, r1, r2]) rfl ?_
      exact ⟨⟨0, 0, false, false, HN.out, rfl⟩, (bel_set3 HB2.out (Nat.le_refl _)).1⟩

theorem spec_ReadThread (s : ByteArray) (w : World) (hs : s.size ≤ 1048576) (x y : Int) (b ok : Bool) (hr : ThreadRes s x y b ok) :
    Calls Tryd.prog 13 #[.string s] w fun e w' => e = .returned (.tuple #[.agg #[.int .i64 x, .int .i64 y, .bool b], .bool ok]) ∧ Below w.heap.size w w' := by
  refine (spec_ReadThread_ex s w hs).mono ?_
  rintro e w' ⟨⟨x', y', b', ok', h', rfl⟩, hb⟩
  obtain ⟨rfl, rfl, rfl, rfl⟩ := hr.same h'
  exact ⟨rfl, hb⟩
end Go.Proofs.YtfkojbkgpbpjhaaDoor
