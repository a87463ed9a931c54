/-
  The contract of ReadThread of the program. Conditions: the listed tables are laid.
-/
import Derived.Test.YtfkojbkgpbpjhaaDoorReadU
import Derived.BigRegion
namespace Go.Proofs.YtfkojbkgpbpjhaaDoor
open Go.ChangeShapes Go.WideShapes Go.ChangeAt Go.RowKit Go.Deep Go.Shelf Go.Sort

theorem sizes_size (s : ByteArray) : (sizesOf s).size ≤ s.size := by
  rw [Lib.size_eq, Lib.size_eq s]
  unfold sizesOf Lib.trimSuffix
  split <;> simp
theorem cut_any (s : ByteArray) (w : World) (hs : s.size ≤ 1048576) :
    Calls Tryd.prog 58 #[.string s, .string ⟨#[32, 119, 97, 120, 101, 100]⟩] w fun e w' => e = .returned (.tuple #[.string (sizesOf s), .bool (Lib.hasSuffix s.data.toList [32, 119, 97, 120, 101, 100])]) ∧ w' = w :=
  Tryd.strings_CutSuffix s ⟨#[32, 119, 97, 120, 101, 100]⟩ w (by omega)

set_option maxRecDepth 100000 in
set_option maxHeartbeats 6400000 in
theorem impl_ReadThread_ex (s : ByteArray) (w : World) (hs : s.size ≤ 1048576) (ht : Tabs w) :
    Calls Tryd.prog 14 #[.string s] w fun e w' => ThreadPost s e ∧ Below w.heap.size w w' := by
  obtain ⟨z, hz⟩ : ∃ z, sizesOf s = z := ⟨_, rfl⟩
  obtain ⟨bw, hbw⟩ : ∃ bw, Lib.hasSuffix s.data.toList [32, 119, 97, 120, 101, 100] = bw := ⟨_, rfl⟩
  have HC := Lib.hid (fun W => cut_any s W hs)
  rw [hz, hbw] at HC
  have hzs : z.size ≤ 1048576 := by have := sizes_size s; rw [hz] at this; omega
  have HZ := Lib.hid hz
  have HBW := Lib.hid hbw
  have HT := Lib.hid (fun W (hb : Below w.heap.size w W) => ht.below hb)
  have HZS := Lib.hid hzs
  have HB0 := Lib.hid ((Bel.refl w).alloc (.cells #[.int .i64 0, .int .i64 0, .bool false] 25))
  have HR0 := Lib.hid (Obx.new w w.heap.size 25 3 #[.int .i64 0, .int .i64 0, .bool false] (Nat.le_refl _) rfl)
  clear ht hs hz hbw hzs
  go_enter Tryd.func14, Tryd.ntmps14
  go_wp2_with (go_at_call 58; refine (HC.out _).mono ?_; rintro e w1 ⟨rfl, rfl⟩)
  generalize w.alloc (.cells #[.int .i64 0, .int .i64 0, .bool false] 25) = w0 at HB0 HR0 ⊢
  by_cases h2 : (partsC 120 z).length = 2
  · obtain ⟨q0, q1, hq⟩ := two_of h2
    obtain ⟨n0, b0, h0⟩ := numRes_ex q0
    obtain ⟨n1, b1, h1⟩ := numRes_ex q1
    have HQ := Lib.hid (show partsC 120 (sizesOf s) = [q0, q1] by rw [HZ.out]; exact hq)
    have HN0 := Lib.hid h0
    have HN1 := Lib.hid h1
    refine (readNumbers_two z w0 HZS.out (HT.out _ HB0.out.1) q0 q1 hq n0 n1 b0 b1 h0 h1).mono ?_
    clear h2 hq h0 h1
    rintro e w2 ⟨hb2, hw⟩
    have HB2 := Lib.hid (Bel.step HB0.out hb2.1)
    have HR2 := Lib.hid (HR0.out.below hb2.1)
    clear hb2 HB0 HR0
    have r0 : w2.cell? ⟨w.heap.size, 0, none⟩ = some (.int .i64 0) := HR2.out.cell 0 (by omega)
    have r1 : w2.cell? ⟨w.heap.size, 1, none⟩ = some (.int .i64 0) := HR2.out.cell 1 (by omega)
    have r2 : w2.cell? ⟨w.heap.size, 2, none⟩ = some (.bool false) := HR2.out.cell 2 (by omega)
    have fr := HR2.out.fr
    have f0 := fr 0
    have f1 := fr 1
    have f2 := fr 2
    clear fr
    rcases hw with ⟨hbb, g, cap, rfl, ho⟩ | ⟨hbb, rfl⟩
    · obtain ⟨rfl, rfl⟩ : b0 = true ∧ b1 = true := by simpa using hbb
      have k0 : w2.cell? ⟨g, 0, none⟩ = some (.int .i64 n0) := ho.cellAt 0 (by omega)
      have k1 : w2.cell? ⟨g, 1, none⟩ = some (.int .i64 n1) := ho.cellAt 1 (by omega)
      have HV := Lib.hid (fun W (hb : Bel w.heap.size w W) => impl_ThreadText n0 n1 bw W (HT.out W hb.1).1)
      obtain ⟨t, htx⟩ : ∃ t, threadT n0 n1 bw = t := ⟨_, rfl⟩
      rw [htx] at HV
      have HTX := Lib.hid (show threadT n0 n1 (Lib.hasSuffix s.data.toList [32, 119, 97, 120, 101, 100]) = t by rw [HBW.out]; exact htx)
      have hg : g < w2.heap.size := Lib.lt_of_cell k0
      clear htx hbb ho
      go_upto_region 5 with fail
      go_big_region
      have HB5 := Lib.hid (show Bel w.heap.size w (w2.alloc (.cells #[.int .i64 n0, .int .i64 n1, .bool bw] 25)).drew from (HB2.out.alloc _).drew)
      have HR5 := Lib.hid (show Obx (w2.alloc (.cells #[.int .i64 n0, .int .i64 n1, .bool bw] 25)).drew w.heap.size w.heap.size 25 3 [.int .i64 0, .int .i64 0, .bool false] from HR2.out.alloc _)
      have HQ5 := Lib.hid (show Obx (w2.alloc (.cells #[.int .i64 n0, .int .i64 n1, .bool bw] 25)).drew w2.heap.size w2.heap.size 25 3 [.int .i64 n0, .int .i64 n1, .bool bw] from Obx.new w2 w2.heap.size 25 3 #[.int .i64 n0, .int .i64 n1, .bool bw] (Nat.le_refl _) rfl)
      generalize (w2.alloc (.cells #[.int .i64 n0, .int .i64 n1, .bool bw] 25)).drew = w5 at HB5 HR5 HQ5 ⊢
      have z0 : w5.cell? ⟨w2.heap.size, 0, none⟩ = some (.int .i64 n0) := HQ5.out.cell 0 (by omega)
      have z1 : w5.cell? ⟨w2.heap.size, 1, none⟩ = some (.int .i64 n1) := HQ5.out.cell 1 (by omega)
      have z2 : w5.cell? ⟨w2.heap.size, 2, none⟩ = some (.bool bw) := HQ5.out.cell 2 (by omega)
      clear k0 k1 hg r0 r1 r2 f0 f1 f2
      go_wp2_with fail
      refine (HV.out _ HB5.out).mono ?_
      rintro e w6 ⟨rfl, hb6⟩
      have HB6 := Lib.hid (Bel.step HB5.out hb6)
      have HR6 := Lib.hid (HR5.out.below hb6)
      have HQ6 := Lib.hid (HQ5.out.below hb6)
      clear hb6 z0 z1 z2 HB5 HR5 HQ5
      have r0 : w6.cell? ⟨w.heap.size, 0, none⟩ = some (.int .i64 0) := HR6.out.cell 0 (by omega)
      have r1 : w6.cell? ⟨w.heap.size, 1, none⟩ = some (.int .i64 0) := HR6.out.cell 1 (by omega)
      have r2 : w6.cell? ⟨w.heap.size, 2, none⟩ = some (.bool false) := HR6.out.cell 2 (by omega)
      have m0 : w6.cell? ⟨w2.heap.size, 0, none⟩ = some (.int .i64 n0) := HQ6.out.cell 0 (by omega)
      have m1 : w6.cell? ⟨w2.heap.size, 1, none⟩ = some (.int .i64 n1) := HQ6.out.cell 1 (by omega)
      have m2 : w6.cell? ⟨w2.heap.size, 2, none⟩ = some (.bool bw) := HQ6.out.cell 2 (by omega)
      have fr := HR6.out.fr
      have f0 := fr 0
      have f1 := fr 1
      have f2 := fr 2
      clear fr
      by_cases hd : t = s
      · have hy := impl_thread_yes HQ.out (HTX.out.trans hd)
        rw [HBW.out] at hy
        have HN := Lib.hid (thread_yes hy)
        have e1 : (t.toList == s.toList) = true := by rw [hd]; exact beq_self_eq_true _
        clear hd hy
        go_wp2_with fail
        refine bodyPost_ret (v := .tuple #[.agg #[.int .i64 n0, .int .i64 n1, .bool bw], .bool true]) (by simp [results, Tryd.results14, go_sem, r0, r1, r2]) rfl ?_
        exact ⟨⟨n0, n1, bw, true, HN.out, rfl⟩, (bel_set3 HB6.out (Nat.le_refl _)).1⟩
      · have HN := Lib.hid (thread_no (impl_thread_no HQ.out HN0.out HN1.out (fun e => hd (HTX.out.symm.trans e))))
        have e1 : (t.toList == s.toList) = false := toList_ne hd
        clear hd
        go_wp2_with fail
        refine bodyPost_ret (v := .tuple #[.agg #[.int .i64 0, .int .i64 0, .bool false], .bool false]) (by simp [results, Tryd.results14, go_sem, r0, r1, r2]) rfl ?_
        exact ⟨⟨0, 0, false, false, HN.out, rfl⟩, (bel_set3 HB6.out (Nat.le_refl _)).1⟩
    · have hb' : b0 = false ∨ b1 = false := by cases b0 <;> cases b1 <;> simp_all
      have HN := Lib.hid (thread_no (impl_thread_no_num HQ.out HN0.out HN1.out hb'))
      clear hbb hb'
      go_wp2_with fail
      refine bodyPost_ret (v := .tuple #[.agg #[.int .i64 0, .int .i64 0, .bool false], .bool false]) (by simp [results, Tryd.results14, go_sem, r0, r1, r2]) rfl ?_
      exact ⟨⟨0, 0, false, false, HN.out, rfl⟩, (bel_set3 HB2.out (Nat.le_refl _)).1⟩
  · have HN := Lib.hid (thread_no (impl_thread_no_len (s := s) (by rw [HZ.out]; exact h2)))
    refine (readNumbers_len z w0 HZS.out (HT.out _ HB0.out.1) h2).mono ?_
    rintro e w2 ⟨rfl, hb2⟩
    have HB2 := Lib.hid (Bel.step HB0.out hb2.1)
    have HR2 := Lib.hid (HR0.out.below hb2.1)
    clear hb2 h2 HB0 HR0
    have r0 : w2.cell? ⟨w.heap.size, 0, none⟩ = some (.int .i64 0) := HR2.out.cell 0 (by omega)
    have r1 : w2.cell? ⟨w.heap.size, 1, none⟩ = some (.int .i64 0) := HR2.out.cell 1 (by omega)
    have r2 : w2.cell? ⟨w.heap.size, 2, none⟩ = some (.bool false) := HR2.out.cell 2 (by omega)
    have fr := HR2.out.fr
    have f0 := fr 0
    have f1 := fr 1
    have f2 := fr 2
    clear fr
    go_wp2_with fail
    refine bodyPost_ret (v := .tuple #[.agg #[.int .i64 0, .int .i64 0, .bool false], .bool false]) (by simp [results, Tryd.results14, go_sem, r0, r1, r2]) rfl ?_
    exact ⟨⟨0, 0, false, false, HN.out, rfl⟩, (bel_set3 HB2.out (Nat.le_refl _)).1⟩

theorem impl_ReadThread (s : ByteArray) (w : World) (hs : s.size ≤ 1048576) (ht : Tabs w) (x y : Int) (b ok : Bool) (hr : ThreadRes s x y b ok) :
    Calls Tryd.prog 14 #[.string s] w fun e w' => e = .returned (.tuple #[.agg #[.int .i64 x, .int .i64 y, .bool b], .bool ok]) ∧ Below w.heap.size w w' := by
  refine (impl_ReadThread_ex s w hs ht).mono ?_
  rintro e w' ⟨⟨x', y', b', ok', h', rfl⟩, hb⟩
  obtain ⟨rfl, rfl, rfl, rfl⟩ := hr.same h'
  exact ⟨rfl, hb⟩
end Go.Proofs.YtfkojbkgpbpjhaaDoor
