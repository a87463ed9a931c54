/-
  The walk of the law FnThreads. Conditions: the listed tables are laid.
-/
import Derived.Test.YtfkojbkgpbpjhaaDoorThreadE
import Derived.Test.YtfkojbkgpbpjhaaDoorReadV
import Derived.Test.YtfkojbkgpbpjhaaDoorRow
namespace Go.Proofs.YtfkojbkgpbpjhaaDoor
open Go.ChangeShapes Go.WideShapes Go.ChangeAt Go.RowKit Go.Deep Go.Shelf Go.Sort

theorem code_at {w : World} {a : Option Addr} {n : Nat} {zs : List Int} (l : zs.length = n) (h : CellsAt w a (zs.map (Value.int .u8))) (hw : ∀ z ∈ zs, (Lit.int .u8 z).wf = true) (hn : n ≤ 1048576) : CodeAt w a n :=
  ⟨zs, h, l, fun z hz => by
    have h := hw z hz
    have e1 : IntKind.u8.min = 0 := by rfl
    have e2 : IntKind.u8.max = 255 := by rfl
    simp [Lit.wf, e1, e2] at h; omega, hn⟩
set_option maxHeartbeats 800000 in
theorem a2At_any (w : World) (nc cc : Nat) (ac : Option Addr) (i n : Int) (hc : CodeAt w ac nc) (hi : 0 ≤ i) (hn : 1 ≤ n) (hn2 : n ≤ 1000) : Calls Tryd.prog 19 #[.slice ac nc cc, .int .i64 i, .int .i64 n] w fun e w' => (∃ r : Int, e = .returned (.int .i64 r) ∧ 0 ≤ r ∧ r ≤ n - 1) ∧ w = w' := by
  obtain ⟨bs, h1, h2, h3, h4⟩ := hc
  have H2 := Lib.hid h2
  have H3 := Lib.hid h3
  by_cases hlt : i < (nc : Int)
  · obtain ⟨k, rfl⟩ : ∃ k : Nat, i = (k : Int) := ⟨i.toNat, by omega⟩
    obtain ⟨b, o, rfl, hb, hcc⟩ := h1.at_ (by simp; omega)
    obtain ⟨z, hz⟩ : ∃ z, bs[k]? = some z := ⟨bs[k], List.getElem?_eq_getElem (by omega)⟩
    have c3 : w.cell? ⟨b, o + k, none⟩ = some (.int .u8 z) := by rw [hcc k (by simp; omega), List.getElem?_map, hz]; rfl
    have hzb := h3 z (List.mem_of_getElem? hz)
    obtain ⟨z1, z2⟩ := hzb
    have n0 : n ≠ 0 := by omega
    have m1 := Int.emod_nonneg z n0
    have m2 := Int.emod_lt_of_pos z (show 0 < n by omega)
    have w1 : IntKind.i64.wrap z = z := IntWalk.i64_in _ (by omega)
    clear hcc hz h1 h2 h3
    go_enter Tryd.func19, Tryd.ntmps19
    go_wp2
    go_ret
    exact ⟨⟨_, rfl, m1, by omega⟩, rfl⟩
  · clear h1 h2 h3
    go_enter Tryd.func19, Tryd.ntmps19
    go_wp2
    go_ret
    exact ⟨⟨0, rfl, by omega, by omega⟩, rfl⟩
theorem strength_bd {b : Bool} {x y : Int} (h1 : 1 ≤ x) (h2 : x ≤ 12) (h3 : 1 ≤ y) (h4 : y ≤ 100) : x * y ≤ strengthI b x y ∧ strengthI b x y ≤ 2 * x * y := by
  obtain ⟨m1, m2⟩ := mul_bd h1 h2 h3 h4
  have e : 2 * x * y = 2 * (x * y) := Int.mul_assoc 2 x y
  rw [e]
  unfold strengthI
  split <;> omega
theorem threadT_size {x y : Int} {b : Bool} (h : threadB x y = true) : (threadT x y b).size ≤ 1048576 := by
  obtain ⟨⟨h1, h2⟩, h3, h4⟩ := threadB_true.1 h
  have z1 := dec_size x (by omega) (by omega)
  have z2 := dec_size y (by omega) (by omega)
  rw [threadT_of h]
  have e1 : (⟨#[120]⟩ : ByteArray).size = 1 := rfl
  have e2 : (⟨#[32, 119, 97, 120, 101, 100]⟩ : ByteArray).size = 6 := rfl
  unfold threadT0
  split <;> simp only [ByteArray.size_append, e1, e2] <;> omega

theorem thread_sums {l d t : Int} (h1 : 0 ≤ l) (h2 : l ≤ 3000) (h3 : 1 ≤ d) (h4 : d ≤ 80) (h5 : 1 ≤ t) (h6 : t ≤ 100) :
    0 ≤ l * d ∧ l * d ≤ 240000 ∧ (l * d ≤ 1000 * ((l * d + 999) / 1000) ∧ 1000 * ((l * d + 999) / 1000 - 1) < l * d ∧ 0 ≤ (l * d + 999) / 1000 ∧ (l * d + 999) / 1000 ≤ 240) ∧
      (0 ≤ ((l + 10) * d + 999) / 1000 ∧ ((l + 10) * d + 999) / 1000 ≤ 241) ∧ (0 ≤ t * ((l * d + 999) / 1000) ∧ t * ((l * d + 999) / 1000) ≤ 24000) ∧ t * ((l * d + 999) / 1000) ≤ t * (((l + 10) * d + 999) / 1000) ∧ t * (((l + 10) * d + 999) / 1000) ≤ 24100 := by
  have m1 : 0 ≤ l * d := Int.mul_nonneg h1 (by omega)
  have m2 : l * d ≤ 3000 * 80 := Int.mul_le_mul h2 h4 (by omega) (by omega)
  have m3 : (l + 10) * d = l * d + 10 * d := Int.add_mul l 10 d
  rw [m3]
  generalize l * d = m at m1 m2 ⊢
  have e1 : 0 ≤ (m + 999) / 1000 ∧ (m + 999) / 1000 ≤ 240 := by omega
  have e2 : 0 ≤ (m + 10 * d + 999) / 1000 ∧ (m + 10 * d + 999) / 1000 ≤ 241 := by omega
  have e3 : (m + 999) / 1000 ≤ (m + 10 * d + 999) / 1000 := by omega
  have e4 : m ≤ 1000 * ((m + 999) / 1000) ∧ 1000 * ((m + 999) / 1000 - 1) < m := by omega
  generalize (m + 999) / 1000 = a at e1 e3 e4 ⊢
  generalize (m + 10 * d + 999) / 1000 = b at e2 e3 ⊢
  refine ⟨m1, m2, ⟨e4.1, e4.2, e1.1, e1.2⟩, e2, ⟨Int.mul_nonneg (by omega) e1.1, ?_⟩, Int.mul_le_mul_of_nonneg_left e3 (by omega), ?_⟩
  · have : t * a ≤ 100 * 240 := Int.mul_le_mul h6 e1.2 e1.1 (by omega)
    omega
  · have : t * b ≤ 100 * 241 := Int.mul_le_mul h6 e2.2 e2.1 (by omega)
    omega

set_option maxRecDepth 100000 in
set_option maxHeartbeats 12800000 in
theorem fnThreads_walk (w : World) (a0 : Option Addr) (n0 c0 : Nat) (z0 : List Int) (l0 : z0.length = n0) (_ : n0 ≤ maxLen) (s0 : CellsAt w a0 (z0.map (Value.int .u8))) (w0 : ∀ z ∈ z0, (Lit.int .u8 z).wf = true)
    (a1 : Option Addr) (n1 c1 : Nat) (z1 : List Int) (l1 : z1.length = n1) (_ : n1 ≤ maxLen) (s1 : CellsAt w a1 (z1.map (Value.int .u8))) (w1 : ∀ z ∈ z1, (Lit.int .u8 z).wf = true) (ht : Tabs w) :
    Calls Tryd.prog 5 #[.slice a0 n0 c0, .slice a1 n1 c1] w fun e w' => e = .returned (.bool true) ∧ Below w.heap.size w w' := by
  by_cases g0 : n0 ≤ 3000
  · by_cases g1 : n1 ≤ 3000
    · have HC0 := Lib.hid (code_at l0 s0 w0 (by omega))
      have HC1 := Lib.hid (code_at l1 s1 w1 (by omega))
      have HT := Lib.hid ht
      clear l0 s0 w0 l1 s1 w1 ht
      go_enter Tryd.func5, Tryd.ntmps5
      go_wp2_with (go_at_call 16; go_in)
      refine (a2Thread_any w n0 c0 a0 HC0.out).mono ?_
      rintro e w1 ⟨x, y, b, rfl, ⟨x1, x2, y1, y2⟩, hb1⟩
      have HB1 := Lib.hid (hb1.alloc (.cells #[.int .i64 x, .int .i64 y, .bool b] 25))
      have HQ1 := Lib.hid (Obx.new w1 w.heap.size 25 3 #[.int .i64 x, .int .i64 y, .bool b] hb1.2 rfl)
      have HTB := Lib.hid (show threadB x y = true from threadB_true.2 ⟨⟨by omega, by omega⟩, by omega, by omega⟩)
      clear hb1
      go_wp2_with fail
      refine (strengthOf_ok b x y _ (by omega) (by omega) (by omega) (by omega)).mono ?_
      rintro e w2 ⟨rfl, hb2⟩
      have HB2 := Lib.hid (Bel.step HB1.out hb2)
      have HQ2 := Lib.hid (HQ1.out.below hb2)
      obtain ⟨s1, s2⟩ := strength_bd (b := b) (x := x) (y := y) (by omega) (by omega) (by omega) (by omega)
      obtain ⟨m1, m2⟩ := mul_bd (n := x) (e := y) (by omega) (by omega) (by omega) (by omega)
      generalize strengthI b x y = sv at s1 s2 ⊢
      generalize hqe : w1.heap.size = q5 at HQ2 ⊢
      have k0 : w2.cell? ⟨q5, 0, none⟩ = some (.int .i64 x) := HQ2.out.cell 0 (by omega)
      have k1 : w2.cell? ⟨q5, 1, none⟩ = some (.int .i64 y) := HQ2.out.cell 1 (by omega)
      have k2 : w2.cell? ⟨q5, 2, none⟩ = some (.bool b) := HQ2.out.cell 2 (by omega)
      clear hb2 HB1 HQ1 hqe
      go_wp2_with fail
      refine (impl_ThreadText x y b w2 (HT.out.below HB2.out.1).1).mono ?_
      rintro e w3 ⟨rfl, hb3⟩
      have HB3 := Lib.hid (Bel.step HB2.out hb3)
      have HQ3 := Lib.hid (HQ2.out.below hb3)
      clear hb3 HB2 HQ2 k0 k1 k2
      go_wp2_with fail
      refine (impl_ReadThread _ w3 (threadT_size HTB.out) (HT.out.below HB3.out.1) x y b true (threadRes_text HTB.out)).mono ?_
      rintro e w4 ⟨rfl, hb4⟩
      have HB4 := Lib.hid ((Bel.step HB3.out hb4).alloc (.cells #[.int .i64 x, .int .i64 y, .bool b] 25))
      have hq4 := HQ3.out.below hb4
      have HQ4 := Lib.hid (hq4.alloc (.cells #[.int .i64 x, .int .i64 y, .bool b] 25))
      have k0 : w4.cell? ⟨q5, 0, none⟩ = some (.int .i64 x) := hq4.cell 0 (by omega)
      have k1 : w4.cell? ⟨q5, 1, none⟩ = some (.int .i64 y) := hq4.cell 1 (by omega)
      have k2 : w4.cell? ⟨q5, 2, none⟩ = some (.bool b) := hq4.cell 2 (by omega)
      have hlt : q5 < w4.heap.size := hq4.lt.2
      have m3 : 2 * x * y = 2 * (x * y) := Int.mul_assoc 2 x y
      have u1 : ¬ sv < x * y := by omega
      have u2 : ¬ 2 * x * y < sv := by omega
      have m4 : 0 ≤ 2 * x * y := by omega
      have m5 : 2 * x * y ≤ 2400 := by omega
      clear hb4 HB3 HQ3 hq4 m3
      go_wp2_with fail
      clear k0 k1 k2 u1 u2 m4 m5 s1 s2 m1 m2 hlt
      generalize hW5 : w4.alloc _ = W5
      have HB5 := Lib.hid (show Bel w.heap.size w W5 by rw [← hW5]; exact HB4.out)
      have HQ5 := Lib.hid (show Obx W5 w.heap.size q5 25 3 [.int .i64 x, .int .i64 y, .bool b] by rw [← hW5]; exact HQ4.out)
      have k1 : W5.cell? ⟨q5, 1, none⟩ = some (.int .i64 y) := HQ5.out.cell 1 (by omega)
      have k2 : W5.cell? ⟨q5, 2, none⟩ = some (.bool b) := HQ5.out.cell 2 (by omega)
      clear hW5 HB4 HQ4
      refine (a2At_any W5 n1 c1 a1 0 256 (HC1.out.below HB5.out.1) (by omega) (by omega) (by omega)).mono ?_
      rintro e w6 ⟨⟨r0, rfl, r0a, r0b⟩, rfl⟩
      go_wp2_with fail
      refine (impl_plies b y (2 * r0) W5).mono ?_
      rintro e w6 ⟨r, c, rfl, hR, hb6⟩
      have HB6 := Lib.hid (Bel.step HB5.out hb6)
      have HQ6 := Lib.hid (HQ5.out.below hb6)
      have k1 : w6.cell? ⟨q5, 1, none⟩ = some (.int .i64 y) := HQ6.out.cell 1 (by omega)
      have k2 : w6.cell? ⟨q5, 2, none⟩ = some (.bool b) := HQ6.out.cell 2 (by omega)
      have hlt : q5 < w6.heap.size := HQ6.out.lt.2
      have hin : (inB y 1 100 && inB (2 * r0) 0 10000) = true := by rw [inB_true.2 ⟨by omega, by omega⟩, inB_true.2 ⟨by omega, by omega⟩]; rfl
      have HR := Lib.hid (show (c = 0 ∧ 1 ≤ r ∧ r ≤ 12 ∧ 2 * r0 ≤ strengthI b r y ∧ ∀ j, 1 ≤ j → j < r → strengthI b j y < 2 * r0) ∨ (c = 10 ∧ r = 0 ∧ ∀ j, 1 ≤ j → j ≤ 12 → strengthI b j y < 2 * r0) by
        rcases hR with ⟨h, _⟩ | ⟨_, h⟩
        · rw [hin] at h; cases h
        · exact h)
      clear hR hin hb6 HB5 HQ5
      rcases HR.out with ⟨rfl, c1, c2, c3, c4⟩ | ⟨rfl, rfl, c4⟩
      · have HL := Lib.hid c4
        clear c4 HR
        go_wp2_with fail
        refine (strengthOf_ok b r y _ (by omega) (by omega) (by omega) (by omega)).mono ?_
        rintro e w7 ⟨rfl, hb7⟩
        have HB7 := Lib.hid (Bel.step HB6.out hb7)
        have HQ7 := Lib.hid (HQ6.out.below hb7)
        have k1 : w7.cell? ⟨q5, 1, none⟩ = some (.int .i64 y) := HQ7.out.cell 1 (by omega)
        have k2 : w7.cell? ⟨q5, 2, none⟩ = some (.bool b) := HQ7.out.cell 2 (by omega)
        have hlt : q5 < w7.heap.size := HQ7.out.lt.2
        obtain ⟨s1, s2⟩ := strength_bd (b := b) (x := r) (y := y) (by omega) (by omega) (by omega) (by omega)
        obtain ⟨m1, m2⟩ := mul_bd (n := r) (e := y) (by omega) (by omega) (by omega) (by omega)
        have m3 : 2 * r * y = 2 * (r * y) := Int.mul_assoc 2 r y
        generalize strengthI b r y = sa at c3 s1 s2 ⊢
        have c5 : ¬ sa < 2 * r0 := by omega
        have s3 : sa ≤ 3000 := by omega
        clear s1 s2 m1 m2 m3 hb7 HB6 HQ6
        by_cases h1 : r = 1
        · subst h1
          clear HL
          go_wp2_with fail
          have HBZ := Lib.hid HB7.out
          clear HB7
          refine (a2At_any _ n1 _ a1 1 256 (HC1.out.below HBZ.out.1) (by omega) (by omega) (by omega)).mono ?_
          rintro e wy ⟨⟨r1, rfl, r1a, r1b⟩, rfl⟩
          go_wp2_with fail
          refine (a2At_any _ n1 _ a1 2 60 (HC1.out.below HBZ.out.1) (by omega) (by omega) (by omega)).mono ?_
          rintro e wy ⟨⟨r2, rfl, r2a, r2b⟩, rfl⟩
          go_wp2_with fail
          refine (a2At_any _ n1 _ a1 3 90 (HC1.out.below HBZ.out.1) (by omega) (by omega) (by omega)).mono ?_
          rintro e wy ⟨⟨r3, rfl, r3a, r3b⟩, rfl⟩
          go_wp2_with fail
          refine (stitchesOn_ok (10 * r1) (10 + r2) _ (by omega) (by omega) (by omega) (by omega)).mono ?_
          rintro e wa ⟨rfl, hba⟩
          have HBA := Lib.hid (Bel.step HBZ.out hba)
          clear hba
          go_wp2_with fail
          refine (threadFor_ok (10 * r1) (10 + r2) (1 + r3) _ (by omega) (by omega) (by omega) (by omega) (by omega) (by omega)).mono ?_
          rintro e wb ⟨rfl, hbb⟩
          have HBB := Lib.hid (Bel.step HBA.out hbb)
          clear hbb
          go_wp2_with fail
          refine (threadFor_ok (10 * r1 + 10) (10 + r2) (1 + r3) _ (by omega) (by omega) (by omega) (by omega) (by omega) (by omega)).mono ?_
          rintro e wc ⟨rfl, hbc⟩
          have HBC := Lib.hid (Bel.step HBB.out hbc)
          clear hbc
          obtain ⟨t1, t2, ⟨t3, t4, t5, t6⟩, ⟨t7, t8⟩, ⟨t9, t10⟩, t11, t12⟩ := thread_sums (l := 10 * r1) (d := 10 + r2) (t := 1 + r3) (by omega) (by omega) (by omega) (by omega) (by omega) (by omega)
          generalize ((10 * r1 + 10) * (10 + r2) + 999) / 1000 = s2 at t1 t2 t3 t4 t5 t6 t7 t8 t9 t10 t11 t12 ⊢
          generalize (10 * r1 * (10 + r2) + 999) / 1000 = s1 at t1 t2 t3 t4 t5 t6 t7 t8 t9 t10 t11 t12 ⊢
          generalize hm : 10 * r1 * (10 + r2) = m at t1 t2 t3 t4 t5 t6 t7 t8 t9 t10 t11 t12 ⊢
          generalize hts : (1 + r3) * s1 = ts at t1 t2 t3 t4 t5 t6 t7 t8 t9 t10 t11 t12 ⊢
          generalize hts2 : (1 + r3) * s2 = ts2 at t1 t2 t3 t4 t5 t6 t7 t8 t9 t10 t11 t12 ⊢
          go_wp2_with fail
          go_ret
          refine ⟨?_, HBC.out.1⟩
          simp
          omega
        · have HL2 := Lib.hid (HL.out (r - 1) (by omega) (by omega))
          clear HL
          go_wp2_with fail
          refine (strengthOf_ok b (r - 1) y _ (by omega) (by omega) (by omega) (by omega)).mono ?_
          rintro e w8 ⟨rfl, hb8⟩
          have HB8 := Lib.hid (Bel.step HB7.out hb8)
          obtain ⟨s1, s2⟩ := strength_bd (b := b) (x := r - 1) (y := y) (by omega) (by omega) (by omega) (by omega)
          obtain ⟨m1, m2⟩ := mul_bd (n := r - 1) (e := y) (by omega) (by omega) (by omega) (by omega)
          have m3 : 2 * (r - 1) * y = 2 * ((r - 1) * y) := Int.mul_assoc 2 (r - 1) y
          have c6 := HL2.out
          generalize strengthI b (r - 1) y = sb at c6 s1 s2 ⊢
          have c7 : ¬ 2 * r0 ≤ sb := by omega
          have s4 : 0 ≤ sb ∧ sb ≤ 3000 := by omega
          obtain ⟨s4, s5⟩ := s4
          clear s1 s2 m1 m2 m3 hb8 HB7 HQ7 HL2
          go_wp2_with fail
          have HBZ := Lib.hid HB8.out
          clear HB8
          refine (a2At_any _ n1 _ a1 1 256 (HC1.out.below HBZ.out.1) (by omega) (by omega) (by omega)).mono ?_
          rintro e wy ⟨⟨r1, rfl, r1a, r1b⟩, rfl⟩
          go_wp2_with fail
          refine (a2At_any _ n1 _ a1 2 60 (HC1.out.below HBZ.out.1) (by omega) (by omega) (by omega)).mono ?_
          rintro e wy ⟨⟨r2, rfl, r2a, r2b⟩, rfl⟩
          go_wp2_with fail
          refine (a2At_any _ n1 _ a1 3 90 (HC1.out.below HBZ.out.1) (by omega) (by omega) (by omega)).mono ?_
          rintro e wy ⟨⟨r3, rfl, r3a, r3b⟩, rfl⟩
          go_wp2_with fail
          refine (stitchesOn_ok (10 * r1) (10 + r2) _ (by omega) (by omega) (by omega) (by omega)).mono ?_
          rintro e wa ⟨rfl, hba⟩
          have HBA := Lib.hid (Bel.step HBZ.out hba)
          clear hba
          go_wp2_with fail
          refine (threadFor_ok (10 * r1) (10 + r2) (1 + r3) _ (by omega) (by omega) (by omega) (by omega) (by omega) (by omega)).mono ?_
          rintro e wb ⟨rfl, hbb⟩
          have HBB := Lib.hid (Bel.step HBA.out hbb)
          clear hbb
          go_wp2_with fail
          refine (threadFor_ok (10 * r1 + 10) (10 + r2) (1 + r3) _ (by omega) (by omega) (by omega) (by omega) (by omega) (by omega)).mono ?_
          rintro e wc ⟨rfl, hbc⟩
          have HBC := Lib.hid (Bel.step HBB.out hbc)
          clear hbc
          obtain ⟨t1, t2, ⟨t3, t4, t5, t6⟩, ⟨t7, t8⟩, ⟨t9, t10⟩, t11, t12⟩ := thread_sums (l := 10 * r1) (d := 10 + r2) (t := 1 + r3) (by omega) (by omega) (by omega) (by omega) (by omega) (by omega)
          generalize ((10 * r1 + 10) * (10 + r2) + 999) / 1000 = s2 at t1 t2 t3 t4 t5 t6 t7 t8 t9 t10 t11 t12 ⊢
          generalize (10 * r1 * (10 + r2) + 999) / 1000 = s1 at t1 t2 t3 t4 t5 t6 t7 t8 t9 t10 t11 t12 ⊢
          generalize hm : 10 * r1 * (10 + r2) = m at t1 t2 t3 t4 t5 t6 t7 t8 t9 t10 t11 t12 ⊢
          generalize hts : (1 + r3) * s1 = ts at t1 t2 t3 t4 t5 t6 t7 t8 t9 t10 t11 t12 ⊢
          generalize hts2 : (1 + r3) * s2 = ts2 at t1 t2 t3 t4 t5 t6 t7 t8 t9 t10 t11 t12 ⊢
          go_wp2_with fail
          go_ret
          refine ⟨?_, HBC.out.1⟩
          simp
          omega
      · have c5 := c4 12 (by omega) (by omega)
        clear c4 HR
        go_wp2_with fail
        refine (strengthOf_ok b 12 y _ (by omega) (by omega) (by omega) (by omega)).mono ?_
        rintro e w7 ⟨rfl, hb7⟩
        have HB7 := Lib.hid (Bel.step HB6.out hb7)
        obtain ⟨s1, s2⟩ := strength_bd (b := b) (x := 12) (y := y) (by omega) (by omega) (by omega) (by omega)
        obtain ⟨m1, m2⟩ := mul_bd (n := 12) (e := y) (by omega) (by omega) (by omega) (by omega)
        generalize strengthI b 12 y = sa at c5 s1 s2 ⊢
        have c6 : ¬ 2 * r0 ≤ sa := by omega
        have s3 : 0 ≤ sa ∧ sa ≤ 3000 := by omega
        obtain ⟨s3, s4⟩ := s3
        clear s1 s2 m1 m2 hb7 HB6 HQ6
        go_wp2_with fail
        have HBZ := Lib.hid HB7.out
        clear HB7
        refine (a2At_any _ n1 _ a1 1 256 (HC1.out.below HBZ.out.1) (by omega) (by omega) (by omega)).mono ?_
        rintro e wy ⟨⟨r1, rfl, r1a, r1b⟩, rfl⟩
        go_wp2_with fail
        refine (a2At_any _ n1 _ a1 2 60 (HC1.out.below HBZ.out.1) (by omega) (by omega) (by omega)).mono ?_
        rintro e wy ⟨⟨r2, rfl, r2a, r2b⟩, rfl⟩
        go_wp2_with fail
        refine (a2At_any _ n1 _ a1 3 90 (HC1.out.below HBZ.out.1) (by omega) (by omega) (by omega)).mono ?_
        rintro e wy ⟨⟨r3, rfl, r3a, r3b⟩, rfl⟩
        go_wp2_with fail
        refine (stitchesOn_ok (10 * r1) (10 + r2) _ (by omega) (by omega) (by omega) (by omega)).mono ?_
        rintro e wa ⟨rfl, hba⟩
        have HBA := Lib.hid (Bel.step HBZ.out hba)
        clear hba
        go_wp2_with fail
        refine (threadFor_ok (10 * r1) (10 + r2) (1 + r3) _ (by omega) (by omega) (by omega) (by omega) (by omega) (by omega)).mono ?_
        rintro e wb ⟨rfl, hbb⟩
        have HBB := Lib.hid (Bel.step HBA.out hbb)
        clear hbb
        go_wp2_with fail
        refine (threadFor_ok (10 * r1 + 10) (10 + r2) (1 + r3) _ (by omega) (by omega) (by omega) (by omega) (by omega) (by omega)).mono ?_
        rintro e wc ⟨rfl, hbc⟩
        have HBC := Lib.hid (Bel.step HBB.out hbc)
        clear hbc
        obtain ⟨t1, t2, ⟨t3, t4, t5, t6⟩, ⟨t7, t8⟩, ⟨t9, t10⟩, t11, t12⟩ := thread_sums (l := 10 * r1) (d := 10 + r2) (t := 1 + r3) (by omega) (by omega) (by omega) (by omega) (by omega) (by omega)
        generalize ((10 * r1 + 10) * (10 + r2) + 999) / 1000 = s2 at t1 t2 t3 t4 t5 t6 t7 t8 t9 t10 t11 t12 ⊢
        generalize (10 * r1 * (10 + r2) + 999) / 1000 = s1 at t1 t2 t3 t4 t5 t6 t7 t8 t9 t10 t11 t12 ⊢
        generalize hm : 10 * r1 * (10 + r2) = m at t1 t2 t3 t4 t5 t6 t7 t8 t9 t10 t11 t12 ⊢
        generalize hts : (1 + r3) * s1 = ts at t1 t2 t3 t4 t5 t6 t7 t8 t9 t10 t11 t12 ⊢
        generalize hts2 : (1 + r3) * s2 = ts2 at t1 t2 t3 t4 t5 t6 t7 t8 t9 t10 t11 t12 ⊢
        go_wp2_with fail
        go_ret
        refine ⟨?_, HBC.out.1⟩
        simp
        omega
    · clear s0 w0 s1 w1
      go_enter Tryd.func5, Tryd.ntmps5
      go_wp2_with go_in
      go_ret
      exact ⟨rfl, Below.refl _ _⟩
  · clear s0 w0 s1 w1
    go_enter Tryd.func5, Tryd.ntmps5
    go_wp2_with go_in
    go_ret
    exact ⟨rfl, Below.refl _ _⟩
end Go.Proofs.YtfkojbkgpbpjhaaDoor
