/-
  The law FnPresses returns true for all arguments. No condition.
-/
import Derived.Test.YtcajpedhfljhdaaPressP
import Derived.Test.YtcajpedhfljhdaaPressDraw3
import Derived.Test.YtcajpedhfljhdaaPlanS
import Derived.Test.YtcajpedhfljhdaaSameJoin
import Derived.Test.YtcajpedhfljhdaaRow
import Derived.StillTailTactics
import Derived.Deep.DeepCutAuto
import Derived.Test.YtcajpedhfljhdaaRows
import Derived.Test.YtcajpedhfljhdaaBase
import Derived.Outline
namespace Go.Proofs.Ytcajpedhfljhdaa
open Go.ChangeShapes Go.WideShapes Go.ChangeAt Go.RowKit Go.Deep
open Go.ChangeMaps (open_string shut_string)
open Go.Joins


open Go.Shelf
theorem code_at {w : World} {a : Option Addr} {n : Nat} {zs : List Int} (l : zs.length = n) (h : CellsAt w a (zs.map (Value.int .u8))) (hw : ∀ z ∈ zs, (Lit.int .u8 z).wf = true) (hn : n ≤ 1048576) : CodeAt w a n :=
  ⟨zs, h, l, fun z hz => by
    have h := hw z hz
    have e1 : IntKind.u8.min = 0 := by rfl
    have e2 : IntKind.u8.max = 255 := by rfl
    simp [Lit.wf, e1, e2] at h; omega, hn⟩
theorem specValidJ_any (a : Option Addr) (n c : Nat) (zs : List Int) (w : World) (hz : zs.length = n * 4) (hn : n ≤ 1073741824) (ha : CellsAt w a (zs.map (Value.int .i64))) :
    Calls Try.prog 30 #[.slice a n c] w fun e w' => e = .returned (.bool (joinsB zs n)) ∧ Below w.heap.size w w' := by
  have H := Lib.hid (specJoinsOk a n c zs w hz hn ha)
  generalize joinsB zs n = r at H ⊢
  clear hz ha
  go_enter Try.func30, Try.ntmps30
  go_wp2_with fail
  refine H.out.mono ?_
  rintro e w1 ⟨rfl, hb1⟩
  have HB := Lib.hid hb1
  clear hb1
  go_wp2_with fail
  go_ret
  exact ⟨rfl, HB.out⟩
set_option maxHeartbeats 1600000 in
/-- Two equal lists of numbers are told equal. -/
theorem f6ints_any (a b : Option Addr) (n c d : Nat) (zs : List Int) (w : World) (hz : zs.length = n) (hn : n ≤ 1073741824) (ha : CellsAt w a (zs.map (Value.int .i64))) (hb : CellsAt w b (zs.map (Value.int .i64))) :
    Calls Try.prog 52 #[.slice a n c, .slice b n d] w fun e w' => e = .returned (.bool true) ∧ Below w.heap.size w w' := by
  have HA := Lib.hid ha
  have HB := Lib.hid hb
  have Hz := Lib.hid hz
  clear ha hb hz
  go_enter Try.func52, Try.ntmps52
  go_wp2_with fail
  go_loopw [5] (fun i wr => ∃ k : Nat, k ≤ n ∧ i = .int .i64 k ∧ Hid (Below w.heap.size w wr)) (fun i _ => n - (intOf i).toNat)
  case atStart => exact ⟨0, Nat.zero_le _, rfl, Lib.hid (Below.refl _ _)⟩
  case round =>
    obtain ⟨k, hk, rfl, hbw⟩ := hrel
    by_cases hlt : k < n
    · obtain ⟨b1, o1, rfl, hb1, hc1⟩ := HA.out.at_ (by have := Hz.out; simp; omega)
      obtain ⟨b2, o2, rfl, hb2, hc2⟩ := HB.out.at_ (by have := Hz.out; simp; omega)
      obtain ⟨x, hx⟩ : ∃ x, zs.getD k 0 = x := ⟨_, rfl⟩
      have k1 := cell_int hb1 hbw.out hc1 (by rw [Hz.out]; exact hlt) hx
      have k2 := cell_int hb2 hbw.out hc2 (by rw [Hz.out]; exact hlt) hx
      have hlt' : (k : Int) < (n : Int) := by omega
      clear hc1 hc2 hx
      go_wp2_with fail
      go_big_quiet (fail)
      go_wp2_with fail
      go_roundw
      case rel => exact ⟨k + 1, by omega, by go_num, Lib.hid (below_drewN hbw.out _)⟩
      case measure => simp [intOf]; omega
    · obtain rfl : k = n := by omega
      go_wp2_with fail
      go_ret
      exact ⟨rfl, hbw.out⟩
def noneTo (zs : List Int) (x : Int) (k : Nat) : Prop := ∀ j, j < k → zs.getD j 0 ≠ x
theorem none_all {zs : List Int} {x : Int} {k : Nat} (hk : zs.length ≤ k) (h : noneTo zs x k) : decide (x ∈ zs) = false := by
  simp only [decide_eq_false_iff_not]
  intro hx
  obtain ⟨j, hj, e⟩ := List.getElem_of_mem hx
  exact h j (by omega) (by simp [List.getElem?_eq_getElem hj, e])
set_option maxHeartbeats 1600000 in
theorem f6has_any (a : Option Addr) (n c : Nat) (zs : List Int) (x : Int) (w : World) (hz : zs.length = n) (hn : n ≤ 1073741824) (ha : CellsAt w a (zs.map (Value.int .i64))) :
    Calls Try.prog 53 #[.slice a n c, .int .i64 x] w fun e w' => e = .returned (.bool (decide (x ∈ zs))) ∧ w = w' := by
  obtain ⟨r, hr⟩ : ∃ r, decide (x ∈ zs) = r := ⟨_, rfl⟩
  rw [hr]
  have HR := Lib.hid hr
  have Hz := Lib.hid hz
  have HA := Lib.hid ha
  clear hr hz ha
  go_enter Try.func53, Try.ntmps53
  go_wp2
  go_loop [5] (fun i => ∃ k : Nat, k ≤ n ∧ i = .int .i64 k ∧ Hid (noneTo zs x k)) (fun i => n - (intOf i).toNat)
  case atStart => exact ⟨0, Nat.zero_le _, rfl, Lib.hid (fun j hj => by omega)⟩
  case round =>
    obtain ⟨k, hk, rfl, hno⟩ := hrel
    by_cases hlt : k < n
    · obtain ⟨b, o, rfl, hb, hcc⟩ := HA.out.at_ (by have := Hz.out; simp; omega)
      obtain ⟨y, hy⟩ : ∃ y, zs.getD k 0 = y := ⟨_, rfl⟩
      have k1 := cell_int hb (Below.refl _ _) hcc (by rw [Hz.out]; exact hlt) hy
      have HY := Lib.hid hy
      clear hcc hy
      by_cases hxy : y = x
      · subst hxy
        obtain rfl : r = true := by
          rw [← HR.out, ← HY.out]
          simp [List.getElem?_eq_getElem (show k < zs.length by rw [Hz.out]; exact hlt)]
        have gg : (y == y) = true := by simp
        go_wp2
        go_ret
        exact ⟨rfl, rfl⟩
      · have gg : (y == x) = false := by simpa using hxy
        have HN := Lib.hid (show noneTo zs x (k + 1) from fun j hj => by
          by_cases e : j = k
          · subst e; rw [HY.out]; exact hxy
          · exact hno.out j (by omega))
        clear hxy
        go_wp2
        go_round
        case rel => exact ⟨k + 1, by omega, by go_num, HN⟩
        case measure => simp [intOf]; omega
    · obtain rfl : r = false := by rw [← HR.out]; exact none_all (by rw [Hz.out]; omega) hno.out
      go_wp2
      go_ret
      exact ⟨rfl, rfl⟩
set_option maxRecDepth 100000 in
set_option maxHeartbeats 12800000 in
theorem FnPresses_walk (w : World) (a0 : Option Addr) (n0 c0 : Nat) (z0 : List Int) (l0 : z0.length = n0) (_ : n0 ≤ maxLen) (s0 : CellsAt w a0 (z0.map (Value.int .u8))) (w0 : ∀ z ∈ z0, (Lit.int .u8 z).wf = true) :
    Calls Try.prog 13 #[.slice a0 n0 c0] w (LawEnd w) := by
  by_cases g0 : n0 ≤ 4096
  · have HC0 := Lib.hid (code_at l0 s0 w0 (by omega))
    clear l0 s0 w0
    go_enter Try.func13, Try.ntmps13
    go_wp2_with (go_at_call 47; go_in)
    refine (drawPressPlan_any w n0 c0 a0 HC0.out).mono ?_
    rintro e w1 ⟨d, o, y, aX, n, cX, xs, aY, m, cY, ys, pr, rfl, hwf, hxl, hn, hxw, hxc, hyl, hm, hyw, hyc, hpr, hb1⟩
    obtain ⟨q, hq⟩ : ∃ q, w1.heap.size = q := ⟨_, rfl⟩
    obtain ⟨w2, hw2⟩ : ∃ W, w1.alloc (.cells #[.int .i64 d, .int .i64 o, .int .i64 y] 25) = W := ⟨_, rfl⟩
    have hb2 : Below w1.heap.size w1 w2 := by rw [← hw2]; exact (Below.refl _ _).alloc (Nat.le_refl _) _
    have HG := Lib.hid hwf
    have HXL := Lib.hid (And.intro hxl (And.intro hn hxw))
    have HYL := Lib.hid (And.intro hyl (And.intro hm hyw))
    have HPr := Lib.hid hpr
    have HX2 := Lib.hid (hxc.below hb2)
    have HY2 := Lib.hid (hyc.below hb2)
    have HB2 := Lib.hid (hb1.step hb2)
    have HC2 := Lib.hid ((HC0.out.below hb1.1).below hb2)
    have HQ2 := Lib.hid (show Obx w2 w.heap.size q 25 3 [.int .i64 d, .int .i64 o, .int .i64 y] by rw [← hw2, ← hq]; exact Obx.new w1 w.heap.size 25 3 #[.int .i64 d, .int .i64 o, .int .i64 y] hb1.2 rfl)
    have HW2 := Lib.hid hw2
    have hn' : n ≤ 21 := hn
    have hm' : m ≤ 21 := hm
    clear hwf hxl hn hxw hxc hyl hm hyw hyc hpr hb1 hb2 hw2
    obtain ⟨⟨i0, i1, i2⟩, _⟩ := HQ2.out.three
    have hql := HQ2.out.lt.2
    go_wp2_with fail
    rw [HW2.out]
    clear i0 i1 i2 hql hq
    refine (impl_PressPlan w2 d HG.out.1 o HG.out.2.1 y HG.out.2.2 aX n cX xs HXL.out.1 (by omega) HX2.out HXL.out.2.2 aY m cY ys HYL.out.1 (by omega) HY2.out HYL.out.2.2 pr HPr.out).mono ?_
    rintro e w3 ⟨aP, nP, cP, rfl, hlP, hnP, hoP, hb3⟩
    have HLP := Lib.hid hlP
    have HX3 := Lib.hid (HX2.out.below hb3)
    have HY3 := Lib.hid (HY2.out.below hb3)
    have HC3 := Lib.hid (HC2.out.below hb3)
    have HQ3 := Lib.hid (HQ2.out.below hb3)
    have HB3 := Lib.hid (HB2.out.step hb3)
    have HRP3 := Lib.hid (CellsAt.of_own hoP)
    clear hlP hoP hb3
    obtain ⟨⟨i0, i1, i2⟩, _⟩ := HQ3.out.three
    have hql := HQ3.out.lt.2
    go_wp2_with fail
    clear i0 i1 i2 hql
    refine (spec_PressPlan w3 d HG.out.1 o HG.out.2.1 y HG.out.2.2 aX n cX xs HXL.out.1 (by omega) HX3.out HXL.out.2.2 aY m cY ys HYL.out.1 (by omega) HY3.out HYL.out.2.2 pr HPr.out).mono ?_
    rintro e w4 ⟨aQ, nQ, cQ, rfl, hlQ, hnQ, hoQ, hb4⟩
    have HLQ := Lib.hid hlQ
    have HX4 := Lib.hid (HX3.out.below hb4)
    have HY4 := Lib.hid (HY3.out.below hb4)
    have HC4 := Lib.hid (HC3.out.below hb4)
    have HQ4 := Lib.hid (HQ3.out.below hb4)
    have HRP4 := Lib.hid (HRP3.out.below hb4)
    have HB4 := Lib.hid (HB3.out.step hb4)
    have HRQ4 := Lib.hid (CellsAt.of_own hoQ)
    clear hlQ hoQ hb4
    go_wp2_with fail
    refine (drawBadJoins_any w4 n0 c0 a0 HC4.out).mono ?_
    rintro e w5 ⟨d2, o2, y2, gJ, nJ, cJ, js, rfl, hwf, hjl, hjn, hjw, hjc, hb5⟩
    have HG2 := Lib.hid hwf
    have HJL := Lib.hid (And.intro hjl (And.intro hjn hjw))
    have hjn' : nJ ≤ 21 := hjn
    have HX5 := Lib.hid (HX4.out.below hb5.1)
    have HY5 := Lib.hid (HY4.out.below hb5.1)
    have HC5 := Lib.hid (HC4.out.below hb5.1)
    have HQ5 := Lib.hid (HQ4.out.below hb5.1)
    have HRP5 := Lib.hid (HRP4.out.below hb5.1)
    have HRQ5 := Lib.hid (HRQ4.out.below hb5.1)
    have HB5 := Lib.hid (HB4.out.step hb5.1)
    have HJ5 := Lib.hid (hjc)
    clear hwf hjl hjn hjw hjc hb5
    obtain ⟨q2, hq2⟩ : ∃ q, w5.heap.size = q := ⟨_, rfl⟩
    obtain ⟨w6, hw6⟩ : ∃ W, w5.alloc (.cells #[.int .i64 d2, .int .i64 o2, .int .i64 y2] 25) = W := ⟨_, rfl⟩
    have hb6 : Below w5.heap.size w5 w6 := by rw [← hw6]; exact (Below.refl _ _).alloc (Nat.le_refl _) _
    have HW6 := Lib.hid hw6
    have HX6 := Lib.hid (HX5.out.below hb6)
    have HY6 := Lib.hid (HY5.out.below hb6)
    have HC6 := Lib.hid (HC5.out.below hb6)
    have HQ6 := Lib.hid (HQ5.out.below hb6)
    have HRP6 := Lib.hid (HRP5.out.below hb6)
    have HRQ6 := Lib.hid (HRQ5.out.below hb6)
    have HJ6 := Lib.hid (HJ5.out.below hb6)
    have HB6 := Lib.hid (HB5.out.step hb6)
    have HS6 := Lib.hid (show Obx w6 w.heap.size q2 25 3 [.int .i64 d2, .int .i64 o2, .int .i64 y2] by rw [← hw6, ← hq2]; exact Obx.new w5 w.heap.size 25 3 #[.int .i64 d2, .int .i64 o2, .int .i64 y2] HB5.out.2 rfl)
    clear hw6 hb6
    obtain ⟨⟨i0, i1, i2⟩, _⟩ := HS6.out.three
    have hql := HS6.out.lt.2
    go_wp2_with fail
    rw [HW6.out]
    clear i0 i1 i2 hql hq2
    refine (impl_BadJoins w6 d2 HG2.out.1 o2 HG2.out.2.1 y2 HG2.out.2.2 (some ⟨gJ, 0, none⟩) nJ cJ js HJL.out.1 (by omega) HJ6.out HJL.out.2.2).mono ?_
    rintro e w7 ⟨aM, nM, cM, rfl, hlM, hnM, hoM, hb7⟩
    have HLM := Lib.hid hlM
    have HX7 := Lib.hid (HX6.out.below hb7)
    have HY7 := Lib.hid (HY6.out.below hb7)
    have HC7 := Lib.hid (HC6.out.below hb7)
    have HQ7 := Lib.hid (HQ6.out.below hb7)
    have HRP7 := Lib.hid (HRP6.out.below hb7)
    have HRQ7 := Lib.hid (HRQ6.out.below hb7)
    have HJ7 := Lib.hid (HJ6.out.below hb7)
    have HS7 := Lib.hid (HS6.out.below hb7)
    have HB7 := Lib.hid (HB6.out.step hb7)
    have HRM7 := Lib.hid (CellsAt.of_own hoM)
    clear hlM hoM hb7
    obtain ⟨⟨i0, i1, i2⟩, _⟩ := HS7.out.three
    have hql := HS7.out.lt.2
    go_wp2_with fail
    clear i0 i1 i2 hql
    refine (spec_BadJoins w7 d2 HG2.out.1 o2 HG2.out.2.1 y2 HG2.out.2.2 (some ⟨gJ, 0, none⟩) nJ cJ js HJL.out.1 (by omega) HJ7.out HJL.out.2.2).mono ?_
    rintro e w8 ⟨aN, nN, cN, rfl, hlN, hnN, hoN, hb8⟩
    have HLN := Lib.hid hlN
    have HX8 := Lib.hid (HX7.out.below hb8)
    have HY8 := Lib.hid (HY7.out.below hb8)
    have HC8 := Lib.hid (HC7.out.below hb8)
    have HQ8 := Lib.hid (HQ7.out.below hb8)
    have HRP8 := Lib.hid (HRP7.out.below hb8)
    have HRQ8 := Lib.hid (HRQ7.out.below hb8)
    have HJ8 := Lib.hid (HJ7.out.below hb8)
    have HS8 := Lib.hid (HS7.out.below hb8)
    have HRM8 := Lib.hid (HRM7.out.below hb8)
    have HB8 := Lib.hid (HB7.out.step hb8)
    have HRN8 := Lib.hid (CellsAt.of_own hoN)
    clear hlN hoN hb8
    go_wp2_with fail
    refine (drawPressesFor_any w8 n0 c0 a0 HC8.out).mono ?_
    rintro e w9 ⟨gK, nK, cK, ks, rfl, hjl, hjn, hjw, hjc, hb9⟩
    have HKL := Lib.hid (And.intro hjl (And.intro hjn hjw))
    have hkn' : nK ≤ 21 := hjn
    have HX9 := Lib.hid (HX8.out.below hb9.1)
    have HY9 := Lib.hid (HY8.out.below hb9.1)
    have HC9 := Lib.hid (HC8.out.below hb9.1)
    have HQ9 := Lib.hid (HQ8.out.below hb9.1)
    have HRP9 := Lib.hid (HRP8.out.below hb9.1)
    have HRQ9 := Lib.hid (HRQ8.out.below hb9.1)
    have HJ9 := Lib.hid (HJ8.out.below hb9.1)
    have HS9 := Lib.hid (HS8.out.below hb9.1)
    have HRM9 := Lib.hid (HRM8.out.below hb9.1)
    have HRN9 := Lib.hid (HRN8.out.below hb9.1)
    have HB9 := Lib.hid (HB8.out.step hb9.1)
    have HK9 := Lib.hid (hjc)
    clear hjl hjn hjw hjc hb9
    go_wp2_with fail
    refine (impl_PressesFor w9 (some ⟨gK, 0, none⟩) nK cK ks HKL.out.1 (by omega) HK9.out HKL.out.2.2).mono ?_
    rintro e w10 ⟨rfl, hb10⟩
    have HX10 := Lib.hid (HX9.out.below hb10)
    have HY10 := Lib.hid (HY9.out.below hb10)
    have HC10 := Lib.hid (HC9.out.below hb10)
    have HQ10 := Lib.hid (HQ9.out.below hb10)
    have HRP10 := Lib.hid (HRP9.out.below hb10)
    have HRQ10 := Lib.hid (HRQ9.out.below hb10)
    have HJ10 := Lib.hid (HJ9.out.below hb10)
    have HS10 := Lib.hid (HS9.out.below hb10)
    have HRM10 := Lib.hid (HRM9.out.below hb10)
    have HRN10 := Lib.hid (HRN9.out.below hb10)
    have HK10 := Lib.hid (HK9.out.below hb10)
    have HB10 := Lib.hid (HB9.out.step hb10)
    clear hb10
    go_wp2_with fail
    refine (spec_PressesFor w10 (some ⟨gK, 0, none⟩) nK cK ks HKL.out.1 (by omega) HK10.out HKL.out.2.2).mono ?_
    rintro e w11 ⟨rfl, hb11⟩
    have HX11 := Lib.hid (HX10.out.below hb11)
    have HY11 := Lib.hid (HY10.out.below hb11)
    have HC11 := Lib.hid (HC10.out.below hb11)
    have HQ11 := Lib.hid (HQ10.out.below hb11)
    have HRP11 := Lib.hid (HRP10.out.below hb11)
    have HRQ11 := Lib.hid (HRQ10.out.below hb11)
    have HJ11 := Lib.hid (HJ10.out.below hb11)
    have HS11 := Lib.hid (HS10.out.below hb11)
    have HRM11 := Lib.hid (HRM10.out.below hb11)
    have HRN11 := Lib.hid (HRN10.out.below hb11)
    have HK11 := Lib.hid (HK10.out.below hb11)
    have HB11 := Lib.hid (HB10.out.step hb11)
    clear hb11
    go_wp2_with fail
    refine (drawSameJoins_any w11 n0 c0 a0 HC11.out).mono ?_
    rintro e w12 ⟨gT, nT, cT, ts, gU, nU, cU, us, rfl, htl, htn, htw, htc, hul, hun, huw, huc, hb12⟩
    have HTL := Lib.hid (And.intro htl htw)
    have HUL := Lib.hid (And.intro hul huw)
    have HX12 := Lib.hid (HX11.out.below hb12.1)
    have HY12 := Lib.hid (HY11.out.below hb12.1)
    have HC12 := Lib.hid (HC11.out.below hb12.1)
    have HQ12 := Lib.hid (HQ11.out.below hb12.1)
    have HRP12 := Lib.hid (HRP11.out.below hb12.1)
    have HRQ12 := Lib.hid (HRQ11.out.below hb12.1)
    have HJ12 := Lib.hid (HJ11.out.below hb12.1)
    have HS12 := Lib.hid (HS11.out.below hb12.1)
    have HRM12 := Lib.hid (HRM11.out.below hb12.1)
    have HRN12 := Lib.hid (HRN11.out.below hb12.1)
    have HK12 := Lib.hid (HK11.out.below hb12.1)
    have HB12 := Lib.hid (HB11.out.step hb12.1)
    have HT12 := Lib.hid (htc)
    have HU12 := Lib.hid (huc)
    clear htl htw htc hul huw huc hb12
    obtain rfl : nP = nQ := by have h1 := HLP.out; have h2 := HLQ.out; omega
    obtain rfl : nM = nN := by have h1 := HLM.out; have h2 := HLN.out; omega
    go_wp2_with fail
    refine (specJoinSame aP aQ nP nP cP cQ _ _ w12 HLP.out HLP.out (by omega) (by omega) HRP12.out HRQ12.out).mono ?_
    rw [decide_eq_true rfl]
    rintro e w13 ⟨rfl, hb13⟩
    have HX13 := Lib.hid (HX12.out.below hb13)
    have HY13 := Lib.hid (HY12.out.below hb13)
    have HC13 := Lib.hid (HC12.out.below hb13)
    have HQ13 := Lib.hid (HQ12.out.below hb13)
    have HRP13 := Lib.hid (HRP12.out.below hb13)
    have HRQ13 := Lib.hid (HRQ12.out.below hb13)
    have HJ13 := Lib.hid (HJ12.out.below hb13)
    have HS13 := Lib.hid (HS12.out.below hb13)
    have HRM13 := Lib.hid (HRM12.out.below hb13)
    have HRN13 := Lib.hid (HRN12.out.below hb13)
    have HK13 := Lib.hid (HK12.out.below hb13)
    have HT13 := Lib.hid (HT12.out.below hb13)
    have HU13 := Lib.hid (HU12.out.below hb13)
    have HB13 := Lib.hid (HB12.out.step hb13)
    clear hb13
    go_wp2_with fail
    refine (f6ints_any aM aN nM cM cN (badF d2 o2 y2 js nJ) w13 (by have := HLM.out; omega) (by omega) HRM13.out HRN13.out).mono ?_
    rintro e w14 ⟨rfl, hb14⟩
    have HX14 := Lib.hid (HX13.out.below hb14)
    have HY14 := Lib.hid (HY13.out.below hb14)
    have HC14 := Lib.hid (HC13.out.below hb14)
    have HQ14 := Lib.hid (HQ13.out.below hb14)
    have HRP14 := Lib.hid (HRP13.out.below hb14)
    have HRQ14 := Lib.hid (HRQ13.out.below hb14)
    have HJ14 := Lib.hid (HJ13.out.below hb14)
    have HS14 := Lib.hid (HS13.out.below hb14)
    have HRM14 := Lib.hid (HRM13.out.below hb14)
    have HRN14 := Lib.hid (HRN13.out.below hb14)
    have HK14 := Lib.hid (HK13.out.below hb14)
    have HT14 := Lib.hid (HT13.out.below hb14)
    have HU14 := Lib.hid (HU13.out.below hb14)
    have HB14 := Lib.hid (HB13.out.step hb14)
    clear hb14
    obtain ⟨rr, hrr⟩ : ∃ r, decide (ts = us) = r := ⟨_, rfl⟩
    go_wp2_with fail
    refine (implJoinSame (some ⟨gT, 0, none⟩) (some ⟨gU, 0, none⟩) nT nU cT cU ts us w14 HTL.out.1 HUL.out.1 (by omega) (by omega) HT14.out HU14.out).mono ?_
    rw [hrr]
    rintro e w15 ⟨rfl, hb15⟩
    have HX15 := Lib.hid (HX14.out.below hb15)
    have HY15 := Lib.hid (HY14.out.below hb15)
    have HC15 := Lib.hid (HC14.out.below hb15)
    have HQ15 := Lib.hid (HQ14.out.below hb15)
    have HRP15 := Lib.hid (HRP14.out.below hb15)
    have HRQ15 := Lib.hid (HRQ14.out.below hb15)
    have HJ15 := Lib.hid (HJ14.out.below hb15)
    have HS15 := Lib.hid (HS14.out.below hb15)
    have HRM15 := Lib.hid (HRM14.out.below hb15)
    have HRN15 := Lib.hid (HRN14.out.below hb15)
    have HK15 := Lib.hid (HK14.out.below hb15)
    have HT15 := Lib.hid (HT14.out.below hb15)
    have HU15 := Lib.hid (HU14.out.below hb15)
    have HB15 := Lib.hid (HB14.out.step hb15)
    clear hb15
    go_wp2_with fail
    refine (specJoinSame (some ⟨gT, 0, none⟩) (some ⟨gU, 0, none⟩) nT nU cT cU ts us w15 HTL.out.1 HUL.out.1 (by omega) (by omega) HT15.out HU15.out).mono ?_
    rw [hrr]
    rintro e w16 ⟨rfl, hb16⟩
    have HX16 := Lib.hid (HX15.out.below hb16)
    have HY16 := Lib.hid (HY15.out.below hb16)
    have HC16 := Lib.hid (HC15.out.below hb16)
    have HQ16 := Lib.hid (HQ15.out.below hb16)
    have HRP16 := Lib.hid (HRP15.out.below hb16)
    have HRQ16 := Lib.hid (HRQ15.out.below hb16)
    have HJ16 := Lib.hid (HJ15.out.below hb16)
    have HS16 := Lib.hid (HS15.out.below hb16)
    have HRM16 := Lib.hid (HRM15.out.below hb16)
    have HRN16 := Lib.hid (HRN15.out.below hb16)
    have HK16 := Lib.hid (HK15.out.below hb16)
    have HT16 := Lib.hid (HT15.out.below hb16)
    have HU16 := Lib.hid (HU15.out.below hb16)
    have HB16 := Lib.hid (HB15.out.step hb16)
    clear hb16
    clear hrr
    have hrs : (rr != rr) = false := by simp
    obtain ⟨rv, hrv⟩ : ∃ r, joinsB ks nK = r := ⟨_, rfl⟩
    go_wp2_with fail
    refine (implJoinsOk (some ⟨gK, 0, none⟩) nK cK ks w16 HKL.out.1 (by omega) HK16.out).mono ?_
    rw [hrv]
    rintro e w17 ⟨rfl, hb17⟩
    have HX17 := Lib.hid (HX16.out.below hb17)
    have HY17 := Lib.hid (HY16.out.below hb17)
    have HC17 := Lib.hid (HC16.out.below hb17)
    have HQ17 := Lib.hid (HQ16.out.below hb17)
    have HRP17 := Lib.hid (HRP16.out.below hb17)
    have HRQ17 := Lib.hid (HRQ16.out.below hb17)
    have HJ17 := Lib.hid (HJ16.out.below hb17)
    have HS17 := Lib.hid (HS16.out.below hb17)
    have HRM17 := Lib.hid (HRM16.out.below hb17)
    have HRN17 := Lib.hid (HRN16.out.below hb17)
    have HK17 := Lib.hid (HK16.out.below hb17)
    have HT17 := Lib.hid (HT16.out.below hb17)
    have HU17 := Lib.hid (HU16.out.below hb17)
    have HB17 := Lib.hid (HB16.out.step hb17)
    clear hb17
    go_wp2_with fail
    refine (specValidJ_any (some ⟨gK, 0, none⟩) nK cK ks w17 HKL.out.1 (by omega) HK17.out).mono ?_
    rw [hrv]
    rintro e w18 ⟨rfl, hb18⟩
    have HX18 := Lib.hid (HX17.out.below hb18)
    have HY18 := Lib.hid (HY17.out.below hb18)
    have HC18 := Lib.hid (HC17.out.below hb18)
    have HQ18 := Lib.hid (HQ17.out.below hb18)
    have HRP18 := Lib.hid (HRP17.out.below hb18)
    have HRQ18 := Lib.hid (HRQ17.out.below hb18)
    have HJ18 := Lib.hid (HJ17.out.below hb18)
    have HS18 := Lib.hid (HS17.out.below hb18)
    have HRM18 := Lib.hid (HRM17.out.below hb18)
    have HRN18 := Lib.hid (HRN17.out.below hb18)
    have HK18 := Lib.hid (HK17.out.below hb18)
    have HT18 := Lib.hid (HT17.out.below hb18)
    have HU18 := Lib.hid (HU17.out.below hb18)
    have HB18 := Lib.hid (HB17.out.step hb18)
    clear hb18
    clear hrv
    have hrs2 : (rv != rv) = false := by simp
    obtain ⟨bc, hbc⟩ : ∃ v, badC d2 o2 y2 js nJ = v := ⟨_, rfl⟩
    rw [hbc]
    have HBc := Lib.hid hbc
    clear hbc
    go_upto_if 137 with fail
    obtain ⟨bb, hbb⟩ : ∃ b, (bc == 0) = b := ⟨_, rfl⟩
    rw [hbb]
    have HBb := Lib.hid hbb
    clear hbb
    go_cut [137] (fun _ W => Hid (Bel w18.heap.size w18 W))
    case first =>
      cases hgl : (glueB d2 o2 y2 && joinsB js nJ) with
      | false =>
        have e1 : badC d2 o2 y2 js nJ = 1 := by simp only [badC, hgl]; rfl
        obtain rfl : bb = false := by rw [← HBb.out, ← HBc.out, e1]; rfl
        clear e1 hgl
        go_wp2_with fail
        go_meet
        exact Lib.hid (Bel.refl _)
      | true =>
        have e1 : badC d2 o2 y2 js nJ = 0 := by simp only [badC, hgl]; rfl
        have e2 : badF d2 o2 y2 js nJ = badTo d2 o2 y2 js nJ := by simp only [badF, hgl]; rfl
        rw [Bool.and_eq_true] at hgl
        have HGj := Lib.hid hgl
        have HRM := Lib.hid (show CellsAt w18 aN ((badTo d2 o2 y2 js nJ).map (Value.int .i64)) by rw [← e2]; exact HRN18.out)
        have HLm := Lib.hid (show (badTo d2 o2 y2 js nJ).length = nM by have := HLM.out; rw [e2] at this; omega)
        obtain rfl : bb = true := by rw [← HBb.out, ← HBc.out, e1]; rfl
        clear e1 e2 hgl
        go_wp2_with fail
        go_loopw [24, 25, 26] (fun u _ _ wr => ∃ k : Nat, k ≤ nJ ∧ u = .int .i64 (k : Int) ∧ Hid (Bel w18.heap.size w18 wr)) (fun u _ _ _ => nJ - (intOf u).toNat)
        case atStart => exact ⟨0, Nat.zero_le _, rfl, Lib.hid (Bel.refl _)⟩
        case round =>
          obtain ⟨k, hk, rfl, hbw⟩ := hrel
          by_cases hlt : k < nJ
          · have hlt' : (k : Int) < (nJ : Int) := by omega
            have hql := (HS18.out.below hbw.out.1).lt.2
            obtain ⟨bj, oj, hje, hbj, hcj⟩ := HJ18.out.at_ (by have := HJL.out.1; simp; omega)
            obtain ⟨rfl, rfl⟩ : gJ = bj ∧ 0 = oj := by simpa using hje
            obtain ⟨x1, hx1⟩ : ∃ x, js.getD (k * 4) 0 = x := ⟨_, rfl⟩
            obtain ⟨x2, hx2⟩ : ∃ x, js.getD (k * 4 + 1) 0 = x := ⟨_, rfl⟩
            obtain ⟨x3, hx3⟩ : ∃ x, js.getD (k * 4 + 2) 0 = x := ⟨_, rfl⟩
            obtain ⟨x4, hx4⟩ : ∃ x, js.getD (k * 4 + 3) 0 = x := ⟨_, rfl⟩
            have HCells := Lib.hid (fun W (h : Bel w18.heap.size w18 W) => (show W.cell? ⟨q2, 0, none⟩ = some (.int .i64 d2) ∧ W.cell? ⟨q2, 1, none⟩ = some (.int .i64 o2) ∧ W.cell? ⟨q2, 2, none⟩ = some (.int .i64 y2) ∧ W.cell? ⟨gJ, k * 4, none⟩ = some (.int .i64 x1) ∧ W.cell? ⟨gJ, k * 4 + 1, none⟩ = some (.int .i64 x2) ∧ W.cell? ⟨gJ, k * 4 + 2, none⟩ = some (.int .i64 x3) ∧ W.cell? ⟨gJ, k * 4 + 3, none⟩ = some (.int .i64 x4) from by
              obtain ⟨⟨i0, i1, i2⟩, _⟩ := (HS18.out.below h.1).three
              have m1 := cell_int hbj h.1 hcj (j := k * 4) (by rw [HJL.out.1]; omega) hx1
              have m2 := cell_int hbj h.1 hcj (j := k * 4 + 1) (by rw [HJL.out.1]; omega) hx2
              have m3 := cell_int hbj h.1 hcj (j := k * 4 + 2) (by rw [HJL.out.1]; omega) hx3
              have m4 := cell_int hbj h.1 hcj (j := k * 4 + 3) (by rw [HJL.out.1]; omega) hx4
              rw [Nat.zero_add] at m1 m2 m3 m4
              exact ⟨i0, i1, i2, m1, m2, m3, m4⟩))
            have hK1 := HCells.out wr hbw.out
            obtain ⟨i0, i1, i2, m1, m2, m3, m4⟩ := hK1
            have hja := joinsB_at HGj.out.2 hlt
            simp only [joinAt, hx1, hx2, hx3, hx4] at hja
            have hff := joinFaultF_ok HGj.out.1 hja
            have hfa : faultAt d2 o2 y2 js k = faultF d2 o2 y2 x1 x2 x3 x4 := by simp only [faultAt, hx1, hx2, hx3, hx4]
            have hjf := fun W => joinFault_any d2 o2 y2 x1 x2 x3 x4 W
            simp only [hff] at hjf
            rw [← hfa] at hjf
            obtain ⟨fs, hfs⟩ : ∃ f, faultAt d2 o2 y2 js k = f := ⟨_, rfl⟩
            rw [hfs] at hjf
            have HJf := Lib.hid hjf
            have HFs := Lib.hid hfs
            have HMem := Lib.hid (bad_mem (d := d2) (o := o2) (p := y2) (zs := js) nJ hlt)
            clear hcj hx1 hx2 hx3 hx4 hja hff hfa hjf hje
            go_wp2_with fail
            go_region_held3 (fun W => W.cell? ⟨q2, 0, none⟩ = some (.int .i64 d2) ∧ W.cell? ⟨q2, 1, none⟩ = some (.int .i64 o2) ∧ W.cell? ⟨q2, 2, none⟩ = some (.int .i64 y2) ∧ W.cell? ⟨gJ, k * 4, none⟩ = some (.int .i64 x1) ∧ W.cell? ⟨gJ, k * 4 + 1, none⟩ = some (.int .i64 x2) ∧ W.cell? ⟨gJ, k * 4 + 2, none⟩ = some (.int .i64 x3) ∧ W.cell? ⟨gJ, k * 4 + 3, none⟩ = some (.int .i64 x4)) (first | (with_reducible exact hK2) | go_keep)
              ((go_at_call 29; refine (HJf.out _).mono ?_; rintro e wf ⟨rfl, hbf⟩; have HBf := Lib.hid (hbw.out.drew.step hbf); have hK2 := HCells.out wf HBf.out; clear hbf))
            clear i0 i1 i2 hql m1 m2 m3 m4 hK2
            have HHas := Lib.hid (f6has_any aN nM cN (badTo d2 o2 y2 js nJ) (k : Int) wf HLm.out (by omega) (HRM.out.below HBf.out.1))
            by_cases hno : fs = noneS
            · have hin : decide ((k : Int) ∈ badTo d2 o2 y2 js nJ) = false := by simp only [decide_eq_false_iff_not, HMem.out, HFs.out, hno, ne_eq, not_true_eq_false, not_false_eq_true]
              rw [hin] at HHas
              subst hno
              clear hfs hin
              unfold noneS
              go_wp2_with fail
              refine HHas.out.mono ?_
              rintro e wg ⟨rfl, rfl⟩
              go_wp2_with fail
              go_roundw
              case rel => exact ⟨k + 1, by omega, by go_num, HBf⟩
              case measure => simp [intOf]; omega
            · have hin : decide ((k : Int) ∈ badTo d2 o2 y2 js nJ) = true := by simp only [decide_eq_true_eq, HMem.out, HFs.out]; exact hno
              rw [hin] at HHas
              have hcs := fault_cases hfs hno
              clear hno hin hfs
              rcases hcs with rfl | rfl | rfl
              all_goals
                go_wp2_with fail
                refine HHas.out.mono ?_
                rintro e wg ⟨rfl, rfl⟩
                go_wp2_with fail
                go_roundw
                case rel => exact ⟨k + 1, by omega, by go_num, HBf⟩
                case measure => simp [intOf]; omega
          · obtain rfl : k = nJ := by omega
            go_wp2_with fail
            go_meet
            exact hbw
    case rest =>
      have HBw := Lib.hid (HB18.out.step hcut.out.1)
      have HPl := Lib.hid (HRP18.out.below hcut.out.1)
      have HQw := Lib.hid (HQ18.out.below hcut.out.1)
      clear hcut
      by_cases hpc : planC d o y xs n ys m pr = 0
      · obtain ⟨p1, p2, p3, p4, p5, p6⟩ := plan_good hpc HXL.out.1 HYL.out.1
        obtain rfl : nP = n := by have := HLP.out; omega
        rw [hpc]
        have hib := fun W h => impl_BadJoins W d HG.out.1 o HG.out.2.1 y HG.out.2.2 aP nP cP (planF d o y xs nP ys m pr) p5 (by omega) h (fun z hz => by have := p6 z hz; exact wf_gl (by omega) (by omega))
        have hip := fun W h => impl_PressesFor W aP nP cP (planF d o y xs nP ys m pr) p5 (by omega) h (fun z hz => by have := p6 z hz; exact wf_gl (by omega) (by omega))
        simp only [p1, p2] at hib
        obtain ⟨M, hM⟩ : ∃ v, pressF (planF d o y xs nP ys m pr) nP = v := ⟨_, rfl⟩
        rw [hM] at p4
        simp only [p3, hM] at hip
        have HIb := Lib.hid hib
        have HIp := Lib.hid hip
        have hle : M ≤ pr := p4
        obtain ⟨⟨i0, i1, i2⟩, _⟩ := HQw.out.three
        have hql := HQw.out.lt.2
        clear hpc p1 p2 p3 p4 p5 p6 hib hip hM
        go_wp2_with fail
        refine (HIb.out _ HPl.out).mono ?_
        rintro e wb ⟨aZ, nZ, cZ, rfl, hlZ, _, _, hbb⟩
        obtain rfl : nZ = 0 := by simp at hlZ; omega
        have HBb := Lib.hid (HBw.out.step hbb)
        have HPb := Lib.hid (HPl.out.below hbb)
        clear hbb hlZ i0 i1 i2 hql
        go_wp2_with fail
        refine (HIp.out _ HPb.out).mono ?_
        rintro e wd ⟨rfl, hbd⟩
        have HBd := Lib.hid (HBb.out.step hbd)
        clear hbd
        go_wp2_with fail
        go_ret
        exact lawEnd_of HBd.out
      · obtain ⟨v, hv⟩ : ∃ v, planC d o y xs n ys m pr = v := ⟨_, rfl⟩
        rw [hv] at hpc ⊢
        clear hv
        go_wp2_with fail
        go_ret
        exact lawEnd_of HBw.out
  · clear s0 w0
    go_enter Try.func13, Try.ntmps13
    go_wp2_with go_in
    go_ret
    exact ⟨rfl, Below.refl _ _⟩

/-! ### From the walk to the statement -/
set_option maxRecDepth 100000 in
theorem FnPresses_lifted (os : Os) (started : os.Started) (H : Type) (enc : TypeId × Value → H) :
    ReturnsInHanded {} Try.checked os 13 .any (Rows.fnPressesSpec.pre6 enc Try.prog Try.f13 Rows.fnPressesRow.domain false) (Rows.fnPressesSpec.post enc Try.prog Try.f13 false true false false) := by
  refine lifted_law (C := Try.checked) (tb := 4) own started (by kernel_rfl) Try.func13
    (ChangeSpec.witness6 (enc := enc) (C := Try.checked) false ⟨#[], #[.slice none 0 0], []⟩ 8 (by kernel_rfl) (by kernel_rfl) (by kernel_rfl) (by kernel_rfl))
    laidOut (by kernel_rfl) rfl rfl Try.underlying4 (fun ds h => by match ds, h with | [_], _ => rfl) ?_
  intro W base args ds p hval hA
  rw [Try.params13] at hA hval
  obtain ⟨v0, vs0, d0, ds0, p0, q0, hargs, rfl, rfl, h0, r0⟩ := trodAll_cons hA
  obtain ⟨rfl, rfl, rfl⟩ := trodAll_nil r0
  obtain rfl : args = #[v0] := by cases args; simp_all
  obtain ⟨a0, n0, c0, z0, rfl, l0, m0, s0, w0⟩ := open_ints_at Try.underlying69 Try.underlying5 (by kernel_rfl) (hval 0 69 v0 rfl rfl) h0
  first | exact FnPresses_walk a0 n0 c0 z0 l0 m0 s0 w0 W | exact FnPresses_walk W a0 n0 c0 z0 l0 m0 s0 w0

theorem FnPresses_over : Rows.fnPressesRow.holds Try.pinned (OpenSpec.ofChange Rows.fnPressesSpec) :=
  OpenClaim.holds_of_wide 13 Try.f13 rfl rfl rfl rfl rfl rfl rfl ⟨rfl, rfl, rfl, rfl, rfl⟩ rfl rfl rfl rfl rfl (by kernel_rfl) Try.func13 (by kernel_rfl)
    (of_decide_eq_true (by kernel_rfl)) (by unfold Func.isWrapper; first | (rw [if_pos (by decide +kernel)]; kernel_rfl) | (rw [if_neg (by decide +kernel)]; exact ⟨rfl, rfl⟩))
    (fun os started H enc _ => FnPresses_lifted os started H enc)

/-- The statement. -/
theorem FnPresses_holds : Rows.FnPressesSaid := FnPresses_over
#print axioms FnPresses_holds

end Go.Proofs.Ytcajpedhfljhdaa
