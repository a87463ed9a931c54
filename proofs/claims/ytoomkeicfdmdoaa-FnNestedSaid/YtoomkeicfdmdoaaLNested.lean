/-
  The law FnNested returns true for all arguments. No condition.
-/
import Derived.Test.YtoomkeicfdmdoaaFitU
import Derived.Test.YtoomkeicfdmdoaaBound
import Derived.Test.YtoomkeicfdmdoaaBlockDraw
import Derived.Test.YtoomkeicfdmdoaaRow
import Derived.Test.YtoomkeicfdmdoaaRows
import Derived.Test.YtoomkeicfdmdoaaBase
import Derived.Outline
namespace Go.Proofs.Ytoomkeicfdmdoaa
open Go.ChangeShapes Go.WideShapes Go.ChangeAt Go.RowKit Go.Deep
open Go.ChangeMaps (open_string shut_string)
open Go.Joins


open Go.Shelf
theorem code_at {w : World} {a : Option Addr} {n : Nat} {zs : List Int} (l : zs.length = n) (h : CellsAt w a (zs.map (Value.int .u8))) (hw : ∀ z ∈ zs, (Lit.int .u8 z).wf = true) (hn : n ≤ 1048576) : CodeAt w a n :=
  ⟨zs, h, l, fun z hz => by
    have h := hw z hz
    have e1 : IntKind.u8.min = 0 := by rfl
    have e2 : IntKind.u8.max = 255 := by rfl
    simp [Lit.wf, e1, e2] at h; omega, hn⟩
theorem specValid_any (a : Option Addr) (n c : Nat) (zs : List Int) (roll : Int) (w : World) (hz : zs.length = n * 2) (ha : CellsAt w a (zs.map (Value.int .i64))) :
    Calls Try.prog 45 #[.slice a n c, .int .i64 roll] w fun e w' => e = .returned (.bool (blocksB zs roll n)) ∧ Below w.heap.size w w' := by
  have H := Lib.hid (specBlocksOk a n c zs roll w hz ha)
  generalize blocksB zs roll n = r at H ⊢
  clear hz ha
  go_enter Try.func45, Try.ntmps45
  go_wp2_with fail
  refine H.out.mono ?_
  rintro e w1 ⟨rfl, hb1⟩
  have HB := Lib.hid hb1
  clear hb1
  go_wp2_with fail
  go_ret
  exact ⟨rfl, HB.out⟩
set_option maxHeartbeats 1600000 in
/-- Two equal lists of numbers are told equal. -/
theorem f6ints_any (a b : Option Addr) (n c d : Nat) (zs : List Int) (w : World) (hz : zs.length = n) (hn : n ≤ 1073741824) (ha : CellsAt w a (zs.map (Value.int .i64))) (hb : CellsAt w b (zs.map (Value.int .i64))) :
    Calls Try.prog 43 #[.slice a n c, .slice b n d] w fun e w' => e = .returned (.bool true) ∧ Below w.heap.size w w' := by
  have HA := Lib.hid ha
  have HB := Lib.hid hb
  have Hz := Lib.hid hz
  clear ha hb hz
  go_enter Try.func43, Try.ntmps43
  go_wp2_with fail
  go_loopw [5] (fun i wr => ∃ k : Nat, k ≤ n ∧ i = .int .i64 k ∧ Hid (Below w.heap.size w wr)) (fun i _ => n - (intOf i).toNat)
  case atStart => exact ⟨0, Nat.zero_le _, rfl, Lib.hid (Below.refl _ _)⟩
  case round =>
    obtain ⟨k, hk, rfl, hbw⟩ := hrel
    by_cases hlt : k < n
    · obtain ⟨b1, o1, rfl, hb1, hc1⟩ := HA.out.at_ (by have := Hz.out; simp; omega)
      obtain ⟨b2, o2, rfl, hb2, hc2⟩ := HB.out.at_ (by have := Hz.out; simp; omega)
      obtain ⟨x, hx⟩ : ∃ x, zs.getD k 0 = x := ⟨_, rfl⟩
      have k1 := cell_int hb1 hbw.out hc1 (by rw [Hz.out]; exact hlt) hx
      have k2 := cell_int hb2 hbw.out hc2 (by rw [Hz.out]; exact hlt) hx
      have hlt' : (k : Int) < (n : Int) := by omega
      clear hc1 hc2 hx
      go_wp2_with fail
      go_big_quiet (fail)
      go_wp2_with fail
      go_roundw
      case rel => exact ⟨k + 1, by omega, by go_num, Lib.hid (below_drewN hbw.out _)⟩
      case measure => simp [intOf]; omega
    · obtain rfl : k = n := by omega
      go_wp2_with fail
      go_ret
      exact ⟨rfl, hbw.out⟩
set_option maxRecDepth 100000 in
set_option maxHeartbeats 12800000 in
theorem FnNested_walk (w : World) (a0 : Option Addr) (n0 c0 : Nat) (z0 : List Int) (l0 : z0.length = n0) (_ : n0 ≤ maxLen) (s0 : CellsAt w a0 (z0.map (Value.int .u8))) (w0 : ∀ z ∈ z0, (Lit.int .u8 z).wf = true) :
    Calls Try.prog 10 #[.slice a0 n0 c0] w (LawEnd w) := by
  by_cases g0 : n0 ≤ 4096
  · have HC0 := Lib.hid (code_at l0 s0 w0 (by omega))
    clear l0 s0 w0
    go_enter Try.func10, Try.ntmps10
    go_wp2_with (go_at_call 35; go_in)
    refine (drawBlocks_any w n0 c0 a0 HC0.out).mono ?_
    rintro e w1 ⟨g, n, c, zs, roll, rfl, hl, hn, hwf, hwr, hcz, hb1⟩
    have HL := Lib.hid hl
    have HW := Lib.hid hwf
    have HWr := Lib.hid hwr
    have HZ1 := Lib.hid hcz
    have HB1 := Lib.hid hb1
    have HFit := Lib.hid (fun (h : blocksB zs roll n = true) => (show fitL zs roll n = firstFit zs roll (List.range n) (List.replicate 9 0) (List.replicate n 0) by simp [fitL, h]))
    have HTall := Lib.hid (fun (h : blocksB zs roll n = true) => (show tallL zs roll n = firstFit zs roll (tallTo zs n) (List.replicate 9 0) (List.replicate n 0) by simp [tallL, h]))
    clear hl hwf hwr hcz hb1
    go_wp2_with fail
    refine (impl_BestRows w1 (some ⟨g, 0, none⟩) n c zs HL.out (by omega) HZ1.out HW.out roll HWr.out).mono ?_
    rintro e w2 ⟨aP, nP, cP, rfl, hlP, hnP, hoP, hb2⟩
    have HZ2 := Lib.hid (HZ1.out.below hb2)
    have HB2 := Lib.hid (HB1.out.step hb2)
    have HP2 := Lib.hid (CellsAt.of_own hoP)
    have HLP := Lib.hid hlP
    clear hlP hoP hb2
    go_wp2_with fail
    refine (spec_BestRows w2 (some ⟨g, 0, none⟩) n c zs HL.out (by omega) HZ2.out HW.out roll HWr.out).mono ?_
    rintro e w3 ⟨aQ, nQ, cQ, rfl, hlQ, hnQ, hoQ, hb3⟩
    have HZ3 := Lib.hid (HZ2.out.below hb3)
    have HP3 := Lib.hid (HP2.out.below hb3)
    have HB3 := Lib.hid (HB2.out.step hb3)
    have HQ3 := Lib.hid (CellsAt.of_own hoQ)
    have HLQ := Lib.hid hlQ
    clear hlQ hoQ hb3
    go_wp2_with fail
    refine (impl_LeastHeight w3 (some ⟨g, 0, none⟩) n c zs HL.out (by omega) HZ3.out HW.out roll HWr.out).mono ?_
    rintro e w4 ⟨rfl, hb4⟩
    have HZ4 := Lib.hid (HZ3.out.below hb4)
    have HP4 := Lib.hid (HP3.out.below hb4)
    have HQ4 := Lib.hid (HQ3.out.below hb4)
    have HB4 := Lib.hid (HB3.out.step hb4)
    clear hb4
    go_wp2_with fail
    refine (spec_LeastHeight w4 (some ⟨g, 0, none⟩) n c zs HL.out (by omega) HZ4.out HW.out roll HWr.out).mono ?_
    rintro e w5 ⟨rfl, hb5⟩
    have HZ5 := Lib.hid (HZ4.out.below hb5)
    have HP5 := Lib.hid (HP4.out.below hb5)
    have HQ5 := Lib.hid (HQ4.out.below hb5)
    have HB5 := Lib.hid (HB4.out.step hb5)
    clear hb5
    go_wp2_with fail
    refine (impl_HeightBound w5 (some ⟨g, 0, none⟩) n c zs HL.out (by omega) HZ5.out roll).mono ?_
    rintro e w6 ⟨rfl, hb6⟩
    have HZ6 := Lib.hid (HZ5.out.below hb6)
    have HP6 := Lib.hid (HP5.out.below hb6)
    have HQ6 := Lib.hid (HQ5.out.below hb6)
    have HB6 := Lib.hid (HB5.out.step hb6)
    clear hb6
    go_wp2_with fail
    refine (spec_HeightBound w6 (some ⟨g, 0, none⟩) n c zs HL.out (by omega) HZ6.out roll).mono ?_
    rintro e w7 ⟨rfl, hb7⟩
    have HZ7 := Lib.hid (HZ6.out.below hb7)
    have HP7 := Lib.hid (HP6.out.below hb7)
    have HQ7 := Lib.hid (HQ6.out.below hb7)
    have HB7 := Lib.hid (HB6.out.step hb7)
    clear hb7
    go_wp2_with fail
    refine (impl_FirstRows w7 (some ⟨g, 0, none⟩) n c zs HL.out (by omega) HZ7.out roll).mono ?_
    rintro e w8 ⟨aF, nF, cF, rfl, hlF, hnF, hoF, hb8⟩
    have HZ8 := Lib.hid (HZ7.out.below hb8)
    have HP8 := Lib.hid (HP7.out.below hb8)
    have HQ8 := Lib.hid (HQ7.out.below hb8)
    have HB8 := Lib.hid (HB7.out.step hb8)
    have HF8 := Lib.hid (CellsAt.of_own hoF)
    have HLF := Lib.hid hlF
    clear hlF hoF hb8
    go_wp2_with fail
    refine (spec_FirstRows w8 (some ⟨g, 0, none⟩) n c zs HL.out (by omega) HZ8.out roll).mono ?_
    rintro e w9 ⟨aG, nG, cG, rfl, hlG, hnG, hoG, hb9⟩
    have HZ9 := Lib.hid (HZ8.out.below hb9)
    have HP9 := Lib.hid (HP8.out.below hb9)
    have HQ9 := Lib.hid (HQ8.out.below hb9)
    have HF9 := Lib.hid (HF8.out.below hb9)
    have HB9 := Lib.hid (HB8.out.step hb9)
    have HG9 := Lib.hid (CellsAt.of_own hoG)
    have HLG := Lib.hid hlG
    clear hlG hoG hb9
    go_wp2_with fail
    refine (impl_TallRows w9 (some ⟨g, 0, none⟩) n c zs HL.out (by omega) HZ9.out roll).mono ?_
    rintro e w10 ⟨aT, nT, cT, rfl, hlT, hnT, hoT, hb10⟩
    have HZ10 := Lib.hid (HZ9.out.below hb10)
    have HP10 := Lib.hid (HP9.out.below hb10)
    have HQ10 := Lib.hid (HQ9.out.below hb10)
    have HF10 := Lib.hid (HF9.out.below hb10)
    have HG10 := Lib.hid (HG9.out.below hb10)
    have HB10 := Lib.hid (HB9.out.step hb10)
    have HT10 := Lib.hid (CellsAt.of_own hoT)
    have HLT := Lib.hid hlT
    clear hlT hoT hb10
    go_wp2_with fail
    refine (spec_TallRows w10 (some ⟨g, 0, none⟩) n c zs HL.out (by omega) HZ10.out roll).mono ?_
    rintro e w11 ⟨aU, nU, cU, rfl, hlU, hnU, hoU, hb11⟩
    have HZ11 := Lib.hid (HZ10.out.below hb11)
    have HP11 := Lib.hid (HP10.out.below hb11)
    have HQ11 := Lib.hid (HQ10.out.below hb11)
    have HF11 := Lib.hid (HF10.out.below hb11)
    have HG11 := Lib.hid (HG10.out.below hb11)
    have HT11 := Lib.hid (HT10.out.below hb11)
    have HB11 := Lib.hid (HB10.out.step hb11)
    have HU11 := Lib.hid (CellsAt.of_own hoU)
    have HLU := Lib.hid hlU
    clear hlU hoU hb11
    obtain rfl : nP = nQ := by have h1 := HLP.out; have h2 := HLQ.out; omega
    obtain rfl : nF = nG := by have h1 := HLF.out; have h2 := HLG.out; omega
    obtain rfl : nT = nU := by have h1 := HLT.out; have h2 := HLU.out; omega
    go_wp2_with fail
    refine (f6ints_any aP aQ nP cP cQ (nestL zs roll n) w11 (by have := HLP.out; omega) (by omega) HP11.out HQ11.out).mono ?_
    rintro e w12 ⟨rfl, hb12⟩
    have HZ12 := Lib.hid (HZ11.out.below hb12)
    have HP12 := Lib.hid (HP11.out.below hb12)
    have HQ12 := Lib.hid (HQ11.out.below hb12)
    have HF12 := Lib.hid (HF11.out.below hb12)
    have HG12 := Lib.hid (HG11.out.below hb12)
    have HT12 := Lib.hid (HT11.out.below hb12)
    have HU12 := Lib.hid (HU11.out.below hb12)
    have HB12 := Lib.hid (HB11.out.step hb12)
    clear hb12
    go_wp2_with fail
    refine (f6ints_any aF aG nF cF cG (fitL zs roll n) w12 (by have := HLF.out; omega) (by omega) HF12.out HG12.out).mono ?_
    rintro e w13 ⟨rfl, hb13⟩
    have HZ13 := Lib.hid (HZ12.out.below hb13)
    have HP13 := Lib.hid (HP12.out.below hb13)
    have HQ13 := Lib.hid (HQ12.out.below hb13)
    have HF13 := Lib.hid (HF12.out.below hb13)
    have HG13 := Lib.hid (HG12.out.below hb13)
    have HT13 := Lib.hid (HT12.out.below hb13)
    have HU13 := Lib.hid (HU12.out.below hb13)
    have HB13 := Lib.hid (HB12.out.step hb13)
    clear hb13
    go_wp2_with fail
    refine (f6ints_any aT aU nT cT cU (tallL zs roll n) w13 (by have := HLT.out; omega) (by omega) HT13.out HU13.out).mono ?_
    rintro e w14 ⟨rfl, hb14⟩
    have HZ14 := Lib.hid (HZ13.out.below hb14)
    have HP14 := Lib.hid (HP13.out.below hb14)
    have HQ14 := Lib.hid (HQ13.out.below hb14)
    have HF14 := Lib.hid (HF13.out.below hb14)
    have HG14 := Lib.hid (HG13.out.below hb14)
    have HT14 := Lib.hid (HT13.out.below hb14)
    have HU14 := Lib.hid (HU13.out.below hb14)
    have HB14 := Lib.hid (HB13.out.step hb14)
    clear hb14
    go_wp2_with fail
    refine (implBlocksOk (some ⟨g, 0, none⟩) n c zs roll w14 HL.out (by omega) HZ14.out).mono ?_
    rintro e w15 ⟨rfl, hb15⟩
    have HZ15 := Lib.hid (HZ14.out.below hb15)
    have HP15 := Lib.hid (HP14.out.below hb15)
    have HQ15 := Lib.hid (HQ14.out.below hb15)
    have HF15 := Lib.hid (HF14.out.below hb15)
    have HG15 := Lib.hid (HG14.out.below hb15)
    have HT15 := Lib.hid (HT14.out.below hb15)
    have HU15 := Lib.hid (HU14.out.below hb15)
    have HB15 := Lib.hid (HB14.out.step hb15)
    clear hb15
    go_wp2_with fail
    refine (specValid_any (some ⟨g, 0, none⟩) n c zs roll w15 HL.out HZ15.out).mono ?_
    rintro e w16 ⟨rfl, hb16⟩
    have HZ16 := Lib.hid (HZ15.out.below hb16)
    have HP16 := Lib.hid (HP15.out.below hb16)
    have HQ16 := Lib.hid (HQ15.out.below hb16)
    have HF16 := Lib.hid (HF15.out.below hb16)
    have HG16 := Lib.hid (HG15.out.below hb16)
    have HT16 := Lib.hid (HT15.out.below hb16)
    have HU16 := Lib.hid (HU15.out.below hb16)
    have HB16 := Lib.hid (HB15.out.step hb16)
    clear hb16
    cases hok : blocksB zs roll n with
    | false =>
      have e1 : nestC zs roll n = 1 := by simp [nestC, hok]
      rw [e1]
      clear hok e1
      go_wp2_with fail
      go_ret
      exact lawEnd_of HB16.out
    | true =>
      have e1 : nestC zs roll n = 0 := by simp [nestC, hok]
      have e2 : nestL zs roll n = (nest0 zs roll).1 := by simp [nestL, hok]
      have e3 : nestH zs roll n = (nest0 zs roll).2 := by simp [nestH, hok]
      have e4 : boundH zs roll n = max (tallest zs) ((areaTo zs + roll - 1) / roll) := by simp [boundH, hok]
      have hbest := best_fine HL.out hok
      have hfit := order_fine hok HL.out (List.Perm.refl (List.range n))
      have htall := order_fine hok HL.out (tallTo_perm zs n)
      rw [← HFit.out hok] at hfit
      rw [← HTall.out hok] at htall
      rw [← e2] at hbest
      have hl1 := (least_le HL.out hok hfit).2
      have hl2 := (least_le HL.out hok htall).2
      have hbd := bound_le HL.out hok
      rw [← e4, ← e3] at hbd
      rw [← e3] at hbest hl1 hl2
      have HBest := Lib.hid hbest
      have HFine := Lib.hid (And.intro hfit htall)
      have HOk := Lib.hid hok
      have HeB := Lib.hid hbest.2
      obtain ⟨B, hB⟩ : ∃ v, boundH zs roll n = v := ⟨_, rfl⟩
      obtain ⟨M, hM⟩ : ∃ v, nestH zs roll n = v := ⟨_, rfl⟩
      obtain ⟨X, hX⟩ : ∃ v, heightOf zs (fitL zs roll n) = v := ⟨_, rfl⟩
      obtain ⟨Y, hY⟩ : ∃ v, heightOf zs (tallL zs roll n) = v := ⟨_, rfl⟩
      rw [hB, hM] at hbd
      rw [hM, hX] at hl1
      rw [hM, hY] at hl2
      rw [e1, hB, hM]
      have HX := Lib.hid hX
      have HY := Lib.hid hY
      have HM := Lib.hid (hbest.2.trans hM)
      have d1 : decide (B ≤ M) = true := by simpa using hbd
      have d2 : decide (M ≤ X) = true := by simpa using hl1
      have d3 : decide (M ≤ Y) = true := by simpa using hl2
      have HD := Lib.hid (And.intro hbd (And.intro hl1 hl2))
      clear hok e1 e2 e3 e4 hbest hfit htall hB hM hX hY hbd hl1 hl2
      obtain rfl : nP = n := by have := HLP.out; have := HBest.out.1.1; omega
      obtain rfl : nF = nP := by have := HLF.out; have := HFine.out.1.1; omega
      obtain rfl : nT = nF := by have := HLT.out; have := HFine.out.2.1; omega
      go_wp2_with fail
      refine (rowsFault_any w16 (some ⟨g, 0, none⟩) nT c zs roll aP cP (nestL zs roll nT) HL.out HZ16.out HP16.out HOk.out HBest.out.1).mono ?_
      rintro e w17 ⟨rfl, hb17⟩
      have HZ17 := Lib.hid (HZ16.out.below hb17)
      have HP17 := Lib.hid (HP16.out.below hb17)
      have HQ17 := Lib.hid (HQ16.out.below hb17)
      have HF17 := Lib.hid (HF16.out.below hb17)
      have HG17 := Lib.hid (HG16.out.below hb17)
      have HT17 := Lib.hid (HT16.out.below hb17)
      have HU17 := Lib.hid (HU16.out.below hb17)
      have HB17 := Lib.hid (HB16.out.step hb17)
      clear hb17
      go_wp2_with fail
      refine (heightOfRows_any w17 (some ⟨g, 0, none⟩) nT c zs roll aP cP (nestL zs roll nT) HL.out HZ17.out HP17.out HOk.out HBest.out.1).mono ?_
      rw [HM.out]
      rintro e w18 ⟨rfl, hb18⟩
      have HZ18 := Lib.hid (HZ17.out.below hb18)
      have HP18 := Lib.hid (HP17.out.below hb18)
      have HQ18 := Lib.hid (HQ17.out.below hb18)
      have HF18 := Lib.hid (HF17.out.below hb18)
      have HG18 := Lib.hid (HG17.out.below hb18)
      have HT18 := Lib.hid (HT17.out.below hb18)
      have HU18 := Lib.hid (HU17.out.below hb18)
      have HB18 := Lib.hid (HB17.out.step hb18)
      clear hb18
      go_wp2_with fail
      refine (heightOfRows_any w18 (some ⟨g, 0, none⟩) nT c zs roll aF cF (fitL zs roll nT) HL.out HZ18.out HF18.out HOk.out HFine.out.1).mono ?_
      rw [HX.out]
      rintro e w19 ⟨rfl, hb19⟩
      have HZ19 := Lib.hid (HZ18.out.below hb19)
      have HP19 := Lib.hid (HP18.out.below hb19)
      have HQ19 := Lib.hid (HQ18.out.below hb19)
      have HF19 := Lib.hid (HF18.out.below hb19)
      have HG19 := Lib.hid (HG18.out.below hb19)
      have HT19 := Lib.hid (HT18.out.below hb19)
      have HU19 := Lib.hid (HU18.out.below hb19)
      have HB19 := Lib.hid (HB18.out.step hb19)
      clear hb19
      go_wp2_with fail
      refine (heightOfRows_any w19 (some ⟨g, 0, none⟩) nT c zs roll aT cT (tallL zs roll nT) HL.out HZ19.out HT19.out HOk.out HFine.out.2).mono ?_
      rw [HY.out]
      rintro e w20 ⟨rfl, hb20⟩
      have HZ20 := Lib.hid (HZ19.out.below hb20)
      have HP20 := Lib.hid (HP19.out.below hb20)
      have HQ20 := Lib.hid (HQ19.out.below hb20)
      have HF20 := Lib.hid (HF19.out.below hb20)
      have HG20 := Lib.hid (HG19.out.below hb20)
      have HT20 := Lib.hid (HT19.out.below hb20)
      have HU20 := Lib.hid (HU19.out.below hb20)
      have HB20 := Lib.hid (HB19.out.step hb20)
      clear hb20
      go_wp2_with fail
      go_ret
      exact lawEnd_of HB20.out
  · clear s0 w0
    go_enter Try.func10, Try.ntmps10
    go_wp2_with go_in
    go_ret
    exact ⟨rfl, Below.refl _ _⟩

/-! ### From the walk to the statement -/
set_option maxRecDepth 100000 in
theorem FnNested_lifted (os : Os) (started : os.Started) (H : Type) (enc : TypeId × Value → H) :
    ReturnsInHanded {} Try.checked os 10 .any (Rows.fnNestedSpec.pre6 enc Try.prog Try.f10 Rows.fnNestedRow.domain false) (Rows.fnNestedSpec.post enc Try.prog Try.f10 false true false false) := by
  refine lifted_law (C := Try.checked) (tb := 4) own started (by kernel_rfl) Try.func10
    (ChangeSpec.witness6 (enc := enc) (C := Try.checked) false ⟨#[], #[.slice none 0 0], []⟩ 8 (by kernel_rfl) (by kernel_rfl) (by kernel_rfl) (by kernel_rfl))
    laidOut (by kernel_rfl) rfl rfl Try.underlying4 (fun ds h => by match ds, h with | [_], _ => rfl) ?_
  intro W base args ds p hval hA
  rw [Try.params10] at hA hval
  obtain ⟨v0, vs0, d0, ds0, p0, q0, hargs, rfl, rfl, h0, r0⟩ := trodAll_cons hA
  obtain ⟨rfl, rfl, rfl⟩ := trodAll_nil r0
  obtain rfl : args = #[v0] := by cases args; simp_all
  obtain ⟨a0, n0, c0, z0, rfl, l0, m0, s0, w0⟩ := open_ints_at Try.underlying34 Try.underlying5 (by kernel_rfl) (hval 0 34 v0 rfl rfl) h0
  first | exact FnNested_walk a0 n0 c0 z0 l0 m0 s0 w0 W | exact FnNested_walk W a0 n0 c0 z0 l0 m0 s0 w0

theorem FnNested_over : Rows.fnNestedRow.holds Try.pinned (OpenSpec.ofChange Rows.fnNestedSpec) :=
  OpenClaim.holds_of_wide 10 Try.f10 rfl rfl rfl rfl rfl rfl rfl ⟨rfl, rfl, rfl, rfl, rfl⟩ rfl rfl rfl rfl rfl (by kernel_rfl) Try.func10 (by kernel_rfl)
    (of_decide_eq_true (by kernel_rfl)) (by unfold Func.isWrapper; first | (rw [if_pos (by decide +kernel)]; kernel_rfl) | (rw [if_neg (by decide +kernel)]; exact ⟨rfl, rfl⟩))
    (fun os started H enc _ => FnNested_lifted os started H enc)

/-- The statement. -/
theorem FnNested_holds : Rows.FnNestedSaid := FnNested_over
#print axioms FnNested_holds

end Go.Proofs.Ytoomkeicfdmdoaa
