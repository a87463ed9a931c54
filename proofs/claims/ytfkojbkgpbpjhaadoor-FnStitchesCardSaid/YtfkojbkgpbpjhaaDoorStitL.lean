/-
  The walk of the law FnStitches. No condition of its own.
-/
import Derived.Test.YtfkojbkgpbpjhaaDoorStitP
import Derived.Test.YtfkojbkgpbpjhaaDoorStitDraw
import Derived.Test.YtfkojbkgpbpjhaaDoorSeamS
import Derived.Test.YtfkojbkgpbpjhaaDoorRow
import Derived.Deep.RegionHeld3
import Derived.Deep.DeepCutAuto
import Derived.Deep.CutBlock
namespace Go.Proofs.YtfkojbkgpbpjhaaDoor
open Go.ChangeShapes Go.WideShapes Go.ChangeAt Go.RowKit Go.Deep

theorem code_at {w : World} {a : Option Addr} {n : Nat} {zs : List Int} (l : zs.length = n) (h : CellsAt w a (zs.map (Value.int .u8))) (hw : ∀ z ∈ zs, (Lit.int .u8 z).wf = true) (hn : n ≤ 1048576) : CodeAt w a n :=
  ⟨zs, h, l, fun z hz => by
    have h := hw z hz
    have e1 : IntKind.u8.min = 0 := by rfl
    have e2 : IntKind.u8.max = 255 := by rfl
    simp [Lit.wf, e1, e2] at h; omega, hn⟩
theorem specValidS_any (a : Option Addr) (n c : Nat) (zs : List Int) (w : World) (hz : zs.length = n) (hn : n ≤ 1073741824) (ha : CellsAt w a (zs.map (Value.int .i64))) :
    Calls Tryd.prog 50 #[.slice a n c] w fun e w' => e = .returned (.bool (sidesB zs n)) ∧ Below w.heap.size w w' := by
  have H := Lib.hid (l15Ok_any a n c zs w hz hn ha)
  generalize sidesB zs n = r at H ⊢
  clear hz ha
  go_enter Tryd.func50, Tryd.ntmps50
  go_wp2_with fail
  refine H.out.mono ?_
  rintro e w1 ⟨rfl, hb1⟩
  have HB := Lib.hid hb1
  clear hb1
  go_wp2_with fail
  go_ret
  exact ⟨rfl, HB.out⟩
set_option maxHeartbeats 1600000 in
/-- Two equal lists of numbers are told equal. -/
theorem f6ints_any (a b : Option Addr) (n c d : Nat) (zs : List Int) (w : World) (hz : zs.length = n) (hn : n ≤ 1073741824) (ha : CellsAt w a (zs.map (Value.int .i64))) (hb : CellsAt w b (zs.map (Value.int .i64))) :
    Calls Tryd.prog 48 #[.slice a n c, .slice b n d] w fun e w' => e = .returned (.bool true) ∧ Below w.heap.size w w' := by
  have HA := Lib.hid ha
  have HB := Lib.hid hb
  have Hz := Lib.hid hz
  clear ha hb hz
  go_enter Tryd.func48, Tryd.ntmps48
  go_wp2_with fail
  go_loopw [5] (fun i wr => ∃ k : Nat, k ≤ n ∧ i = .int .i64 k ∧ Hid (Below w.heap.size w wr)) (fun i _ => n - (intOf i).toNat)
  case atStart => exact ⟨0, Nat.zero_le _, rfl, Lib.hid (Below.refl _ _)⟩
  case round =>
    obtain ⟨k, hk, rfl, hbw⟩ := hrel
    by_cases hlt : k < n
    · obtain ⟨b1, o1, rfl, hb1, hc1⟩ := HA.out.at_ (by have := Hz.out; simp; omega)
      obtain ⟨b2, o2, rfl, hb2, hc2⟩ := HB.out.at_ (by have := Hz.out; simp; omega)
      obtain ⟨x, hx⟩ : ∃ x, zs.getD k 0 = x := ⟨_, rfl⟩
      have k1 := cell_at1 hb1 hbw.out hc1 (by rw [Hz.out]; exact hlt) hx
      have k2 := cell_at1 hb2 hbw.out hc2 (by rw [Hz.out]; exact hlt) hx
      have hlt' : (k : Int) < (n : Int) := by omega
      clear hc1 hc2 hx
      go_wp2_with fail
      go_big_quiet (fail)
      go_wp2_with fail
      go_roundw
      case rel => exact ⟨k + 1, by omega, by go_num, Lib.hid (below_drewN hbw.out _)⟩
      case measure => simp [intOf]; omega
    · obtain rfl : k = n := by omega
      go_wp2_with fail
      go_ret
      exact ⟨rfl, hbw.out⟩
theorem csum_take {cs : List Int} {i : Nat} {z : Int} (h : i < cs.length) (hz : cs.getD i 0 = z) : csum (cs.take (i + 1)) = csum (cs.take i) + z := by
  induction cs generalizing i with
  | nil => simp at h
  | cons c cs ih =>
    cases i with
    | zero => simp at hz; simp [csum, hz]
    | succ i =>
      have := ih (i := i) (by simpa using h) (by simpa using hz)
      simp only [List.take_succ_cons, csum, this]
      omega
theorem csum_bd {cs : List Int} (h : ∀ z ∈ cs, 0 ≤ z ∧ z ≤ 1000000) (i : Nat) : 0 ≤ csum (cs.take i) ∧ csum (cs.take i) ≤ i * 1000000 := by
  induction cs generalizing i with
  | nil => simp [csum]; omega
  | cons c cs ih =>
    cases i with
    | zero => simp [csum]
    | succ i =>
      have h1 := ih (fun z hz => h z (by simp [hz])) i
      have h2 := h c (by simp)
      simp only [List.take_succ_cons, csum]
      omega
theorem f6sum_any (w : World) (a : Option Addr) (n c : Nat) (cs : List Int) (hl : cs.length = n) (hn : n ≤ 1000) (h : ∀ z ∈ cs, 0 ≤ z ∧ z ≤ 1000000) (hc : CellsAt w a (cs.map (Value.int .i64))) :
    Calls Tryd.prog 51 #[.slice a n c] w fun e w' => e = .returned (.int .i64 (csum cs)) ∧ Below w.heap.size w w' := by
  obtain ⟨r, hr⟩ : ∃ r, csum cs = r := ⟨_, rfl⟩
  rw [hr]
  have HR := Lib.hid hr
  have HBd := Lib.hid (csum_bd h)
  have Hl := Lib.hid hl
  have HV := Lib.hid h
  have HA := Lib.hid hc
  clear hr h hl hc
  go_enter Tryd.func51, Tryd.ntmps51
  go_wp2
  go_loopw [3, 4] (fun v u wr => ∃ i : Nat, i ≤ n ∧ u = .int .i64 i ∧ ∃ x : Int, v = .int .i64 x ∧ Hid (x = csum (cs.take i)) ∧ Hid (Bel w.heap.size w wr)) (fun _ u _ => n - (intOf u).toNat)
  case atStart => exact ⟨0, Nat.zero_le _, rfl, 0, rfl, Lib.hid rfl, Lib.hid (Bel.refl w)⟩
  case round =>
    obtain ⟨i, hi, rfl, x, rfl, hx, hbw⟩ := hrel
    obtain ⟨x1, x2⟩ := HBd.out i
    rw [← hx.out] at x1 x2
    by_cases hlt : i < n
    · obtain ⟨b, o, rfl, hb, hcc⟩ := HA.out.at_ (by have := Hl.out; simp; omega)
      obtain ⟨z, hz⟩ : ∃ z, cs.getD i 0 = z := ⟨_, rfl⟩
      have hcx := cell_at1 hb hbw.out.1 hcc (by rw [Hl.out]; exact hlt) hz
      have hzb := HV.out z (by rw [← hz]; simp [List.getElem?_eq_getElem (show i < cs.length by rw [Hl.out]; exact hlt)])
      obtain ⟨z1, z2⟩ := hzb
      have HZ := Lib.hid hz
      have hlt' : (i : Int) < (n : Int) := by omega
      clear hcc hz
      go_wp2
      go_roundw
      case rel => exact ⟨i + 1, by omega, by go_num, _, rfl, Lib.hid (by rw [csum_take (by rw [Hl.out]; exact hlt) HZ.out, hx.out]), hbw⟩
      case measure => simp [intOf]; omega
    · obtain rfl : i = n := by omega
      obtain rfl : x = r := by rw [hx.out, HR.out.symm, List.take_of_length_le (by rw [Hl.out]; omega)]
      go_wp2
      go_ret
      exact ⟨rfl, hbw.out.1⟩
set_option maxRecDepth 100000 in
set_option maxHeartbeats 12800000 in
theorem fnStitches_walk0 (w : World) (a0 : Option Addr) (n0 c0 : Nat) (z0 : List Int) (l0 : z0.length = n0) (_ : n0 ≤ maxLen) (s0 : CellsAt w a0 (z0.map (Value.int .u8))) (w0 : ∀ z ∈ z0, (Lit.int .u8 z).wf = true) (ht : Pow w) :
    Calls Tryd.prog 9 #[.slice a0 n0 c0] w fun e w' => e = .returned (.bool true) ∧ Below w.heap.size w w' := by
  have HT := Lib.hid ht
  clear ht
  by_cases g0 : n0 ≤ 4096
  · have HC0 := Lib.hid (code_at l0 s0 w0 (by omega))
    clear l0 s0 w0
    go_enter Tryd.func9, Tryd.ntmps9
    go_wp2_with (first | (go_at_call 33; go_in) | (go_at_call 34; go_in))
    refine (both_any (w) n0 c0 a0 HC0.out).mono ?_
    rintro e w1 ⟨gA, nA, cA, av, st, rfl, hl, hn, hw, hs, ho, hb1⟩
    have HAL := Lib.hid (And.intro hl (And.intro hn (And.intro hw hs)))
    have hnA : nA ≤ 20 := hn
    have HC1 := Lib.hid (HC0.out.below hb1)
    have HB1 := Lib.hid (Bel.of hb1)
    have HA1 := Lib.hid (CellsAt.of_own ho)
    clear hl hn hw hs ho hb1
    go_wp2_with fail
    refine (impl_StitchLengths w1 (some ⟨gA, 0, none⟩) nA cA av HAL.out.1 (by omega) HA1.out HAL.out.2.2.1 st HAL.out.2.2.2).mono ?_
    rintro e w2 ⟨aP, nP, cP, rfl, hlP, hnP, hoP, hb2⟩
    have HLP := Lib.hid hlP
    have HC2 := Lib.hid (HC1.out.below hb2)
    have HA2 := Lib.hid (HA1.out.below hb2)
    have HB2 := Lib.hid (HB1.out.step hb2)
    have HRP2 := Lib.hid (CellsAt.of_own hoP)
    clear hlP hoP hb2
    go_wp2_with fail
    refine (spec_StitchLengths w2 (some ⟨gA, 0, none⟩) nA cA av HAL.out.1 (by omega) HA2.out HAL.out.2.2.1 st HAL.out.2.2.2).mono ?_
    rintro e w3 ⟨aQ, nQ, cQ, rfl, hlQ, hnQ, hoQ, hb3⟩
    have HLQ := Lib.hid hlQ
    have HC3 := Lib.hid (HC2.out.below hb3)
    have HA3 := Lib.hid (HA2.out.below hb3)
    have HRP3 := Lib.hid (HRP2.out.below hb3)
    have HB3 := Lib.hid (HB2.out.step hb3)
    have HRQ3 := Lib.hid (CellsAt.of_own hoQ)
    clear hlQ hoQ hb3
    go_wp2_with fail
    refine (impl_StitchTotal w3 (some ⟨gA, 0, none⟩) nA cA av HAL.out.1 (by omega) HA3.out HAL.out.2.2.1 st HAL.out.2.2.2).mono ?_
    rintro e w4 ⟨rfl, hb4⟩
    have HC4 := Lib.hid (HC3.out.below hb4)
    have HA4 := Lib.hid (HA3.out.below hb4)
    have HRP4 := Lib.hid (HRP3.out.below hb4)
    have HRQ4 := Lib.hid (HRQ3.out.below hb4)
    have HB4 := Lib.hid (HB3.out.step hb4)
    clear hb4
    go_wp2_with fail
    refine (spec_StitchTotal w4 (some ⟨gA, 0, none⟩) nA cA av HAL.out.1 (by omega) HA4.out HAL.out.2.2.1 st HAL.out.2.2.2).mono ?_
    rintro e w5 ⟨rfl, hb5⟩
    have HC5 := Lib.hid (HC4.out.below hb5)
    have HA5 := Lib.hid (HA4.out.below hb5)
    have HRP5 := Lib.hid (HRP4.out.below hb5)
    have HRQ5 := Lib.hid (HRQ4.out.below hb5)
    have HB5 := Lib.hid (HB4.out.step hb5)
    clear hb5
    go_wp2_with fail
    refine (countsDraw_any (w5) n0 c0 a0 HC5.out).mono ?_
    rintro e w6 ⟨gD, nD, cD, ds, many, rfl, hl, hn, hw, hs, ho, hb6⟩
    have HDL := Lib.hid (And.intro hl (And.intro hn (And.intro hw hs)))
    have hnD : nD ≤ 20 := hn
    have HC6 := Lib.hid (HC5.out.below hb6)
    have HA6 := Lib.hid (HA5.out.below hb6)
    have HRP6 := Lib.hid (HRP5.out.below hb6)
    have HRQ6 := Lib.hid (HRQ5.out.below hb6)
    have HB6 := Lib.hid (HB5.out.step hb6)
    have HD6 := Lib.hid (CellsAt.of_own ho)
    clear hl hn hw hs ho hb6
    go_wp2_with fail
    refine (impl_CountsFor w6 (some ⟨gD, 0, none⟩) nD cD ds HDL.out.1 (by omega) HD6.out HDL.out.2.2.1 many HDL.out.2.2.2).mono ?_
    rintro e w7 ⟨aM, nM, cM, rfl, hlM, hnM, hoM, hb7⟩
    have HLM := Lib.hid hlM
    have HC7 := Lib.hid (HC6.out.below hb7)
    have HA7 := Lib.hid (HA6.out.below hb7)
    have HRP7 := Lib.hid (HRP6.out.below hb7)
    have HRQ7 := Lib.hid (HRQ6.out.below hb7)
    have HD7 := Lib.hid (HD6.out.below hb7)
    have HB7 := Lib.hid (HB6.out.step hb7)
    have HRM7 := Lib.hid (CellsAt.of_own hoM)
    clear hlM hoM hb7
    go_wp2_with fail
    refine (spec_CountsFor w7 (some ⟨gD, 0, none⟩) nD cD ds HDL.out.1 (by omega) HD7.out HDL.out.2.2.1 many HDL.out.2.2.2).mono ?_
    rintro e w8 ⟨aN, nN, cN, rfl, hlN, hnN, hoN, hb8⟩
    have HLN := Lib.hid hlN
    have HC8 := Lib.hid (HC7.out.below hb8)
    have HA8 := Lib.hid (HA7.out.below hb8)
    have HRP8 := Lib.hid (HRP7.out.below hb8)
    have HRQ8 := Lib.hid (HRQ7.out.below hb8)
    have HD8 := Lib.hid (HD7.out.below hb8)
    have HRM8 := Lib.hid (HRM7.out.below hb8)
    have HB8 := Lib.hid (HB7.out.step hb8)
    have HRN8 := Lib.hid (CellsAt.of_own hoN)
    clear hlN hoN hb8
    go_wp2_with fail
    refine (evenDraw_any (w8) n0 c0 a0 HC8.out).mono ?_
    rintro e w9 ⟨gE, nE, cE, es, le, mo, rfl, hl, hn, hw, hs, hs2, ho, hb9⟩
    have HEL := Lib.hid (And.intro hl (And.intro hn (And.intro hw (And.intro hs hs2))))
    have hnE : nE ≤ 20 := hn
    have HC9 := Lib.hid (HC8.out.below hb9)
    have HA9 := Lib.hid (HA8.out.below hb9)
    have HRP9 := Lib.hid (HRP8.out.below hb9)
    have HRQ9 := Lib.hid (HRQ8.out.below hb9)
    have HD9 := Lib.hid (HD8.out.below hb9)
    have HRM9 := Lib.hid (HRM8.out.below hb9)
    have HRN9 := Lib.hid (HRN8.out.below hb9)
    have HB9 := Lib.hid (HB8.out.step hb9)
    have HE9 := Lib.hid (CellsAt.of_own ho)
    clear hl hn hw hs hs2 ho hb9
    go_wp2_with fail
    refine (impl_EvenestStitch w9 (some ⟨gE, 0, none⟩) nE cE es HEL.out.1 (by omega) HE9.out HEL.out.2.2.1 le HEL.out.2.2.2.1 mo HEL.out.2.2.2.2).mono ?_
    rintro e w10 ⟨rfl, hb10⟩
    have HC10 := Lib.hid (HC9.out.below hb10)
    have HA10 := Lib.hid (HA9.out.below hb10)
    have HRP10 := Lib.hid (HRP9.out.below hb10)
    have HRQ10 := Lib.hid (HRQ9.out.below hb10)
    have HD10 := Lib.hid (HD9.out.below hb10)
    have HRM10 := Lib.hid (HRM9.out.below hb10)
    have HRN10 := Lib.hid (HRN9.out.below hb10)
    have HE10 := Lib.hid (HE9.out.below hb10)
    have HB10 := Lib.hid (HB9.out.step hb10)
    clear hb10
    go_wp2_with fail
    refine (spec_EvenestStitch w10 (some ⟨gE, 0, none⟩) nE cE es HEL.out.1 (by omega) HE10.out HEL.out.2.2.1 le HEL.out.2.2.2.1 mo HEL.out.2.2.2.2).mono ?_
    rintro e w11 ⟨rfl, hb11⟩
    have HC11 := Lib.hid (HC10.out.below hb11)
    have HA11 := Lib.hid (HA10.out.below hb11)
    have HRP11 := Lib.hid (HRP10.out.below hb11)
    have HRQ11 := Lib.hid (HRQ10.out.below hb11)
    have HD11 := Lib.hid (HD10.out.below hb11)
    have HRM11 := Lib.hid (HRM10.out.below hb11)
    have HRN11 := Lib.hid (HRN10.out.below hb11)
    have HE11 := Lib.hid (HE10.out.below hb11)
    have HB11 := Lib.hid (HB10.out.step hb11)
    clear hb11
    go_wp2_with fail
    refine (forDraw_any (w11) n0 c0 a0 HC11.out).mono ?_
    rintro e w12 ⟨si, wa, rfl, hbb⟩
    have hb12 := hbb.1
    have HC12 := Lib.hid (HC11.out.below hb12)
    have HA12 := Lib.hid (HA11.out.below hb12)
    have HRP12 := Lib.hid (HRP11.out.below hb12)
    have HRQ12 := Lib.hid (HRQ11.out.below hb12)
    have HD12 := Lib.hid (HD11.out.below hb12)
    have HRM12 := Lib.hid (HRM11.out.below hb12)
    have HRN12 := Lib.hid (HRN11.out.below hb12)
    have HE12 := Lib.hid (HE11.out.below hb12)
    have HB12 := Lib.hid (HB11.out.step hb12)
    clear hbb hb12
    go_wp2_with fail
    refine (impl_StitchesFor si wa _).mono ?_
    rintro e wq ⟨rfl, rfl⟩
    go_wp2_with fail
    refine (spec_StitchesFor si wa _).mono ?_
    rintro e wq ⟨rfl, rfl⟩
    obtain rfl : nP = nQ := by have h1 := HLP.out; have h2 := HLQ.out; omega
    obtain rfl : nM = nN := by have h1 := HLM.out; have h2 := HLN.out; omega
    go_wp2_with fail
    refine (f6ints_any aM aN nM cM cN (countsF ds nD many) w12 (by have := HLM.out; omega) (by omega) HRM12.out HRN12.out).mono ?_
    rintro e w13 ⟨rfl, hb13⟩
    have HC13 := Lib.hid (HC12.out.below hb13)
    have HA13 := Lib.hid (HA12.out.below hb13)
    have HRP13 := Lib.hid (HRP12.out.below hb13)
    have HRQ13 := Lib.hid (HRQ12.out.below hb13)
    have HD13 := Lib.hid (HD12.out.below hb13)
    have HRM13 := Lib.hid (HRM12.out.below hb13)
    have HRN13 := Lib.hid (HRN12.out.below hb13)
    have HE13 := Lib.hid (HE12.out.below hb13)
    have HB13 := Lib.hid (HB12.out.step hb13)
    clear hb13
    obtain ⟨rv, hrv⟩ : ∃ r, sidesB av nA = r := ⟨_, rfl⟩
    go_wp2_with fail
    refine (validSides_any (some ⟨gA, 0, none⟩) nA cA av w13 HAL.out.1 (by omega) HA13.out).mono ?_
    rw [hrv]
    rintro e w14 ⟨rfl, hb14⟩
    have HC14 := Lib.hid (HC13.out.below hb14)
    have HA14 := Lib.hid (HA13.out.below hb14)
    have HRP14 := Lib.hid (HRP13.out.below hb14)
    have HRQ14 := Lib.hid (HRQ13.out.below hb14)
    have HD14 := Lib.hid (HD13.out.below hb14)
    have HRM14 := Lib.hid (HRM13.out.below hb14)
    have HRN14 := Lib.hid (HRN13.out.below hb14)
    have HE14 := Lib.hid (HE13.out.below hb14)
    have HB14 := Lib.hid (HB13.out.step hb14)
    clear hb14
    go_wp2_with fail
    refine (specValidS_any (some ⟨gA, 0, none⟩) nA cA av w14 HAL.out.1 (by omega) HA14.out).mono ?_
    rw [hrv]
    rintro e w15 ⟨rfl, hb15⟩
    have HC15 := Lib.hid (HC14.out.below hb15)
    have HA15 := Lib.hid (HA14.out.below hb15)
    have HRP15 := Lib.hid (HRP14.out.below hb15)
    have HRQ15 := Lib.hid (HRQ14.out.below hb15)
    have HD15 := Lib.hid (HD14.out.below hb15)
    have HRM15 := Lib.hid (HRM14.out.below hb15)
    have HRN15 := Lib.hid (HRN14.out.below hb15)
    have HE15 := Lib.hid (HE14.out.below hb15)
    have HB15 := Lib.hid (HB14.out.step hb15)
    clear hb15
    clear hrv
    have hrs2 : (rv != rv) = false := by simp
    obtain ⟨tx, htx⟩ : ∃ r, seamT av nA st = r := ⟨_, rfl⟩
    go_wp2_with fail
    refine (impl_SeamText (some ⟨gA, 0, none⟩) nA cA av st w15 HAL.out.1 (by omega) HA15.out (HT.out.below HB15.out.1)).mono ?_
    rw [htx]
    rintro e w16 ⟨rfl, hb16⟩
    have HC16 := Lib.hid (HC15.out.below hb16)
    have HA16 := Lib.hid (HA15.out.below hb16)
    have HRP16 := Lib.hid (HRP15.out.below hb16)
    have HRQ16 := Lib.hid (HRQ15.out.below hb16)
    have HD16 := Lib.hid (HD15.out.below hb16)
    have HRM16 := Lib.hid (HRM15.out.below hb16)
    have HRN16 := Lib.hid (HRN15.out.below hb16)
    have HE16 := Lib.hid (HE15.out.below hb16)
    have HB16 := Lib.hid (HB15.out.step hb16)
    clear hb16
    go_wp2_with fail
    refine (spec_SeamText gA nA cA av st w16 HAL.out.1 (by omega) HA16.out).mono ?_
    rw [htx]
    rintro e w17 ⟨rfl, hb17⟩
    have HC17 := Lib.hid (HC16.out.below hb17)
    have HA17 := Lib.hid (HA16.out.below hb17)
    have HRP17 := Lib.hid (HRP16.out.below hb17)
    have HRQ17 := Lib.hid (HRQ16.out.below hb17)
    have HD17 := Lib.hid (HD16.out.below hb17)
    have HRM17 := Lib.hid (HRM16.out.below hb17)
    have HRN17 := Lib.hid (HRN16.out.below hb17)
    have HE17 := Lib.hid (HE16.out.below hb17)
    have HB17 := Lib.hid (HB16.out.step hb17)
    clear hb17
    clear htx
    go_upto_block 0 with fail
    go_cut [] (fun W => Hid (Bel w17.heap.size w17 W))
    case first =>
      by_cases hsc : sidesC av nA st = 0
      · obtain ⟨hsb, s1, s2⟩ := sides_ok hsc
        have e2 : lensF av nA st = lensI av st nA := by simp [lensF, hsc]
        have HLen := Lib.hid (fun k (hk : k < nA) => cn_bd hsb HAL.out.1 s1 hk)
        have HMul := Lib.hid (fun k (hk : k < nA) => lens_mul (zs := av) (s := st) hk (cn_bd hsb HAL.out.1 s1 hk).2.2.1)
        have HAt := Lib.hid (fun k (hk : k < nA) => lens_at av st hk)
        obtain rfl : nP = nA := by have := HLP.out; rw [e2, length_lensI] at this; omega
        have HRp := Lib.hid (show CellsAt w17 aP ((lensI av st nP).map (Value.int .i64)) by rw [← e2]; exact HRP17.out)
        have HRq := Lib.hid (show CellsAt w17 aQ ((lensI av st nP).map (Value.int .i64)) by rw [← e2]; exact HRQ17.out)
        have HLl := Lib.hid (length_lensI av st nP)
        generalize lensI av st nP = L at HMul HAt HRp HRq HLl
        clear e2 hsc hsb
        go_wp2_with fail
        go_loopw [32, 33, 34] (fun u _ _ wr => ∃ k : Nat, k ≤ nP ∧ u = .int .i64 (k : Int) ∧ Hid (Bel w17.heap.size w17 wr)) (fun u _ _ _ => nP - (intOf u).toNat)
        case atStart => exact ⟨0, Nat.zero_le _, rfl, Lib.hid (Bel.refl _)⟩
        case round =>
          obtain ⟨k, hk, rfl, hbw⟩ := hrel
          by_cases hlt : k < nP
          · have hlt' : (k : Int) < (nP : Int) := by omega
            obtain ⟨bA, oA, hae, hbA, hcA⟩ := HA17.out.at_ (by have := HAL.out.1; simp; omega)
            obtain ⟨rfl, rfl⟩ : gA = bA ∧ 0 = oA := by simpa using hae
            obtain ⟨bP, oP, rfl, hbP, hcP⟩ := HRp.out.at_ (by have := HLl.out; simp; omega)
            obtain ⟨bQ, oQ, rfl, hbQ, hcQ⟩ := HRq.out.at_ (by have := HLl.out; simp; omega)
            obtain ⟨z, hz⟩ : ∃ x, av.getD k 0 = x := ⟨_, rfl⟩
            obtain ⟨x, hx⟩ : ∃ x, L.getD (k * 2) 0 = x := ⟨_, rfl⟩
            obtain ⟨y, hy⟩ : ∃ x, L.getD (k * 2 + 1) 0 = x := ⟨_, rfl⟩
            obtain ⟨c, hc⟩ : ∃ x, cn av st k = x := ⟨_, rfl⟩
            have hlen := HLen.out k hlt
            rw [hz, hc] at hlen
            obtain ⟨z1, z2, c1, c2⟩ := hlen
            have hmul := HMul.out k hlt
            rw [hx, hy, hz, hc] at hmul
            have hat := HAt.out k hlt
            rw [hx, hy, hz, hc] at hat
            have hrel := rel_low (z := z) c1
            rw [← hat.1, ← hat.2] at hrel
            obtain ⟨x0, x1, y0, y1⟩ := rel_bd hrel (by omega) c1
            have m1 := prod_bd (a := x) (b := c) (A := 5000) (B := 5001) x0 (by omega) (by omega) c2
            obtain ⟨v, hv⟩ : ∃ v, x * c = v := ⟨_, rfl⟩
            rw [hv] at m1 hmul
            have v1 : IntKind.i64.wrap (x * c) = v := by rw [hv]; exact IntWalk.i64_in _ (by omega)
            have v2 : IntKind.i64.wrap (z * y) = v := by rw [← hmul]; exact IntWalk.i64_in _ (by omega)
            have kz := cell_at1 hbA hbw.out.1 hcA (j := k) (by rw [HAL.out.1]; exact hlt) hz
            rw [Nat.zero_add] at kz
            have p1 := cell_at1 hbP hbw.out.1 hcP (j := k * 2) (by rw [HLl.out]; omega) hx
            have p2 := cell_at1 hbP hbw.out.1 hcP (j := k * 2 + 1) (by rw [HLl.out]; omega) hy
            have q1 := cell_at1 hbQ hbw.out.1 hcQ (j := k * 2) (by rw [HLl.out]; omega) hx
            have q2 := cell_at1 hbQ hbw.out.1 hcQ (j := k * 2 + 1) (by rw [HLl.out]; omega) hy
            rw [← Nat.add_assoc] at p2 q2
            obtain ⟨f1, f2⟩ := for_ok (a := z) (s := st) (inB_true.2 ⟨z1, z2⟩) (inB_true.2 ⟨s1, s2⟩)
            have f3 : cntI z st = c := by rw [← hc, ← hz]; rfl
            rw [f3] at f1
            have hfor := fun W => impl_StitchesFor z st W
            simp only [f1, f2] at hfor
            have HFor := Lib.hid hfor
            have HV := Lib.hid (And.intro hv hmul)
            have g1 : ((0 : Int) != 0) = false := by rfl
            have g2 : (v != v) = false := by simp
            clear hcA hcP hcQ hz hx hy hc hmul hat hrel hv hfor f1 f2 f3 hae
            go_wp2_with fail
            refine (HFor.out _).mono ?_
            rintro e wq ⟨rfl, rfl⟩
            go_wp2_with fail
            go_big_quiet (fail)
            go_wp2_with fail
            go_roundw
            case rel => exact ⟨k + 1, by omega, by go_num, Lib.hid (hbw.out.drewN _)⟩
            case measure => simp [intOf]; omega
          · obtain rfl : k = nP := by omega
            go_wp2_with fail
            go_meet
            exact hbw
      · obtain rfl : nP = 0 := by have := HLP.out; simp [lensF, hsc] at this; omega
        go_wp2_with fail
        refine wp_loop_once ?_
        go_wp2_with fail
        go_meet
        exact Lib.hid (Bel.refl _)
    case rest =>
      have HBr := Lib.hid (HB17.out.step hcut.out.1)
      have HDr := Lib.hid (HD17.out.below hcut.out.1)
      have HNr := Lib.hid (HRN17.out.below hcut.out.1)
      clear hcut
      obtain ⟨cc3, hcc3⟩ : ∃ v, countsC ds nD many = v := ⟨_, rfl⟩
      rw [hcc3]
      have HCc := Lib.hid hcc3
      clear hcc3
      go_upto_if 238 with fail
      obtain ⟨bb, hbb⟩ : ∃ b, (cc3 == 0) = b := ⟨_, rfl⟩
      rw [hbb]
      have HBb := Lib.hid hbb
      clear hbb
      go_cut [238] (fun _ W => Hid (Bel wc.heap.size wc W))
      case first =>
        cases bb
        · go_wp2_with fail
          go_meet
          exact Lib.hid (Bel.refl _)
        · have hc0 : countsC ds nD many = 0 := by have := HBb.out; rw [HCc.out]; simpa using this
          have hcp : sidesB ds nD = true ∧ inB many 1 1000 = true ∧ (nD : Int) ≤ many := by
            unfold countsC at hc0
            split at hc0
            · rename_i h1
              split at hc0
              · rename_i h2
                split at hc0
                · omega
                · rename_i h3; exact ⟨h1, h2, by omega⟩
              · omega
            · omega
          obtain ⟨hsb, hmi, hmn⟩ := hcp
          have hn1 := sides_n hsb
          have hmb := inB_true.1 hmi
          have e2 : countsF ds nD many = cntsI ds nD (many - nD).toNat := by simp only [countsF, hsb, hmi, if_true]; rw [if_neg (by omega)]
          have hsum := cnts_sum ds hn1.1 (many - nD).toNat
          rw [show (nD : Int) + ((many - nD).toNat : Nat) = many by omega] at hsum
          have HFair := Lib.hid (cnts_fair (zs := ds) (n := nD) (fun j hj => by have := sides_at hsb HDL.out.1 hj; omega) (many - nD).toNat)
          have HBd := Lib.hid (fun j (hj : j < nD) => (show 1 ≤ (cntsI ds nD (many - nD).toNat).getD j 0 ∧ (cntsI ds nD (many - nD).toNat).getD j 0 ≤ 1001 from by have := cntsI_bd ds nD (many - nD).toNat j hj; omega))
          have HSd := Lib.hid (fun j (hj : j < nD) => sides_at hsb HDL.out.1 hj)
          obtain rfl : nM = nD := by have := HLM.out; rw [e2, length_cntsI] at this; omega
          have HRn := Lib.hid (show CellsAt wc aN ((cntsI ds nM (many - nM).toNat).map (Value.int .i64)) by rw [← e2]; exact HNr.out)
          have HLl := Lib.hid (length_cntsI ds nM (many - nM).toNat)
          generalize cntsI ds nM (many - nM).toNat = L at HFair HBd HRn HLl hsum
          have hsm := fun W h => f6sum_any W aN nM cN L HLl.out (by omega) (fun z hz => by
            obtain ⟨j, hj, rfl⟩ := List.getElem_of_mem hz
            have hb := HBd.out j (by rw [← HLl.out]; exact hj)
            have e : L.getD j 0 = L[j] := by simp [List.getElem?_eq_getElem hj]
            rw [e] at hb
            omega) h
          simp only [hsum] at hsm
          have HSm := Lib.hid hsm
          clear hc0 hsb hmi e2 hsum hsm
          go_wp2_with fail
          refine (HSm.out wc HRn.out).mono ?_
          rintro e ws ⟨rfl, hbs⟩
          have HBs := Lib.hid (Bel.of hbs)
          have HDs := Lib.hid (HDr.out.below hbs)
          have HRs := Lib.hid (HRn.out.below hbs)
          clear hbs
          go_wp2_with fail
          go_loopw [35, 36] (fun u _ wr => ∃ i : Nat, i ≤ nM ∧ u = .int .i64 (i : Int) ∧ Hid (Bel ws.heap.size ws wr)) (fun u _ _ => nM - (intOf u).toNat)
          case atStart => exact ⟨0, Nat.zero_le _, rfl, Lib.hid (Bel.refl _)⟩
          case round =>
            obtain ⟨i, hi, rfl, hbw⟩ := hrel
            by_cases hlt : i < nM
            · have hlt' : (i : Int) < (nM : Int) := by omega
              go_wp2_with fail
              go_loopw [36] (fun u wi => ∃ k : Nat, k ≤ nM ∧ u = .int .i64 (k : Int) ∧ Hid (Bel ws.heap.size ws wi)) (fun u _ => nM - (intOf u).toNat)
              case atStart => exact ⟨0, Nat.zero_le _, rfl, hbw⟩
              case round =>
                clear hbw
                obtain ⟨k, hk, rfl, hbw⟩ := hrel
                by_cases hltk : k < nM
                · have hltk' : (k : Int) < (nM : Int) := by omega
                  obtain ⟨bD, oD, hde, hbD, hcD⟩ := HDs.out.at_ (by have := HDL.out.1; simp; omega)
                  obtain ⟨rfl, rfl⟩ : gD = bD ∧ 0 = oD := by simpa using hde
                  obtain ⟨bN, oN, rfl, hbN, hcN⟩ := HRs.out.at_ (by have := HLl.out; simp; omega)
                  obtain ⟨zi, hzi⟩ : ∃ x, ds.getD i 0 = x := ⟨_, rfl⟩
                  obtain ⟨zk, hzk⟩ : ∃ x, ds.getD k 0 = x := ⟨_, rfl⟩
                  obtain ⟨li, hli⟩ : ∃ x, L.getD i 0 = x := ⟨_, rfl⟩
                  obtain ⟨lk, hlk⟩ : ∃ x, L.getD k 0 = x := ⟨_, rfl⟩
                  have c1 := cell_at1 hbD hbw.out.1 hcD (j := i) (by rw [HDL.out.1]; exact hlt) hzi
                  have c2 := cell_at1 hbD hbw.out.1 hcD (j := k) (by rw [HDL.out.1]; exact hltk) hzk
                  rw [Nat.zero_add] at c1 c2
                  have c3 := cell_at1 hbN hbw.out.1 hcN (j := i) (by rw [HLl.out]; exact hlt) hli
                  have c4 := cell_at1 hbN hbw.out.1 hcN (j := k) (by rw [HLl.out]; exact hltk) hlk
                  have bzi := HSd.out i hlt
                  have bzk := HSd.out k hltk
                  have bli := HBd.out i hlt
                  have blk := HBd.out k hltk
                  rw [hzi] at bzi
                  rw [hzk] at bzk
                  rw [hli] at bli
                  rw [hlk] at blk
                  have hfair := HFair.out i k hlt hltk
                  rw [hzi, hzk, hli, hlk] at hfair
                  have m1 := prod_bd (a := zk) (b := li) (A := 5000) (B := 1001) (by omega) (by omega) (by omega) (by omega)
                  have m2 := prod_bd (a := zi) (b := lk - 1) (A := 5000) (B := 1001) (by omega) (by omega) (by omega) (by omega)
                  obtain ⟨v1, hv1⟩ : ∃ v, zk * li = v := ⟨_, rfl⟩
                  obtain ⟨v2, hv2⟩ : ∃ v, zi * (lk - 1) = v := ⟨_, rfl⟩
                  rw [hv1] at m1 hfair
                  rw [hv2] at m2 hfair
                  have u1 : IntKind.i64.wrap (zk * li) = v1 := by rw [hv1]; exact IntWalk.i64_in _ (by omega)
                  have u2 : IntKind.i64.wrap (lk - 1) = lk - 1 := IntWalk.i64_in _ (by omega)
                  have u3 : IntKind.i64.wrap (zi * (lk - 1)) = v2 := by rw [hv2]; exact IntWalk.i64_in _ (by omega)
                  have HV := Lib.hid (And.intro hv1 hv2)
                  clear hcD hcN hzi hzk hli hlk hv1 hv2 hde
                  by_cases h1 : 1 < lk
                  · have g1 : decide (1 < lk) = true := by simpa using h1
                    have g2 : decide (v1 < v2) = false := by have := hfair h1; simp; omega
                    clear hfair
                    go_wp2_with fail
                    go_big_quiet (fail)
                    go_wp2_with fail
                    go_roundw
                    case rel => exact ⟨k + 1, by omega, by go_num, Lib.hid (hbw.out.drewN _)⟩
                    case measure => simp [intOf]; omega
                  · have g1 : decide (1 < lk) = false := by simpa using h1
                    clear hfair
                    go_wp2_with fail
                    go_big_quiet (fail)
                    go_wp2_with fail
                    go_roundw
                    case rel => exact ⟨k + 1, by omega, by go_num, Lib.hid (hbw.out.drewN _)⟩
                    case measure => simp [intOf]; omega
                · obtain rfl : k = nM := by omega
                  go_wp2_with fail
                  go_roundw
                  case rel => exact ⟨i + 1, by omega, by go_num, hbw⟩
                  case measure => simp [intOf]; omega
            · obtain rfl : i = nM := by omega
              go_wp2_with fail
              go_meet
              exact Lib.hid (HBs.out.step hbw.out.1)
      case rest =>
        have HBt := Lib.hid (HBr.out.step hcut.out.1)
        clear hcut
        cases hfc : (inB si 1 5000 && inB wa 10 120) with
        | false =>
          obtain ⟨e1, e2⟩ := for_bad hfc
          rw [e1, e2]
          clear hfc e1 e2
          go_wp2_with fail
          go_ret
          exact ⟨rfl, HBt.out.1⟩
        | true =>
          rw [Bool.and_eq_true] at hfc
          obtain ⟨e1, e2⟩ := for_ok hfc.1 hfc.2
          have b1 := inB_true.1 hfc.1
          have b2 := inB_true.1 hfc.2
          have hbd := cntI_bd (a := si) (s := wa) (by omega) (by omega)
          rw [e1, e2]
          obtain ⟨n, hn⟩ : ∃ v, cntI si wa = v := ⟨_, rfl⟩
          rw [hn] at hbd ⊢
          have hnear := (cnt_near (by omega) hn).2
          clear hfc e1 e2 hn
          by_cases h1 : n = 1
          · subst h1
            clear hnear
            go_wp2_with fail
            go_ret
            exact ⟨rfl, HBt.out.1⟩
          · have hnear2 : 2 * n * wa ≤ 2 * si + wa ∧ 2 * si - wa < 2 * n * wa := by
              rcases hnear with h | h
              · exact absurd h h1
              · exact h
            have m1 := prod_bd (a := 2 * n) (b := wa) (A := 10002) (B := 120) (by omega) (by omega) (by omega) (by omega)
            obtain ⟨v, hv⟩ : ∃ v, 2 * n * wa = v := ⟨_, rfl⟩
            rw [hv] at m1 hnear2
            obtain ⟨k1, k2⟩ := hnear2
            have g0 : (n == 1) = false := by simpa using h1
            have u1 : IntKind.i64.wrap (2 * n) = 2 * n := IntWalk.i64_in _ (by omega)
            have u2 : IntKind.i64.wrap (2 * n * wa) = v := by rw [hv]; exact IntWalk.i64_in _ (by omega)
            have g1 : decide (1 ≤ n) = true := by simp; omega
            have HV := Lib.hid hv
            clear hnear hv
            go_wp2_with fail
            go_ret
            exact ⟨rfl, HBt.out.1⟩
  · clear s0 w0
    go_enter Tryd.func9, Tryd.ntmps9
    go_wp2_with go_in
    go_ret
    exact ⟨rfl, Below.refl _ _⟩
end Go.Proofs.YtfkojbkgpbpjhaaDoor
