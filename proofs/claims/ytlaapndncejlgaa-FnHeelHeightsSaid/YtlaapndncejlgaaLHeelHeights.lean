/-
  The law FnHeelHeights returns true for all arguments. No condition.
-/
import Derived.Test.YtlaapndncejlgaaHHelp
import Derived.Test.YtlaapndncejlgaaLastDraw
import Derived.Test.YtlaapndncejlgaaRows
import Derived.Test.YtlaapndncejlgaaBase
import Derived.Outline
namespace Go.Proofs.Ytlaapndncejlgaa
open Go.ChangeShapes Go.WideShapes Go.ChangeAt Go.RowKit Go.Deep
open Go.ChangeMaps (open_string shut_string)
open Go.Joins


theorem code_at {w : World} {a : Option Addr} {n : Nat} {zs : List Int} (l : zs.length = n) (h : CellsAt w a (zs.map (Value.int .u8))) (hw : ∀ z ∈ zs, (Lit.int .u8 z).wf = true) (hn : n ≤ 1048576) : CodeAt w a n :=
  ⟨zs, h, l, fun z hz => by
    have h := hw z hz
    have e1 : IntKind.u8.min = 0 := by rfl
    have e2 : IntKind.u8.max = 255 := by rfl
    simp [Lit.wf, e1, e2] at h; omega, hn⟩
theorem wf_of {z : Int} (h1 : -9223372036854775808 ≤ z) (h2 : z ≤ 9223372036854775807) : (Lit.int .i64 z).wf = true := by
  have e1 : IntKind.i64.min = -9223372036854775808 := by rfl
  have e2 : IntKind.i64.max = 9223372036854775807 := by rfl
  simp [Lit.wf, e1, e2]; omega
theorem dot_nil (zs : List Int) : ∀ i, dotTo zs [] i = 0
  | 0 => rfl
  | i + 1 => by simp [dotTo, dot_nil zs i]
/-- The height 0 can be built. -/
theorem can_zero {zs : List Int} {n : Nat} (hok : stockB zs n = true) : canP zs n 1 0 = true := by
  have hh : IsHeel zs [] n 1 := fun j hj => by
    have h := stockB_at hok hj
    rw [Int.ediv_one]
    exact ⟨by simp, by have := h.2.2.1; simpa using this⟩
  have h := few_le (t := 1) hok hh n 0 0 (by omega) (by omega) (by rw [dot_nil, dot_nil]; rfl)
  simp [canP, h.1]
theorem bhC_can {zs : List Int} {n H : Nat} (hok : stockB zs n = true) (hH : H ≤ 1200) : bhC zs n 1 (H : Int) = if canP zs n 1 H then 0 else 3 := by
  have h1 : hcodeI zs n (H : Int) = 0 := by
    have : inB (H : Int) 0 1200 = true := inB_true.2 (by omega)
    simp [hcodeI, hok, this]
  simp [bhC, h1, heelC]
theorem slope_law {p g : Int} (hg : g = (Int.gcd p 1000 : Int)) : 1 ≤ 1000 / g ∧ 1000 / g ≤ 1000 ∧ (p / g) * 1000 = p * (1000 / g) := by
  have h1 : g ∣ p := by rw [hg]; exact Int.gcd_dvd_left ..
  have h2 : g ∣ 1000 := by rw [hg]; exact Int.gcd_dvd_right ..
  have h0 : 0 < g := by
    rw [hg]
    have : Int.gcd p 1000 ≠ 0 := by
      intro e
      have := (Int.gcd_eq_zero_iff.1 e).2
      omega
    omega
  obtain ⟨x, hx⟩ := h1
  obtain ⟨y, hy⟩ := h2
  rw [hy, hx, Int.mul_ediv_cancel_left _ (by omega), Int.mul_ediv_cancel_left _ (by omega)]
  have y0 : 0 < y := by
    rcases Int.lt_or_le 0 y with h | h
    · exact h
    · have := Int.mul_nonneg (show 0 ≤ g by omega) (show 0 ≤ -y by omega)
      rw [Int.mul_neg] at this
      omega
  refine ⟨by omega, ?_, ?_⟩
  · have h3 := Int.mul_le_mul (show 1 ≤ g by omega) (Int.le_refl y) (by omega) (by omega)
    omega
  · rw [Int.mul_comm g x, Int.mul_assoc]

theorem derby_ok : okName derby = true := by decide
theorem last_ok {l b i h q : Int} (hf : 500 ≤ l ∧ l ≤ 5000 ∧ 500 ≤ b ∧ b ≤ 5000 ∧ 500 ≤ i ∧ i ≤ 5000 ∧ 500 ≤ h ∧ h ≤ 5000 ∧ 0 ≤ q ∧ q ≤ 590) : lastB derby l b i h q = true := by
  simp only [lastB, derby_ok, footB, Bool.true_and, Bool.and_eq_true, inB_true]
  omega
set_option maxRecDepth 100000 in
set_option maxHeartbeats 12800000 in
theorem FnHeelHeights_walk (w : World) (a0 : Option Addr) (n0 c0 : Nat) (z0 : List Int) (l0 : z0.length = n0) (_ : n0 ≤ maxLen) (s0 : CellsAt w a0 (z0.map (Value.int .u8))) (w0 : ∀ z ∈ z0, (Lit.int .u8 z).wf = true)
    (a1 : Option Addr) (n1 c1 : Nat) (z1 : List Int) (l1 : z1.length = n1) (_ : n1 ≤ maxLen) (s1 : CellsAt w a1 (z1.map (Value.int .u8))) (w1 : ∀ z ∈ z1, (Lit.int .u8 z).wf = true) :
    Calls Try.prog 13 #[.slice a0 n0 c0, .slice a1 n1 c1] w (LawEnd w) := by
  by_cases g0 : n0 ≤ 3000
  · by_cases g1 : n1 ≤ 3000
    · have HC0 := Lib.hid (code_at l0 s0 w0 (by omega))
      have HC1 := Lib.hid (code_at l1 s1 w1 (by omega))
      clear l0 s0 w0 l1 s1 w1
      go_enter Try.func13, Try.ntmps13
      go_wp2_with (go_at_call 42; go_in)
      refine (a2Stock_any w n0 c0 a0 HC0.out).mono ?_
      rintro e w1 ⟨g, n, c, zs, rfl, hl, hok, hst, hb1⟩
      have n6 : n ≤ 6 := by
        simp only [stockB, Bool.and_eq_true, decide_eq_true_eq] at hok
        exact hok.2
      have HL := Lib.hid hl
      have HK := Lib.hid hok
      have HS := Lib.hid (CellsAt.of_own hst)
      have HB := Lib.hid (Bel.of hb1)
      have hcode : ∀ x : Nat, x ≤ 1200 → hcodeI zs n (x : Int) = 0 := fun x hx => by
        have : inB (x : Int) 0 1200 = true := inB_true.2 (by omega)
        simp [hcodeI, hok, this]
      have hh := implHeights_c w1 g n c zs hl (by omega) HS.out 200
      rw [show hcodeI zs n 200 = 0 from hcode 200 (by omega), show hhF zs n 200 = segI (canP zs n 1) 0 201 by simp [hhF, show hcodeI zs n 200 = 0 from hcode 200 (by omega)]] at hh
      have HCo := Lib.hid hcode
      have HP0 := Lib.hid (can_zero hok)
      have HH := Lib.hid hh
      clear hl hok hst hb1 hcode hh
      go_wp2_with fail
      refine HH.out.mono ?_
      rintro e w2 ⟨aL, nL, cL, rfl, hlen, hle, hoL, hb2⟩
      have hrise := fun k (hk : k < nL) => segI_rise (p := canP zs n 1) (d := 201) (k := k) (by omega)
      have hmem := fun (j : Nat) => segI_mem (p := canP zs n 1) (a := 0) (d := 201) (j := j)
      have hhas := fun x (hx : x ∈ segI (canP zs n 1) 0 201) => segI_has hx
      obtain ⟨L, hL⟩ : ∃ L, segI (canP zs n 1) 0 201 = L := ⟨_, rfl⟩
      rw [hL] at hlen hoL hrise
      simp only [hL] at hmem hhas
      replace HS := Lib.hid (HS.out.below hb2)
      replace HB := Lib.hid (HB.out.step hb2)
      have HLL := Lib.hid (show L.length = nL by omega)
      have HLC := Lib.hid (CellsAt.of_own hoL)
      have HRi := Lib.hid hrise
      have HMe := Lib.hid hmem
      have HHa := Lib.hid hhas
      have hnL : nL ≤ 201 := by have := segI_length (canP zs n 1) 0 201; rw [hL] at this; omega
      clear hlen hle hoL hb2 hrise hmem hhas hL HH
      go_wp2_with fail
      refine (a2At_any w2 n1 c1 a1 0 190 (HC1.out.below HB.out.1) (by omega) (by omega) (by omega)).mono ?_
      rintro e _ ⟨⟨H0, rfl, h1, h2⟩, rfl⟩
      obtain ⟨H, rfl⟩ : ∃ H : Nat, H0 = (H : Int) := ⟨H0.toNat, by omega⟩
      have hH : H ≤ 189 := by omega
      obtain ⟨b, hb, hb12, hpb, hnear⟩ := near_facts HP0.out (H : Int) 1200
      have hn := implNear_c w2 g n c zs HL.out (by omega) HS.out (H : Int)
      rw [HCo.out H (by omega), show nearF zs n (H : Int) = (b : Int) by rw [nearF, if_pos (HCo.out H (by omega)), hb]] at hn
      have HNe := Lib.hid hn
      have HNr := Lib.hid hnear
      have HPb := Lib.hid hpb
      clear hn hnear hpb hb h1 h2
      go_wp2_with fail
      refine HNe.out.mono ?_
      rintro e w3 ⟨rfl, hb3⟩
      replace HS := Lib.hid (HS.out.below hb3)
      replace HB := Lib.hid (HB.out.step hb3)
      replace HLC := Lib.hid (HLC.out.below hb3)
      clear hb3 HNe
      have hbh := fun W (x : Nat) (hx : x ≤ 1200) (hc : CellsAt W (some ⟨g, 0, none⟩) (zs.map (Value.int .i64))) => implBuild_c W g n c zs HL.out (by omega) hc (x : Int)
      have HBH := Lib.hid hbh
      have hbc := bhC_can (zs := zs) (n := n) (H := H) HK.out (by omega)
      have hbb := bhC_can (zs := zs) (n := n) (H := b) HK.out hb12
      rw [HPb.out, if_pos rfl] at hbb
      obtain ⟨T, hT⟩ : ∃ T, bhC zs n 1 (H : Int) = T := ⟨_, rfl⟩
      obtain ⟨hd, hhd⟩ : ∃ hd, decide ((H : Int) ∈ L) = hd := ⟨_, rfl⟩
      have hways : (T = 0 ∧ hd = true ∧ ((b : Int) != (H : Int)) = false) ∨ (T = 3 ∧ hd = false) := by
        have hm := HMe.out H
        cases hc : canP zs n 1 H with
        | true =>
          left
          rw [hc, if_pos rfl] at hbc
          have hN := (HNr.out H (by omega) hc)
          refine ⟨by rw [← hT, hbc], by rw [← hhd, decide_eq_true_eq]; exact hm.2 ⟨by omega, by omega, hc⟩, ?_⟩
          have : (b : Int) = (H : Int) := by omega
          simp [this]
        | false =>
          right
          rw [hc] at hbc
          refine ⟨by rw [← hT, hbc]; rfl, by rw [← hhd, decide_eq_false_iff_not]; intro h; have := (hm.1 h).2.2; rw [hc] at this; cases this⟩
      have h0m : decide ((0 : Int) ∈ L) = true := by
        have := (HMe.out 0).2 ⟨Nat.le_refl _, by omega, HP0.out⟩
        simpa using this
      have HHd := Lib.hid (fun W (hc : CellsAt W aL (L.map (Value.int .i64))) => callsB (R := fun W' => W = W') (a2Has_any aL nL cL L (H : Int) W HLL.out (by omega) hc) hhd)
      have HH0 := Lib.hid (fun W (hc : CellsAt W aL (L.map (Value.int .i64))) => callsB (R := fun W' => W = W') (a2Has_any aL nL cL L 0 W HLL.out (by omega) hc) h0m)
      have hbT := HBH.out w3 H (by omega) HS.out
      rw [hT] at hbT
      have HBT := Lib.hid hbT
      have HBB := Lib.hid hbb
      clear hbh hbc hbb hhd h0m hT hbT
      go_wp2_with fail
      refine HBT.out.mono ?_
      rintro e w4 ⟨_, _, _, rfl, _, _, _, hb4⟩
      replace HS := Lib.hid (HS.out.below hb4)
      replace HB := Lib.hid (HB.out.step hb4)
      replace HLC := Lib.hid (HLC.out.below hb4)
      clear hb4 HBT
      have hb12' : (b : Int) ≤ 1200 := by omega
      rcases hways with ⟨rfl, rfl, gN⟩ | ⟨rfl, rfl⟩
      all_goals
        go_wp2_with fail
        refine (a2Rises_any aL nL cL L 201 w4 HLL.out (by omega) HLC.out HRi.out).mono ?_
        rintro e w5 ⟨rfl, hb5⟩
        have HS5 := Lib.hid (HS.out.below hb5)
        have HB5 := Lib.hid (HB.out.step hb5)
        have HLC5 := Lib.hid (HLC.out.below hb5)
        clear hb5
        go_wp2_with fail
        refine (HH0.out _ HLC5.out).mono ?_
        rintro e _ ⟨rfl, rfl⟩
        go_wp2_with fail
        refine (HHd.out _ HLC5.out).mono ?_
        rintro e _ ⟨rfl, rfl⟩
        go_wp2_with fail
        refine (HHd.out _ HLC5.out).mono ?_
        rintro e _ ⟨rfl, rfl⟩
        go_wp2_with fail
        have hbz := HBH.out w5 b hb12 HS5.out
        rw [HBB.out] at hbz
        refine hbz.mono ?_
        clear hbz
        rintro e w6 ⟨_, _, _, rfl, _, _, _, hb6⟩
        have HB6 := Lib.hid (HB5.out.step hb6)
        have HLC6 := Lib.hid (HLC5.out.below hb6)
        clear hb6
        go_wp2_with fail
        go_loopw [15, 16] (fun u _ wr => ∃ i : Nat, i ≤ nL ∧ u = .int .i64 i ∧ Hid (wr = w6)) (fun u _ _ => nL - (intOf u).toNat)
        case atStart => exact ⟨0, Nat.zero_le _, rfl, Lib.hid rfl⟩
        case round =>
          obtain ⟨i, hi, rfl, hwr⟩ := hrel
          have hw' := hwr.out
          subst hw'
          by_cases hlt : i < nL
          · obtain ⟨bb, o, rfl, hbb, hcc⟩ := HLC6.out.at_ (by have := HLL.out; simp; omega)
            obtain ⟨x, hx⟩ : ∃ x, L.getD i 0 = x := ⟨_, rfl⟩
            have k1 := cell_int hbb (Below.refl _ _) hcc (by rw [HLL.out]; exact hlt) hx
            have hxm : x ∈ L := by
              have e : L.getD i 0 = L[i]'(by rw [HLL.out]; exact hlt) := by simp [List.getElem?_eq_getElem (show i < L.length by rw [HLL.out]; exact hlt)]
              rw [← hx, e]
              exact List.getElem_mem _
            obtain ⟨j, rfl, _, hj2, hj3⟩ := HHa.out x hxm
            have hN := HNr.out j (by omega) hj3
            have c1 := fun W => a2Size_any ((j : Int) - (H : Int)) W (by omega) (by omega)
            have c2 := fun W => a2Size_any ((b : Int) - (H : Int)) W (by omega) (by omega)
            obtain ⟨d1, hd1⟩ : ∃ d, ((((j : Int) - (H : Int)).natAbs : Nat) : Int) = d := ⟨_, rfl⟩
            obtain ⟨d2, hd2⟩ : ∃ d, ((((b : Int) - (H : Int)).natAbs : Nat) : Int) = d := ⟨_, rfl⟩
            simp only [hd1] at c1
            simp only [hd2] at c2
            have C1 := Lib.hid c1
            have C2 := Lib.hid c2
            have f1 : d2 ≤ d1 := by omega
            have v1 : IntKind.i64.wrap ((j : Int) - (H : Int)) = (j : Int) - (H : Int) := IntWalk.i64_in _ (by omega)
            have v2 : IntKind.i64.wrap ((b : Int) - (H : Int)) = (b : Int) - (H : Int) := IntWalk.i64_in _ (by omega)
            have i1 : (i : Int) < (nL : Int) := by omega
            have hq : d1 = d2 → b ≤ j := fun e => hN.2 (by omega)
            have HQ := Lib.hid hq
            clear hcc hx hxm hN c1 c2 hd1 hd2 hj3 hq hwr
            go_wp2_with fail
            refine (C1.out _).mono ?_
            rintro e _ ⟨rfl, rfl⟩
            go_wp2_with fail
            refine (C2.out _).mono ?_
            rintro e _ ⟨rfl, rfl⟩
            go_wp2_with fail
            refine (C2.out _).mono ?_
            rintro e _ ⟨rfl, rfl⟩
            by_cases he : d1 = d2
            · have hbj := HQ.out he
              have f2 : (b : Int) ≤ (j : Int) := by omega
              subst he
              go_wp2_with fail
              go_roundw
              case rel => exact ⟨i + 1, by omega, by go_num, Lib.hid trivial⟩
              case measure => simp [intOf]; omega
            · have f3 : (d1 == d2) = false := by simpa using he
              go_wp2_with fail
              go_roundw
              case rel => exact ⟨i + 1, by omega, by go_num, Lib.hid trivial⟩
              case measure => simp [intOf]; omega
          · go_wp2_with fail
            refine (a2At_any wr n1 c1 a1 1 200 (HC1.out.below HB6.out.1) (by omega) (by omega) (by omega)).mono ?_
            rintro e _ ⟨⟨r0, rfl, r1, r2⟩, rfl⟩
            have r3 : r0 ≤ 199 := by omega
            go_wp2_with fail
            refine (a2At_any wr n1 c1 a1 2 190 (HC1.out.below HB6.out.1) (by omega) (by omega) (by omega)).mono ?_
            rintro e _ ⟨⟨l0, rfl, l1, l2⟩, rfl⟩
            have l3 : l0 ≤ 189 := by omega
            have hst := stepsLeft_any (H : Int) l0 (1 + r0) wr (by omega) (by omega) (by omega) (by omega) (by omega) (by omega)
            by_cases hle : (H : Int) ≤ l0
            · rw [if_pos hle, if_pos hle] at hst
              have HST := Lib.hid hst
              clear hst
              go_wp2_with fail
              refine HST.out.mono ?_
              rintro e w7 ⟨rfl, hb7⟩
              have HB7 := Lib.hid (HB6.out.step hb7)
              clear hb7
              go_wp2_with fail
              go_ret
              exact lawEnd_of HB7.out
            · rw [if_neg hle, if_neg hle] at hst
              have hd := div_up (d := (H : Int) - l0) (r := 1 + r0) (by omega)
              have p1 := Int.mul_le_mul (show 1 ≤ (H : Int) - l0 by omega) (show 1 ≤ 1 + r0 by omega) (by omega) (by omega)
              have p2 := Int.mul_le_mul (show (H : Int) - l0 ≤ 189 by omega) (show 1 + r0 ≤ 200 by omega) (by omega) (by omega)
              obtain ⟨S, hS⟩ : ∃ S, ((H : Int) - l0) * (1 + r0) = S := ⟨_, rfl⟩
              rw [hS] at hst hd p1 p2
              have s1 : 1 ≤ S := by omega
              have s2 : S ≤ 37800 := by omega
              have hw1 := fun W => wearHeel_any (H : Int) S (1 + r0) W (by omega) (by omega) (by omega) (by omega) (by omega) (by omega) ((H : Int) - l0) hd.1 (by omega)
              have hw2 := fun W => wearHeel_any (H : Int) (S - 1) (1 + r0) W (by omega) (by omega) (by omega) (by omega) (by omega) (by omega) ((H : Int) - l0 - 1) hd.2 (by omega)
              rw [show max ((H : Int) - ((H : Int) - l0)) 0 = l0 by omega] at hw1
              rw [show max ((H : Int) - ((H : Int) - l0 - 1)) 0 = l0 + 1 by omega] at hw2
              have HST := Lib.hid hst
              have HW1 := Lib.hid hw1
              have HW2 := Lib.hid hw2
              clear hst hd p1 p2 hS hw1 hw2
              go_wp2_with fail
              refine HST.out.mono ?_
              rintro e w7 ⟨rfl, hb7⟩
              have HB7 := Lib.hid (HB6.out.step hb7)
              clear hb7
              go_wp2_with fail
              refine (HW1.out _).mono ?_
              rintro e w8 ⟨rfl, hb8⟩
              have HB8 := Lib.hid (HB7.out.step hb8)
              clear hb8
              go_wp2_with fail
              refine (HW2.out _).mono ?_
              rintro e w9 ⟨rfl, hb9⟩
              have HB9 := Lib.hid (HB8.out.step hb9)
              clear hb9
              go_wp2_with fail
              refine (a2Last_any w9 n0 c0 a0 (HC0.out.below HB9.out.1)).mono ?_
              rintro e w10 ⟨x0, x1, x2, x3, p, rfl, hf, hb10⟩
              have hlast := last_ok hf
              have q1 : 0 ≤ p := by omega
              have q2 : p ≤ 590 := by omega
              have hhf := fun W => impl_HeelFor W derby (by decide) x0 (wf_of (by omega) (by omega)) x1 (wf_of (by omega) (by omega)) x2 (wf_of (by omega) (by omega)) x3 (wf_of (by omega) (by omega)) p (wf_of (by omega) (by omega)) 0 (wf_of (by omega) (by omega)) l0 (wf_of (by omega) (by omega))
              have hsl := fun W => impl_SlopeOf W derby (by decide) x0 (wf_of (by omega) (by omega)) x1 (wf_of (by omega) (by omega)) x2 (wf_of (by omega) (by omega)) x3 (wf_of (by omega) (by omega)) p (wf_of (by omega) (by omega)) 1000 (wf_of (by omega) (by omega))
              have i1 : inB 0 0 300 = true := by decide
              have i2 : inB l0 0 300 = true := inB_true.2 ⟨by omega, by omega⟩
              have i3 : inB 1000 1 5000 = true := by decide
              have i4 : ¬ (p + l0 - 0 < 0) := by omega
              rw [show hforF derby x0 x1 x2 x3 p 0 l0 = p + l0 by simp only [hforF, hlast, i1, i2, if_neg i4, Bool.and_self, if_true]; omega, show hforC derby x0 x1 x2 x3 p 0 l0 = 0 by simp only [hforC, hlast, i1, i2, if_neg i4, Bool.and_self, if_true]] at hhf
              have hsa := slope_law (p := p) (g := (Int.gcd p 1000 : Int)) rfl
              obtain ⟨N, hN⟩ : ∃ N, p / (Int.gcd p 1000 : Int) = N := ⟨_, rfl⟩
              obtain ⟨D, hD⟩ : ∃ D, 1000 / (Int.gcd p 1000 : Int) = D := ⟨_, rfl⟩
              rw [hN, hD] at hsa
              rw [show slopeN derby x0 x1 x2 x3 p 1000 = N by simp only [slopeN, hlast, i3, if_true, hN], show slopeD derby x0 x1 x2 x3 p 1000 = D by simp only [slopeD, hlast, i3, if_true, hD], show slopeC derby x0 x1 x2 x3 p 1000 = 0 by simp only [slopeC, hlast, i3, if_true]] at hsl
              obtain ⟨D1, D2, D3⟩ := hsa
              have N1 : 0 ≤ N ∧ N ≤ 590 := by
                have a1 := Int.mul_nonneg q1 (show 0 ≤ D by omega)
                have a2 := Int.mul_le_mul q2 D2 (by omega) (by omega)
                omega
              have v5 : IntKind.i64.wrap (N * 1000) = N * 1000 := IntWalk.i64_in _ (by omega)
              have v6 : IntKind.i64.wrap (p * D) = N * 1000 := by rw [← D3]; exact v5
              have HHF := Lib.hid hhf
              have HSL := Lib.hid hsl
              have HB10 := Lib.hid (HB9.out.step hb10)
              clear hhf hsl hf hlast i1 i2 i3 i4 hN hD D3 hb10
              go_wp2_with fail
              refine (HHF.out _).mono ?_
              rintro e w11 ⟨rfl, hb11⟩
              have hX := (Obx.new w10 w10.heap.size 56 6 #[.string derby, .int .i64 x0, .int .i64 x1, .int .i64 x2, .int .i64 x3, .int .i64 p] (Nat.le_refl _) rfl).below hb11
              have HX := Lib.hid hX
              obtain ⟨⟨t0, t1, t2, t3, t4, t5⟩, _, u9⟩ := hX.six
              have HB11 := Lib.hid ((HB10.out.alloc (.cells #[.string derby, .int .i64 x0, .int .i64 x1, .int .i64 x2, .int .i64 x3, .int .i64 p] 56)).step hb11)
              clear hb11 hX
              go_wp2_with fail
              refine (HSL.out _).mono ?_
              rintro e w12 ⟨rfl, hb12⟩
              have hX := HX.out.below hb12
              have HB12 := Lib.hid (HB11.out.step hb12)
              clear t0 t1 t2 t3 t4 t5 u9
              have t5 : w12.cell? ⟨w10.heap.size, 5, none⟩ = some (.int .i64 p) := hX.cell 5 (by omega)
              have u9 := hX.lt.2
              have e9 := World.new_ne w12 _ t5
              clear hb12 hX
              go_wp2_with fail
              go_ret
              exact lawEnd_of (HB12.out.alloc _)
    · clear s0 w0 s1 w1
      go_enter Try.func13, Try.ntmps13
      go_wp2_with go_in
      go_ret
      exact ⟨rfl, Below.refl _ _⟩
  · clear s0 w0 s1 w1
    go_enter Try.func13, Try.ntmps13
    go_wp2_with go_in
    go_ret
    exact ⟨rfl, Below.refl _ _⟩

/-! ### From the walk to the statement -/
set_option maxRecDepth 100000 in
theorem FnHeelHeights_lifted (os : Os) (started : os.Started) (H : Type) (enc : TypeId × Value → H) :
    ReturnsInHanded {} Try.checked os 13 .any (Rows.fnHeelHeightsSpec.pre6 enc Try.prog Try.f13 Rows.fnHeelHeightsRow.domain false) (Rows.fnHeelHeightsSpec.post enc Try.prog Try.f13 false true false false) := by
  refine lifted_law (C := Try.checked) (tb := 4) own started (by kernel_rfl) Try.func13
    (ChangeSpec.witness6 (enc := enc) (C := Try.checked) false ⟨#[], #[.slice none 0 0, .slice none 0 0], []⟩ 8 (by kernel_rfl) (by kernel_rfl) (by kernel_rfl) (by kernel_rfl))
    laidOut (by kernel_rfl) rfl rfl Try.underlying4 (fun ds h => by match ds, h with | [_, _], _ => rfl) ?_
  intro W base args ds p hval hA
  rw [Try.params13] at hA hval
  obtain ⟨v0, vs0, d0, ds0, p0, q0, hargs, rfl, rfl, h0, r0⟩ := trodAll_cons hA
  obtain ⟨v1, vs1, d1, ds1, p1, q1, rfl, rfl, rfl, h1, r1⟩ := trodAll_cons r0
  obtain ⟨rfl, rfl, rfl⟩ := trodAll_nil r1
  obtain rfl : args = #[v0, v1] := by cases args; simp_all
  obtain ⟨a0, n0, c0, z0, rfl, l0, m0, s0, w0⟩ := open_ints_at Try.underlying45 Try.underlying5 (by kernel_rfl) (hval 0 45 v0 rfl rfl) h0
  obtain ⟨a1, n1, c1, z1, rfl, l1, m1, s1, w1⟩ := open_ints_at Try.underlying45 Try.underlying5 (by kernel_rfl) (hval 1 45 v1 rfl rfl) h1
  first | exact FnHeelHeights_walk a0 n0 c0 z0 l0 m0 s0 w0 a1 n1 c1 z1 l1 m1 s1 w1 W | exact FnHeelHeights_walk W a0 n0 c0 z0 l0 m0 s0 w0 a1 n1 c1 z1 l1 m1 s1 w1

theorem FnHeelHeights_over : Rows.fnHeelHeightsRow.holds Try.pinned (OpenSpec.ofChange Rows.fnHeelHeightsSpec) :=
  OpenClaim.holds_of_wide 13 Try.f13 rfl rfl rfl rfl rfl rfl rfl ⟨rfl, rfl, rfl, rfl, rfl⟩ rfl rfl rfl rfl rfl (by kernel_rfl) Try.func13 (by kernel_rfl)
    (of_decide_eq_true (by kernel_rfl)) (by unfold Func.isWrapper; first | (rw [if_pos (by decide +kernel)]; kernel_rfl) | (rw [if_neg (by decide +kernel)]; exact ⟨rfl, rfl⟩))
    (fun os started H enc _ => FnHeelHeights_lifted os started H enc)

/-- The statement. -/
theorem FnHeelHeights_holds : Rows.FnHeelHeightsSaid := FnHeelHeights_over
#print axioms FnHeelHeights_holds

end Go.Proofs.Ytlaapndncejlgaa
