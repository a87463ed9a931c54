/-
  The law FnSpools returns true for all arguments. No condition.
-/
import Derived.Test.YtoomkeicfdmdoaaSpoolsDraw
import Derived.Test.YtoomkeicfdmdoaaRow
import Derived.Test.YtoomkeicfdmdoaaRows
import Derived.Test.YtoomkeicfdmdoaaBase
import Derived.Outline
namespace Go.Proofs.Ytoomkeicfdmdoaa
open Go.ChangeShapes Go.WideShapes Go.ChangeAt Go.RowKit Go.Deep
open Go.ChangeMaps (open_string shut_string)
open Go.Joins


open Go.Shelf
theorem code_at {w : World} {a : Option Addr} {n : Nat} {zs : List Int} (l : zs.length = n) (h : CellsAt w a (zs.map (Value.int .u8))) (hw : ∀ z ∈ zs, (Lit.int .u8 z).wf = true) (hn : n ≤ 1048576) : CodeAt w a n :=
  ⟨zs, h, l, fun z hz => by
    have h := hw z hz
    have e1 : IntKind.u8.min = 0 := by rfl
    have e2 : IntKind.u8.max = 255 := by rfl
    simp [Lit.wf, e1, e2] at h; omega, hn⟩
theorem wf_in {z : Int} (h0 : 0 ≤ z) (h1 : z ≤ 1000000) : (Lit.int .i64 z).wf = true := WalkArith.wf_i64 (by omega)
theorem spools_of {zs ys : List Int} {n m : Nat} (h1 : ∀ z ∈ zs, 0 ≤ z ∧ z ≤ 1000000) (h2 : ∀ z ∈ ys, 1 ≤ z ∧ z ≤ 1000000) (hn : n ≤ 6) (hm : m ≤ 8) : spoolsB zs ys n m = true := by
  simp only [spoolsB, Bool.and_eq_true, Bool.not_eq_true', decide_eq_true_eq]
  exact ⟨outB_false.2 h1, outB_false.2 h2, hn, hm⟩
theorem has_eq {qs : List Int} {i : Nat} : (if decide ((i : Int) ∈ qs) = true then (1 : Int) else 0) = if (i : Int) ∈ qs then 1 else 0 := by
  by_cases h : (i : Int) ∈ qs <;> simp [h]

set_option maxRecDepth 100000 in
set_option maxHeartbeats 12800000 in
theorem FnSpools_walk (w : World) (a0 : Option Addr) (n0 c0 : Nat) (z0 : List Int) (l0 : z0.length = n0) (_ : n0 ≤ maxLen) (s0 : CellsAt w a0 (z0.map (Value.int .u8))) (w0 : ∀ z ∈ z0, (Lit.int .u8 z).wf = true)
    (a1 : Option Addr) (n1 c1 : Nat) (z1 : List Int) (_ : z1.length = n1) (_ : n1 ≤ maxLen) (_ : CellsAt w a1 (z1.map (Value.int .u8))) (_ : ∀ z ∈ z1, (Lit.int .u8 z).wf = true) :
    Calls Try.prog 7 #[.slice a0 n0 c0, .slice a1 n1 c1] w (LawEnd w) := by
  by_cases g0 : n0 ≤ 3000
  · by_cases g1 : n1 ≤ 3000
    · have HC0 := Lib.hid (code_at l0 s0 w0 (by omega))
      clear l0 s0 w0
      go_enter Try.func7, Try.ntmps7
      go_wp2_with (go_at_call 23; go_in)
      refine (a2Spools_any w n0 c0 a0 HC0.out).mono ?_
      rintro e w1 ⟨g, n, c, gy, m, d, zs, ys, rfl, hl, hm, n6, m8, hz, hy, hcz, hcy, hb1⟩
      have hok := spools_of hz hy n6 m8
      have HL := Lib.hid hl
      have HM := Lib.hid hm
      have HZ := Lib.hid hz
      have HY := Lib.hid hy
      have HK := Lib.hid hok
      have HS1 := Lib.hid hcz
      have HN1 := Lib.hid hcy
      have HB1 := Lib.hid (Bel.of hb1)
      have HWz := Lib.hid (fun z (h : z ∈ zs) => wf_in (hz z h).1 (hz z h).2)
      have HWy := Lib.hid (fun z (h : z ∈ ys) => wf_in (show 0 ≤ z by have := hy z h; omega) (hy z h).2)
      have HT1 := Lib.hid (fun h => first_none (zs := zs) (ys := ys) hl hm h)
      have HT2 := Lib.hid (fun h => few_some (zs := zs) (ys := ys) hl h)
      clear hl hm hz hy hok hcz hcy hb1
      go_wp2_with fail
      refine (impl_FirstSpools_c w1 g n c zs HL.out (by omega) HS1.out HWz.out gy m d ys HM.out (by omega) HN1.out HWy.out).mono ?_
      rintro e w2 ⟨aF, nF, cF, rfl, hlF, hnF, hoF, hb2⟩
      have HB2 := Lib.hid (HB1.out.step hb2)
      have HS2 := Lib.hid (HS1.out.below hb2)
      have HN2 := Lib.hid (HN1.out.below hb2)
      have HF2 := Lib.hid (CellsAt.of_own hoF)
      have HlF := Lib.hid hlF
      clear hlF hoF hb2
      go_wp2_with fail
      refine (impl_FewestSpools_c w2 g n c zs HL.out (by omega) HS2.out HWz.out gy m d ys HM.out (by omega) HN2.out HWy.out).mono ?_
      rintro e w3 ⟨aB, nB, cB, rfl, hlB, hnB, hoB, hb3⟩
      have HB3 := Lib.hid (HB2.out.step hb3)
      have HS3 := Lib.hid (HS2.out.below hb3)
      have HN3 := Lib.hid (HN2.out.below hb3)
      have HF3 := Lib.hid (HF2.out.below hb3)
      have HBe3 := Lib.hid (CellsAt.of_own hoB)
      have HlB := Lib.hid hlB
      clear hlB hoB hb3
      by_cases hneg : (few0 zs ys n).2 < 0
      · have hf := HT1.out hneg
        have e1 : fewC zs ys n m = 10 := by simp [fewC, HK.out, hneg]
        have e2 : firstC zs ys n m = 10 := by simp [firstC, HK.out, hf]
        clear hf hneg
        rw [e1, e2]
        clear e1 e2
        go_wp2_with fail
        go_ret
        exact lawEnd_of HB3.out
      · obtain ⟨l, hcut, hused⟩ := HT2.out (by omega)
        have e1 : fewC zs ys n m = 0 := by simp [fewC, HK.out, hneg]
        have e2 : fewN zs ys n m = (few0 zs ys n).2 := by simp [fewN, HK.out, hneg]
        have e3 : fewL zs ys n m = (few0 zs ys n).1 := by simp [fewL, HK.out, hneg]
        rw [e1, e2, hused]
        rw [e3] at HBe3 HlB
        have HOpt := Lib.hid (fun l o (h : firstTo zs ys m = some (l, o)) => (show cutL zs ys o = some l ∧ usedTo (few0 zs ys n).1 n ≤ usedTo o n from by
          have := few_first (n := n) HL.out HM.out h
          exact ⟨this.1, by omega⟩))
        obtain ⟨bs, hbs⟩ : ∃ q, (few0 zs ys n).1 = q := ⟨_, rfl⟩
        rw [hbs] at HBe3 HlB hcut HOpt ⊢
        have hnB2 : bs.length = nB := by have := HlB.out; omega
        have hcodes := cut_codes (p := nB) HL.out HM.out hnB2 HK.out hcut
        have hlen := cutL_len hcut
        have hmemB := cutL_mem hcut
        have hsum := cutL_sum hcut
        have HCo := Lib.hid hcodes
        have HBd := Lib.hid (fun j (hj : j < n) => cutL_bd hcut (fun y h => by have := HY.out y h; omega) j (by
          have h := HZ.out (zs.getD j 0) (by simp [List.getElem?_eq_getElem (show j < zs.length by rw [HL.out]; exact hj)])
          omega))
        have HWb := Lib.hid (fun z (h : z ∈ bs) => wf_in (hmemB z h).1 (by have := hmemB z h; have := HL.out; omega))
        have HnB := Lib.hid hnB2
        have HSum := Lib.hid hsum
        have hmB : nB ≤ 8 := by have := HM.out; omega
        have hlz := hlen.2.trans HL.out
        have HLl := Lib.hid hlz
        clear hcodes hlen hmemB hsum hnB2 hcut hused hbs e1 e2 e3 hneg hlz
        go_wp2_with fail
        refine (impl_SpoolFault_c w3 g n c zs HL.out (by omega) HS3.out HWz.out gy m d ys HM.out (by omega) HN3.out HWy.out aB nB cB bs HnB.out (by omega) HBe3.out HWb.out).mono ?_
        rw [HCo.out.1, HCo.out.2.1]
        rintro e w4 ⟨rfl, hb4⟩
        have HB4 := Lib.hid (HB3.out.step hb4)
        have HS4 := Lib.hid (HS3.out.below hb4)
        have HN4 := Lib.hid (HN3.out.below hb4)
        have HF4 := Lib.hid (HF3.out.below hb4)
        have HBe4 := Lib.hid (HBe3.out.below hb4)
        clear hb4
        go_wp2_with fail
        refine (impl_LeftOnSpools_c w4 g n c zs HL.out (by omega) HS4.out HWz.out gy m d ys HM.out (by omega) HN4.out HWy.out aB nB cB bs HnB.out (by omega) HBe4.out HWb.out).mono ?_
        rw [HCo.out.2.2.1, HCo.out.2.2.2]
        rintro e w5 ⟨aL, nL, cL, rfl, hlL, hnL, hoL, hb5⟩
        have HB5 := Lib.hid (HB4.out.step hb5)
        have HS5 := Lib.hid (HS4.out.below hb5)
        have HN5 := Lib.hid (HN4.out.below hb5)
        have HF5 := Lib.hid (HF4.out.below hb5)
        have HBe5 := Lib.hid (HBe4.out.below hb5)
        have HLe5 := Lib.hid (CellsAt.of_own hoL)
        obtain rfl : nL = n := by have := HLl.out; omega
        have HVl := Lib.hid (show ∀ z ∈ l, 0 ≤ z ∧ z ≤ 1000000 from fun z h => by
          obtain ⟨j, hj, rfl⟩ := List.getElem_of_mem h
          have h1 := HBd.out j (by rw [← HLl.out]; exact hj)
          have h2 := HZ.out (zs.getD j 0) (by simp [List.getElem?_eq_getElem (show j < zs.length by rw [HL.out, ← HLl.out]; exact hj)])
          have h3 : l.getD j 0 = l[j] := by simp [List.getElem?_eq_getElem hj]
          omega)
        have HVy := Lib.hid (show ∀ z ∈ ys, 0 ≤ z ∧ z ≤ 1000000 from fun z h => by have := HY.out z h; omega)
        have hs1 := isum_bd HVl.out l.length
        have hs2 := isum_bd HZ.out zs.length
        have hs3 := isum_bd HVy.out ys.length
        rw [List.take_length] at hs1 hs2 hs3
        have hse := HSum.out
        have hsl := HLl.out
        have hsz := HL.out
        have hsy := HM.out
        obtain ⟨S1, hS1⟩ : ∃ q, isum l = q := ⟨_, rfl⟩
        obtain ⟨S2, hS2⟩ : ∃ q, isum zs = q := ⟨_, rfl⟩
        obtain ⟨S3, hS3⟩ : ∃ q, isum ys = q := ⟨_, rfl⟩
        rw [hS1, hS2, hS3] at hse
        rw [hS1] at hs1
        rw [hS2] at hs2
        rw [hS3] at hs3
        have hsb : 0 ≤ S2 ∧ S2 ≤ 6000000 ∧ 0 ≤ S3 ∧ S3 ≤ 8000000 := by omega
        obtain ⟨b1, b2, b3, b4⟩ := hsb
        have hne : (S1 != S2 - S3) = false := by simp [hse]
        have HX := Lib.hid (And.intro hS1 (And.intro hS2 hS3))
        clear hlL hoL hb5 hs1 hs2 hs3 hse hsl hsz hsy hS1 hS2 hS3
        go_wp2_with fail
        refine (a2Sum_any w5 aL nL cL l HLl.out (by omega) HVl.out HLe5.out).mono ?_
        rw [HX.out.1]
        rintro e w6 ⟨rfl, hb6⟩
        have HB6 := Lib.hid (HB5.out.step hb6)
        have HS6 := Lib.hid (HS5.out.below hb6)
        have HN6 := Lib.hid (HN5.out.below hb6)
        have HF6 := Lib.hid (HF5.out.below hb6)
        have HBe6 := Lib.hid (HBe5.out.below hb6)
        have HLe6 := Lib.hid (HLe5.out.below hb6)
        clear hb6
        go_wp2_with fail
        refine (a2Sum_any w6 (some ⟨g, 0, none⟩) nL c zs HL.out (by omega) HZ.out HS6.out).mono ?_
        rw [HX.out.2.1]
        rintro e w7 ⟨rfl, hb7⟩
        have HB7 := Lib.hid (HB6.out.step hb7)
        have HS7 := Lib.hid (HS6.out.below hb7)
        have HN7 := Lib.hid (HN6.out.below hb7)
        have HF7 := Lib.hid (HF6.out.below hb7)
        have HBe7 := Lib.hid (HBe6.out.below hb7)
        have HLe7 := Lib.hid (HLe6.out.below hb7)
        clear hb7
        go_wp2_with fail
        refine (a2Sum_any w7 (some ⟨gy, 0, none⟩) m d ys HM.out (by omega) HVy.out HN7.out).mono ?_
        rw [HX.out.2.2]
        rintro e w8 ⟨rfl, hb8⟩
        have HB8 := Lib.hid (HB7.out.step hb8)
        have HS8 := Lib.hid (HS7.out.below hb8)
        have HN8 := Lib.hid (HN7.out.below hb8)
        have HF8 := Lib.hid (HF7.out.below hb8)
        have HBe8 := Lib.hid (HBe7.out.below hb8)
        have HLe8 := Lib.hid (HLe7.out.below hb8)
        clear hb8
        go_wp2_with fail
        go_loopw [16, 17] (fun v u wr => ∃ i : Nat, i ≤ nL ∧ u = .int .i64 i ∧ ∃ x : Int, v = .int .i64 x ∧ Hid (x = usedTo bs i) ∧ Hid (Bel w8.heap.size w8 wr)) (fun _ u _ => nL - (intOf u).toNat)
        case atStart => exact ⟨0, Nat.zero_le _, rfl, 0, rfl, Lib.hid (by simp [usedTo]), Lib.hid (Bel.refl _)⟩
        case round =>
          obtain ⟨i, hi, rfl, x, rfl, hx, hbw⟩ := hrel
          have hxb := usedTo_bd bs i
          rw [← hx.out] at hxb
          obtain ⟨hx0, hx1⟩ := hxb
          by_cases hlt : i < nL
          · obtain ⟨bL, oL, rfl, hbL, hcL⟩ := HLe8.out.at_ (by have := HLl.out; simp; omega)
            obtain ⟨bZ, oZ, hae, hbZ, hcZ⟩ := HS8.out.at_ (by have := HL.out; simp; omega)
            obtain ⟨rfl, rfl⟩ : g = bZ ∧ 0 = oZ := by simpa using hae
            obtain ⟨u, hu⟩ : ∃ z, l.getD i 0 = z := ⟨_, rfl⟩
            obtain ⟨v, hv⟩ : ∃ z, zs.getD i 0 = z := ⟨_, rfl⟩
            have k1 := cell_int hbL hbw.out.1 hcL (by rw [HLl.out]; exact hlt) hu
            have k2 := cell_int hbZ hbw.out.1 hcZ (by rw [HL.out]; exact hlt) hv
            rw [Nat.zero_add] at k2
            have hbd := HBd.out i hlt
            rw [hu, hv] at hbd
            have t1 : decide (u < 0) = false := by simp; omega
            have t2 : decide (v < u) = false := by simp; omega
            have hlt' : (i : Int) < (nL : Int) := by omega
            have HHas := Lib.hid (fun W (h : CellsAt W aB (ints bs)) => a2Has_any aB nB cB bs (i : Int) W HnB.out (by omega) h)
            clear hcL hcZ hae hu hv hbd
            by_cases hin : (i : Int) ∈ bs
            all_goals
              have Hin := Lib.hid hin
              clear hin
              go_wp2_with fail
              go_big_quiet (fail)
              go_wp2_with fail
              refine (HHas.out _ (HBe8.out.below (below_drewN hbw.out.1 _))).mono ?_
              first
                | rw [decide_eq_true Hin.out]
                | rw [decide_eq_false Hin.out]
              rintro e w9 ⟨rfl, rfl⟩
              go_wp2_with fail
              go_roundw
              case rel =>
                first
                  | exact ⟨i + 1, by omega, by go_num, _, rfl, Lib.hid (by rw [usedTo_succ, decide_eq_true Hin.out, hx.out]; rfl), Lib.hid (hbw.out.drewN _)⟩
                  | exact ⟨i + 1, by omega, by go_num, _, rfl, Lib.hid (by rw [usedTo_succ, decide_eq_false Hin.out, hx.out]; simp), Lib.hid (hbw.out.drewN _)⟩
              case measure => simp [intOf]; omega
          · obtain rfl : i = nL := by omega
            obtain ⟨U, hU⟩ : ∃ q, usedTo bs i = q := ⟨_, rfl⟩
            obtain rfl : x = U := by rw [hx.out, hU]
            rw [hU]
            have HU := Lib.hid hU
            have hxx : (x != x) = false := by simp
            have HBw := Lib.hid hbw.out
            clear hU hx
            cases hf : firstTo zs ys m with
            | none =>
              rw [show firstC zs ys i m = 10 by simp [firstC, HK.out, hf]]
              clear hf
              go_wp2_with fail
              go_ret
              exact lawEnd_of (HB8.out.step hbw.out.1)
            | some s =>
              obtain ⟨lF, oF⟩ := s
              obtain ⟨hcutF, hle⟩ := HOpt.out lF oF hf
              rw [HU.out] at hle
              have e4 : firstL zs ys i m = oF := by simp [firstL, HK.out, hf]
              rw [show firstC zs ys i m = 0 by simp [firstC, HK.out, hf]]
              rw [e4] at HF8 HlF
              have hnF2 : oF.length = nF := by have := HlF.out; omega
              have hmemF := cutL_mem hcutF
              have HCf := Lib.hid (cut_codes (p := nF) HL.out HM.out hnF2 HK.out hcutF)
              have HWf := Lib.hid (fun z (h : z ∈ oF) => wf_in (hmemF z h).1 (by have := hmemF z h; have := HL.out; omega))
              have HnF := Lib.hid hnF2
              have hnF8 : nF ≤ 8 := by have := (cutL_len hcutF).1; have := HM.out; omega
              have HLe := Lib.hid hle
              have HBx := Lib.hid (HB8.out.step hbw.out.1)
              have HSx := Lib.hid (HS8.out.below hbw.out.1)
              have HNx := Lib.hid (HN8.out.below hbw.out.1)
              have HFx := Lib.hid (HF8.out.below hbw.out.1)
              clear hf hcutF hle e4 hnF2 hmemF
              go_wp2_with fail
              refine (impl_SpoolFault_c wr g i c zs HL.out (by omega) HSx.out HWz.out gy m d ys HM.out (by omega) HNx.out HWy.out aF nF cF oF HnF.out (by omega) HFx.out HWf.out).mono ?_
              rw [HCf.out.1, HCf.out.2.1]
              rintro e wa ⟨rfl, hba⟩
              have HBa := Lib.hid (HBx.out.step hba)
              have HFa := Lib.hid (HFx.out.below hba)
              clear hba
              go_wp2_with fail
              go_loopw [20, 21] (fun v u wi => ∃ j : Nat, j ≤ i ∧ u = .int .i64 j ∧ ∃ y : Int, v = .int .i64 y ∧ Hid (y = usedTo oF j) ∧ Hid (wa = wi)) (fun _ u _ => i - (intOf u).toNat)
              case atStart => exact ⟨0, Nat.zero_le _, rfl, 0, rfl, Lib.hid (by simp [usedTo]), Lib.hid rfl⟩
              case round =>
                obtain ⟨j, hj, rfl, y, rfl, hy, hww⟩ := hrel
                have hyb := usedTo_bd oF j
                rw [← hy.out] at hyb
                obtain ⟨hy0, hy1⟩ := hyb
                by_cases hlt2 : j < i
                · have HHas := Lib.hid (fun W (h : CellsAt W aF (ints oF)) => a2Has_any aF nF cF oF (j : Int) W HnF.out (by omega) h)
                  have HFi := Lib.hid (fun W (h : wa = W) => (show CellsAt W aF (ints oF) by rw [← h]; exact HFa.out))
                  by_cases hin : (j : Int) ∈ oF
                  all_goals
                    have Hin := Lib.hid hin
                    clear hin
                    go_wp2_with fail
                    refine (HHas.out _ (HFi.out _ hww.out)).mono ?_
                    first
                      | rw [decide_eq_true Hin.out]
                      | rw [decide_eq_false Hin.out]
                    rintro e w9 ⟨rfl, rfl⟩
                    go_wp2_with fail
                    go_roundw
                    case rel =>
                      first
                        | exact ⟨j + 1, by omega, by go_num, _, rfl, Lib.hid (by rw [usedTo_succ, decide_eq_true Hin.out, hy.out]; rfl), hww⟩
                        | exact ⟨j + 1, by omega, by go_num, _, rfl, Lib.hid (by rw [usedTo_succ, decide_eq_false Hin.out, hy.out]; simp), hww⟩
                    case measure => simp [intOf]; omega
                · obtain rfl : j = i := by omega
                  have hle2 : x ≤ y := by rw [hy.out]; exact HLe.out
                  go_wp2_with fail
                  go_ret
                  have e := hww.out
                  subst e
                  exact lawEnd_of HBa.out
    · clear s0 w0
      go_enter Try.func7, Try.ntmps7
      go_wp2_with go_in
      go_ret
      exact ⟨rfl, Below.refl _ _⟩
  · clear s0 w0
    go_enter Try.func7, Try.ntmps7
    go_wp2_with go_in
    go_ret
    exact ⟨rfl, Below.refl _ _⟩

/-! ### From the walk to the statement -/
set_option maxRecDepth 100000 in
theorem FnSpools_lifted (os : Os) (started : os.Started) (H : Type) (enc : TypeId × Value → H) :
    ReturnsInHanded {} Try.checked os 7 .any (Rows.fnSpoolsSpec.pre6 enc Try.prog Try.f7 Rows.fnSpoolsRow.domain false) (Rows.fnSpoolsSpec.post enc Try.prog Try.f7 false true false false) := by
  refine lifted_law (C := Try.checked) (tb := 4) own started (by kernel_rfl) Try.func7
    (ChangeSpec.witness6 (enc := enc) (C := Try.checked) false ⟨#[], #[.slice none 0 0, .slice none 0 0], []⟩ 8 (by kernel_rfl) (by kernel_rfl) (by kernel_rfl) (by kernel_rfl))
    laidOut (by kernel_rfl) rfl rfl Try.underlying4 (fun ds h => by match ds, h with | [_, _], _ => rfl) ?_
  intro W base args ds p hval hA
  rw [Try.params7] at hA hval
  obtain ⟨v0, vs0, d0, ds0, p0, q0, hargs, rfl, rfl, h0, r0⟩ := trodAll_cons hA
  obtain ⟨v1, vs1, d1, ds1, p1, q1, rfl, rfl, rfl, h1, r1⟩ := trodAll_cons r0
  obtain ⟨rfl, rfl, rfl⟩ := trodAll_nil r1
  obtain rfl : args = #[v0, v1] := by cases args; simp_all
  obtain ⟨a0, n0, c0, z0, rfl, l0, m0, s0, w0⟩ := open_ints_at Try.underlying34 Try.underlying5 (by kernel_rfl) (hval 0 34 v0 rfl rfl) h0
  obtain ⟨a1, n1, c1, z1, rfl, l1, m1, s1, w1⟩ := open_ints_at Try.underlying34 Try.underlying5 (by kernel_rfl) (hval 1 34 v1 rfl rfl) h1
  first | exact FnSpools_walk a0 n0 c0 z0 l0 m0 s0 w0 a1 n1 c1 z1 l1 m1 s1 w1 W | exact FnSpools_walk W a0 n0 c0 z0 l0 m0 s0 w0 a1 n1 c1 z1 l1 m1 s1 w1

theorem FnSpools_over : Rows.fnSpoolsRow.holds Try.pinned (OpenSpec.ofChange Rows.fnSpoolsSpec) :=
  OpenClaim.holds_of_wide 7 Try.f7 rfl rfl rfl rfl rfl rfl rfl ⟨rfl, rfl, rfl, rfl, rfl⟩ rfl rfl rfl rfl rfl (by kernel_rfl) Try.func7 (by kernel_rfl)
    (of_decide_eq_true (by kernel_rfl)) (by unfold Func.isWrapper; first | (rw [if_pos (by decide +kernel)]; kernel_rfl) | (rw [if_neg (by decide +kernel)]; exact ⟨rfl, rfl⟩))
    (fun os started H enc _ => FnSpools_lifted os started H enc)

/-- The statement. -/
theorem FnSpools_holds : Rows.FnSpoolsSaid := FnSpools_over
#print axioms FnSpools_holds

end Go.Proofs.Ytoomkeicfdmdoaa
