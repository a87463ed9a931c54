/-
  The law FnHeels returns true for all arguments. No condition.
-/
import Derived.Test.YtlaapndncejlgaaStockDraw
import Derived.Test.YtlaapndncejlgaaRow
import Derived.Test.YtlaapndncejlgaaRows
import Derived.Test.YtlaapndncejlgaaBase
import Derived.Outline
namespace Go.Proofs.Ytlaapndncejlgaa
open Go.ChangeShapes Go.WideShapes Go.ChangeAt Go.RowKit Go.Deep
open Go.ChangeMaps (open_string shut_string)
open Go.Joins


theorem code_at {w : World} {a : Option Addr} {n : Nat} {zs : List Int} (l : zs.length = n) (h : CellsAt w a (zs.map (Value.int .u8))) (hw : ∀ z ∈ zs, (Lit.int .u8 z).wf = true) (hn : n ≤ 1048576) : CodeAt w a n :=
  ⟨zs, h, l, fun z hz => by
    have h := hw z hz
    have e1 : IntKind.u8.min = 0 := by rfl
    have e2 : IntKind.u8.max = 255 := by rfl
    simp [Lit.wf, e1, e2] at h; omega, hn⟩
theorem prod_bd {a b A B : Int} (h1 : 0 ≤ a) (h2 : a ≤ A) (h3 : 0 ≤ b) (h4 : b ≤ B) : 0 ≤ a * b ∧ a * b ≤ A * B :=
  ⟨Int.mul_nonneg h1 h3, Int.mul_le_mul h2 h4 h3 (by omega)⟩
theorem dot_bd {zs cs : List Int} {n : Nat} (hok : stockB zs n = true) (hc : IsHeel zs cs n 1) : ∀ {i : Nat}, i ≤ n → 0 ≤ dotTo zs cs i ∧ dotTo zs cs i ≤ i * 2000 := by
  intro i
  induction i with
  | zero => intro _; simp [dotTo]
  | succ i ih =>
    intro hi
    have h1 := ih (by omega)
    have h2 := hc i (by omega)
    have h3 := stockB_at hok (show i < n by omega)
    rw [Int.ediv_one] at h2
    have h4 : cs.getD i 0 * zs.getD (i * 2) 0 ≤ 20 * 100 := Int.mul_le_mul (by omega) (by omega) (by omega) (by omega)
    have h5 := Int.mul_nonneg h2.1 (show 0 ≤ zs.getD (i * 2) 0 by omega)
    simp only [dotTo]
    omega

set_option maxRecDepth 100000 in
set_option maxHeartbeats 12800000 in
theorem FnHeels_walk (w : World) (a0 : Option Addr) (n0 c0 : Nat) (z0 : List Int) (l0 : z0.length = n0) (_ : n0 ≤ maxLen) (s0 : CellsAt w a0 (z0.map (Value.int .u8))) (w0 : ∀ z ∈ z0, (Lit.int .u8 z).wf = true)
    (a1 : Option Addr) (n1 c1 : Nat) (z1 : List Int) (l1 : z1.length = n1) (_ : n1 ≤ maxLen) (s1 : CellsAt w a1 (z1.map (Value.int .u8))) (w1 : ∀ z ∈ z1, (Lit.int .u8 z).wf = true) :
    Calls Try.prog 12 #[.slice a0 n0 c0, .slice a1 n1 c1] w (LawEnd w) := by
  by_cases g0 : n0 ≤ 3000
  · by_cases g1 : n1 ≤ 3000
    · have HC0 := Lib.hid (code_at l0 s0 w0 (by omega))
      have HC1 := Lib.hid (code_at l1 s1 w1 (by omega))
      clear l0 s0 w0 l1 s1 w1
      go_enter Try.func12, Try.ntmps12
      go_wp2_with (go_at_call 42; go_in)
      refine (a2Stock_any w n0 c0 a0 HC0.out).mono ?_
      rintro e w1 ⟨g, n, c, zs, rfl, hl, hok, hst, hb1⟩
      have n6 : n ≤ 6 := by
        simp only [stockB, Bool.and_eq_true, decide_eq_true_eq] at hok
        exact hok.2
      have HL := Lib.hid hl
      have HK := Lib.hid hok
      have HS1 := Lib.hid (CellsAt.of_own hst)
      have HB1 := Lib.hid (Bel.of hb1)
      clear hl hok hst hb1
      go_wp2_with fail
      refine (a2Heel_any w1 n1 c1 a1 g n c zs (HC1.out.below HB1.out.1) HL.out HK.out HS1.out).mono ?_
      rintro e w2 ⟨aD, cD, ds, rfl, hdl, hdh, hdo, hb2⟩
      have HS2 := Lib.hid (HS1.out.below hb2)
      have HD2 := Lib.hid (CellsAt.of_own hdo)
      have HDl := Lib.hid hdl
      have HDh := Lib.hid hdh
      have HB2 := Lib.hid (HB1.out.step hb2)
      have HDb := Lib.hid (fun i (hi : i ≤ n) => dot_bd HK.out hdh hi)
      have HAt := Lib.hid (fun k (hk : k < n) => stockB_at HK.out hk)
      clear hdl hdh hdo hb2
      go_wp2_with fail
      go_loopw [7, 8] (fun v u wr => ∃ i : Nat, i ≤ n ∧ u = .int .i64 i ∧ ∃ x : Int, v = .int .i64 x ∧ Hid (x = dotTo zs ds i) ∧ Hid (Below w2.heap.size w2 wr)) (fun _ u _ => n - (intOf u).toNat)
      case atStart => exact ⟨0, Nat.zero_le _, rfl, 0, rfl, Lib.hid rfl, Lib.hid (Below.refl _ _)⟩
      case round =>
        obtain ⟨i, hi, rfl, X, rfl, hX, hbw⟩ := hrel
        obtain ⟨X1, X2⟩ := HDb.out i hi
        rw [← hX.out] at X1 X2
        by_cases hlt : i < n
        · obtain ⟨b, o, rfl, hb, hcc⟩ := HD2.out.at_ (by have := HDl.out; simp; omega)
          obtain ⟨x, hx⟩ : ∃ z, ds.getD i 0 = z := ⟨_, rfl⟩
          obtain ⟨T, hT⟩ : ∃ z, zs.getD (i * 2) 0 = z := ⟨_, rfl⟩
          obtain ⟨y, hy⟩ : ∃ z, zs.getD (i * 2 + 1) 0 = z := ⟨_, rfl⟩
          have k1 := cell_int hb hbw.out hcc (by rw [HDl.out]; exact hlt) hx
          obtain ⟨k2, k3⟩ := cell_two HL.out HS2.out hbw.out hlt hT hy
          have b1 := HDh.out i hlt
          have b2 := HAt.out i hlt
          rw [hx, hy, Int.ediv_one] at b1
          rw [hT, hy] at b2
          obtain ⟨p1, p2⟩ := prod_bd (a := x) (b := T) (A := 20) (B := 100) b1.1 (by omega) (by omega) (by omega)
          have w1 : IntKind.i64.wrap (x * T) = x * T := IntWalk.i64_in _ (by omega)
          have w2 : IntKind.i64.wrap (X + x * T) = X + x * T := IntWalk.i64_in _ (by omega)
          have HN := Lib.hid (show X + x * T = dotTo zs ds (i + 1) by simp only [dotTo, hx, hT, hX.out])
          have hlt' : (i : Int) < (n : Int) := by omega
          clear hcc hx hT hy b1 b2 k3
          go_wp2_with fail
          go_big_quiet (fail)
          go_wp2_with fail
          go_roundw
          case rel => exact ⟨i + 1, by omega, by go_num, _, rfl, HN, Lib.hid (below_drewN hbw.out _)⟩
          case measure => simp [intOf]; omega
        · obtain rfl : i = n := by omega
          have HBx := Lib.hid (HB2.out.step hbw.out)
          by_cases hbig : 1200 < X
          · go_wp2_with fail
            go_ret
            exact lawEnd_of HBx.out
          · obtain ⟨H, rfl⟩ : ∃ H : Nat, X = (H : Int) := ⟨X.toNat, by omega⟩
            have hle := few_le (t := 1) HK.out HDh.out i 0 H (by omega) (by omega) (by rw [hX.out]; simp [dotTo])
            have hcan := heel_facts (t := 1) HK.out (by omega) hle.1
            obtain ⟨f1, f2, f3, f4, f5⟩ := hcan
            obtain ⟨hs, hhs⟩ : ∃ l, heelF zs i 1 (H : Int) = l := ⟨_, rfl⟩
            rw [hhs] at f2 f3 f4 f5
            have hcode : hcodeI zs i (H : Int) = 0 := by
              have : inB (H : Int) 0 1200 = true := inB_true.2 (by omega)
              simp [hcodeI, HK.out, this]
            have hbh := fun W (hc : CellsAt W (some ⟨g, 0, none⟩) (zs.map (Value.int .i64))) => implBuild_c W g i c zs HL.out (by omega) hc (H : Int)
            rw [show bhF zs i 1 (H : Int) = hs by simp [bhF, hcode, hhs], show bhC zs i 1 (H : Int) = 0 by simp [bhC, hcode, f1]] at hbh
            have HBH := Lib.hid hbh
            have HPH := Lib.hid (fun W (hc : CellsAt W (some ⟨g, 0, none⟩) (zs.map (Value.int .i64))) => implPair_c W g i c zs HL.out (by omega) hc (H : Int))
            have HHl := Lib.hid f2
            have HHh := Lib.hid f3
            have HHd := Lib.hid f4
            have HHs := Lib.hid (show sumTo hs i ≤ sumTo ds i by have := hle.2; simp [sumTo] at this; omega)
            have HHf := Lib.hid f5
            have HCo := Lib.hid hcode
            have HSx := Lib.hid (HS2.out.below hbw.out)
            have HDx := Lib.hid (HD2.out.below hbw.out)
            clear hle hcode hbh f1 f2 f3 f4 f5 hhs
            go_wp2_with fail
            refine (HBH.out _ HSx.out).mono ?_
            rintro e w3 ⟨aH, nH, cH, rfl, hlen, _, hho, hb3⟩
            obtain rfl : nH = i := by have := HHl.out; omega
            have HS3 := Lib.hid (HSx.out.below hb3)
            have HD3 := Lib.hid (HDx.out.below hb3)
            have HH3 := Lib.hid (CellsAt.of_own hho)
            have HB3 := Lib.hid (HBx.out.step hb3)
            clear hlen hho hb3
            have hnn : ((nH : Int) != (nH : Int)) = false := by simp
            have hHb : ∀ j, j < nH → 0 ≤ hs.getD j 0 ∧ hs.getD j 0 ≤ 20 := fun j hj => by have h1 := HHh.out j hj; have h2 := HAt.out j hj; rw [Int.ediv_one] at h1; omega
            have hDb2 : ∀ j, j < nH → 0 ≤ ds.getD j 0 ∧ ds.getD j 0 ≤ 20 := fun j hj => by have h1 := HDh.out j hj; have h2 := HAt.out j hj; rw [Int.ediv_one] at h1; omega
            have SH := Lib.hid (fun W (hc : CellsAt W aH (hs.map (Value.int .i64))) => a2Sum_any W aH nH cH hs HHl.out (by omega) (fun j hj => by have := hHb j hj; omega) hc)
            have SD := Lib.hid (fun W (hc : CellsAt W aD (ds.map (Value.int .i64))) => a2Sum_any W aD nH cD ds HDl.out (by omega) (fun j hj => by have := hDb2 j hj; omega) hc)
            have HHb := Lib.hid hHb
            clear hHb hDb2
            go_wp2_with fail
            refine (SH.out _ HH3.out).mono ?_
            rintro e w4 ⟨rfl, hb4⟩
            have HS4 := Lib.hid (HS3.out.below hb4)
            have HD4 := Lib.hid (HD3.out.below hb4)
            have HH4 := Lib.hid (HH3.out.below hb4)
            have HB4 := Lib.hid (HB3.out.step hb4)
            clear hb4
            go_wp2_with fail
            refine (SD.out _ HD4.out).mono ?_
            rintro e w5 ⟨rfl, hb5⟩
            have HS5 := Lib.hid (HS4.out.below hb5)
            have HH5 := Lib.hid (HH4.out.below hb5)
            have HB5 := Lib.hid (HB4.out.step hb5)
            have hle := HHs.out
            clear hb5
            go_wp2_with fail
            clear hle
            have HHdb := Lib.hid (fun i (hi : i ≤ nH) => dot_bd HK.out HHh.out hi)
            go_loopw [11, 12] (fun v u wr => ∃ i : Nat, i ≤ nH ∧ u = .int .i64 i ∧ ∃ x : Int, v = .int .i64 x ∧ Hid (x = dotTo zs hs i) ∧ Hid (Below w5.heap.size w5 wr)) (fun _ u _ => nH - (intOf u).toNat)
            case atStart => exact ⟨0, Nat.zero_le _, rfl, 0, rfl, Lib.hid rfl, Lib.hid (Below.refl _ _)⟩
            case round =>
              obtain ⟨i, hi, rfl, X, rfl, hX2, hbw2⟩ := hrel
              obtain ⟨X1, X2⟩ := HHdb.out i hi
              rw [← hX2.out] at X1 X2
              by_cases hlt : i < nH
              · obtain ⟨b, o, rfl, hb, hcc⟩ := HH5.out.at_ (by have := HHl.out; simp; omega)
                obtain ⟨x, hx⟩ : ∃ z, hs.getD i 0 = z := ⟨_, rfl⟩
                obtain ⟨T, hT⟩ : ∃ z, zs.getD (i * 2) 0 = z := ⟨_, rfl⟩
                obtain ⟨y, hy⟩ : ∃ z, zs.getD (i * 2 + 1) 0 = z := ⟨_, rfl⟩
                have k1 := cell_int hb hbw2.out hcc (by rw [HHl.out]; exact hlt) hx
                obtain ⟨k2, k3⟩ := cell_two HL.out HS5.out hbw2.out hlt hT hy
                have b1 := HHh.out i hlt
                have b2 := HAt.out i hlt
                rw [hx, hy, Int.ediv_one] at b1
                rw [hT, hy] at b2
                obtain ⟨p1, p2⟩ := prod_bd (a := x) (b := T) (A := 20) (B := 100) b1.1 (by omega) (by omega) (by omega)
                have w1 : IntKind.i64.wrap (x * T) = x * T := IntWalk.i64_in _ (by omega)
                have w2 : IntKind.i64.wrap (X + x * T) = X + x * T := IntWalk.i64_in _ (by omega)
                have HN := Lib.hid (show X + x * T = dotTo zs hs (i + 1) by simp only [dotTo, hx, hT, hX2.out])
                have hlt' : (i : Int) < (nH : Int) := by omega
                have g1 : decide (x < 0) = false := by simp; omega
                have g2 : decide (y < x) = false := by simp; omega
                clear hcc hx hT hy b1 b2
                go_wp2_with fail
                go_big_quiet (fail)
                go_wp2_with fail
                go_big_quiet (fail)
                go_wp2_with fail
                go_roundw
                case rel => exact ⟨i + 1, by omega, by go_num, _, rfl, HN, Lib.hid (below_drewN hbw2.out _)⟩
                case measure => simp [intOf]; omega
              · obtain rfl : i = nH := by omega
                obtain rfl : X = (H : Int) := by rw [hX2.out, HHd.out]
                have HHH : ((H : Int) != (H : Int)) = false := by simp
                have HBy := Lib.hid (HB5.out.step hbw2.out)
                have HSy := Lib.hid (HS5.out.below hbw2.out)
                have HHy := Lib.hid (HH5.out.below hbw2.out)
                have hul := fun W (hc : CellsAt W (some ⟨g, 0, none⟩) (zs.map (Value.int .i64))) (hd : CellsAt W aH (hs.map (Value.int .i64))) => implUse_c W g i c zs HL.out (by omega) hc aH i cH hs HHl.out (by omega) hd
                rw [(use_fine HK.out HHl.out HHh.out).1, (use_fine HK.out HHl.out HHh.out).2] at hul
                have HU := Lib.hid hul
                clear hul
                go_wp2_with fail
                refine (HU.out _ HSy.out HHy.out).mono ?_
                rintro e w6 ⟨aU, nU, cU, rfl, hlen, _, huo, hb6⟩
                rw [length_useL] at hlen
                obtain rfl : nU = i := by omega
                have HS6 := Lib.hid (HSy.out.below hb6)
                have HH6 := Lib.hid (HHy.out.below hb6)
                have HU6 := Lib.hid (CellsAt.of_own huo)
                have HB6 := Lib.hid (HBy.out.step hb6)
                clear hlen huo hb6
                go_wp2_with fail
                go_loopw [15] (fun u wr => ∃ i : Nat, i ≤ nU ∧ u = .int .i64 i ∧ Hid (Below w6.heap.size w6 wr)) (fun u _ => nU - (intOf u).toNat)
                case atStart => exact ⟨0, Nat.zero_le _, rfl, Lib.hid (Below.refl _ _)⟩
                case round =>
                  obtain ⟨i3, hi3, rfl, hbw3⟩ := hrel
                  by_cases hlt3 : i3 < nU
                  · obtain ⟨b, o, rfl, hb, hcc⟩ := HH6.out.at_ (by have := HHl.out; simp; omega)
                    obtain ⟨bu, ou, rfl, hbu, hcu⟩ := HU6.out.at_ (by have := length_useL zs hs nU; simp; omega)
                    obtain ⟨x, hx⟩ : ∃ z, hs.getD i3 0 = z := ⟨_, rfl⟩
                    obtain ⟨T, hT⟩ : ∃ z, zs.getD (i3 * 2) 0 = z := ⟨_, rfl⟩
                    obtain ⟨y, hy⟩ : ∃ z, zs.getD (i3 * 2 + 1) 0 = z := ⟨_, rfl⟩
                    have hul := useL_at zs hs hlt3
                    rw [hT, hy, hx] at hul
                    have k1 := cell_int hb hbw3.out hcc (by rw [HHl.out]; exact hlt3) hx
                    obtain ⟨k2, k3⟩ := cell_two HL.out HS6.out hbw3.out hlt3 hT hy
                    have k4 := cell_int hbu hbw3.out hcu (by rw [length_useL]; omega) hul.1
                    have k5 := cell_int hbu hbw3.out hcu (by rw [length_useL]; omega) hul.2
                    rw [show ou + (i3 * 2 + 1) = ou + i3 * 2 + 1 by omega] at k5
                    have b1 := HHh.out i3 hlt3
                    have b2 := HAt.out i3 hlt3
                    rw [hx, hy, Int.ediv_one] at b1
                    rw [hT, hy] at b2
                    have w1 : IntKind.i64.wrap (y - x) = y - x := IntWalk.i64_in _ (by omega)
                    have hlt' : (i3 : Int) < (nU : Int) := by omega
                    have g1 : (T != T) = false := by simp
                    have g2 : (y - x != y - x) = false := by simp
                    clear hcc hcu hx hT hy hul b1 b2
                    go_wp2_with fail
                    go_big_quiet (fail)
                    go_wp2_with fail
                    go_roundw
                    case rel => exact ⟨i3 + 1, by omega, by go_num, Lib.hid (below_drewN hbw3.out _)⟩
                    case measure => simp [intOf]; omega
                  · obtain rfl : i3 = nU := by omega
                    have HBz := Lib.hid (HB6.out.step hbw3.out)
                    have HSz := Lib.hid (HS6.out.below hbw3.out)
                    have HHz := Lib.hid (HH6.out.below hbw3.out)
                    have hph := HPH.out wr HSz.out
                    obtain ⟨cp, hcp⟩ : ∃ q, bhC zs i3 2 (H : Int) = q := ⟨_, rfl⟩
                    obtain ⟨ps, hps⟩ : ∃ q, bhF zs i3 2 (H : Int) = q := ⟨_, rfl⟩
                    rw [hcp, hps] at hph
                    have HP := Lib.hid hph
                    have hpc : (cp = 3) ∨ (cp = 0 ∧ ps.length = i3 ∧ IsHeel zs ps i3 2 ∧ dotTo zs ps i3 = (H : Int)) := by
                      rw [← hcp, ← hps]
                      simp only [bhC, bhF, HCo.out, if_true]
                      cases hk : canP zs i3 2 H with
                      | false => left; simp [heelC, hk]
                      | true =>
                        right
                        have := heel_facts (t := 2) HK.out (by omega) (of_decide_eq_true hk)
                        exact ⟨this.1, this.2.1, this.2.2.1, this.2.2.2.1⟩
                    clear hph hcp hps
                    rcases hpc with rfl | ⟨rfl, q1, q2, q3⟩
                    · go_wp2_with fail
                      refine HP.out.mono ?_
                      rintro e w7 ⟨aP, nP, cP, rfl, hlen, _, hpo, hb7⟩
                      have HB7 := Lib.hid (HBz.out.step hb7)
                      clear hlen hpo hb7
                      go_wp2_with fail
                      go_ret
                      exact lawEnd_of HB7.out
                    · have hle2 := few_le (t := 1) HK.out (heel_weak HK.out q2) i3 0 H (by omega) (by omega) (by rw [q3]; simp [dotTo])
                      have hge : ¬ sumTo ps i3 < sumTo hs i3 := by
                        have h1 := hle2.2
                        have h2 := HHf.out
                        simp [sumTo] at h1
                        omega
                      have HP2 := Lib.hid q2
                      have HPl := Lib.hid q1
                      clear q1 q2 q3 hle2
                      go_wp2_with fail
                      refine HP.out.mono ?_
                      rintro e w7 ⟨aP, nP, cP, rfl, hlen, _, hpo, hb7⟩
                      obtain rfl : nP = i3 := by have := HPl.out; omega
                      have hPb : ∀ j, j < nP → 0 ≤ ps.getD j 0 ∧ ps.getD j 0 ≤ 20 := fun j hj => by have h1 := HP2.out j hj; have h2 := HAt.out j hj; omega
                      have SP := Lib.hid (fun W (hc : CellsAt W aP (ps.map (Value.int .i64))) => a2Sum_any W aP nP cP ps HPl.out (by omega) (fun j hj => by have := hPb j hj; omega) hc)
                      have HB7 := Lib.hid (HBz.out.step hb7)
                      have HS7 := Lib.hid (HSz.out.below hb7)
                      have HH7 := Lib.hid (HHz.out.below hb7)
                      have HP7 := Lib.hid (CellsAt.of_own hpo)
                      clear hlen hpo hb7 hPb
                      go_wp2_with fail
                      refine (SP.out _ HP7.out).mono ?_
                      rintro e w8 ⟨rfl, hb8⟩
                      have HB8 := Lib.hid (HB7.out.step hb8)
                      have HS8 := Lib.hid (HS7.out.below hb8)
                      have HH8 := Lib.hid (HH7.out.below hb8)
                      have HP8 := Lib.hid (HP7.out.below hb8)
                      clear hb8
                      go_wp2_with fail
                      refine (SH.out _ HH8.out).mono ?_
                      rintro e w9 ⟨rfl, hb9⟩
                      have HB9 := Lib.hid (HB8.out.step hb9)
                      have HS9 := Lib.hid (HS8.out.below hb9)
                      have HP9 := Lib.hid (HP8.out.below hb9)
                      clear hb9
                      go_wp2_with fail
                      go_loopw [18] (fun u wr => ∃ i : Nat, i ≤ nP ∧ u = .int .i64 i ∧ Hid (Below w9.heap.size w9 wr)) (fun u _ => nP - (intOf u).toNat)
                      case atStart => exact ⟨0, Nat.zero_le _, rfl, Lib.hid (Below.refl _ _)⟩
                      case round =>
                        obtain ⟨i4, hi4, rfl, hbw4⟩ := hrel
                        by_cases hlt4 : i4 < nP
                        · obtain ⟨b, o, rfl, hb, hcc⟩ := HP9.out.at_ (by have := HPl.out; simp; omega)
                          obtain ⟨x, hx⟩ : ∃ z, ps.getD i4 0 = z := ⟨_, rfl⟩
                          obtain ⟨T, hT⟩ : ∃ z, zs.getD (i4 * 2) 0 = z := ⟨_, rfl⟩
                          obtain ⟨y, hy⟩ : ∃ z, zs.getD (i4 * 2 + 1) 0 = z := ⟨_, rfl⟩
                          have k1 := cell_int hb hbw4.out hcc (by rw [HPl.out]; exact hlt4) hx
                          obtain ⟨k2, k3⟩ := cell_two HL.out HS9.out hbw4.out hlt4 hT hy
                          have b1 := HP2.out i4 hlt4
                          have b2 := HAt.out i4 hlt4
                          rw [hx, hy] at b1
                          rw [hT, hy] at b2
                          have w1 : IntKind.i64.wrap (2 * x) = 2 * x := IntWalk.i64_in _ (by omega)
                          have hlt' : (i4 : Int) < (nP : Int) := by omega
                          have g1 : decide (x < 0) = false := by simp; omega
                          have g2 : decide (y < 2 * x) = false := by simp; omega
                          clear hcc hx hT hy b1 b2 k2
                          go_wp2_with fail
                          go_big_quiet (fail)
                          go_wp2_with fail
                          go_roundw
                          case rel => exact ⟨i4 + 1, by omega, by go_num, Lib.hid (below_drewN hbw4.out _)⟩
                          case measure => simp [intOf]; omega
                        · go_wp2_with fail
                          go_ret
                          exact lawEnd_of (HB9.out.step hbw4.out)
    · clear s0 w0 s1 w1
      go_enter Try.func12, Try.ntmps12
      go_wp2_with go_in
      go_ret
      exact ⟨rfl, Below.refl _ _⟩
  · clear s0 w0 s1 w1
    go_enter Try.func12, Try.ntmps12
    go_wp2_with go_in
    go_ret
    exact ⟨rfl, Below.refl _ _⟩

/-! ### From the walk to the statement -/
set_option maxRecDepth 100000 in
theorem FnHeels_lifted (os : Os) (started : os.Started) (H : Type) (enc : TypeId × Value → H) :
    ReturnsInHanded {} Try.checked os 12 .any (Rows.fnHeelsSpec.pre6 enc Try.prog Try.f12 Rows.fnHeelsRow.domain false) (Rows.fnHeelsSpec.post enc Try.prog Try.f12 false true false false) := by
  refine lifted_law (C := Try.checked) (tb := 4) own started (by kernel_rfl) Try.func12
    (ChangeSpec.witness6 (enc := enc) (C := Try.checked) false ⟨#[], #[.slice none 0 0, .slice none 0 0], []⟩ 8 (by kernel_rfl) (by kernel_rfl) (by kernel_rfl) (by kernel_rfl))
    laidOut (by kernel_rfl) rfl rfl Try.underlying4 (fun ds h => by match ds, h with | [_, _], _ => rfl) ?_
  intro W base args ds p hval hA
  rw [Try.params12] at hA hval
  obtain ⟨v0, vs0, d0, ds0, p0, q0, hargs, rfl, rfl, h0, r0⟩ := trodAll_cons hA
  obtain ⟨v1, vs1, d1, ds1, p1, q1, rfl, rfl, rfl, h1, r1⟩ := trodAll_cons r0
  obtain ⟨rfl, rfl, rfl⟩ := trodAll_nil r1
  obtain rfl : args = #[v0, v1] := by cases args; simp_all
  obtain ⟨a0, n0, c0, z0, rfl, l0, m0, s0, w0⟩ := open_ints_at Try.underlying45 Try.underlying5 (by kernel_rfl) (hval 0 45 v0 rfl rfl) h0
  obtain ⟨a1, n1, c1, z1, rfl, l1, m1, s1, w1⟩ := open_ints_at Try.underlying45 Try.underlying5 (by kernel_rfl) (hval 1 45 v1 rfl rfl) h1
  first | exact FnHeels_walk a0 n0 c0 z0 l0 m0 s0 w0 a1 n1 c1 z1 l1 m1 s1 w1 W | exact FnHeels_walk W a0 n0 c0 z0 l0 m0 s0 w0 a1 n1 c1 z1 l1 m1 s1 w1

theorem FnHeels_over : Rows.fnHeelsRow.holds Try.pinned (OpenSpec.ofChange Rows.fnHeelsSpec) :=
  OpenClaim.holds_of_wide 12 Try.f12 rfl rfl rfl rfl rfl rfl rfl ⟨rfl, rfl, rfl, rfl, rfl⟩ rfl rfl rfl rfl rfl (by kernel_rfl) Try.func12 (by kernel_rfl)
    (of_decide_eq_true (by kernel_rfl)) (by unfold Func.isWrapper; first | (rw [if_pos (by decide +kernel)]; kernel_rfl) | (rw [if_neg (by decide +kernel)]; exact ⟨rfl, rfl⟩))
    (fun os started H enc _ => FnHeels_lifted os started H enc)

/-- The statement. -/
theorem FnHeels_holds : Rows.FnHeelsSaid := FnHeels_over
#print axioms FnHeels_holds

end Go.Proofs.Ytlaapndncejlgaa
