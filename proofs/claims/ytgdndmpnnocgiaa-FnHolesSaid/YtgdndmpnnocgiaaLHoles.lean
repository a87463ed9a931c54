/-
  The law FnHoles returns true for all arguments. No condition.
-/
import Derived.Test.YtgdndmpnnocgiaaHolesLaw
import Derived.Test.YtgdndmpnnocgiaaClashDraw
import Derived.Test.YtgdndmpnnocgiaaRow
import Derived.Deep.DeepCutAuto
import Derived.Test.YtgdndmpnnocgiaaRows
import Derived.Test.YtgdndmpnnocgiaaBase
import Derived.Outline
namespace Go.Proofs.Ytgdndmpnnocgiaa
open Go.ChangeShapes Go.WideShapes Go.ChangeAt Go.RowKit Go.Deep
open Go.ChangeMaps (open_string shut_string)
open Go.Joins


set_option maxRecDepth 100000 in
set_option maxHeartbeats 25600000 in
theorem FnHoles_walk (w : World) (a0 : Option Addr) (n0 c0 : Nat) (z0 : List Int) (l0 : z0.length = n0) (_ : n0 ≤ maxLen) (s0 : CellsAt w a0 (z0.map (Value.int .u8))) (w0 : ∀ z ∈ z0, (Lit.int .u8 z).wf = true) :
    Calls Try.prog 12 #[.slice a0 n0 c0] w (LawEnd w) := by
  by_cases g0 : n0 ≤ 4096
  · have HC := Lib.hid (code_at l0 s0 w0 (by omega))
    clear l0 s0 w0
    go_enter Try.func12, Try.ntmps12
    go_wp2_with (go_at_call 41; go_in)
    refine (drawHolesOf_any w n0 c0 a0 HC.out).mono ?_
    rintro e w1 ⟨g, n, c, zs, s, rfl, hl, hn, hwf, hsw, hown, hb1⟩
    have HZ := Lib.hid (And.intro hl (And.intro hwf hsw))
    have HA1 := Lib.hid ((KA.nil w1).add (CellsAt.of_own hown))
    have HB1 := Lib.hid (Bel.of hb1)
    have HC1 := Lib.hid (HC.out.below hb1)
    obtain ⟨hs, ehs⟩ : ∃ q, holesF zs n s = q := ⟨_, rfl⟩
    obtain ⟨q, eq⟩ : ∃ q, sidesC zs n s = q := ⟨_, rfl⟩
    have HE := Lib.hid (And.intro ehs eq)
    have ci := impl_HolesOf w1 (some ⟨g, 0, none⟩) n c zs hl (by omega) HA1.out.h hwf s hsw
    have cs := fun W (hc : CellsAt W (some ⟨g, 0, none⟩) (zs.map (Value.int .i64))) => spec_HolesOf W (some ⟨g, 0, none⟩) n c zs hl (by omega) hc hwf s hsw
    have ct := fun W (hc : CellsAt W (some ⟨g, 0, none⟩) (zs.map (Value.int .i64))) => impl_StitchTotal W (some ⟨g, 0, none⟩) n c zs hl (by omega) hc hwf s hsw
    rw [ehs, eq] at ci
    simp only [ehs, eq] at cs ct
    have CI := Lib.hid ci
    have CS := Lib.hid cs
    have CT := Lib.hid ct
    clear hl hwf hsw hown hb1 ehs eq ci cs ct
    go_wp2_with fail
    refine CI.out.mono ?_
    rintro e w2 ⟨aH, nH, cH, rfl, hlen, hHn, hho, hb2⟩
    have HH := Lib.hid (show hs.length = nH by omega)
    have HA2 := Lib.hid ((HA1.out.below hb2).add (CellsAt.of_own hho))
    have HB2 := Lib.hid (HB1.out.step hb2)
    clear hlen hho hb2
    go_wp2_with fail
    refine (CS.out _ HA2.out.t.h).mono ?_
    rintro e w3 ⟨aM, nM, cM, rfl, hlen, _, hho, hb3⟩
    obtain rfl : nM = nH := by have := HH.out; omega
    have HA3 := Lib.hid ((HA2.out.below hb3).add (CellsAt.of_own hho))
    have HB3 := Lib.hid (HB2.out.step hb3)
    clear hlen hho hb3
    go_wp2_with fail
    refine (drawHoleClash_any w3 n0 c0 a0 (HC.out.below HB3.out.1)).mono ?_
    rintro e w4 ⟨gx, nx, cx, xs, gy, ny, cy, ys, l, rfl, hrx, hry, hlw, hb4⟩
    have hx1 := hrx.2.1
    have hy1 := hry.2.1
    obtain ⟨I, eI⟩ : ∃ q, clashI xs ys nx ny l = q := ⟨_, rfl⟩
    obtain ⟨K, eK⟩ : ∃ q, clashK xs ys nx ny l = q := ⟨_, rfl⟩
    obtain ⟨k, ek⟩ : ∃ q, clashC xs ys nx ny l = q := ⟨_, rfl⟩
    have HX := Lib.hid (And.intro hrx.1 hry.1)
    have HEc := Lib.hid (And.intro eI (And.intro eK ek))
    have HA4 := Lib.hid (((HA3.out.below hb4).add (CellsAt.of_own hrx.2.2.2)).add (CellsAt.of_own hry.2.2.2))
    have HB4 := Lib.hid (HB3.out.step hb4)
    have ci := impl_HoleClash w4 (some ⟨gx, 0, none⟩) nx cx xs hrx.1 (by omega) HA4.out.t.h hrx.2.2.1 (some ⟨gy, 0, none⟩) ny cy ys hry.1 (by omega) HA4.out.h hry.2.2.1 l hlw
    have cs := fun W (hx : CellsAt W (some ⟨gx, 0, none⟩) (xs.map (Value.int .i64))) (hy : CellsAt W (some ⟨gy, 0, none⟩) (ys.map (Value.int .i64))) => spec_HoleClash W (some ⟨gx, 0, none⟩) nx cx xs hrx.1 (by omega) hx hrx.2.2.1 (some ⟨gy, 0, none⟩) ny cy ys hry.1 (by omega) hy hry.2.2.1 l hlw
    rw [eI, eK, ek] at ci
    simp only [eI, eK, ek] at cs
    have CI2 := Lib.hid ci
    have CS2 := Lib.hid cs
    clear hrx hry hlw hb4 eI eK ek ci cs
    go_wp2_with fail
    refine CI2.out.mono ?_
    rintro e w5 ⟨rfl, hb5⟩
    have HA5 := Lib.hid (HA4.out.below hb5)
    have HB5 := Lib.hid (HB4.out.step hb5)
    clear hb5
    go_wp2_with fail
    refine (CS2.out _ HA5.out.t.h HA5.out.h).mono ?_
    rintro e w6 ⟨rfl, hb6⟩
    have HA6 := Lib.hid (HA5.out.below hb6)
    have HB6 := Lib.hid (HB5.out.step hb6)
    clear hb6
    go_wp2_with fail
    refine (drawLockPlaces_any w6 n0 c0 a0 (HC.out.below HB6.out.1)).mono ?_
    rintro e w7 ⟨h, e, b, rfl, ⟨hw1, hw2, hw3⟩, hb7⟩
    obtain ⟨ls, els⟩ : ∃ q, lockF h e b = q := ⟨_, rfl⟩
    obtain ⟨lc, elc⟩ : ∃ q, lockC h e b = q := ⟨_, rfl⟩
    have HEl := Lib.hid (And.intro els elc)
    have ci := impl_LockPlaces w7 h hw1 e hw2 b hw3
    have cs := fun W => spec_LockPlaces W h hw1 e hw2 b hw3
    rw [els, elc] at ci
    simp only [els, elc] at cs
    have CI3 := Lib.hid ci
    have CS3 := Lib.hid cs
    have HA7 := Lib.hid (HA6.out.below hb7)
    have HB7 := Lib.hid (HB6.out.step hb7)
    clear hw1 hw2 hw3 hb7 els elc ci cs
    go_wp2_with fail
    refine CI3.out.mono ?_
    rintro e' w8 ⟨aL, nL, cL, rfl, hlen, hLn, hho, hb8⟩
    have HL := Lib.hid (show ls.length = nL by omega)
    have HA8 := Lib.hid ((HA7.out.below hb8).add (CellsAt.of_own hho))
    have HB8 := Lib.hid (HB7.out.step hb8)
    clear hlen hho hb8
    go_wp2_with fail
    refine (CS3.out _).mono ?_
    rintro e' w9 ⟨aR, nR, cR, rfl, hlen, _, hho, hb9⟩
    obtain rfl : nR = nL := by have := HL.out; omega
    have HA9 := Lib.hid ((HA8.out.below hb9).add (CellsAt.of_own hho))
    have HB9 := Lib.hid (HB8.out.step hb9)
    clear hlen hho hb9
    go_wp2_with fail
    refine (drawSeamMinutes_any w9 n0 c0 a0 (HC.out.below HB9.out.1)).mono ?_
    rintro e' w10 ⟨gs, ns, cs, ts, x, y, z, rfl, htl, htn, htw, ⟨hw1, hw2, hw3⟩, hto, hb10⟩
    obtain ⟨mf, emf⟩ : ∃ q, minF ts ns x y z = q := ⟨_, rfl⟩
    obtain ⟨mc, emc⟩ : ∃ q, minC ts ns x y z = q := ⟨_, rfl⟩
    have ci := impl_SeamMinutes w10 (some ⟨gs, 0, none⟩) ns cs ts htl (by omega) (CellsAt.of_own hto) htw x hw1 y hw2 z hw3
    have cs2 := fun W (hb : Below w10.heap.size w10 W) => spec_SeamMinutes W (some ⟨gs, 0, none⟩) ns cs ts htl (by omega) ((CellsAt.of_own hto).below hb) htw x hw1 y hw2 z hw3
    rw [emf, emc] at ci
    simp only [emf, emc] at cs2
    have CI4 := Lib.hid ci
    have CS4 := Lib.hid cs2
    have HA10 := Lib.hid (HA9.out.below hb10)
    have HB10 := Lib.hid (HB9.out.step hb10)
    clear htl htn htw hto hw1 hw2 hw3 hb10 emf emc ci cs2
    go_wp2_with fail
    refine CI4.out.mono ?_
    rintro e' w11 ⟨rfl, hb11⟩
    have CS5 := Lib.hid (CS4.out _ hb11)
    have HA11 := Lib.hid (HA10.out.below hb11)
    have HB11 := Lib.hid (HB10.out.step hb11)
    clear hb11 CS4
    go_wp2_with fail
    refine CS5.out.mono ?_
    rintro e' w12 ⟨rfl, hb12⟩
    have HA12 := Lib.hid (HA11.out.below hb12)
    have HB12 := Lib.hid (HB11.out.step hb12)
    have t1 : (q != q) = false := by simp
    have t2 : (k != k) = false := by simp
    have t3 : (I != I) = false := by simp
    have t4 : (K != K) = false := by simp
    have t5 : (lc != lc) = false := by simp
    have t6 : (mc != mc) = false := by simp
    have t7 : (mf != mf) = false := by simp
    clear hb12 CS5 CI4 CI3 CS3 CI2 CS2 CI CS
    go_wp2_with fail
    refine (f6ints_any aH aM nM cH cM hs w12 HH.out hHn HA12.out.t.t.t.t.t.h HA12.out.t.t.t.t.h).mono ?_
    rintro e' w13 ⟨rfl, hb13⟩
    have HA13 := Lib.hid (HA12.out.below hb13)
    have HB13 := Lib.hid (HB12.out.step hb13)
    clear hb13
    go_wp2_with fail
    refine (f6ints_any aL aR nR cL cR ls w13 HL.out hLn HA13.out.t.h HA13.out.h).mono ?_
    rintro e' w14 ⟨rfl, hb14⟩
    have HA14 := Lib.hid (HA13.out.below hb14)
    have HB14 := Lib.hid (HB13.out.step hb14)
    clear hb14
    go_upto_region 17 with fail
    go_cut [190] (fun t W => t = .bool false ∧ Hid (KA W [(aR, ls.map (Value.int .i64)), (aM, hs.map (Value.int .i64)), (some ⟨g, 0, none⟩, zs.map (Value.int .i64))]) ∧ Hid (Bel w.heap.size w W))
    case first =>
      have HKq := Lib.hid (fun m => show KA (w14.drewN m) [(aR, ls.map (Value.int .i64)), (aM, hs.map (Value.int .i64)), (some ⟨g, 0, none⟩, zs.map (Value.int .i64))] from KA.below ((((KA.nil w14).add HA14.out.t.t.t.t.t.t.h).add HA14.out.t.t.t.t.h).add HA14.out.h) (below_drewN (Below.refl _ _) m))
      by_cases hk : k = 0
      · subst hk
        obtain ⟨i', k', e1, e2, i1, k1, x1, x2, y1, y2, hnear⟩ := clash_near HX.out.1 HX.out.2 HEc.out.2.2
        obtain rfl : I = (i' : Int) := by rw [← HEc.out.1, e1]
        obtain rfl : K = (k' : Int) := by rw [← HEc.out.2.1, e2]
        obtain ⟨X, hX⟩ : ∃ v, xs.getD i' 0 = v := ⟨_, rfl⟩
        obtain ⟨Y, hY⟩ : ∃ v, ys.getD k' 0 = v := ⟨_, rfl⟩
        rw [hX] at x1 x2 hnear
        rw [hY] at y1 y2 hnear
        have c1 := cell_at0 HA14.out.t.t.t.h (Below.refl _ _) (by rw [HX.out.1]; exact i1) hX
        have c2 := cell_at0 HA14.out.t.t.h (Below.refl _ _) (by rw [HX.out.2]; exact k1) hY
        have u1 : IntKind.i64.wrap (X - Y) = X - Y := IntWalk.i64_in _ (by omega)
        have u2 : IntKind.i64.wrap (Y - X) = Y - X := IntWalk.i64_in _ (by omega)
        have gg : decide (l ≤ max (X - Y) (Y - X)) = false := by simp; omega
        have gi : (i' : Int) < (nx : Int) := by omega
        have gk : (k' : Int) < (ny : Int) := by omega
        have HN := Lib.hid hnear
        clear e1 e2 hX hY hnear gg
        go_big_quiet (fail)
        go_wp2_with fail
        all_goals
          go_meet
          exact ⟨congrArg Value.bool (by have := HN.out; simp; omega), Lib.hid (HKq.out _), Lib.hid (HB14.out.drewN _)⟩
      · have gk : (k == 0) = false := by simpa using hk
        go_big_quiet (fail)
        go_wp2_with fail
        go_meet
        exact ⟨rfl, Lib.hid (HKq.out _), Lib.hid (HB14.out.drewN _)⟩
    case rest =>
      obtain ⟨rfl, hka, hbel⟩ := hcut
      obtain ⟨wo, rfl⟩ : ∃ wo : World, wo = wc := ⟨_, rfl⟩
      clear HA1 HA2 HA3 HA4 HA5 HA6 HA7 HA8 HA9 HA10 HA11 HA12 HA13 HA14 HB1 HB2 HB3 HB4 HB5 HB6 HB7 HB8 HB9 HB10 HB11 HB12 HB13 HB14
      go_upto_if 192 with fail
      go_cut [] (fun W => Hid (KA W [(aM, hs.map (Value.int .i64)), (some ⟨g, 0, none⟩, zs.map (Value.int .i64))]) ∧ Hid (Bel w.heap.size w W))
      case first =>
        by_cases hlc : lc = 0
        · subst hlc
          obtain ⟨hB, h1, h2, e1, e2, b1, b2, hll⟩ := lock_ok HEl.out.2
          obtain ⟨H, rfl⟩ : ∃ H : Nat, h = (H : Int) := ⟨h.toNat, by omega⟩
          have HP := Lib.hid (fun j (hj : (j : Nat) < H) => show decide ((j : Int) ∈ ls) = lockP H e b j by rw [← HEl.out.1]; exact lock_has hB (by omega))
          clear hB hll
          go_wp2_with fail
          go_loopw [33] (fun u wr => ∃ j : Nat, j ≤ H ∧ u = .int .i64 j ∧ Hid (Below wo.heap.size wo wr)) (fun u _ => H - (intOf u).toNat)
          case atStart => exact ⟨0, Nat.zero_le _, rfl, Lib.hid (Below.refl _ _)⟩
          case round =>
            obtain ⟨j, hj, rfl, hbw⟩ := hrel
            by_cases hlt : j < H
            · have hlt' : (j : Int) < (H : Int) := by omega
              have hm1 := Int.emod_nonneg (j : Int) (show e ≠ 0 by omega)
              have HKj := Lib.hid (fun m => show CellsAt (wr.drewN m) aR (ls.map (Value.int .i64)) from (KA.below hka.out (below_drewN hbw.out m)).h)
              have w1 : IntKind.i64.wrap ((j : Int).tmod e) = (j : Int) % e := by
                rw [Int.tmod_eq_emod_of_nonneg (by omega)]
                exact IntWalk.i64_in _ (by have := Int.emod_lt_of_pos (j : Int) (show 0 < e by omega); omega)
              have w2 : IntKind.i64.wrap ((H : Int) - b) = (H : Int) - b := IntWalk.i64_in _ (by omega)
              by_cases hm : (j : Int) % e = 0
              · have gg : ((j : Int) % e == 0) = true := by simpa using hm
                have HPj := Lib.hid (show decide ((j : Int) ∈ ls) = true by rw [HP.out j hlt]; simp [lockP, hm])
                clear hm
                go_wp2_with fail
                go_big_quiet ((go_at_call 47; first | exact quiet_left (callsB (f6has_any _ _ _ ls _ _ HL.out hLn (HKj.out _)) HPj.out) | exact quiet_add_left (callsB (f6has_any _ _ _ ls _ _ HL.out hLn (HKj.out _)) HPj.out)))
                go_wp2_with fail
                go_roundw
                case rel => exact ⟨j + 1, by omega, by go_num, Lib.hid (below_drewN hbw.out _)⟩
                case measure => simp [intOf]; omega
              · have gg : ((j : Int) % e == 0) = false := by simpa using hm
                by_cases h2 : (H : Int) - b ≤ (j : Int)
                · have HPj := Lib.hid (show decide ((j : Int) ∈ ls) = true by rw [HP.out j hlt]; simp [lockP, h2])
                  have g2 : decide ((H : Int) - b ≤ (j : Int)) = true := by simpa using h2
                  clear hm
                  go_wp2_with fail
                  go_big_quiet ((go_at_call 47; first | exact quiet_left (callsB (f6has_any _ _ _ ls _ _ HL.out hLn (HKj.out _)) HPj.out) | exact quiet_add_left (callsB (f6has_any _ _ _ ls _ _ HL.out hLn (HKj.out _)) HPj.out)))
                  go_wp2_with fail
                  go_roundw
                  case rel => exact ⟨j + 1, by omega, by go_num, Lib.hid (below_drewN hbw.out _)⟩
                  case measure => simp [intOf]; omega
                · have HPj := Lib.hid (show decide ((j : Int) ∈ ls) = false by rw [HP.out j hlt]; simp [lockP, hm]; omega)
                  have g2 : decide ((H : Int) - b ≤ (j : Int)) = false := by simpa using h2
                  clear hm
                  go_wp2_with fail
                  go_big_quiet ((go_at_call 47; first | exact quiet_left (callsB (f6has_any _ _ _ ls _ _ HL.out hLn (HKj.out _)) HPj.out) | exact quiet_add_left (callsB (f6has_any _ _ _ ls _ _ HL.out hLn (HKj.out _)) HPj.out)))
                  go_wp2_with fail
                  go_roundw
                  case rel => first | exact ⟨j + 1, by omega, by go_num, Lib.hid (below_drewN hbw.out _)⟩ | ((repeat apply Exists.intro); exact ⟨⟨j + 1, by omega, by go_num, Lib.hid (below_drewN hbw.out _)⟩, rfl⟩)
                  case measure => simp [intOf]; omega
            · obtain rfl : j = H := by omega
              go_wp2_with fail
              go_meet
              exact ⟨Lib.hid (hka.out.below hbw.out).t, Lib.hid (hbel.out.step hbw.out)⟩
        · have gk : (lc == 0) = false := by simpa using hlc
          go_wp2_with fail
          go_meet
          exact ⟨Lib.hid hka.out.t, hbel⟩
      case rest =>
        obtain ⟨hka2, hbel2⟩ := hcut
        by_cases hq : q = 0
        · subst hq
          obtain ⟨hB, s1, s2⟩ := sides_ok HE.out.2
          obtain ⟨n1, n2⟩ := sides_n hB
          obtain ⟨hup, htl, hf0, hfl⟩ := holes_up hB HZ.out.1 s1 (i := n) (Nat.le_refl _)
          have ehs : holesI zs s n = hs := by rw [← HE.out.1]; simp [holesF, HE.out.2]
          have htot : totF zs n s = totI zs s n := by simp [totF, HE.out.2]
          have htb := totI_bd hB HZ.out.1 s1 (i := n) (Nat.le_refl _)
          have hbb := begI_bd hB HZ.out.1 (i := n) (Nat.le_refl _)
          obtain ⟨T, hT⟩ : ∃ T, totI zs s n = T := ⟨_, rfl⟩
          rw [hT] at htl htb
          rw [ehs] at hup htl hf0 hfl
          rw [HH.out] at htl hfl
          have ct := CT.out wc hka2.out.t.h
          rw [htot, hT] at ct
          obtain ⟨S, hS⟩ : ∃ S, begI zs n = S := ⟨_, rfl⟩
          rw [hS] at hbb hfl hup
          obtain ⟨N, rfl⟩ : ∃ N : Nat, nM = N + 1 := ⟨nM - 1, by omega⟩
          obtain rfl : T = (N : Int) := by omega
          have hN : N ≤ 100000 := by omega
          have HT := Lib.hid ct
          have HUp := Lib.hid hup
          have H0 := Lib.hid hf0
          have HL0 := Lib.hid (show hs.getD N 0 = S from hfl)
          have HSum := Lib.hid (show sumTo zs n = S by rw [sum_beg, hS])
          have HAt := Lib.hid (fun k (hk : k < n) => (show 0 ≤ zs.getD k 0 ∧ zs.getD k 0 ≤ ((1000000 : Nat) : Int) from by have := sides_at hB HZ.out.1 hk; omega))
          clear hB hup htl hf0 hfl ehs htot htb hT ct hS hbb
          go_wp2_with fail
          refine HT.out.mono ?_
          rintro e' w15 ⟨rfl, hb15⟩
          have HA15 := Lib.hid (hka2.out.below hb15)
          have HB15 := Lib.hid (hbel2.out.step hb15)
          clear hb15
          obtain ⟨bM, oM, rfl, hbM, hcM⟩ := HA15.out.h.at_ (by have := HH.out; simp; omega)
          have HcM := Lib.hid hcM
          have c0 : w15.cell? ⟨bM, oM, none⟩ = some (.int .i64 0) := cell_int (j := 0) hbM (Below.refl _ _) hcM (by rw [HH.out]; omega) H0.out
          have cN : w15.cell? ⟨bM, oM + N, none⟩ = some (.int .i64 S) := cell_int hbM (Below.refl _ _) hcM (by rw [HH.out]; omega) HL0.out
          have v1 : IntKind.i64.wrap ((N : Int) + 1) = (N : Int) + 1 := IntWalk.i64_in _ (by omega)
          have v2 : IntKind.i64.wrap ((N : Int) + 1 - 1) = (N : Int) := by rw [IntWalk.i64_in _ (by omega)]; omega
          have v3 : (((N : Int) + 1) != ((N : Int) + 1)) = false := by simp
          have v4 : (S != S) = false := by simp
          have HZq := Lib.hid (fun m => show CellsAt (w15.drewN m) (some ⟨g, 0, none⟩) (zs.map (Value.int .i64)) from (KA.below HA15.out (below_drewN (Below.refl _ _) m)).t.h)
          have HSx := Lib.hid (fun m => show Calls Try.prog 48 #[.slice (some ⟨g, 0, none⟩) n c] (w15.drewN m) fun e w' => e = .returned (.int .i64 S) ∧ w15.drewN m = w' from by
            have := f6sum_any (some ⟨g, 0, none⟩) n c zs (w15.drewN m) HZ.out.1 (by omega) HAt.out (HZq.out m)
            rw [HSum.out] at this
            exact this)
          clear hcM
          go_wp2_with fail
          go_big_quiet ((go_at_call 48; first | exact quiet_left (HSx.out _) | exact quiet_add_left (HSx.out _)))
          go_wp2_with fail
          have HKo := Lib.hid (fun W (hb : Below w15.heap.size w15 W) => (HA15.out.below hb).h)
          have HBq := Lib.hid (fun m => HB15.out.drewN m)
          clear HA15 HB15 c0 cN v1 v2 v3 v4 HZq HSx hka2 hbel2 hka hbel
          go_loopw [36] (fun u wr => ∃ j : Nat, j ≤ N ∧ u = .int .i64 ((j : Int) + 1) ∧ Hid (Below w15.heap.size w15 wr)) (fun u _ => N + 1 - (intOf u).toNat)
          case atStart => exact ⟨0, Nat.zero_le _, rfl, Lib.hid (below_drewN (Below.refl _ _) _)⟩
          case round =>
            obtain ⟨j, hj, rfl, hbw⟩ := hrel
            by_cases hlt : j < N
            · obtain ⟨x, hx⟩ : ∃ v, hs.getD j 0 = v := ⟨_, rfl⟩
              obtain ⟨y, hy⟩ : ∃ v, hs.getD (j + 1) 0 = v := ⟨_, rfl⟩
              have k1 := cell_int (j := j) hbM hbw.out HcM.out (by rw [HH.out]; omega) hx
              have k2 : wr.cell? ⟨bM, oM + (j + 1), none⟩ = some (.int .i64 y) := cell_int (j := j + 1) hbM hbw.out HcM.out (by rw [HH.out]; omega) hy
              have k3 : wr.cell? ⟨bM, oM + j + 1, none⟩ = some (.int .i64 y) := k2
              have hle := HUp.out.at_ (j := j) (by rw [HH.out]; omega)
              rw [hx, hy] at hle
              have g1 : decide (y < x) = false := by simp; omega
              have u1 : IntKind.i64.wrap ((j : Int) + 1 - 1) = (j : Int) := by rw [IntWalk.i64_in _ (by omega)]; omega
              have u2 : ((j : Int) + 1).toNat = j + 1 := by omega
              have u3 : (0 : Int) ≤ (j : Int) + 1 := by omega
              have hlt' : (j : Int) + 1 < (N : Int) + 1 := by omega
              clear hx hy hle
              go_wp2_with fail
              go_big_quiet (fail)
              go_wp2_with fail
              go_roundw
              case rel => exact ⟨j + 1, by omega, by go_num, Lib.hid (below_drewN hbw.out _)⟩
              case measure => simp [intOf]; omega
            · obtain rfl : j = N := by omega
              go_wp2_with fail
              go_ret
              exact lawEnd_of (Bel.step (HBq.out 0) hbw.out)
        · have gq : (q != 0) = true := by simpa using hq
          go_wp2_with fail
          go_ret
          exact lawEnd_of hbel2.out
  · clear s0 w0
    go_enter Try.func12, Try.ntmps12
    go_wp2_with go_in
    go_ret
    exact ⟨rfl, Below.refl _ _⟩

/-! ### From the walk to the statement -/
set_option maxRecDepth 100000 in
theorem FnHoles_lifted (os : Os) (started : os.Started) (H : Type) (enc : TypeId × Value → H) :
    ReturnsInHanded {} Try.checked os 12 .any (Rows.fnHolesSpec.pre6 enc Try.prog Try.f12 Rows.fnHolesRow.domain false) (Rows.fnHolesSpec.post enc Try.prog Try.f12 false true false false) := by
  refine lifted_law (C := Try.checked) (tb := 4) own started (by kernel_rfl) Try.func12
    (ChangeSpec.witness6 (enc := enc) (C := Try.checked) false ⟨#[], #[.slice none 0 0], []⟩ 8 (by kernel_rfl) (by kernel_rfl) (by kernel_rfl) (by kernel_rfl))
    laidOut (by kernel_rfl) rfl rfl Try.underlying4 (fun ds h => by match ds, h with | [_], _ => rfl) ?_
  intro W base args ds p hval hA
  rw [Try.params12] at hA hval
  obtain ⟨v0, vs0, d0, ds0, p0, q0, hargs, rfl, rfl, h0, r0⟩ := trodAll_cons hA
  obtain ⟨rfl, rfl, rfl⟩ := trodAll_nil r0
  obtain rfl : args = #[v0] := by cases args; simp_all
  obtain ⟨a0, n0, c0, z0, rfl, l0, m0, s0, w0⟩ := open_ints_at Try.underlying56 Try.underlying5 (by kernel_rfl) (hval 0 56 v0 rfl rfl) h0
  first | exact FnHoles_walk a0 n0 c0 z0 l0 m0 s0 w0 W | exact FnHoles_walk W a0 n0 c0 z0 l0 m0 s0 w0

theorem FnHoles_over : Rows.fnHolesRow.holds Try.pinned (OpenSpec.ofChange Rows.fnHolesSpec) :=
  OpenClaim.holds_of_wide 12 Try.f12 rfl rfl rfl rfl rfl rfl rfl ⟨rfl, rfl, rfl, rfl, rfl⟩ rfl rfl rfl rfl rfl (by kernel_rfl) Try.func12 (by kernel_rfl)
    (of_decide_eq_true (by kernel_rfl)) (by unfold Func.isWrapper; first | (rw [if_pos (by decide +kernel)]; kernel_rfl) | (rw [if_neg (by decide +kernel)]; exact ⟨rfl, rfl⟩))
    (fun os started H enc _ => FnHoles_lifted os started H enc)

/-- The statement. -/
theorem FnHoles_holds : Rows.FnHolesSaid := FnHoles_over
#print axioms FnHoles_holds

end Go.Proofs.Ytgdndmpnnocgiaa
