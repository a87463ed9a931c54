/-
  Contracts of CountsFor, both sides. No condition of its own.
-/
import Derived.Test.YtfkojbkgpbpjhaaDoorHoles
import Derived.Test.YtfkojbkgpbpjhaaDoorRepeat
namespace Go.Proofs.YtfkojbkgpbpjhaaDoor
open Go.ChangeShapes Go.WideShapes Go.ChangeAt Go.RowKit Go.Deep Go.Shelf

/-- The first side with the longest stitches, of the first i. -/
def bestI (zs L : List Int) : Nat → Nat
  | 0 => 0
  | i + 1 => if zs.getD (bestI zs L i) 0 * L.getD i 0 < zs.getD i 0 * L.getD (bestI zs L i) 0 then i else bestI zs L i
theorem bestI_one (zs L : List Int) : bestI zs L 1 = 0 := by simp [bestI]
theorem bestI_lt (zs L : List Int) {n : Nat} (hn : 1 ≤ n) : ∀ {i : Nat}, i ≤ n → bestI zs L i < n := by
  intro i
  induction i with
  | zero => intro _; exact hn
  | succ i ih =>
    intro hi
    have := ih (by omega)
    simp only [bestI]
    split <;> omega
theorem best_yes {zs L : List Int} {i b : Nat} {zi zb li lb : Int} (hb : bestI zs L i = b) (h1 : zs.getD i 0 = zi) (h2 : zs.getD b 0 = zb) (h3 : L.getD i 0 = li) (h4 : L.getD b 0 = lb) (h : zb * li < zi * lb) : bestI zs L (i + 1) = i := by
  simp only [bestI, hb, h1, h2, h3, h4, if_pos h]
theorem best_no {zs L : List Int} {i b : Nat} {zi zb li lb : Int} (hb : bestI zs L i = b) (h1 : zs.getD i 0 = zi) (h2 : zs.getD b 0 = zb) (h3 : L.getD i 0 = li) (h4 : L.getD b 0 = lb) (h : ¬ zb * li < zi * lb) : bestI zs L (i + 1) = b := by
  simp only [bestI, hb, h1, h2, h3, h4, if_neg h]
def cntsI (zs : List Int) (n : Nat) : Nat → List Int
  | 0 => List.replicate n 1
  | r + 1 => (cntsI zs n r).set (bestI zs (cntsI zs n r) n) ((cntsI zs n r).getD (bestI zs (cntsI zs n r) n) 0 + 1)
theorem length_cntsI (zs : List Int) (n r : Nat) : (cntsI zs n r).length = n := by
  induction r with
  | zero => simp [cntsI]
  | succ r ih => simp only [cntsI, List.length_set, ih]
theorem cntsI_bd (zs : List Int) (n r : Nat) : ∀ j, j < n → 1 ≤ (cntsI zs n r).getD j 0 ∧ (cntsI zs n r).getD j 0 ≤ 1 + r := by
  induction r with
  | zero => intro j hj; simp [cntsI, hj]
  | succ r ih =>
    intro j hj
    have h1 := ih j hj
    have h2 := ih (bestI zs (cntsI zs n r) n) (bestI_lt _ _ (by omega) (Nat.le_refl _))
    simp only [cntsI]
    rw [List.getD_eq_getElem?_getD, List.getElem?_set]
    split
    · rw [if_pos (by rw [length_cntsI]; omega)]
      simp only [Option.getD_some]
      omega
    · rw [← List.getD_eq_getElem?_getD]
      omega
theorem cnts_step {zs L : List Int} {n r b : Nat} {u : Int} (hL : cntsI zs n r = L) (hb : bestI zs L n = b) (hu : L.getD b 0 = u) : cntsI zs n (r + 1) = L.set b (u + 1) := by
  simp only [cntsI, hL, hb, hu]
def countsC (zs : List Int) (n : Nat) (t : Int) : Int := if sidesB zs n then (if inB t 1 1000 then (if t < (n : Int) then 6 else 0) else 2) else 1
def countsF (zs : List Int) (n : Nat) (t : Int) : List Int := if sidesB zs n then (if inB t 1 1000 then (if t < (n : Int) then [] else cntsI zs n (t - n).toNat) else []) else []

set_option maxRecDepth 100000 in
set_option maxHeartbeats 3200000 in
theorem impl_CountsFor (w : World) (a : Option Addr) (n c : Nat) (zs : List Int) (hl : zs.length = n) (hn : n ≤ 1048576) (hc : CellsAt w a (zs.map (Value.int .i64))) (_ : ∀ z ∈ zs, (Lit.int .i64 z).wf = true) (t : Int) (_ : (Lit.int .i64 t).wf = true) :
    Calls Tryd.prog 40 #[.slice a n c, .int .i64 t] w (RowEnd w 2 1 (countsF zs n t) (countsC zs n t)) := by
  have h1 := validSides_any a n c zs w hl (by omega) hc
  cases hb : sidesB zs n with
  | false =>
    rw [show countsF zs n t = [] by simp [countsF, hb], show countsC zs n t = 1 by simp [countsC, hb]]
    rw [hb] at h1
    have H1 := Lib.hid h1
    clear h1 hb hl hc
    go_enter Tryd.func40, Tryd.ntmps40
    go_wp2_with (go_at_call 49; refine H1.out.mono ?_; rintro e w1 ⟨rfl, hb1⟩)
    go_ret2
    exact rowEnd_fail hb1
  | true =>
    rw [hb] at h1
    have H1 := Lib.hid h1
    obtain ⟨n1, n2⟩ := sides_n hb
    cases ht : inB t 1 1000 with
    | false =>
      rw [show countsF zs n t = [] by simp [countsF, hb, ht], show countsC zs n t = 2 by simp [countsC, hb, ht]]
      clear h1 hb hl hc
      go_enter Tryd.func40, Tryd.ntmps40
      go_wp2_with (first | (go_at_call 49; refine H1.out.mono ?_; rintro e w1 ⟨rfl, hb1⟩; have HB1 := Lib.hid hb1; clear hb1) | (go_at_call 63; refine (within_any _ _ _ _).mono ?_; rintro e w1 ⟨rfl, rfl⟩))
      go_ret2
      exact rowEnd_fail HB1.out
    | true =>
      obtain ⟨t1, t2⟩ := inB_true.1 ht
      by_cases htn : t < (n : Int)
      · rw [show countsF zs n t = [] by simp [countsF, hb, ht, htn], show countsC zs n t = 6 by simp [countsC, hb, ht, htn]]
        clear h1 hb hl hc
        go_enter Tryd.func40, Tryd.ntmps40
        go_wp2_with (first | (go_at_call 49; refine H1.out.mono ?_; rintro e w1 ⟨rfl, hb1⟩; have HB1 := Lib.hid hb1; clear hb1) | (go_at_call 63; refine (within_any _ _ _ _).mono ?_; rintro e w1 ⟨rfl, rfl⟩))
        go_ret2
        exact rowEnd_fail HB1.out
      · rw [show countsC zs n t = 0 by simp [countsC, hb, ht, htn]]
        obtain ⟨r0, hr⟩ : ∃ r, countsF zs n t = r := ⟨_, rfl⟩
        rw [hr]
        rw [show countsF zs n t = cntsI zs n (t - n).toNat by simp [countsF, hb, ht, htn]] at hr
        obtain ⟨R, hR⟩ : ∃ R : Nat, (R : Int) = t - n := ⟨(t - n).toNat, by omega⟩
        rw [show (t - n).toNat = R by omega] at hr
        have HR := Lib.hid hr
        have HRR := Lib.hid hR
        have Hz := Lib.hid hl
        have HA := Lib.hid hc
        have HAt := Lib.hid (fun k (hk : k < n) => sides_at hb hl hk)
        have hR1 : (R : Int) ≤ 1000 := by omega
        have hRep := Lib.hid (fun g W => repeatI_any g 1 n 1 W n1 hn)
        clear h1 hb hl hc hr hR
        go_enter Tryd.func40, Tryd.ntmps40
        go_wp2_with (first | (go_at_call 49; refine H1.out.mono ?_; rintro e w1 ⟨rfl, hb1⟩; have HB1 := Lib.hid (Bel.of hb1); clear hb1) | (go_at_call 63; refine (within_any _ _ _ _).mono ?_; rintro e w1 ⟨rfl, rfl⟩) | (go_at_call 84; refine (hRep.out _ _ (by simp)).mono ?_; rintro e w2 ⟨aL, capL, rfl, hoL, hb2⟩; have HL0 := Lib.hid (own_base hoL (HB1.out.alloc _).2); have HB2 := Lib.hid ((HB1.out.alloc _).step hb2); clear hoL hb2))
        go_loopw [31] (fun v wr => ∃ r : Nat, r ≤ R ∧ v = .int .i64 r ∧ ∃ L : List Int, Hid (cntsI zs n r = L) ∧ Hid (wr.ownsRow w.heap.size 2 1 (.slice aL n capL) n (L.map (Value.int .i64))) ∧ Hid (Bel w.heap.size w wr)) (fun v _ => R - (intOf v).toNat)
        case atStart => exact ⟨0, Nat.zero_le _, rfl, List.replicate n 1, Lib.hid rfl, Lib.hid (by simpa using HL0.out), HB2⟩
        case round =>
          obtain ⟨r, hr, rfl, L, hL, hown, hbw⟩ := hrel
          have hL1 : L.length = n := by rw [← hL.out, length_cntsI]
          have hLb := cntsI_bd zs n r
          rw [hL.out] at hLb
          have HL1 := Lib.hid hL1
          have HLb := Lib.hid hLb
          clear hL1 hLb
          by_cases hlt : r < R
          · have hlt' : (r : Int) < t - n := by have := HRR.out; omega
            rcases own_form hown.out with h0 | ⟨gL, rfl⟩
            · omega
            go_wp2
            go_loopw [8, 35] (fun v u wi => ∃ i : Nat, i ≤ n ∧ u = .int .i64 i ∧ ∃ b : Nat, b < n ∧ v = .int .i64 b ∧ Hid (bestI zs L i = b) ∧ Hid (wi.ownsRow w.heap.size 2 1 (.slice (some ⟨gL, 0, none⟩) n capL) n (L.map (Value.int .i64))) ∧ Hid (Bel w.heap.size w wi)) (fun _ u _ => n - (intOf u).toNat)
            case atStart => exact ⟨0, Nat.zero_le _, rfl, 0, by omega, rfl, Lib.hid rfl, hown, hbw⟩
            case round =>
              obtain ⟨i, hi, rfl, b, hbn, rfl, hbest, hown, hbw⟩ := hrel
              by_cases hli : i < n
              · obtain ⟨g, o, rfl, hg, hcc⟩ := HA.out.at_ (by have := Hz.out; simp; omega)
                obtain ⟨zi, hzi⟩ : ∃ z, zs.getD i 0 = z := ⟨_, rfl⟩
                obtain ⟨zb, hzb⟩ : ∃ z, zs.getD b 0 = z := ⟨_, rfl⟩
                obtain ⟨li, hli2⟩ : ∃ z, L.getD i 0 = z := ⟨_, rfl⟩
                obtain ⟨lb, hlb⟩ : ∃ z, L.getD b 0 = z := ⟨_, rfl⟩
                have c1 := cell_int hg hbw.out.1 hcc (by rw [Hz.out]; exact hli) hzi
                have c2 := cell_int hg hbw.out.1 hcc (by rw [Hz.out]; exact hbn) hzb
                have c3 : wr.cell? ⟨gL, i, none⟩ = some (.int .i64 li) := by rw [hown.out.cellAt i (by omega), ← hli2]; simp [List.getElem?_eq_getElem (show i < L.length by rw [HL1.out]; exact hli)]
                have c4 : wr.cell? ⟨gL, b, none⟩ = some (.int .i64 lb) := by rw [hown.out.cellAt b (by omega), ← hlb]; simp [List.getElem?_eq_getElem (show b < L.length by rw [HL1.out]; exact hbn)]
                have b1 := HAt.out i hli
                have b2 := HAt.out b hbn
                have b3 := HLb.out i hli
                have b4 := HLb.out b hbn
                rw [hzi] at b1; rw [hzb] at b2; rw [hli2] at b3; rw [hlb] at b4
                obtain ⟨p1, p2⟩ := prod_bd (a := zi) (b := lb) (by omega) b1.2 (by omega) (show lb ≤ 1001 by omega)
                obtain ⟨p3, p4⟩ := prod_bd (a := zb) (b := li) (by omega) b2.2 (by omega) (show li ≤ 1001 by omega)
                have w1 : IntKind.i64.wrap (zi * lb) = zi * lb := IntWalk.i64_in _ (by omega)
                have w2 : IntKind.i64.wrap (zb * li) = zb * li := IntWalk.i64_in _ (by omega)
                have H2 := Lib.hid hzi
                have H3 := Lib.hid hzb
                have H4 := Lib.hid hli2
                have H5 := Lib.hid hlb
                have hli' : (i : Int) < (n : Int) := by omega
                have hbn' : (b : Int) < (n : Int) := by omega
                clear hcc hzi hzb hli2 hlb b1 b2 b3 b4 p1 p2 p3 p4
                by_cases hgt : zb * li < zi * lb
                · have gg : decide (zb * li < zi * lb) = true := by simpa using hgt
                  have HG := Lib.hid (best_yes hbest.out H2.out H3.out H4.out H5.out hgt)
                  clear hgt
                  go_wp2_with fail
                  go_big_quiet (fail)
                  go_wp2_with fail
                  go_roundw
                  case rel => exact ⟨i + 1, by omega, by go_num, i, hli, rfl, HG, Lib.hid (own_drewN hown.out _), Lib.hid (hbw.out.drewN _)⟩
                  case measure => simp [intOf]; omega
                · have gg : decide (zb * li < zi * lb) = false := by simpa using hgt
                  have HG := Lib.hid (best_no hbest.out H2.out H3.out H4.out H5.out hgt)
                  clear hgt
                  go_wp2_with fail
                  go_big_quiet (fail)
                  go_wp2_with fail
                  go_roundw
                  case rel => exact ⟨i + 1, by omega, by go_num, b, hbn, rfl, HG, Lib.hid (own_drewN hown.out _), Lib.hid (hbw.out.drewN _)⟩
                  case measure => simp [intOf]; omega
              · obtain rfl : i = n := by omega
                obtain ⟨u, hu⟩ : ∃ z, L.getD b 0 = z := ⟨_, rfl⟩
                have hcl : wr.cell? ⟨gL, b, none⟩ = some (.int .i64 u) := by rw [hown.out.cellAt b (by omega), ← hu]; simp [List.getElem?_eq_getElem (show b < L.length by rw [HL1.out]; exact hbn)]
                have hub := HLb.out b hbn
                rw [hu] at hub
                obtain ⟨u1, u2⟩ := hub
                have hfz := hown.out.frozenAt b
                have hstd := hown.out.stored b (.int .i64 (u + 1))
                have HS := Lib.hid hstd.1
                have HbS := Lib.hid (hbw.out.grown hstd.2 (fun k h => by cases h; exact (own_block hown.out rfl).1))
                have Hu := Lib.hid hu
                have hbn' : (b : Int) < (i : Int) := by omega
                clear hstd hu
                go_wp2
                go_roundw
                case rel => exact ⟨r + 1, by omega, by go_num, L.set b (u + 1), Lib.hid (cnts_step hL.out hbest.out Hu.out), Lib.hid (by rw [List.map_set]; exact HS.out), HbS⟩
                case measure => simp [intOf]; omega
          · obtain rfl : r = R := by omega
            obtain rfl : L = r0 := by rw [← hL.out, HR.out]
            have hlt' : ¬ (r : Int) < t - n := by have := HRR.out; omega
            go_wp2
            go_ret2
            exact ⟨aL, n, capL, rfl, by rw [HL1.out]; omega, by omega, hown.out, hbw.out.1⟩

set_option maxRecDepth 100000 in
set_option maxHeartbeats 3200000 in
theorem spec_CountsFor (w : World) (a : Option Addr) (n c : Nat) (zs : List Int) (hl : zs.length = n) (hn : n ≤ 1048576) (hc : CellsAt w a (zs.map (Value.int .i64))) (_ : ∀ z ∈ zs, (Lit.int .i64 z).wf = true) (t : Int) (_ : (Lit.int .i64 t).wf = true) :
    Calls Tryd.prog 41 #[.slice a n c, .int .i64 t] w (RowEnd w 2 1 (countsF zs n t) (countsC zs n t)) := by
  have h1 := l15Ok_any a n c zs w hl (by omega) hc
  cases hb : sidesB zs n with
  | false =>
    rw [show countsF zs n t = [] by simp [countsF, hb], show countsC zs n t = 1 by simp [countsC, hb]]
    rw [hb] at h1
    have H1 := Lib.hid h1
    clear h1 hb hl hc
    go_enter Tryd.func41, Tryd.ntmps41
    go_wp2_with (go_at_call 85; refine H1.out.mono ?_; rintro e w1 ⟨rfl, hb1⟩)
    go_ret2
    exact rowEnd_fail hb1
  | true =>
    rw [hb] at h1
    have H1 := Lib.hid h1
    obtain ⟨n1, n2⟩ := sides_n hb
    cases ht : inB t 1 1000 with
    | false =>
      rw [show countsF zs n t = [] by simp [countsF, hb, ht], show countsC zs n t = 2 by simp [countsC, hb, ht]]
      clear h1 hb hl hc
      go_enter Tryd.func41, Tryd.ntmps41
      go_wp2_with (first | (go_at_call 85; refine H1.out.mono ?_; rintro e w1 ⟨rfl, hb1⟩; have HB1 := Lib.hid hb1; clear hb1) | (go_at_call 86; refine (l00In_any _ _ _ _).mono ?_; rintro e w1 ⟨rfl, rfl⟩))
      go_ret2
      exact rowEnd_fail HB1.out
    | true =>
      obtain ⟨t1, t2⟩ := inB_true.1 ht
      by_cases htn : t < (n : Int)
      · rw [show countsF zs n t = [] by simp [countsF, hb, ht, htn], show countsC zs n t = 6 by simp [countsC, hb, ht, htn]]
        clear h1 hb hl hc
        go_enter Tryd.func41, Tryd.ntmps41
        go_wp2_with (first | (go_at_call 85; refine H1.out.mono ?_; rintro e w1 ⟨rfl, hb1⟩; have HB1 := Lib.hid hb1; clear hb1) | (go_at_call 86; refine (l00In_any _ _ _ _).mono ?_; rintro e w1 ⟨rfl, rfl⟩))
        go_ret2
        exact rowEnd_fail HB1.out
      · rw [show countsC zs n t = 0 by simp [countsC, hb, ht, htn]]
        obtain ⟨r0, hr⟩ : ∃ r, countsF zs n t = r := ⟨_, rfl⟩
        rw [hr]
        rw [show countsF zs n t = cntsI zs n (t - n).toNat by simp [countsF, hb, ht, htn]] at hr
        obtain ⟨R, hR⟩ : ∃ R : Nat, (R : Int) = t - n := ⟨(t - n).toNat, by omega⟩
        rw [show (t - n).toNat = R by omega] at hr
        have HR := Lib.hid hr
        have HRR := Lib.hid hR
        have Hz := Lib.hid hl
        have HA := Lib.hid hc
        have HAt := Lib.hid (fun k (hk : k < n) => sides_at hb hl hk)
        have hR1 : (R : Int) ≤ 1000 := by omega
        clear h1 hb hl hc hr hR
        go_enter Tryd.func41, Tryd.ntmps41
        go_wp2_with (first | (go_at_call 85; refine H1.out.mono ?_; rintro e w1 ⟨rfl, hb1⟩; have HB1 := Lib.hid (Bel.of hb1); clear hb1) | (go_at_call 86; refine (l00In_any _ _ _ _).mono ?_; rintro e w1 ⟨rfl, rfl⟩))
        go_loopw [6, 7] (fun v u wr => ∃ i : Nat, i ≤ n ∧ u = .int .i64 i ∧ ∃ (ao : Option Addr) (co : Nat), v = .slice ao i co ∧ Hid (wr.ownsRow w.heap.size 2 1 (.slice ao i co) i ((List.replicate i (1 : Int)).map (Value.int .i64))) ∧ Hid (Bel w.heap.size w wr)) (fun _ u _ => n - (intOf u).toNat)
        case atStart => exact ⟨0, Nat.zero_le _, rfl, _, _, rfl, Lib.hid (own_none' w1 w.heap.size 2 1 HB1.out.2), Lib.hid (HB1.out.alloc _)⟩
        case round =>
          obtain ⟨i, hi, rfl, ao, co, rfl, hown, hbw⟩ := hrel
          by_cases hlt : i < n
          · go_wp2_with (at_builtin; refine appJ (by rfl) _ _ (by rfl) w.heap.size _ _ _ (by rfl) hown.out _ 1 wr.heap.size (by simp) (by rfl) (by omega) hbw.out ?_; intro g5 cap5 w5 ho5 hb5 hg5 hat5; have Ho5 := Lib.hid ho5; have Hb5 := Lib.hid hb5; clear ho5 hb5 hg5 hat5)
            go_roundw
            case rel => exact ⟨i + 1, by omega, by go_num, some ⟨g5, 0, none⟩, cap5, rfl, Lib.hid (by rw [List.replicate_succ', List.map_append]; exact Ho5.out), Hb5⟩
            case measure => simp [intOf]; omega
          · obtain rfl : n = i := by omega
            go_wp2
            go_loopw [8] (fun v wr => ∃ r : Nat, r ≤ R ∧ v = .int .i64 ((n : Int) + (r : Int)) ∧ ∃ L : List Int, Hid (cntsI zs n r = L) ∧ Hid (wr.ownsRow w.heap.size 2 1 (.slice ao n co) n (L.map (Value.int .i64))) ∧ Hid (Bel w.heap.size w wr)) (fun v _ => (n + R) - (intOf v).toNat)
            case atStart => exact ⟨0, Nat.zero_le _, by go_num, List.replicate n 1, Lib.hid rfl, hown, hbw⟩
            case round =>
              obtain ⟨r, hr, rfl, L, hL, hown, hbw⟩ := hrel
              have hL1 : L.length = n := by rw [← hL.out, length_cntsI]
              have hLb := cntsI_bd zs n r
              rw [hL.out] at hLb
              have HL1 := Lib.hid hL1
              have HLb := Lib.hid hLb
              clear hL1 hLb
              by_cases hlt : r < R
              · have hlt' : (n : Int) + (r : Int) < t := by have := HRR.out; omega
                rcases own_form hown.out with h0 | ⟨gL, rfl⟩
                · omega
                go_wp2
                go_loopw [9, 10] (fun v u wi => ∃ i : Nat, i ≤ n ∧ u = .int .i64 i ∧ ∃ b : Nat, b < n ∧ v = .int .i64 b ∧ Hid (bestI zs L i = b) ∧ Hid (wi.ownsRow w.heap.size 2 1 (.slice (some ⟨gL, 0, none⟩) n co) n (L.map (Value.int .i64))) ∧ Hid (Bel w.heap.size w wi)) (fun _ u _ => n - (intOf u).toNat)
                case atStart => exact ⟨1, n1, rfl, 0, by omega, rfl, Lib.hid (bestI_one _ _), hown, hbw⟩
                case round =>
                  obtain ⟨i, hi, rfl, b, hbn, rfl, hbest, hown, hbw⟩ := hrel
                  by_cases hli : i < n
                  · obtain ⟨g, o, rfl, hg, hcc⟩ := HA.out.at_ (by have := Hz.out; simp; omega)
                    obtain ⟨zi, hzi⟩ : ∃ z, zs.getD i 0 = z := ⟨_, rfl⟩
                    obtain ⟨zb, hzb⟩ : ∃ z, zs.getD b 0 = z := ⟨_, rfl⟩
                    obtain ⟨li, hli2⟩ : ∃ z, L.getD i 0 = z := ⟨_, rfl⟩
                    obtain ⟨lb, hlb⟩ : ∃ z, L.getD b 0 = z := ⟨_, rfl⟩
                    have c1 := cell_int hg hbw.out.1 hcc (by rw [Hz.out]; exact hli) hzi
                    have c2 := cell_int hg hbw.out.1 hcc (by rw [Hz.out]; exact hbn) hzb
                    have c3 : wr.cell? ⟨gL, i, none⟩ = some (.int .i64 li) := by rw [hown.out.cellAt i (by omega), ← hli2]; simp [List.getElem?_eq_getElem (show i < L.length by rw [HL1.out]; exact hli)]
                    have c4 : wr.cell? ⟨gL, b, none⟩ = some (.int .i64 lb) := by rw [hown.out.cellAt b (by omega), ← hlb]; simp [List.getElem?_eq_getElem (show b < L.length by rw [HL1.out]; exact hbn)]
                    have b1 := HAt.out i hli
                    have b2 := HAt.out b hbn
                    have b3 := HLb.out i hli
                    have b4 := HLb.out b hbn
                    rw [hzi] at b1; rw [hzb] at b2; rw [hli2] at b3; rw [hlb] at b4
                    obtain ⟨p1, p2⟩ := prod_bd (a := zi) (b := lb) (by omega) b1.2 (by omega) (show lb ≤ 1001 by omega)
                    obtain ⟨p3, p4⟩ := prod_bd (a := zb) (b := li) (by omega) b2.2 (by omega) (show li ≤ 1001 by omega)
                    have w1 : IntKind.i64.wrap (zi * lb) = zi * lb := IntWalk.i64_in _ (by omega)
                    have w2 : IntKind.i64.wrap (zb * li) = zb * li := IntWalk.i64_in _ (by omega)
                    have H2 := Lib.hid hzi
                    have H3 := Lib.hid hzb
                    have H4 := Lib.hid hli2
                    have H5 := Lib.hid hlb
                    have hli' : (i : Int) < (n : Int) := by omega
                    have hbn' : (b : Int) < (n : Int) := by omega
                    clear hcc hzi hzb hli2 hlb b1 b2 b3 b4 p1 p2 p3 p4
                    by_cases hgt : zb * li < zi * lb
                    · have gg : decide (zb * li < zi * lb) = true := by simpa using hgt
                      have HG := Lib.hid (best_yes hbest.out H2.out H3.out H4.out H5.out hgt)
                      clear hgt
                      go_wp2_with fail
                      go_big_quiet (fail)
                      go_wp2_with fail
                      go_roundw
                      case rel => exact ⟨i + 1, by omega, by go_num, i, hli, rfl, HG, Lib.hid (own_drewN hown.out _), Lib.hid (hbw.out.drewN _)⟩
                      case measure => simp [intOf]; omega
                    · have gg : decide (zb * li < zi * lb) = false := by simpa using hgt
                      have HG := Lib.hid (best_no hbest.out H2.out H3.out H4.out H5.out hgt)
                      clear hgt
                      go_wp2_with fail
                      go_big_quiet (fail)
                      go_wp2_with fail
                      go_roundw
                      case rel => exact ⟨i + 1, by omega, by go_num, b, hbn, rfl, HG, Lib.hid (own_drewN hown.out _), Lib.hid (hbw.out.drewN _)⟩
                      case measure => simp [intOf]; omega
                  · obtain rfl : i = n := by omega
                    obtain ⟨u, hu⟩ : ∃ z, L.getD b 0 = z := ⟨_, rfl⟩
                    have hcl : wr.cell? ⟨gL, b, none⟩ = some (.int .i64 u) := by rw [hown.out.cellAt b (by omega), ← hu]; simp [List.getElem?_eq_getElem (show b < L.length by rw [HL1.out]; exact hbn)]
                    have hub := HLb.out b hbn
                    rw [hu] at hub
                    obtain ⟨u1, u2⟩ := hub
                    have hfz := hown.out.frozenAt b
                    have hstd := hown.out.stored b (.int .i64 (u + 1))
                    have HS := Lib.hid hstd.1
                    have HbS := Lib.hid (hbw.out.grown hstd.2 (fun k h => by cases h; exact (own_block hown.out rfl).1))
                    have Hu := Lib.hid hu
                    have hbn' : (b : Int) < (i : Int) := by omega
                    clear hstd hu
                    go_wp2
                    go_roundw
                    case rel => exact ⟨r + 1, by omega, by go_num, L.set b (u + 1), Lib.hid (cnts_step hL.out hbest.out Hu.out), Lib.hid (by rw [List.map_set]; exact HS.out), HbS⟩
                    case measure => simp [intOf]; omega
              · obtain rfl : r = R := by omega
                obtain rfl : L = r0 := by rw [← hL.out, HR.out]
                have hlt' : ¬ (n : Int) + (r : Int) < t := by have := HRR.out; omega
                go_wp2
                go_ret2
                exact ⟨ao, n, co, rfl, by rw [HL1.out]; omega, by omega, hown.out, hbw.out.1⟩
end Go.Proofs.YtfkojbkgpbpjhaaDoor
