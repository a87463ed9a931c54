/-
  Contracts of PressesFor, both sides. No condition of its own.
-/
import Derived.Test.YtcajpedhfljhdaaJoinsOk
import Derived.Test.YtcajpedhfljhdaaRow
namespace Go.Proofs.Ytcajpedhfljhdaa
open Go.ChangeShapes Go.WideShapes Go.ChangeAt Go.RowKit Go.Deep Go.Shelf

/-- How many of the first j joins are in a press at the minute x. -/
def cntTo (zs : List Int) (x : Int) : Nat → Int
  | 0 => 0
  | j + 1 => cntTo zs x j + if zs.getD (j * 4 + 2) 0 ≤ x ∧ x < zs.getD (j * 4 + 3) 0 then 1 else 0
def mostTo (zs : List Int) (n : Nat) : Nat → Int
  | 0 => 0
  | i + 1 => max (mostTo zs n i) (cntTo zs (zs.getD (i * 4 + 2) 0) n)
theorem cntTo_bounds (zs : List Int) (x : Int) (j : Nat) : 0 ≤ cntTo zs x j ∧ cntTo zs x j ≤ j := by
  induction j with
  | zero => simp [cntTo]
  | succ j ih => simp only [cntTo]; split <;> omega
theorem mostTo_bounds (zs : List Int) (n i : Nat) : 0 ≤ mostTo zs n i ∧ mostTo zs n i ≤ n := by
  induction i with
  | zero => simp [mostTo]
  | succ i ih => have := cntTo_bounds zs (zs.getD (i * 4 + 2) 0) n; simp only [mostTo]; omega
theorem cntTo_yes {zs : List Int} {x y t : Int} {j : Nat} (hy : zs.getD (j * 4 + 2) 0 = y) (ht : zs.getD (j * 4 + 3) 0 = t) (h1 : y ≤ x) (h2 : x < t) : cntTo zs x (j + 1) = cntTo zs x j + 1 := by
  simp only [cntTo, hy, ht, if_pos (And.intro h1 h2)]
theorem cntTo_no {zs : List Int} {x y t : Int} {j : Nat} (hy : zs.getD (j * 4 + 2) 0 = y) (ht : zs.getD (j * 4 + 3) 0 = t) (h : ¬ (y ≤ x ∧ x < t)) : cntTo zs x (j + 1) = cntTo zs x j := by
  simp only [cntTo, hy, ht, if_neg h]; omega
def pressF (zs : List Int) (n : Nat) : Int := if joinsB zs n then mostTo zs n n else 0
def pressC (zs : List Int) (n : Nat) : Int := if joinsB zs n then 0 else 1
theorem joinsB_le {zs : List Int} {n : Nat} (h : joinsB zs n = true) : n ≤ 20 := by simp [joinsB] at h; exact h.2

set_option maxRecDepth 100000 in
set_option maxHeartbeats 3200000 in
theorem impl_PressesFor (w : World) (a : Option Addr) (n c : Nat) (zs : List Int) (hl : zs.length = n * 4) (hn : n ≤ 1048576) (ha : CellsAt w a (zs.map (Value.int .i64))) (_ : ∀ z ∈ zs, (Lit.int .i64 z).wf = true) :
    Calls Try.prog 36 #[.slice a n c] w fun e w' => e = .returned (.tuple #[.int .i64 (pressF zs n), .int .i64 (pressC zs n)]) ∧ Below w.heap.size w w' := by
  have hv := fun W (e : W = w) => implJoinsOk a n c zs W hl (by omega) (e ▸ ha)
  cases hok : joinsB zs n with
  | false =>
    rw [show pressF zs n = 0 by simp [pressF, hok], show pressC zs n = 1 by simp [pressC, hok]]
    rw [hok] at hv
    have H := Lib.hid hv
    clear hv hok hl ha
    go_enter Try.func36, Try.ntmps36
    go_wp2_with (go_at_call 31; refine (H.out _ rfl).mono ?_; rintro e w1 ⟨rfl, hb1⟩)
    go_ret2
    exact ⟨rfl, hb1⟩
  | true =>
    have hn20 := joinsB_le hok
    rw [show pressF zs n = mostTo zs n n by simp [pressF, hok], show pressC zs n = 0 by simp [pressC, hok]]
    rw [hok] at hv
    have H := Lib.hid hv
    clear hv hok
    obtain ⟨r, hr⟩ : ∃ r, mostTo zs n n = r := ⟨_, rfl⟩
    rw [hr]
    have HR := Lib.hid hr
    clear hr
    by_cases h0 : n = 0
    · subst h0
      clear hl ha
      go_enter Try.func36, Try.ntmps36
      go_wp2_with (go_at_call 31; refine (H.out _ rfl).mono ?_; rintro e w1 ⟨rfl, hb1⟩)
      refine wp_loop_once ?_
      go_wp2
      go_ret2
      exact ⟨ret_two HR.out rfl, hb1⟩
    · obtain ⟨b, o, rfl, hb, hc⟩ := ha.at_ (by simp; omega)
      have Hz := Lib.hid hl
      have H1 := Lib.hid hc
      clear hl hc ha
      have hcellW : ∀ W : World, Below w.heap.size w W → ∀ j, j < n * 4 → W.cell? ⟨b, o + j, none⟩ = some (.int .i64 (zs.getD j 0)) := fun W hbw j hj => by
        rw [(hbw.cell (p := ⟨b, o + j, none⟩) hb).trans (H1.out j (by have := Hz.out; simp; omega))]
        simp [List.getElem?_eq_getElem (show j < zs.length by rw [Hz.out]; exact hj)]
      have HC := Lib.hid hcellW
      clear hcellW H1
      go_enter Try.func36, Try.ntmps36
      go_wp2_with (go_at_call 31; refine (H.out _ rfl).mono ?_; rintro e w1 ⟨rfl, hb1⟩)
      have HB1 := Lib.hid hb1
      clear hb1
      go_loopw [4, 15] (fun y i wr => ∃ k : Nat, k ≤ n ∧ i = .int .i64 k ∧ (∃ q : Int, y = .int .i64 q ∧ 0 ≤ q ∧ q ≤ 20 ∧ Hid (q = mostTo zs n k)) ∧ Hid (Below w.heap.size w wr)) (fun _ i _ => n - (intOf i).toNat)
      case atStart => exact ⟨0, Nat.zero_le _, rfl, ⟨0, rfl, by omega, by omega, Lib.hid rfl⟩, HB1⟩
      case round =>
        obtain ⟨k, hk, rfl, ⟨q, rfl, q0, q1, hq⟩, hbw⟩ := hrel
        by_cases hlt : k < n
        · have hcell := HC.out wr hbw.out
          obtain ⟨x0, hx0⟩ : ∃ z, zs.getD (k * 4) 0 = z := ⟨_, rfl⟩
          obtain ⟨x1, hx1⟩ : ∃ z, zs.getD (k * 4 + 1) 0 = z := ⟨_, rfl⟩
          obtain ⟨x2, hx2⟩ : ∃ z, zs.getD (k * 4 + 2) 0 = z := ⟨_, rfl⟩
          obtain ⟨x3, hx3⟩ : ∃ z, zs.getD (k * 4 + 3) 0 = z := ⟨_, rfl⟩
          have c0 := hcell (k * 4) (by omega)
          have c1 := hcell (k * 4 + 1) (by omega)
          have c2 := hcell (k * 4 + 2) (by omega)
          have c3 := hcell (k * 4 + 3) (by omega)
          rw [hx0] at c0
          rw [hx1, ← Nat.add_assoc] at c1
          rw [hx2, ← Nat.add_assoc] at c2
          rw [hx3, ← Nat.add_assoc] at c3
          have Hx2 := Lib.hid hx2
          clear hcell hx0 hx1 hx2 hx3
          have hlt' : (k : Int) < (n : Int) := by omega
          obtain ⟨wo, hwo⟩ : ∃ wo : World, wo = wr := ⟨_, rfl⟩
          go_wp2
          have hbo : Bel w.heap.size w wo := hwo ▸ Bel.of hbw.out
          subst hwo
          have Hbo := Lib.hid hbo
          clear c0 c1 c2 c3 hbo
          go_loopw [7, 21] (fun y i wi => ∃ j : Nat, j ≤ n ∧ i = .int .i64 j ∧ (∃ u : Int, y = .int .i64 u ∧ 0 ≤ u ∧ u ≤ j ∧ Hid (u = cntTo zs x2 j)) ∧ Hid (Bel w.heap.size w wi ∧ wo.heap.size < wi.heap.size ∧ wi.cell? ⟨wo.heap.size, 2, none⟩ = some (.int .i64 x2))) (fun _ i _ => n - (intOf i).toNat)
          case atStart => exact ⟨0, Nat.zero_le _, rfl, ⟨0, rfl, by omega, by omega, Lib.hid rfl⟩, Lib.hid ⟨Hbo.out.alloc _, by simp, by simp⟩⟩
          case round =>
            obtain ⟨j, hj, rfl, ⟨u, rfl, u0, u1, hu⟩, hin⟩ := hrel
            by_cases hjn : j < n
            · have hcell := HC.out wr hin.out.1.1
              obtain ⟨y0, hy0⟩ : ∃ z, zs.getD (j * 4) 0 = z := ⟨_, rfl⟩
              obtain ⟨y1, hy1⟩ : ∃ z, zs.getD (j * 4 + 1) 0 = z := ⟨_, rfl⟩
              obtain ⟨y2, hy2⟩ : ∃ z, zs.getD (j * 4 + 2) 0 = z := ⟨_, rfl⟩
              obtain ⟨y3, hy3⟩ : ∃ z, zs.getD (j * 4 + 3) 0 = z := ⟨_, rfl⟩
              have c0 := hcell (j * 4) (by omega)
              have c1 := hcell (j * 4 + 1) (by omega)
              have c2 := hcell (j * 4 + 2) (by omega)
              have c3 := hcell (j * 4 + 3) (by omega)
              rw [hy0] at c0
              rw [hy1, ← Nat.add_assoc] at c1
              rw [hy2, ← Nat.add_assoc] at c2
              rw [hy3, ← Nat.add_assoc] at c3
              have Hy2 := Lib.hid hy2
              have Hy3 := Lib.hid hy3
              have cx : wr.cell? ⟨wo.heap.size, 2, none⟩ = some (.int .i64 x2) := hin.out.2.2
              have cl : wo.heap.size < wr.heap.size := hin.out.2.1
              clear hcell hy0 hy1 hy2 hy3
              have hjn' : (j : Int) < (n : Int) := by omega
              by_cases t1 : y2 ≤ x2
              · by_cases t2 : x2 < y3
                · go_wp2
                  go_roundw
                  case rel => exact ⟨j + 1, by omega, by go_num, ⟨u + 1, rfl, by omega, by omega, Lib.hid (by rw [cntTo_yes Hy2.out Hy3.out t1 t2, ← hu.out])⟩, Lib.hid ⟨hin.out.1.alloc _, by first | omega | (simp; omega), (World.cell?_alloc_old _ _ _ (show wo.heap.size ≠ wr.heap.size from by omega)).trans cx⟩⟩
                  case measure => simp [intOf]; omega
                · go_wp2
                  go_roundw
                  case rel => exact ⟨j + 1, by omega, by go_num, ⟨u, rfl, by omega, by omega, Lib.hid (by rw [cntTo_no Hy2.out Hy3.out (by omega), ← hu.out])⟩, Lib.hid ⟨hin.out.1.alloc _, by first | omega | (simp; omega), (World.cell?_alloc_old _ _ _ (show wo.heap.size ≠ wr.heap.size from by omega)).trans cx⟩⟩
                  case measure => simp [intOf]; omega
              · go_wp2
                go_roundw
                case rel => exact ⟨j + 1, by omega, by go_num, ⟨u, rfl, by omega, by omega, Lib.hid (by rw [cntTo_no Hy2.out Hy3.out (by omega), ← hu.out])⟩, Lib.hid ⟨hin.out.1.alloc _, by first | omega | (simp; omega), (World.cell?_alloc_old _ _ _ (show wo.heap.size ≠ wr.heap.size from by omega)).trans cx⟩⟩
                case measure => simp [intOf]; omega
            · obtain rfl : j = n := by omega
              go_wp2
              all_goals
                go_roundw
                case rel =>
                  refine ⟨k + 1, by omega, by go_num, ⟨max q u, ?_, by omega, by omega, Lib.hid (by simp only [mostTo]; rw [Hx2.out, ← hu.out, ← hq.out])⟩, Lib.hid hin.out.1.1⟩
                  first | rfl | (congr 1; omega)
                case measure => simp [intOf]; omega
        · go_wp2
          go_ret2
          obtain rfl : k = n := by omega
          exact ⟨ret_two (hq.out.trans HR.out) rfl, hbw.out⟩
set_option maxRecDepth 100000 in
set_option maxHeartbeats 3200000 in
theorem spec_PressesFor (w : World) (a : Option Addr) (n c : Nat) (zs : List Int) (hl : zs.length = n * 4) (hn : n ≤ 1048576) (ha : CellsAt w a (zs.map (Value.int .i64))) (_ : ∀ z ∈ zs, (Lit.int .i64 z).wf = true) :
    Calls Try.prog 35 #[.slice a n c] w fun e w' => e = .returned (.tuple #[.int .i64 (pressF zs n), .int .i64 (pressC zs n)]) ∧ Below w.heap.size w w' := by
  have hv := fun W (e : W = w) => specJoinsOk a n c zs W hl (by omega) (e ▸ ha)
  cases hok : joinsB zs n with
  | false =>
    rw [show pressF zs n = 0 by simp [pressF, hok], show pressC zs n = 1 by simp [pressC, hok]]
    rw [hok] at hv
    have H := Lib.hid hv
    clear hv hok hl ha
    go_enter Try.func35, Try.ntmps35
    go_wp2_with (go_at_call 68; refine (H.out _ rfl).mono ?_; rintro e w1 ⟨rfl, hb1⟩)
    go_ret2
    exact ⟨rfl, hb1⟩
  | true =>
    have hn20 := joinsB_le hok
    rw [show pressF zs n = mostTo zs n n by simp [pressF, hok], show pressC zs n = 0 by simp [pressC, hok]]
    rw [hok] at hv
    have H := Lib.hid hv
    clear hv hok
    obtain ⟨r, hr⟩ : ∃ r, mostTo zs n n = r := ⟨_, rfl⟩
    rw [hr]
    have HR := Lib.hid hr
    clear hr
    by_cases h0 : n = 0
    · subst h0
      clear hl ha
      go_enter Try.func35, Try.ntmps35
      go_wp2_with (go_at_call 68; refine (H.out _ rfl).mono ?_; rintro e w1 ⟨rfl, hb1⟩)
      refine wp_loop_once ?_
      go_wp2
      go_ret2
      exact ⟨ret_two HR.out rfl, hb1⟩
    · obtain ⟨b, o, rfl, hb, hc⟩ := ha.at_ (by simp; omega)
      have Hz := Lib.hid hl
      have H1 := Lib.hid hc
      clear hl hc ha
      have hcellW : ∀ W : World, Below w.heap.size w W → ∀ j, j < n * 4 → W.cell? ⟨b, o + j, none⟩ = some (.int .i64 (zs.getD j 0)) := fun W hbw j hj => by
        rw [(hbw.cell (p := ⟨b, o + j, none⟩) hb).trans (H1.out j (by have := Hz.out; simp; omega))]
        simp [List.getElem?_eq_getElem (show j < zs.length by rw [Hz.out]; exact hj)]
      have HC := Lib.hid hcellW
      clear hcellW H1
      go_enter Try.func35, Try.ntmps35
      go_wp2_with (go_at_call 68; refine (H.out _ rfl).mono ?_; rintro e w1 ⟨rfl, hb1⟩)
      have HB1 := Lib.hid hb1
      clear hb1
      go_loopw [4, 5] (fun y i wr => ∃ k : Nat, k ≤ n ∧ i = .int .i64 k ∧ (∃ q : Int, y = .int .i64 q ∧ 0 ≤ q ∧ q ≤ 20 ∧ Hid (q = mostTo zs n k)) ∧ Hid (Below w.heap.size w wr)) (fun _ i _ => n - (intOf i).toNat)
      case atStart => exact ⟨0, Nat.zero_le _, rfl, ⟨0, rfl, by omega, by omega, Lib.hid rfl⟩, HB1⟩
      case round =>
        obtain ⟨k, hk, rfl, ⟨q, rfl, q0, q1, hq⟩, hbw⟩ := hrel
        by_cases hlt : k < n
        · have hcell := HC.out wr hbw.out
          obtain ⟨x0, hx0⟩ : ∃ z, zs.getD (k * 4) 0 = z := ⟨_, rfl⟩
          obtain ⟨x1, hx1⟩ : ∃ z, zs.getD (k * 4 + 1) 0 = z := ⟨_, rfl⟩
          obtain ⟨x2, hx2⟩ : ∃ z, zs.getD (k * 4 + 2) 0 = z := ⟨_, rfl⟩
          obtain ⟨x3, hx3⟩ : ∃ z, zs.getD (k * 4 + 3) 0 = z := ⟨_, rfl⟩
          have c0 := hcell (k * 4) (by omega)
          have c1 := hcell (k * 4 + 1) (by omega)
          have c2 := hcell (k * 4 + 2) (by omega)
          have c3 := hcell (k * 4 + 3) (by omega)
          rw [hx0] at c0
          rw [hx1, ← Nat.add_assoc] at c1
          rw [hx2, ← Nat.add_assoc] at c2
          rw [hx3, ← Nat.add_assoc] at c3
          have Hx2 := Lib.hid hx2
          clear hcell hx0 hx1 hx2 hx3
          have hlt' : (k : Int) < (n : Int) := by omega
          obtain ⟨wo, hwo⟩ : ∃ wo : World, wo = wr := ⟨_, rfl⟩
          go_wp2
          have hbo : Bel w.heap.size w wo := hwo ▸ Bel.of hbw.out
          subst hwo
          have Hbo := Lib.hid hbo
          clear c0 c1 c2 c3 hbo
          go_loopw [6, 7] (fun y i wi => ∃ j : Nat, j ≤ n ∧ i = .int .i64 j ∧ (∃ u : Int, y = .int .i64 u ∧ 0 ≤ u ∧ u ≤ j ∧ Hid (u = cntTo zs x2 j)) ∧ Hid (Bel w.heap.size w wi)) (fun _ i _ => n - (intOf i).toNat)
          case atStart => exact ⟨0, Nat.zero_le _, rfl, ⟨0, rfl, by omega, by omega, Lib.hid rfl⟩, Hbo⟩
          case round =>
            obtain ⟨j, hj, rfl, ⟨u, rfl, u0, u1, hu⟩, hin⟩ := hrel
            by_cases hjn : j < n
            · have hcell := HC.out wr hin.out.1
              obtain ⟨y0, hy0⟩ : ∃ z, zs.getD (j * 4) 0 = z := ⟨_, rfl⟩
              obtain ⟨y1, hy1⟩ : ∃ z, zs.getD (j * 4 + 1) 0 = z := ⟨_, rfl⟩
              obtain ⟨y2, hy2⟩ : ∃ z, zs.getD (j * 4 + 2) 0 = z := ⟨_, rfl⟩
              obtain ⟨y3, hy3⟩ : ∃ z, zs.getD (j * 4 + 3) 0 = z := ⟨_, rfl⟩
              have c0 := hcell (j * 4) (by omega)
              have c1 := hcell (j * 4 + 1) (by omega)
              have c2 := hcell (j * 4 + 2) (by omega)
              have c3 := hcell (j * 4 + 3) (by omega)
              rw [hy0] at c0
              rw [hy1, ← Nat.add_assoc] at c1
              rw [hy2, ← Nat.add_assoc] at c2
              rw [hy3, ← Nat.add_assoc] at c3
              have Hy2 := Lib.hid hy2
              have Hy3 := Lib.hid hy3
              have cx : wr.cell? ⟨b, o + k * 4 + 2, none⟩ = some (.int .i64 x2) := by
                have h := hcell (k * 4 + 2) (by omega)
                rw [Hx2.out, ← Nat.add_assoc] at h
                exact h
              clear hcell hy0 hy1 hy2 hy3
              have hjn' : (j : Int) < (n : Int) := by omega
              by_cases t1 : y2 ≤ x2
              · by_cases t2 : x2 < y3
                · go_wp2_with fail
                  go_big_quiet (fail)
                  go_wp2_with fail
                  go_roundw
                  case rel => exact ⟨j + 1, by omega, by go_num, ⟨u + 1, rfl, by omega, by omega, Lib.hid (by rw [cntTo_yes Hy2.out Hy3.out t1 t2, ← hu.out])⟩, Lib.hid (hin.out.drewN _)⟩
                  case measure => simp [intOf]; omega
                · go_wp2_with fail
                  go_big_quiet (fail)
                  go_wp2_with fail
                  go_roundw
                  case rel => exact ⟨j + 1, by omega, by go_num, ⟨u, rfl, by omega, by omega, Lib.hid (by rw [cntTo_no Hy2.out Hy3.out (by omega), ← hu.out])⟩, Lib.hid (hin.out.drewN _)⟩
                  case measure => simp [intOf]; omega
              · have g1 : decide (y2 ≤ x2) = false := by simpa using t1
                go_wp2_with fail
                go_big_quiet (fail)
                go_wp2_with fail
                go_roundw
                case rel => exact ⟨j + 1, by omega, by go_num, ⟨u, rfl, by omega, by omega, Lib.hid (by rw [cntTo_no Hy2.out Hy3.out (by omega), ← hu.out])⟩, Lib.hid (hin.out.drewN _)⟩
                case measure => simp [intOf]; omega
            · obtain rfl : j = n := by omega
              go_wp2_with (go_at_call 57; refine (l00Max_any _ _ _).mono ?_; rintro e w1 ⟨rfl, rfl⟩)
              all_goals
                go_roundw
                case rel =>
                  refine ⟨k + 1, by omega, by go_num, ⟨max q u, ?_, by omega, by omega, Lib.hid (by simp only [mostTo]; rw [Hx2.out, ← hu.out, ← hq.out])⟩, Lib.hid hin.out.1⟩
                  first | rfl | (congr 1; omega)
                case measure => simp [intOf]; omega
        · go_wp2
          go_ret2
          obtain rfl : k = n := by omega
          exact ⟨ret_two (hq.out.trans HR.out) rfl, hbw.out⟩
end Go.Proofs.Ytcajpedhfljhdaa
