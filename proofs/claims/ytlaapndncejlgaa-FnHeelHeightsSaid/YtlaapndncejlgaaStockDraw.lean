/-
  Contracts of the draws of stocks and heels, and of the laws' sums. No condition of its own.
-/
import Derived.Test.YtlaapndncejlgaaHeelSum
import Derived.Test.YtlaapndncejlgaaSrc
namespace Go.Proofs.Ytlaapndncejlgaa
open Go.ChangeShapes Go.WideShapes Go.ChangeAt Go.RowKit Go.Deep Go.Shelf

theorem lift_snoc {zs : List Int} {j : Nat} {a a' c : Int} (hl : zs.length = j * 2) (h : ∀ i, i < j → liftAt zs i = true) (hle : ∀ i, i < j → zs.getD (i * 2) 0 ≤ a) (h1 : a < a') (h2 : 1 ≤ a') (h3 : a' ≤ 100) (h4 : 0 ≤ c) (h5 : c ≤ 20) :
    (∀ i, i < j + 1 → liftAt (zs ++ [a', c]) i = true) ∧ (∀ i, i < j + 1 → (zs ++ [a', c]).getD (i * 2) 0 ≤ a') := by
  have e1 : (zs ++ [a', c]).getD (j * 2) 0 = a' := by rw [getD_app_right (by omega), hl, Nat.sub_self]; rfl
  have e2 : (zs ++ [a', c]).getD (j * 2 + 1) 0 = c := by rw [getD_app_right (by omega), hl, show j * 2 + 1 - j * 2 = 1 by omega]; rfl
  refine ⟨fun i hi => ?_, fun i hi => ?_⟩
  · by_cases e : i = j
    · subst e
      simp only [liftAt, e1, e2, Bool.and_eq_true, inB_true]
      refine ⟨⟨h2, h3⟩, ⟨h4, h5⟩, ?_⟩
      rcases Nat.eq_zero_or_pos i with rfl | hp
      · simp
      · rw [getD_app_left (by omega)]
        have := hle (i - 1) (by omega)
        simp only [Bool.or_eq_true, decide_eq_true_eq]; omega
    · have := h i (by omega)
      simp only [liftAt] at this ⊢
      rw [getD_app_left (by omega), getD_app_left (by omega), getD_app_left (by omega)]
      exact this
  · by_cases e : i = j
    · subst e; omega
    · rw [getD_app_left (by omega)]
      have := hle i (by omega)
      omega
/-- A drawn stock. -/
def StockEnd (w : World) (e : Ending) (w' : World) : Prop :=
  ∃ g n c zs, e = .returned (.slice (some ⟨g, 0, none⟩) n c) ∧ zs.length = n * 2 ∧ stockB zs n = true ∧ w'.ownsRow w.heap.size 50 2 (.slice (some ⟨g, 0, none⟩) n c) n (zs.map (Value.int .i64)) ∧ Below w.heap.size w w'

set_option maxRecDepth 100000 in
set_option maxHeartbeats 3200000 in
theorem stockDraw_any (w0 w : World) (p nc cc : Nat) (ac : Option Addr) (hc : CodeAt w0 ac nc) (hb : Bel w0.heap.size w0 w) (hs : SrcAt w w0.heap.size p ac nc cc 0) :
    Calls Try.prog 76 #[.pointer (some ⟨p, 0, none⟩)] w (StockEnd w0) := by
  have hp := hs.base
  obtain ⟨hp1, hp2⟩ := hp
  have HC := Lib.hid hc
  have HB0 := Lib.hid (hb.alloc (.cells #[] 50))
  have HS0 := Lib.hid (hs.alloc (.cells #[] 50))
  have HO0 := Lib.hid (own_none' w w0.heap.size 50 2 hb.2)
  clear hc hb hs
  go_enter Try.func76, Try.ntmps76
  go_wp2_with fail
  refine (pick_any w0 _ p nc cc 0 ac 5 HC.out HB0.out HS0.out (by omega) (by omega)).mono ?_
  rintro e w1 ⟨k0, rfl, k1, k2, hs1, hg1⟩
  have HS1 := Lib.hid hs1
  have HB1 := Lib.hid (HB0.out.grown hg1 (fun k h => by cases h; exact hp1))
  have HO1 := Lib.hid (own_drawn HO0.out hg1 (fun e => by have h1 : w.heap.size = p := (by simpa [Value.ownBlock] using e); omega))
  have hsz := hg1.size
  simp only [World.size_alloc] at hsz
  clear hs1 hg1
  have k3 : k0 ≤ 4 := by omega
  go_wp2
  go_loopw [3, 4, 5] (fun v t u wr => ∃ (j : Nat) (a k : Int), t = .int .i64 a ∧ u = .int .i64 k ∧ 0 ≤ k ∧ (j : Int) + k ≤ 4 ∧ 0 ≤ a ∧ a ≤ 22 * (j : Int) ∧ ∃ (g co : Nat) (zs : List Int), v = .slice (some ⟨g, 0, none⟩) j co ∧ p < g ∧ Hid (zs.length = j * 2 ∧ (∀ i, i < j → liftAt zs i = true) ∧ (∀ i, i < j → zs.getD (i * 2) 0 ≤ a)) ∧ Hid (SrcAt wr w0.heap.size p ac nc cc (2 + 4 * j)) ∧ Hid (wr.ownsRow w0.heap.size 50 2 (.slice (some ⟨g, 0, none⟩) j co) j (zs.map (Value.int .i64))) ∧ Hid (Bel w0.heap.size w0 wr)) (fun _ _ u _ => (intOf u).toNat)
  case atStart => exact ⟨0, 0, k0, rfl, rfl, k1, by omega, by omega, by omega, w.heap.size, 0, [], rfl, hp2, Lib.hid ⟨rfl, fun i hi => by omega, fun i hi => by omega⟩, HS1, HO1, HB1⟩
  case round =>
    obtain ⟨j, a, k, rfl, rfl, hk0, hjk, ha0, ha1, g, co, zs, rfl, hpg, hzs, hsrc, hown, hbw⟩ := hrel
    by_cases hlt : 0 < k
    · go_wp2_with fail
      refine (pick_any w0 wr p nc cc (2 + 4 * j) ac 20 HC.out hbw.out hsrc.out (by omega) (by omega)).mono ?_
      rintro e w2 ⟨r, rfl, r1, r2, hs2, hg2⟩
      have HS2 := Lib.hid hs2
      have HB2 := Lib.hid (hbw.out.grown hg2 (fun k h => by cases h; exact hp1))
      have HO2 := Lib.hid (own_drawn hown.out hg2 (fun e => by have h1 : g = p := (by simpa [Value.ownBlock] using e); omega))
      clear hs2 hg2
      have r3 : r ≤ 19 := by omega
      go_wp2_with fail
      refine (pick_any w0 w2 p nc cc (2 + 4 * j + 2) ac 8 HC.out HB2.out HS2.out (by omega) (by omega)).mono ?_
      rintro e w3 ⟨q, rfl, q1, q2, hs3, hg3⟩
      have HS3 := Lib.hid hs3
      have HB3 := Lib.hid (HB2.out.grown hg3 (fun k h => by cases h; exact hp1))
      have HO3 := Lib.hid (own_drawn HO2.out hg3 (fun e => by have h1 : g = p := (by simpa [Value.ownBlock] using e); omega))
      clear hs3 hg3
      have q3 : q ≤ 7 := by omega
      have HP3 := Lib.hid (HS3.out.base).2
      go_wp2_with (at_builtin; refine appLift (by rfl) _ _ (by rfl) w0.heap.size _ _ _ (by rfl) HO3.out _ _ 1 w3.heap.size (by simp) (by rfl) (by omega) HB3.out ?_; intro g5 cap5 w5 ho5 hb5 hg5 hat5; have Ho5 := Lib.hid ho5; have Hb5 := Lib.hid hb5; have Hs5 := Lib.hid (HS3.out.grown hg5 (fun e => by have h1 : g = p := (by simpa [Value.ownBlock] using e); omega)); have Hg5 := Lib.hid (show p < g5 by rcases hat5 with h | h; (have h1 : g = g5 := (by simpa [Value.ownBlock] using h); omega); have := HP3.out; omega); clear ho5 hb5 hg5 hat5)
      have HN := Lib.hid (lift_snoc (a := a) (a' := a + (3 + r)) (c := q) hzs.out.1 hzs.out.2.1 hzs.out.2.2 (by omega) (by omega) (by omega) (by omega) (by omega))
      have hg5' := Hg5.out
      go_roundw
      case rel => exact ⟨j + 1, a + (3 + r), k - 1, rfl, rfl, by omega, by omega, by omega, by omega, g5, cap5, zs ++ [a + (3 + r), q], rfl, hg5', Lib.hid ⟨by simp [hzs.out.1]; omega, HN.out.1, HN.out.2⟩, Lib.hid (Hs5.out.more (by omega)), Lib.hid (by rw [List.map_append]; exact Ho5.out), Hb5⟩
      case measure => simp [intOf]; omega
    · go_wp2
      go_ret
      exact ⟨g, j, co, zs, rfl, hzs.out.1, by simp only [stockB, Bool.and_eq_true, decide_eq_true_eq]; exact ⟨hzs.out.2.1, by omega⟩, hown.out, hbw.out.1⟩
theorem a2Stock_any (w : World) (nc cc : Nat) (ac : Option Addr) (hc : CodeAt w ac nc) : Calls Try.prog 43 #[.slice ac nc cc] w (StockEnd w) := by
  have HC := Lib.hid hc
  clear hc
  go_enter Try.func43, Try.ntmps43
  go_wp2_with fail
  refine (l00From_any w w.heap.size ac nc cc (Nat.le_refl _)).mono ?_
  rintro e w1 ⟨rfl, hs1, hb1⟩
  have HS1 := Lib.hid hs1
  have HB1 := Lib.hid (Bel.of hb1)
  clear hs1 hb1
  go_wp2_with fail
  refine (stockDraw_any w w1 w.heap.size nc cc ac HC.out HB1.out HS1.out).mono ?_
  rintro e w2 ⟨g, n, c, zs, rfl, h1, h2, h3, h4⟩
  have H := Lib.hid (And.intro h1 (And.intro h2 (And.intro h3 h4)))
  clear h1 h2 h3 h4
  go_wp2_with fail
  go_ret
  exact ⟨g, n, c, zs, rfl, H.out.1, H.out.2.1, H.out.2.2.1, H.out.2.2.2⟩

/-- Drawn numbers of lifts of a stock. -/
def HeelDrawEnd (w : World) (n : Nat) (zs : List Int) (e : Ending) (w' : World) : Prop :=
  ∃ a c ds, e = .returned (.slice a n c) ∧ ds.length = n ∧ IsHeel zs ds n 1 ∧ w'.ownsRow w.heap.size 2 1 (.slice a n c) n (ds.map (Value.int .i64)) ∧ Below w.heap.size w w'
theorem isHeel_snoc {zs ds : List Int} {i : Nat} {x : Int} (hl : ds.length = i) (h : IsHeel zs ds i 1) (h0 : 0 ≤ x) (h1 : x ≤ zs.getD (i * 2 + 1) 0) : IsHeel zs (ds ++ [x]) (i + 1) 1 := fun j hj => by
  by_cases e : j = i
  · subst e
    rw [getD_app_right (by omega), hl, Nat.sub_self, Int.ediv_one]
    exact ⟨h0, h1⟩
  · rw [getD_app_left (by omega)]
    exact h j (by omega)
set_option maxRecDepth 100000 in
set_option maxHeartbeats 3200000 in
theorem a2Heel_any (w : World) (nc cc : Nat) (ac : Option Addr) (g n c : Nat) (zs : List Int) (hc : CodeAt w ac nc) (hl : zs.length = n * 2) (hok : stockB zs n = true) (hz : CellsAt w (some ⟨g, 0, none⟩) (zs.map (Value.int .i64))) :
    Calls Try.prog 44 #[.slice ac nc cc, .slice (some ⟨g, 0, none⟩) n c] w (HeelDrawEnd w n zs) := by
  have n6 : n ≤ 6 := by
    simp only [stockB, Bool.and_eq_true, decide_eq_true_eq] at hok
    exact hok.2
  have HC := Lib.hid hc
  have HL := Lib.hid hl
  have HZ := Lib.hid hz
  have HAt := Lib.hid (fun k (hk : k < n) => stockB_at hok hk)
  clear hc hl hok hz
  go_enter Try.func44, Try.ntmps44
  go_wp2_with fail
  refine (l00From_any w w.heap.size ac nc cc (Nat.le_refl _)).mono ?_
  rintro e w1 ⟨rfl, hs1, hb1⟩
  have HS1 := Lib.hid (hs1.alloc (.cells #[] 2))
  have hp2 := hs1.base.2
  have HB1 := Lib.hid ((Bel.of hb1).alloc (.cells #[] 2))
  have HO1 := Lib.hid (own_none' w1 w.heap.size 2 1 hb1.size)
  clear hs1 hb1
  go_wp2
  go_loopw [6, 7] (fun v u wr => ∃ i : Nat, i ≤ n ∧ u = .int .i64 i ∧ ∃ (g1 co : Nat) (ds : List Int), v = .slice (some ⟨g1, 0, none⟩) i co ∧ w.heap.size < g1 ∧ Hid (ds.length = i ∧ IsHeel zs ds i 1) ∧ Hid (SrcAt wr w.heap.size w.heap.size ac nc cc (2 * i)) ∧ Hid (wr.ownsRow w.heap.size 2 1 (.slice (some ⟨g1, 0, none⟩) i co) i (ds.map (Value.int .i64))) ∧ Hid (Bel w.heap.size w wr)) (fun _ u _ => n - (intOf u).toNat)
  case atStart => exact ⟨0, Nat.zero_le _, rfl, w1.heap.size, 0, [], rfl, hp2, Lib.hid ⟨rfl, fun j hj => by omega⟩, HS1, HO1, HB1⟩
  case round =>
    obtain ⟨i, hi, rfl, g1, co, ds, rfl, hpg, hds, hsrc, hown, hbw⟩ := hrel
    by_cases hlt : i < n
    · obtain ⟨y, hy⟩ : ∃ y, zs.getD (i * 2 + 1) 0 = y := ⟨_, rfl⟩
      obtain ⟨x, hx⟩ : ∃ x, zs.getD (i * 2) 0 = x := ⟨_, rfl⟩
      obtain ⟨d1, d2⟩ := cell_two HL.out HZ.out hbw.out.1 hlt hx hy
      have hat := (HAt.out i hlt).2.2
      rw [hy] at hat
      obtain ⟨y1, y2⟩ := hat
      have Hy := Lib.hid hy
      have hlt' : (i : Int) < (n : Int) := by omega
      clear hy hx d1
      go_wp2_with fail
      refine (pick_any w wr w.heap.size nc cc (2 * i) ac (y + 1) HC.out hbw.out hsrc.out (by omega) (by omega)).mono ?_
      rintro e w2 ⟨r, rfl, r1, r2, hs2, hg2⟩
      have HS2 := Lib.hid hs2
      have HB2 := Lib.hid (hbw.out.grown hg2 (fun k h => by cases h; exact Nat.le_refl _))
      have HO2 := Lib.hid (own_drawn hown.out hg2 (fun e => by have h1 : g1 = w.heap.size := (by simpa [Value.ownBlock] using e); omega))
      have HP2 := Lib.hid (hs2.base).2
      clear hs2 hg2 d2
      go_wp2_with (at_builtin; refine appJ (by rfl) _ _ (by rfl) w.heap.size _ _ _ (by rfl) HO2.out _ 1 w2.heap.size (by simp) (by rfl) (by omega) HB2.out ?_; intro g5 cap5 w5 ho5 hb5 hg5 hat5; have Ho5 := Lib.hid ho5; have Hb5 := Lib.hid hb5; have Hs5 := Lib.hid (HS2.out.grown hg5 (fun e => by have h1 : g1 = w.heap.size := (by simpa [Value.ownBlock] using e); omega)); have Hg5 := Lib.hid (show w.heap.size < g5 by rcases hat5 with h | h; (have h1 : g1 = g5 := (by simpa [Value.ownBlock] using h); omega); have := HP2.out; omega); clear ho5 hb5 hg5 hat5)
      have HN := Lib.hid (isHeel_snoc (x := r) hds.out.1 hds.out.2 r1 (by rw [Hy.out]; omega))
      have hg5' := Hg5.out
      go_roundw
      case rel => exact ⟨i + 1, by omega, by go_num, g5, cap5, ds ++ [r], rfl, hg5', Lib.hid ⟨by simp [hds.out.1], HN.out⟩, Lib.hid (Hs5.out.more (by omega)), Lib.hid (by rw [List.map_append]; exact Ho5.out), Hb5⟩
      case measure => simp [intOf]; omega
    · obtain rfl : i = n := by omega
      go_wp2
      go_ret
      exact ⟨_, co, ds, rfl, hds.out.1, hds.out.2, hown.out, hbw.out.1⟩
theorem sumTo_bd {cs : List Int} {n : Nat} {M : Int} (h : ∀ j, j < n → 0 ≤ cs.getD j 0 ∧ cs.getD j 0 ≤ M) : ∀ {i : Nat}, i ≤ n → 0 ≤ sumTo cs i ∧ sumTo cs i ≤ i * M := by
  intro i
  induction i with
  | zero => intro _; simp [sumTo]
  | succ i ih =>
    intro hi
    have h1 := ih (by omega)
    have h2 := h i (by omega)
    have e : (((i + 1 : Nat) : Int)) * M = (i : Int) * M + M := by rw [show (((i + 1 : Nat) : Int)) = (i : Int) + 1 by omega, Int.add_mul, Int.one_mul]
    simp only [sumTo]
    omega
theorem a2Sum_any (w : World) (a : Option Addr) (n c : Nat) (cs : List Int) (hl : cs.length = n) (hn : n ≤ 1000) (h : ∀ j, j < n → 0 ≤ cs.getD j 0 ∧ cs.getD j 0 ≤ 1000000) (hc : CellsAt w a (cs.map (Value.int .i64))) :
    Calls Try.prog 45 #[.slice a n c] w fun e w' => e = .returned (.int .i64 (sumTo cs n)) ∧ Below w.heap.size w w' := by
  obtain ⟨r, hr⟩ : ∃ r, sumTo cs n = r := ⟨_, rfl⟩
  rw [hr]
  have HR := Lib.hid hr
  have HBd := Lib.hid (fun i (hi : i ≤ n) => sumTo_bd h hi)
  have HV := Lib.hid h
  have Hl := Lib.hid hl
  have HA := Lib.hid hc
  clear hr h hl hc
  go_enter Try.func45, Try.ntmps45
  go_wp2
  go_loopw [3, 4] (fun v u wr => ∃ i : Nat, i ≤ n ∧ u = .int .i64 i ∧ ∃ x : Int, v = .int .i64 x ∧ Hid (x = sumTo cs i) ∧ Hid (Bel w.heap.size w wr)) (fun _ u _ => n - (intOf u).toNat)
  case atStart => exact ⟨0, Nat.zero_le _, rfl, 0, rfl, Lib.hid rfl, Lib.hid (Bel.refl w)⟩
  case round =>
    obtain ⟨i, hi, rfl, x, rfl, hx, hbw⟩ := hrel
    obtain ⟨x1, x2⟩ := HBd.out i hi
    rw [← hx.out] at x1 x2
    by_cases hlt : i < n
    · obtain ⟨b, o, rfl, hb, hcc⟩ := HA.out.at_ (by have := Hl.out; simp; omega)
      obtain ⟨z, hz⟩ : ∃ z, cs.getD i 0 = z := ⟨_, rfl⟩
      have hcx := cell_int hb hbw.out.1 hcc (by rw [Hl.out]; exact hlt) hz
      have hzb := HV.out i hlt
      rw [hz] at hzb
      obtain ⟨z1, z2⟩ := hzb
      have HZ := Lib.hid hz
      have hlt' : (i : Int) < (n : Int) := by omega
      clear hcc hz
      go_wp2
      go_roundw
      case rel => exact ⟨i + 1, by omega, by go_num, _, rfl, Lib.hid (by simp only [sumTo, HZ.out, hx.out]), hbw⟩
      case measure => simp [intOf]; omega
    · obtain rfl : i = n := by omega
      obtain rfl : x = r := by rw [hx.out, HR.out]
      go_wp2
      go_ret
      exact ⟨rfl, hbw.out.1⟩
end Go.Proofs.Ytlaapndncejlgaa
