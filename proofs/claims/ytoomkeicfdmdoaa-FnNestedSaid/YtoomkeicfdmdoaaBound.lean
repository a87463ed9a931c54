/-
  Contracts of HeightBound, both sides. No condition of its own.
-/
import Derived.Test.YtoomkeicfdmdoaaRowsI
namespace Go.Proofs.Ytoomkeicfdmdoaa
open Go.ChangeShapes Go.WideShapes Go.ChangeAt Go.RowKit Go.Deep Go.Shelf

def boundH (zs : List Int) (roll : Int) (n : Nat) : Int := if blocksB zs roll n then max (tallest zs) ((areaTo zs + roll - 1) / roll) else 0
/-- What holds behind k blocks: the area and the greatest height so far. -/
structure AreaAt (zs : List Int) (k : Nat) (x : Int) : Prop where
  eq : x + areaTo (zs.drop (k * 2)) = areaTo zs
  bd : 0 ≤ x ∧ x ≤ 25000000 * k
structure TallAt (zs : List Int) (k : Nat) (x : Int) : Prop where
  eq : max x (tallest (zs.drop (k * 2))) = tallest zs
  bd : 0 ≤ x ∧ x ≤ 5000
theorem tallest_nn (n : Nat) : ∀ zs : List Int, zs.length = n * 2 → 0 ≤ tallest zs := by
  induction n with
  | zero =>
    intro zs hl
    rw [List.eq_nil_of_length_eq_zero (by omega : zs.length = 0)]
    simp [tallest]
  | succ n ih =>
    intro zs hl
    obtain ⟨bw, bh, bs, rfl⟩ := two_of hl
    have := ih bs (by simp at hl; omega)
    simp only [tallest]; omega
theorem AreaAt.step {zs : List Int} {k n : Nat} {x a b : Int} (h : AreaAt zs k x) (hl : zs.length = n * 2) (hk : k < n) (ha : zs.getD (k * 2) 0 = a) (hb : zs.getD (k * 2 + 1) 0 = b) (a0 : 0 ≤ a ∧ a ≤ 5000) (b0 : 0 ≤ b ∧ b ≤ 5000) :
    (0 ≤ a * b ∧ a * b ≤ 25000000) ∧ AreaAt zs (k + 1) (x + a * b) := by
  have e := h.eq
  rw [drop_two hl hk, ha, hb] at e
  simp only [areaTo] at e
  have m1 := Int.mul_nonneg a0.1 b0.1
  have m2 : a * b ≤ 5000 * 5000 := Int.mul_le_mul a0.2 b0.2 b0.1 (by omega)
  have := h.bd
  refine ⟨⟨m1, by omega⟩, ⟨by omega, ?_⟩⟩
  omega
theorem TallAt.step {zs : List Int} {k n : Nat} {x b J : Int} (h : TallAt zs k x) (hl : zs.length = n * 2) (hk : k < n) (hb : zs.getD (k * 2 + 1) 0 = b) (b0 : 0 ≤ b ∧ b ≤ 5000) (hJ : max x b = J) : TallAt zs (k + 1) J := by
  have e := h.eq
  rw [drop_two hl hk, hb] at e
  simp only [tallest] at e
  have := h.bd
  exact ⟨by omega, by omega⟩
theorem AreaAt.done {zs : List Int} {n : Nat} {x : Int} (h : AreaAt zs n x) (hl : zs.length = n * 2) : x = areaTo zs := by
  have e := h.eq
  rw [List.drop_of_length_le (by omega)] at e
  simpa [areaTo] using e
theorem TallAt.done {zs : List Int} {n : Nat} {x : Int} (h : TallAt zs n x) (hl : zs.length = n * 2) : x = tallest zs := by
  have e := h.eq
  rw [List.drop_of_length_le (by omega)] at e
  have := h.bd
  simp only [tallest] at e
  omega
set_option maxHeartbeats 3200000 in
theorem covered_any (w : World) (a : Option Addr) (n c : Nat) (zs : List Int) (hl : zs.length = n * 2) (n9 : n ≤ 9) (ha : CellsAt w a (zs.map (Value.int .i64))) (hz : Between zs 5000) :
    Calls Try.prog 68 #[.slice a n c] w fun e w' => e = .returned (.int .i64 (areaTo zs)) ∧ Below w.heap.size w w' := by
  obtain ⟨r, hr⟩ : ∃ r, areaTo zs = r := ⟨_, rfl⟩
  rw [hr]
  have HR := Lib.hid hr
  have Hl := Lib.hid hl
  have HZ := Lib.hid hz
  have HA := Lib.hid ha
  clear hr hl hz ha
  go_enter Try.func68, Try.ntmps68
  go_wp2
  go_loopw [3, 5, 8] (fun v _ u wr => ∃ k : Nat, k ≤ n ∧ u = .int .i64 k ∧ ∃ x : Int, v = .int .i64 x ∧ Hid (AreaAt zs k x) ∧ Hid (Bel w.heap.size w wr)) (fun _ _ u _ => n - (intOf u).toNat)
  case atStart => exact ⟨0, Nat.zero_le _, rfl, 0, rfl, Lib.hid ⟨by simp, by omega, by omega⟩, Lib.hid (Bel.refl w)⟩
  case round =>
    obtain ⟨k, hk, rfl, x, rfl, hx, hbw⟩ := hrel
    by_cases hlt : k < n
    · obtain ⟨b, o, rfl, hb, hcc⟩ := HA.out.at_ (by have := Hl.out; simp; omega)
      obtain ⟨p, hp⟩ : ∃ z, zs.getD (k * 2) 0 = z := ⟨_, rfl⟩
      obtain ⟨q, hq⟩ : ∃ z, zs.getD (k * 2 + 1) 0 = z := ⟨_, rfl⟩
      have c1 := cell_int hb hbw.out.1 hcc (j := k * 2) (by rw [Hl.out]; omega) hp
      have c2 := cell_int hb hbw.out.1 hcc (j := k * 2 + 1) (by rw [Hl.out]; omega) hq
      rw [← Nat.add_assoc] at c2
      have pb := HZ.out (k * 2)
      have qb := HZ.out (k * 2 + 1)
      rw [hp] at pb
      rw [hq] at qb
      have hs := hx.out.step Hl.out hlt hp hq pb qb
      have hxb := hx.out.bd
      obtain ⟨m, hm⟩ : ∃ m, p * q = m := ⟨_, rfl⟩
      rw [hm] at hs
      have HS := Lib.hid hs.2
      obtain ⟨m0, m1⟩ := hs.1
      have w1 : IntKind.i64.wrap (p * q) = m := by rw [hm]; exact IntWalk.i64_in _ (by omega)
      have hlt' : (k : Int) < (n : Int) := by omega
      have HBn := Lib.hid (hbw.out.alloc (.cells #[.int .i64 p, .int .i64 q] 72))
      clear hcc hp hq pb qb hs
      go_wp2_with fail
      go_roundw
      case rel => exact ⟨k + 1, by omega, by go_num, _, rfl, by first | exact HS | (rw [hm]; exact HS), HBn⟩
      case measure => simp [intOf]; omega
    · obtain rfl : k = n := by omega
      obtain rfl : x = r := by rw [← HR.out]; exact hx.out.done Hl.out
      go_wp2_with fail
      go_ret
      exact ⟨rfl, hbw.out.1⟩
theorem div_bd {a r : Int} (h0 : 0 ≤ a) (h1 : a ≤ 1000000000) (hr : 1 ≤ r) : 0 ≤ a / r ∧ a / r ≤ 1000000000 :=
  ⟨Int.ediv_nonneg h0 (by omega), Int.le_trans (Int.ediv_le_self _ h0) h1⟩
set_option maxHeartbeats 3200000 in
theorem impl_HeightBound (w : World) (a : Option Addr) (n c : Nat) (zs : List Int) (hl : zs.length = n * 2) (hn : n ≤ 1048576) (ha : CellsAt w a (zs.map (Value.int .i64))) (roll : Int) :
    Calls Try.prog 37 #[.slice a n c, .int .i64 roll] w fun e w' => e = .returned (.tuple #[.int .i64 (boundH zs roll n), .int .i64 (nestC zs roll n)]) ∧ Below w.heap.size w w' := by
  have h1 := implBlocksOk a n c zs roll w hl (by omega) ha
  cases hok : blocksB zs roll n with
  | false =>
    rw [show boundH zs roll n = 0 by simp [boundH, hok], show nestC zs roll n = 1 by simp [nestC, hok]]
    rw [hok] at h1
    clear hok hl ha
    go_enter Try.func37, Try.ntmps37
    go_wp2_with (go_at_call 44; refine h1.mono ?_; rintro e w1 ⟨rfl, hb1⟩)
    go_ret2
    exact ⟨rfl, hb1⟩
  | true =>
    obtain ⟨⟨r0, r1⟩, n9, hall⟩ := blocksB_parts hok
    have hz := blocks_between hl r1 hall
    rw [show boundH zs roll n = max (tallest zs) ((areaTo zs + roll - 1) / roll) by simp [boundH, hok], show nestC zs roll n = 0 by simp [nestC, hok]]
    rw [hok] at h1
    have H1 := Lib.hid h1
    have HC := Lib.hid (fun W (e : Below w.heap.size w W) => covered_any W a n c zs hl n9 (ha.below e) hz)
    obtain ⟨S, hS⟩ : ∃ r, areaTo zs = r := ⟨_, rfl⟩
    obtain ⟨T, hT⟩ : ∃ r, tallest zs = r := ⟨_, rfl⟩
    rw [hS] at HC ⊢
    rw [hT]
    have hSb : 0 ≤ S ∧ S ≤ 225000000 := by
      have : ∀ k x, k ≤ n → AreaAt zs k x → True := fun _ _ _ _ => trivial
      have run : ∀ k, k ≤ n → ∃ x, AreaAt zs k x := by
        intro k
        induction k with
        | zero => exact fun _ => ⟨0, by simp, by omega, by omega⟩
        | succ k ih =>
          intro hk
          obtain ⟨x, hx⟩ := ih (by omega)
          exact ⟨_, (hx.step hl (by omega) rfl rfl (hz _) (hz _)).2⟩
      obtain ⟨x, hx⟩ := run n (Nat.le_refl _)
      have e := hx.done hl
      have := hx.bd
      omega
    have HT := Lib.hid hT
    have Hl := Lib.hid hl
    have HZ := Lib.hid hz
    have HA := Lib.hid ha
    obtain ⟨D, hD⟩ : ∃ q, (S + roll - 1) / roll = q := ⟨_, rfl⟩
    have hDb := div_bd (a := S + roll - 1) (r := roll) (by omega) (by omega) r0
    rw [hD] at hDb ⊢
    obtain ⟨M, hM⟩ : ∃ q, max T D = q := ⟨_, rfl⟩
    rw [hM]
    have HM := Lib.hid hM
    have HD := Lib.hid hD
    obtain ⟨s0, s1⟩ := hSb
    clear hok hl ha hz hall h1 hS hT hM hD
    go_enter Try.func37, Try.ntmps37
    go_wp2_with fail
    refine H1.out.mono ?_
    rintro e w1 ⟨rfl, hb1⟩
    have HB1 := Lib.hid (Bel.of hb1)
    clear hb1
    go_wp2_with fail
    go_loopw [6, 8, 15] (fun v _ u wr => ∃ k : Nat, k ≤ n ∧ u = .int .i64 k ∧ ∃ x : Int, v = .int .i64 x ∧ Hid (TallAt zs k x) ∧ Hid (Bel w.heap.size w wr)) (fun _ _ u _ => n - (intOf u).toNat)
    case atStart => exact ⟨0, Nat.zero_le _, rfl, 0, rfl, Lib.hid ⟨by have := tallest_nn n zs Hl.out; simp; omega, by omega, by omega⟩, HB1⟩
    case round =>
      obtain ⟨k, hk, rfl, x, rfl, hx, hbw⟩ := hrel
      by_cases hlt : k < n
      · obtain ⟨b, o, rfl, hb, hcc⟩ := HA.out.at_ (by have := Hl.out; simp; omega)
        obtain ⟨p, hp⟩ : ∃ z, zs.getD (k * 2) 0 = z := ⟨_, rfl⟩
        obtain ⟨q, hq⟩ : ∃ z, zs.getD (k * 2 + 1) 0 = z := ⟨_, rfl⟩
        have c1 := cell_int hb hbw.out.1 hcc (j := k * 2) (by rw [Hl.out]; omega) hp
        have c2 := cell_int hb hbw.out.1 hcc (j := k * 2 + 1) (by rw [Hl.out]; omega) hq
        rw [← Nat.add_assoc] at c2
        have qb := HZ.out (k * 2 + 1)
        rw [hq] at qb
        obtain ⟨J, hJ⟩ : ∃ J, max x q = J := ⟨_, rfl⟩
        have HS := Lib.hid (hx.out.step Hl.out hlt hq qb hJ)
        have hlt' : (k : Int) < (n : Int) := by omega
        have HBn := Lib.hid (hbw.out.alloc (.cells #[.int .i64 p, .int .i64 q] 72))
        have HJ := Lib.hid hJ
        clear hcc hp hq qb hJ
        by_cases hxq : x < q
        all_goals
          first
            | (have hmx : J = q := by have := HJ.out; omega)
            | (have hmx : J = x := by have := HJ.out; omega)
          subst hmx
          go_wp2_with fail
          go_roundw
          case rel => exact ⟨k + 1, by omega, by go_num, _, rfl, HS, HBn⟩
          case measure => simp [intOf]; omega
      · obtain rfl : k = n := by omega
        obtain rfl : x = T := by rw [← HT.out]; exact hx.out.done Hl.out
        go_wp2_with fail
        refine (HC.out wr hbw.out.1).mono ?_
        rintro e w2 ⟨rfl, hb2⟩
        have HB2 := Lib.hid (hbw.out.step hb2)
        have hdw : Int.tdiv (S + roll - 1) roll = D := by rw [Int.tdiv_eq_ediv_of_nonneg (by omega)]; exact HD.out
        clear hb2
        by_cases hxd : x < D
        all_goals
          first
            | (have hmx : M = D := by have := HM.out; omega)
            | (have hmx : M = x := by have := HM.out; omega)
          subst hmx
          go_wp2_with fail
          go_ret2
          exact ⟨rfl, HB2.out.1⟩
theorem l00Max_any (x y : Int) (w : World) : Calls Try.prog 69 #[.int .i64 x, .int .i64 y] w fun e w' => e = .returned (.int .i64 (max x y)) ∧ w = w' := by
  by_cases h : y < x
  · go_enter Try.func69, Try.ntmps69
    go_wp2
    go_ret
    exact ⟨ret_int (by omega), rfl⟩
  · go_enter Try.func69, Try.ntmps69
    go_wp2
    go_ret
    exact ⟨ret_int (by omega), rfl⟩
set_option maxHeartbeats 3200000 in
theorem spec_HeightBound (w : World) (a : Option Addr) (n c : Nat) (zs : List Int) (hl : zs.length = n * 2) (hn : n ≤ 1048576) (ha : CellsAt w a (zs.map (Value.int .i64))) (roll : Int) :
    Calls Try.prog 38 #[.slice a n c, .int .i64 roll] w fun e w' => e = .returned (.tuple #[.int .i64 (boundH zs roll n), .int .i64 (nestC zs roll n)]) ∧ Below w.heap.size w w' := by
  have h1 := specBlocksOk a n c zs roll w hl ha
  cases hok : blocksB zs roll n with
  | false =>
    rw [show boundH zs roll n = 0 by simp [boundH, hok], show nestC zs roll n = 1 by simp [nestC, hok]]
    rw [hok] at h1
    clear hok hl ha
    go_enter Try.func38, Try.ntmps38
    go_wp2_with (go_at_call 62; refine h1.mono ?_; rintro e w1 ⟨rfl, hb1⟩)
    go_ret2
    exact ⟨rfl, hb1⟩
  | true =>
    obtain ⟨⟨r0, r1⟩, n9, hall⟩ := blocksB_parts hok
    have hz := blocks_between hl r1 hall
    rw [show boundH zs roll n = max (tallest zs) ((areaTo zs + roll - 1) / roll) by simp [boundH, hok], show nestC zs roll n = 0 by simp [nestC, hok]]
    rw [hok] at h1
    have H1 := Lib.hid h1
    obtain ⟨R, hR⟩ : ∃ q, max (tallest zs) ((areaTo zs + roll - 1) / roll) = q := ⟨_, rfl⟩
    rw [hR]
    have HR := Lib.hid hR
    have Hl := Lib.hid hl
    have HZ := Lib.hid hz
    have HA := Lib.hid ha
    clear hok hl ha hz hall h1 hR
    go_enter Try.func38, Try.ntmps38
    go_wp2_with fail
    refine H1.out.mono ?_
    rintro e w1 ⟨rfl, hb1⟩
    have HB1 := Lib.hid (Bel.of hb1)
    clear hb1
    go_wp2_with fail
    go_loopw [6, 7, 8] (fun s v u wr => ∃ k : Nat, k ≤ n ∧ u = .int .i64 k ∧ ∃ y x : Int, s = .int .i64 y ∧ v = .int .i64 x ∧ Hid (AreaAt zs k y) ∧ Hid (TallAt zs k x) ∧ Hid (Bel w.heap.size w wr)) (fun _ _ u _ => n - (intOf u).toNat)
    case atStart => exact ⟨0, Nat.zero_le _, rfl, 0, 0, rfl, rfl, Lib.hid ⟨by simp, by omega, by omega⟩, Lib.hid ⟨by have := tallest_nn n zs Hl.out; simp; omega, by omega, by omega⟩, HB1⟩
    case round =>
      obtain ⟨k, hk, rfl, y, x, rfl, rfl, hy, hx, hbw⟩ := hrel
      by_cases hlt : k < n
      · obtain ⟨b, o, rfl, hb, hcc⟩ := HA.out.at_ (by have := Hl.out; simp; omega)
        obtain ⟨p, hp⟩ : ∃ z, zs.getD (k * 2) 0 = z := ⟨_, rfl⟩
        obtain ⟨q, hq⟩ : ∃ z, zs.getD (k * 2 + 1) 0 = z := ⟨_, rfl⟩
        have HC1 := Lib.hid (fun W (h : Bel w.heap.size w W) => cell_int hb h.1 hcc (j := k * 2) (by rw [Hl.out]; omega) hp)
        have HC2 := Lib.hid (fun W (h : Bel w.heap.size w W) => (show W.cell? ⟨b, o + k * 2 + 1, none⟩ = some (.int .i64 q) from by have h := cell_int hb h.1 hcc (j := k * 2 + 1) (by rw [Hl.out]; omega) hq; rwa [← Nat.add_assoc] at h))
        have c1 := HC1.out wr hbw.out
        have c2 := HC2.out wr hbw.out
        have pb := HZ.out (k * 2)
        have qb := HZ.out (k * 2 + 1)
        rw [hp] at pb
        rw [hq] at qb
        have hs := hy.out.step Hl.out hlt hp hq pb qb
        have hyb := hy.out.bd
        obtain ⟨m, hm⟩ : ∃ m, p * q = m := ⟨_, rfl⟩
        rw [hm] at hs
        have HSy := Lib.hid hs.2
        obtain ⟨m0, m1⟩ := hs.1
        have w1 : IntKind.i64.wrap (p * q) = m := by rw [hm]; exact IntWalk.i64_in _ (by omega)
        have w2 : IntKind.i64.wrap (y + m) = y + m := IntWalk.i64_in _ (by omega)
        obtain ⟨J, hJ⟩ : ∃ J, max x q = J := ⟨_, rfl⟩
        have HSx := Lib.hid (hx.out.step Hl.out hlt hq qb hJ)
        have hmx := fun W => l00Max_any x q W
        simp only [hJ] at hmx
        have HMx := Lib.hid hmx
        have hlt' : (k : Int) < (n : Int) := by omega
        clear hcc hp hq pb qb hs hJ hmx
        go_wp2_with fail
        go_big_quiet (fail)
        generalize hwq : wr.drewN _ = wq
        have HBq := Lib.hid (show Bel w.heap.size w wq by rw [← hwq]; exact hbw.out.drewN _)
        clear hwq c1 c2
        have c2 := HC2.out wq HBq.out
        go_wp2_with fail
        refine (HMx.out _).mono ?_
        rintro e w3 ⟨rfl, rfl⟩
        go_wp2_with fail
        go_roundw
        case rel => exact ⟨k + 1, by omega, by go_num, _, _, rfl, rfl, HSy, HSx, HBq⟩
        case measure => simp [intOf]; omega
      · obtain rfl : k = n := by omega
        have ey := hy.out.done Hl.out
        have ex := hx.out.done Hl.out
        have hyb := hy.out.bd
        obtain ⟨D, hD⟩ : ∃ q, (y + roll - 1) / roll = q := ⟨_, rfl⟩
        have hDb := div_bd (a := y + roll - 1) (r := roll) (by omega) (by omega) r0
        have hdw : Int.tdiv (y + roll - 1) roll = D := by rw [Int.tdiv_eq_ediv_of_nonneg (by omega)]; exact hD
        have hmx := fun W => l00Max_any x D W
        have hR : max x D = R := by rw [← hD, ex, ey]; exact HR.out
        rw [hD] at hDb
        simp only [hR] at hmx
        have HMx := Lib.hid hmx
        clear hmx ex ey hR hD
        go_wp2_with fail
        refine (HMx.out _).mono ?_
        rintro e w3 ⟨rfl, rfl⟩
        go_wp2_with fail
        go_ret2
        exact ⟨rfl, hbw.out.1⟩
end Go.Proofs.Ytoomkeicfdmdoaa
