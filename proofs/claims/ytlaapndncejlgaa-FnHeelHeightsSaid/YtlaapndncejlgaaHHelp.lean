/-
  What the law on heights of heels leans on. No condition of its own.
-/
import Derived.Test.YtlaapndncejlgaaStockDraw
import Derived.Test.YtlaapndncejlgaaNear
import Derived.Test.YtlaapndncejlgaaLastLaw
namespace Go.Proofs.Ytlaapndncejlgaa
open Go.ChangeShapes Go.WideShapes Go.ChangeAt Go.RowKit Go.Deep Go.Shelf

theorem segI_mem {p : Nat → Bool} {a d : Nat} {j : Nat} : (j : Int) ∈ segI p a d ↔ a ≤ j ∧ j < a + d ∧ p j = true := by
  induction d generalizing a with
  | zero => simp [segI]; omega
  | succ d ih =>
    simp only [segI, List.mem_append, ih]
    constructor
    · rintro (h | h)
      · split at h
        · rename_i hp
          simp at h
          obtain rfl : j = a := by omega
          exact ⟨by omega, by omega, hp⟩
        · simp at h
      · exact ⟨by omega, by omega, h.2.2⟩
    · rintro ⟨h1, h2, h3⟩
      by_cases e : j = a
      · subst e; left; rw [if_pos h3]; simp
      · right; exact ⟨by omega, by omega, h3⟩
theorem segI_has {p : Nat → Bool} {a d : Nat} {x : Int} (h : x ∈ segI p a d) : ∃ j : Nat, x = (j : Int) ∧ a ≤ j ∧ j < a + d ∧ p j = true := by
  have hb := segI_bd h
  obtain ⟨j, rfl⟩ : ∃ j : Nat, x = (j : Int) := ⟨x.toNat, by omega⟩
  exact ⟨j, rfl, segI_mem.1 h⟩
theorem segI_sorted (p : Nat → Bool) (a d : Nat) : (segI p a d).Pairwise (· < ·) := by
  induction d generalizing a with
  | zero => simp [segI]
  | succ d ih =>
    simp only [segI]
    rw [List.pairwise_append]
    refine ⟨by split <;> simp, ih _, fun x hx y hy => ?_⟩
    have hy2 := segI_bd hy
    split at hx
    · simp at hx; omega
    · simp at hx
theorem segI_rise {p : Nat → Bool} {d k : Nat} (hk : k < (segI p 0 d).length) : (0 ≤ (segI p 0 d).getD k 0 ∧ (segI p 0 d).getD k 0 < (d : Int)) ∧ (0 < k → (segI p 0 d).getD (k - 1) 0 < (segI p 0 d).getD k 0) := by
  have e : (segI p 0 d).getD k 0 = (segI p 0 d)[k] := by simp [List.getElem?_eq_getElem hk]
  constructor
  · have hb := segI_bd (p := p) (a := 0) (d := d) (List.getElem_mem hk)
    rw [e]; omega
  · intro h0
    have hk1 : k - 1 < (segI p 0 d).length := by omega
    have e1 : (segI p 0 d).getD (k - 1) 0 = (segI p 0 d)[k - 1] := by simp [List.getElem?_eq_getElem hk1]
    rw [e, e1]
    exact List.pairwise_iff_getElem.1 (segI_sorted p 0 d) _ _ hk1 hk (by omega)
/-- The nearest height: what it is, and that no other is nearer. -/
theorem near_facts {p : Nat → Bool} (h0 : p 0 = true) (H : Int) : ∀ K : Nat, ∃ b : Nat, (segI p 0 (K + 1)).foldl (stepN H) 0 = (b : Int) ∧ b ≤ K ∧ p b = true ∧
    ∀ x : Nat, x ≤ K → p x = true → ((b : Int) - H).natAbs ≤ ((x : Int) - H).natAbs ∧ (((b : Int) - H).natAbs = ((x : Int) - H).natAbs → b ≤ x)
  | 0 => ⟨0, fold_one p H, Nat.le_refl _, h0, fun x hx _ => by obtain rfl : x = 0 := by omega
                                                               exact ⟨Nat.le_refl _, fun _ => Nat.le_refl _⟩⟩
  | K + 1 => by
    obtain ⟨b, h1, h2, h3, h4⟩ := near_facts h0 H K
    have hf := fold_seg h1
    by_cases hp : p (K + 1) = true
    · rw [if_pos hp] at hf
      by_cases hlt : ((((K + 1 : Nat) : Int) - H).natAbs : Int) < (((b : Int) - H).natAbs : Int)
      · refine ⟨K + 1, by rw [hf, stepN, if_pos hlt], Nat.le_refl _, hp, fun x hx hpx => ?_⟩
        by_cases e : x = K + 1
        · subst e; exact ⟨Nat.le_refl _, fun _ => Nat.le_refl _⟩
        · have := h4 x (by omega) hpx
          omega
      · refine ⟨b, by rw [hf, stepN, if_neg hlt], by omega, h3, fun x hx hpx => ?_⟩
        by_cases e : x = K + 1
        · subst e; omega
        · exact h4 x (by omega) hpx
    · rw [if_neg hp] at hf
      refine ⟨b, hf, by omega, h3, fun x hx hpx => ?_⟩
      by_cases e : x = K + 1
      · subst e; exact absurd hpx hp
      · exact h4 x (by omega) hpx

def noneTo (zs : List Int) (x : Int) (k : Nat) : Prop := ∀ j, j < k → zs.getD j 0 ≠ x
theorem none_all {zs : List Int} {x : Int} {k : Nat} (hk : zs.length ≤ k) (h : noneTo zs x k) : decide (x ∈ zs) = false := by
  simp only [decide_eq_false_iff_not]
  intro hx
  obtain ⟨j, hj, e⟩ := List.getElem_of_mem hx
  exact h j (by omega) (by simp [List.getElem?_eq_getElem hj, e])
set_option maxHeartbeats 1600000 in
theorem a2Has_any (a : Option Addr) (n c : Nat) (zs : List Int) (x : Int) (w : World) (hz : zs.length = n) (hn : n ≤ 1073741824) (ha : CellsAt w a (zs.map (Value.int .i64))) :
    Calls Try.prog 48 #[.slice a n c, .int .i64 x] w fun e w' => e = .returned (.bool (decide (x ∈ zs))) ∧ w = w' := by
  obtain ⟨r, hr⟩ : ∃ r, decide (x ∈ zs) = r := ⟨_, rfl⟩
  rw [hr]
  have HR := Lib.hid hr
  have Hz := Lib.hid hz
  have HA := Lib.hid ha
  clear hr hz ha
  go_enter Try.func48, Try.ntmps48
  go_wp2
  go_loop [5] (fun i => ∃ k : Nat, k ≤ n ∧ i = .int .i64 k ∧ Hid (noneTo zs x k)) (fun i => n - (intOf i).toNat)
  case atStart => exact ⟨0, Nat.zero_le _, rfl, Lib.hid (fun j hj => by omega)⟩
  case round =>
    obtain ⟨k, hk, rfl, hno⟩ := hrel
    by_cases hlt : k < n
    · obtain ⟨b, o, rfl, hb, hcc⟩ := HA.out.at_ (by have := Hz.out; simp; omega)
      obtain ⟨y, hy⟩ : ∃ y, zs.getD k 0 = y := ⟨_, rfl⟩
      have k1 := cell_int hb (Below.refl _ _) hcc (by rw [Hz.out]; exact hlt) hy
      have HY := Lib.hid hy
      clear hcc hy
      by_cases hxy : y = x
      · subst hxy
        obtain rfl : r = true := by
          rw [← HR.out, ← HY.out]
          simp [List.getElem?_eq_getElem (show k < zs.length by rw [Hz.out]; exact hlt)]
        have gg : (y == y) = true := by simp
        go_wp2
        go_ret
        exact ⟨rfl, rfl⟩
      · have gg : (y == x) = false := by simpa using hxy
        have HN := Lib.hid (show noneTo zs x (k + 1) from fun j hj => by
          by_cases e : j = k
          · subst e; rw [HY.out]; exact hxy
          · exact hno.out j (by omega))
        clear hxy
        go_wp2
        go_round
        case rel => exact ⟨k + 1, by omega, by go_num, HN⟩
        case measure => simp [intOf]; omega
    · obtain rfl : r = false := by rw [← HR.out]; exact none_all (by rw [Hz.out]; omega) hno.out
      go_wp2
      go_ret
      exact ⟨rfl, rfl⟩
set_option maxHeartbeats 3200000 in
theorem a2Rises_any (a : Option Addr) (n c : Nat) (zs : List Int) (N : Int) (w : World) (hz : zs.length = n) (hn : n ≤ 1073741824) (ha : CellsAt w a (zs.map (Value.int .i64)))
    (hr : ∀ k, k < n → (0 ≤ zs.getD k 0 ∧ zs.getD k 0 < N) ∧ (0 < k → zs.getD (k - 1) 0 < zs.getD k 0)) :
    Calls Try.prog 47 #[.slice a n c, .int .i64 N] w fun e w' => e = .returned (.bool true) ∧ Below w.heap.size w w' := by
  have HR := Lib.hid hr
  have Hz := Lib.hid hz
  have HA := Lib.hid ha
  clear hr hz ha
  go_enter Try.func47, Try.ntmps47
  go_wp2
  go_loopw [5] (fun i wr => ∃ k : Nat, k ≤ n ∧ i = .int .i64 k ∧ Hid (Below w.heap.size w wr)) (fun i _ => n - (intOf i).toNat)
  case atStart => exact ⟨0, Nat.zero_le _, rfl, Lib.hid (Below.refl _ _)⟩
  case round =>
    obtain ⟨k, hk, rfl, hbw⟩ := hrel
    by_cases hlt : k < n
    · obtain ⟨b, o, rfl, hb, hcc⟩ := HA.out.at_ (by have := Hz.out; simp; omega)
      obtain ⟨y, hy⟩ : ∃ y, zs.getD k 0 = y := ⟨_, rfl⟩
      have hat := HR.out k hlt
      rw [hy] at hat
      have k1 := cell_int hb hbw.out hcc (by rw [Hz.out]; exact hlt) hy
      have g1 : decide (y < 0) = false := by simp; omega
      have g2 : decide (N ≤ y) = false := by simp; omega
      have i1 : (k : Int) < (n : Int) := by omega
      rcases Nat.eq_zero_or_pos k with rfl | hk0
      · simp only [Nat.add_zero] at k1
        clear hcc hy hat
        go_wp2_with fail
        go_big_quiet (fail)
        go_wp2_with fail
        go_roundw
        case rel => exact ⟨1, by omega, by go_num, Lib.hid (below_drewN hbw.out _)⟩
        case measure => simp [intOf]; omega
      · obtain ⟨q, rfl⟩ : ∃ q, k = q + 1 := ⟨k - 1, by omega⟩
        obtain ⟨x, hx⟩ : ∃ x, zs.getD q 0 = x := ⟨_, rfl⟩
        have k2 := cell_int hb hbw.out hcc (by rw [Hz.out]; omega) hx
        have hxy := hat.2 (by omega)
        rw [Nat.add_sub_cancel, hx] at hxy
        have g3 : decide (y ≤ x) = false := by simp; omega
        have w1 : IntKind.i64.wrap ((q : Int) + 1 - 1) = (q : Int) := by rw [show (q : Int) + 1 - 1 = (q : Int) by omega]; exact IntWalk.i64_in _ (by omega)
        clear hcc hy hx hat hxy
        go_wp2_with fail
        go_big_quiet (fail)
        go_wp2_with fail
        go_roundw
        case rel => exact ⟨q + 1 + 1, by omega, by go_num, Lib.hid (below_drewN hbw.out _)⟩
        case measure => simp [intOf]; omega
    · go_wp2
      go_ret
      exact ⟨rfl, hbw.out⟩
theorem a2Size_any (x : Int) (w : World) (h1 : -1000000000000 ≤ x) (h2 : x ≤ 1000000000000) : Calls Try.prog 49 #[.int .i64 x] w fun e w' => e = .returned (.int .i64 ((x.natAbs : Nat) : Int)) ∧ w = w' := by
  go_enter Try.func49, Try.ntmps49
  go_wp2
  all_goals
    go_ret
    exact ⟨ret_int (by omega), rfl⟩
set_option maxHeartbeats 800000 in
theorem a2At_any (w : World) (nc cc : Nat) (ac : Option Addr) (i n : Int) (hc : CodeAt w ac nc) (hi : 0 ≤ i) (hn : 1 ≤ n) (hn2 : n ≤ 1000) : Calls Try.prog 46 #[.slice ac nc cc, .int .i64 i, .int .i64 n] w fun e w' => (∃ r : Int, e = .returned (.int .i64 r) ∧ 0 ≤ r ∧ r ≤ n - 1) ∧ w = w' := by
  obtain ⟨bs, h1, h2, h3, h4⟩ := hc
  have H2 := Lib.hid h2
  have H3 := Lib.hid h3
  by_cases hlt : i < (nc : Int)
  · obtain ⟨k, rfl⟩ : ∃ k : Nat, i = (k : Int) := ⟨i.toNat, by omega⟩
    obtain ⟨b, o, rfl, hb, hcc⟩ := h1.at_ (by simp; omega)
    obtain ⟨z, hz⟩ : ∃ z, bs[k]? = some z := ⟨bs[k], List.getElem?_eq_getElem (by omega)⟩
    have c3 : w.cell? ⟨b, o + k, none⟩ = some (.int .u8 z) := by rw [hcc k (by simp; omega), List.getElem?_map, hz]; rfl
    have hzb := h3 z (List.mem_of_getElem? hz)
    obtain ⟨z1, z2⟩ := hzb
    have n0 : n ≠ 0 := by omega
    have m1 := Int.emod_nonneg z n0
    have m2 := Int.emod_lt_of_pos z (show 0 < n by omega)
    have w1 : IntKind.i64.wrap z = z := IntWalk.i64_in _ (by omega)
    clear hcc hz h1 h2 h3
    go_enter Try.func46, Try.ntmps46
    go_wp2
    go_ret
    exact ⟨⟨_, rfl, m1, by omega⟩, rfl⟩
  · clear h1 h2 h3
    go_enter Try.func46, Try.ntmps46
    go_wp2
    go_ret
    exact ⟨⟨0, rfl, by omega, by omega⟩, rfl⟩
set_option maxHeartbeats 1600000 in
theorem stepsLeft_any (h l r : Int) (w : World) (h1 : 0 ≤ h) (h2 : h ≤ 1200) (l1 : 0 ≤ l) (l2 : l ≤ 1200) (r1 : 1 ≤ r) (r2 : r ≤ 1000000) :
    Calls Try.prog 16 #[.int .i64 h, .int .i64 l, .int .i64 r] w fun e w' => e = .returned (.tuple #[.int .i64 (if h ≤ l then 0 else (h - l) * r), .int .i64 (if h ≤ l then 6 else 0)]) ∧ Below w.heap.size w w' := by
  have e1 : inB h 0 1200 = true := inB_true.2 ⟨h1, h2⟩
  have e2 : inB l 0 1200 = true := inB_true.2 ⟨l1, l2⟩
  have e3 : inB r 1 1000000 = true := inB_true.2 ⟨r1, r2⟩
  have H1 := Lib.hid (fun W => callsB (isHeel_any h W) e1)
  have H2 := Lib.hid (fun W => callsB (isHeel_any l W) e2)
  have H3 := Lib.hid (fun W => callsB (within_any r 1 1000000 W) e3)
  clear e1 e2 e3
  by_cases hl : h ≤ l
  · rw [if_pos hl, if_pos hl]
    go_enter Try.func16, Try.ntmps16
    go_wp2_with fail
    refine (H1.out _).mono ?_
    rintro e w1 ⟨rfl, rfl⟩
    go_wp2_with fail
    refine (H2.out _).mono ?_
    rintro e w1 ⟨rfl, rfl⟩
    go_wp2_with fail
    refine (H3.out _).mono ?_
    rintro e w1 ⟨rfl, rfl⟩
    go_wp2_with fail
    go_ret2
    exact ⟨rfl, Below.refl _ _⟩
  · rw [if_neg hl, if_neg hl]
    have p1 := Int.mul_nonneg (show 0 ≤ h - l by omega) (show 0 ≤ r by omega)
    have p2 := Int.mul_le_mul (show h - l ≤ 1200 by omega) r2 (by omega) (by omega)
    go_enter Try.func16, Try.ntmps16
    go_wp2_with fail
    refine (H1.out _).mono ?_
    rintro e w1 ⟨rfl, rfl⟩
    go_wp2_with fail
    refine (H2.out _).mono ?_
    rintro e w1 ⟨rfl, rfl⟩
    go_wp2_with fail
    refine (H3.out _).mono ?_
    rintro e w1 ⟨rfl, rfl⟩
    go_wp2_with fail
    go_ret2
    exact ⟨rfl, Below.refl _ _⟩
set_option maxHeartbeats 1600000 in
theorem wearHeel_any (h s r : Int) (w : World) (h1 : 0 ≤ h) (h2 : h ≤ 1200) (s1 : 0 ≤ s) (s2 : s ≤ 1000000000) (r1 : 1 ≤ r) (r2 : r ≤ 1000000) (q : Int) (hq : s / r = q) (hq2 : 0 ≤ q ∧ q ≤ 1000000000) :
    Calls Try.prog 18 #[.int .i64 h, .int .i64 s, .int .i64 r] w fun e w' => e = .returned (.tuple #[.int .i64 (max (h - q) 0), .int .i64 0]) ∧ Below w.heap.size w w' := by
  have e1 : inB h 0 1200 = true := inB_true.2 ⟨h1, h2⟩
  have e2 : inB s 0 1000000000 = true := inB_true.2 ⟨s1, s2⟩
  have e3 : inB r 1 1000000 = true := inB_true.2 ⟨r1, r2⟩
  have H1 := Lib.hid (fun W => callsB (isHeel_any h W) e1)
  have H2 := Lib.hid (fun W => callsB (within_any s 0 1000000000 W) e2)
  have H3 := Lib.hid (fun W => callsB (within_any r 1 1000000 W) e3)
  have ht : Int.tdiv s r = q := by rw [Int.tdiv_eq_ediv_of_nonneg s1, hq]
  have w1 : IntKind.i64.wrap q = q := IntWalk.i64_in _ (by omega)
  have r0 : ¬ r = 0 := by omega
  obtain ⟨q1, q2⟩ := hq2
  clear e1 e2 e3
  go_enter Try.func18, Try.ntmps18
  go_wp2_with fail
  refine (H1.out _).mono ?_
  rintro e w1 ⟨rfl, rfl⟩
  go_wp2_with fail
  refine (H2.out _).mono ?_
  rintro e w1 ⟨rfl, rfl⟩
  go_wp2_with fail
  refine (H3.out _).mono ?_
  rintro e w1 ⟨rfl, rfl⟩
  go_wp2_with fail
  all_goals
    go_ret2
    exact ⟨ret_two (by omega) rfl, Below.refl _ _⟩
theorem div_up {d r : Int} (hr : 1 ≤ r) : (d * r) / r = d ∧ (d * r - 1) / r = d - 1 := by
  refine ⟨Int.mul_ediv_cancel d (by omega), ?_⟩
  rw [show d * r - 1 = (r - 1) + (d - 1) * r by rw [Int.sub_mul]; omega, Int.add_mul_ediv_right _ _ (by omega), Int.ediv_eq_zero_of_lt (by omega) (by omega)]
  omega
end Go.Proofs.Ytlaapndncejlgaa
