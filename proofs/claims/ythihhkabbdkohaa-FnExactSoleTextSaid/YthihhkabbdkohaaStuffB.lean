/-
  Contracts of ValidStuffs, both sides. No condition of its own.
-/
import Derived.Test.YthihhkabbdkohaaStuffOk
import Derived.OwnWalk
namespace Go.Proofs.Ythihhkabbdkohaa
open Go.ChangeShapes Go.WideShapes Go.ChangeAt Go.RowKit Go.Deep Go.Shelf

theorem oneB_false {x : ByteArray} {t g s p : Int} {S : Nat → ByteArray × Int × Int × Int × Int} {k : Nat} (hx : S k = (x, t, g, s, p)) (h : oneB (x, t, g, s, p) = false) : stfAt S k = false := by
  simp only [stfAt, hx, h, Bool.false_and]
set_option maxRecDepth 100000 in
set_option maxHeartbeats 3200000 in
theorem implStuffs (a : Option Addr) (n c : Nat) (S : Nat → ByteArray × Int × Int × Int × Int) (w : World) (hnc : n ≤ c) (hn : n ≤ 1048576) (hok : StfOk S n) (ha : CellsAt w a (stfC S n)) :
    Calls Try.prog 11 #[.slice a n c] w fun e w' => e = .returned (.bool (stfB S n)) ∧ Below w.heap.size w w' := by
  obtain ⟨r, hr⟩ : ∃ r, stfB S n = r := ⟨_, rfl⟩
  rw [hr]
  have HR := Lib.hid hr
  have HO := Lib.hid hok
  clear hr hok
  by_cases h0 : n = 0
  · subst h0
    clear ha
    go_enter Try.func11, Try.ntmps11
    go_wp2
    refine wp_loop_once ?_
    go_wp2
    go_ret
    exact ⟨ret_bool (by rw [← stfB_end HR.out (Nat.le_refl _) (fun j hj => absurd hj (by omega))]; simp), Below.refl _ _⟩
  · obtain ⟨b, o, rfl, hb, hc⟩ := ha.at_ (by rw [stfC_length]; omega)
    have eg : ∀ args w, (callFunc 33 args).run Try.prog w = .ok (.enter 33 args) w := enters_of Try.func33 (by kernel_rfl) rfl
    have HE := Lib.hid eg
    have HA := Lib.hid ha
    have H1 := Lib.hid hc
    clear hc ha eg
    go_enter Try.func11, Try.ntmps11
    go_wp2
    go_loopw [3, 4, 7] (fun _ _ i wr => ∃ k : Nat, k ≤ n ∧ i = .int .i64 k ∧ Hid (∀ j, j < k → stfAt S j = true) ∧ Hid (Below w.heap.size w wr)) (fun _ _ i _ => n - (intOf i).toNat)
    case atStart => exact ⟨0, Nat.zero_le _, rfl, Lib.hid (fun j hj => absurd hj (by omega)), Lib.hid (Below.refl _ _)⟩
    case round =>
      obtain ⟨k, hk, rfl, hall, hbw⟩ := hrel
      by_cases hlt : k < n
      · obtain ⟨x0, x1, x2, x3, x4, hx⟩ : ∃ x t g s p, S k = (x, t, g, s, p) := ⟨_, _, _, _, _, rfl⟩
        obtain ⟨hc0, hc1, hc2, hc3, hc4⟩ := stf_cells hb hbw.out H1.out hlt hx
        have hsz := (HO.out k hlt _ _ _ _ _ hx).1
        have HX := Lib.hid hx
        have hlt' : (k : Int) < (n : Int) := by omega
        have hkc : k ≤ c := by omega
        have HB := Lib.hid (Bel.of hbw.out)
        have HS := Lib.hid hsz
        clear hx hsz
        cases q0 : okName x0 with
        | false =>
          obtain rfl := stfB_bad HR.out hlt (oneB_false HX.out (by simp [oneB, q0]))
          have K0 := Lib.hid q0
          clear q0
          go_wp2_with (go_at_call 30; refine (callsB (isName_any _ _ HS.out) K0.out).mono ?_; rintro e w1 ⟨rfl, rfl⟩)
          go_ret
          exact ⟨rfl, (HB.out.alloc _).1⟩
        | true =>
          have Q0 := Lib.hid q0
          have K0 := Lib.hid q0
          clear q0
          cases q1 : inB x1 1 200 with
          | false =>
            obtain rfl := stfB_bad HR.out hlt (oneB_false HX.out (by simp [oneB, q1]))
            have K1 := Lib.hid (fun W => callsB (within_any x1 1 200 W) q1)
            clear q1
            go_wp2_with (first | (go_at_call 30; refine (callsB (isName_any _ _ HS.out) K0.out).mono ?_; rintro e w1 ⟨rfl, rfl⟩) | (go_at_call 31; (first | with_reducible refine (K1.out _).mono ?_); rintro e w1 ⟨rfl, rfl⟩))
            go_ret
            exact ⟨rfl, (HB.out.alloc _).1⟩
          | true =>
            have Q1 := Lib.hid q1
            have K1 := Lib.hid (fun W => callsB (within_any x1 1 200 W) q1)
            clear q1
            cases q2 : inB x2 1 1000 with
            | false =>
              obtain rfl := stfB_bad HR.out hlt (oneB_false HX.out (by simp [oneB, q2]))
              have K2 := Lib.hid (fun W => callsB (within_any x2 1 1000 W) q2)
              clear q2
              go_wp2_with (first | (go_at_call 30; refine (callsB (isName_any _ _ HS.out) K0.out).mono ?_; rintro e w1 ⟨rfl, rfl⟩) | (go_at_call 31; (first | with_reducible refine (K1.out _).mono ?_ | with_reducible refine (K2.out _).mono ?_); rintro e w1 ⟨rfl, rfl⟩))
              go_ret
              exact ⟨rfl, (HB.out.alloc _).1⟩
            | true =>
              have Q2 := Lib.hid q2
              have K2 := Lib.hid (fun W => callsB (within_any x2 1 1000 W) q2)
              clear q2
              cases q3 : inB x3 0 1000 with
              | false =>
                obtain rfl := stfB_bad HR.out hlt (oneB_false HX.out (by simp [oneB, q3]))
                have K3 := Lib.hid (fun W => callsB (within_any x3 0 1000 W) q3)
                clear q3
                go_wp2_with (first | (go_at_call 30; refine (callsB (isName_any _ _ HS.out) K0.out).mono ?_; rintro e w1 ⟨rfl, rfl⟩) | (go_at_call 31; (first | with_reducible refine (K1.out _).mono ?_ | with_reducible refine (K2.out _).mono ?_ | with_reducible refine (K3.out _).mono ?_); rintro e w1 ⟨rfl, rfl⟩))
                go_ret
                exact ⟨rfl, (HB.out.alloc _).1⟩
              | true =>
                have Q3 := Lib.hid q3
                have K3 := Lib.hid (fun W => callsB (within_any x3 0 1000 W) q3)
                clear q3
                cases q4 : inB x4 0 10000 with
                | false =>
                  obtain rfl := stfB_bad HR.out hlt (oneB_false HX.out (by simp [oneB, q4]))
                  have K4 := Lib.hid (fun W => callsB (within_any x4 0 10000 W) q4)
                  clear q4
                  go_wp2_with (first | (go_at_call 30; refine (callsB (isName_any _ _ HS.out) K0.out).mono ?_; rintro e w1 ⟨rfl, rfl⟩) | (go_at_call 31; (first | with_reducible refine (K1.out _).mono ?_ | with_reducible refine (K2.out _).mono ?_ | with_reducible refine (K3.out _).mono ?_ | with_reducible refine (K4.out _).mono ?_); rintro e w1 ⟨rfl, rfl⟩))
                  go_ret
                  exact ⟨rfl, (HB.out.alloc _).1⟩
                | true =>
                  have Q4 := Lib.hid q4
                  have K4 := Lib.hid (fun W => callsB (within_any x4 0 10000 W) q4)
                  clear q4
                  have hone : oneB (x0, x1, x2, x3, x4) = true := by simp [oneB, Q0.out, Q1.out, Q2.out, Q3.out, Q4.out]
                  have hcon := containsStuff_any (some ⟨b, o, none⟩) k c S n (fun j => decide ((S j).1 = x0)) 33 #[.pointer (some ⟨wr.heap.size, 0, none⟩)] (wr.alloc (.cells #[.string x0, .int .i64 x1, .int .i64 x2, .int .i64 x3, .int .i64 x4] 49)) HE.out (by omega) hk ((HA.out.below hbw.out).below ((Below.refl _ _).alloc (Nat.le_refl _) _))
                    (fun j W hb hj x t g s q hxj => by
                      have h := stuffClosure x x0 t g s q wr.heap.size W ((hb.cell (p := ⟨wr.heap.size, 0, none⟩) (by simp)).trans (by simp)) (by have := hb.size; simp at this; omega)
                      rw [show x = (S j).1 by rw [hxj]] at h
                      rw [show x = (S j).1 by rw [hxj]]
                      exact h)
                  cases hd : dupB S k with
                  | true =>
                    obtain rfl := stfB_bad HR.out hlt (show stfAt S k = false by simp [stfAt, hd])
                    rw [show ((List.range k).any fun j => decide ((S j).1 = x0)) = true by rw [← hd]; simp only [dupB, HX.out]] at hcon
                    have HCon := Lib.hid hcon
                    clear hcon hd hone
                    go_wp2_with (first | (first | (go_at_call 30; refine (callsB (isName_any _ _ HS.out) K0.out).mono ?_; rintro e w1 ⟨rfl, rfl⟩) | (go_at_call 31; (first | with_reducible refine (K1.out _).mono ?_ | with_reducible refine (K2.out _).mono ?_ | with_reducible refine (K3.out _).mono ?_ | with_reducible refine (K4.out _).mono ?_); rintro e w1 ⟨rfl, rfl⟩)) | (go_at_call 32; refine HCon.out.mono ?_; rintro e w2 ⟨rfl, hb2⟩; have HB2 := Lib.hid ((HB.out.alloc _).step hb2); clear hb2))
                    go_ret
                    exact ⟨rfl, HB2.out.1⟩
                  | false =>
                    rw [show ((List.range k).any fun j => decide ((S j).1 = x0)) = false by rw [← hd]; simp only [dupB, HX.out]] at hcon
                    have HCon := Lib.hid hcon
                    have HN := Lib.hid (show stfAt S k = true by simp [stfAt, hd, HX.out, hone])
                    clear hcon hd hone
                    go_wp2_with (first | (first | (go_at_call 30; refine (callsB (isName_any _ _ HS.out) K0.out).mono ?_; rintro e w1 ⟨rfl, rfl⟩) | (go_at_call 31; (first | with_reducible refine (K1.out _).mono ?_ | with_reducible refine (K2.out _).mono ?_ | with_reducible refine (K3.out _).mono ?_ | with_reducible refine (K4.out _).mono ?_); rintro e w1 ⟨rfl, rfl⟩)) | (go_at_call 32; refine HCon.out.mono ?_; rintro e w2 ⟨rfl, hb2⟩; have HB2 := Lib.hid ((HB.out.alloc _).step hb2); clear hb2))
                    go_roundw
                    case rel => exact ⟨k + 1, by omega, by go_num, Lib.hid (stfB_more hall.out HN.out), Lib.hid HB2.out.1⟩
                    case measure => simp [intOf]; omega
      · go_wp2
        go_ret
        exact ⟨ret_bool (stfB_end HR.out (by omega) hall.out), hbw.out⟩
set_option maxRecDepth 100000 in
set_option maxHeartbeats 1600000 in
theorem l17One_any (g off : Nat) (x0 : ByteArray) (x1 x2 x3 x4 : Int) (w : World) (hs : x0.size ≤ maxLen) (h0 : w.cell? ⟨g, off, none⟩ = some (.string x0)) (h1 : w.cell? ⟨g, off + 1, none⟩ = some (.int .i64 x1)) (h2 : w.cell? ⟨g, off + 2, none⟩ = some (.int .i64 x2)) (h3 : w.cell? ⟨g, off + 3, none⟩ = some (.int .i64 x3)) (h4 : w.cell? ⟨g, off + 4, none⟩ = some (.int .i64 x4)) :
    Calls Try.prog 47 #[.pointer (some ⟨g, off, none⟩)] w fun e w' => e = .returned (.bool (oneB (x0, x1, x2, x3, x4))) ∧ w = w' := by
  obtain ⟨r, hr⟩ : ∃ r, oneB (x0, x1, x2, x3, x4) = r := ⟨_, rfl⟩
  rw [hr]
  have HR := Lib.hid hr
  have HS := Lib.hid hs
  clear hr hs
  cases q0 : okName x0 with
  | false =>
    obtain rfl : r = false := by rw [← HR.out]; simp [oneB, q0]
    have K0 := Lib.hid q0
    clear q0
    go_enter Try.func47, Try.ntmps47
    go_wp2_with (go_at_call 54; refine (callsB (specName_any _ _ HS.out) K0.out).mono ?_; rintro e w1 ⟨rfl, rfl⟩)
    go_ret
    exact ⟨rfl, rfl⟩
  | true =>
    have Q0 := Lib.hid q0
    have K0 := Lib.hid q0
    clear q0
    cases q1 : inB x1 1 200 with
    | false =>
      obtain rfl : r = false := by rw [← HR.out]; simp [oneB, q1]
      have K1 := Lib.hid (fun W => callsB (l00In_any x1 1 200 W) q1)
      clear q1
      go_enter Try.func47, Try.ntmps47
      go_wp2_with (first | (go_at_call 54; refine (callsB (specName_any _ _ HS.out) K0.out).mono ?_; rintro e w1 ⟨rfl, rfl⟩) | (go_at_call 40; (first | with_reducible refine (K1.out _).mono ?_); rintro e w1 ⟨rfl, rfl⟩))
      go_ret
      exact ⟨rfl, rfl⟩
    | true =>
      have Q1 := Lib.hid q1
      have K1 := Lib.hid (fun W => callsB (l00In_any x1 1 200 W) q1)
      clear q1
      cases q2 : inB x2 1 1000 with
      | false =>
        obtain rfl : r = false := by rw [← HR.out]; simp [oneB, q2]
        have K2 := Lib.hid (fun W => callsB (l00In_any x2 1 1000 W) q2)
        clear q2
        go_enter Try.func47, Try.ntmps47
        go_wp2_with (first | (go_at_call 54; refine (callsB (specName_any _ _ HS.out) K0.out).mono ?_; rintro e w1 ⟨rfl, rfl⟩) | (go_at_call 40; (first | with_reducible refine (K1.out _).mono ?_ | with_reducible refine (K2.out _).mono ?_); rintro e w1 ⟨rfl, rfl⟩))
        go_ret
        exact ⟨rfl, rfl⟩
      | true =>
        have Q2 := Lib.hid q2
        have K2 := Lib.hid (fun W => callsB (l00In_any x2 1 1000 W) q2)
        clear q2
        cases q3 : inB x3 0 1000 with
        | false =>
          obtain rfl : r = false := by rw [← HR.out]; simp [oneB, q3]
          have K3 := Lib.hid (fun W => callsB (l00In_any x3 0 1000 W) q3)
          clear q3
          go_enter Try.func47, Try.ntmps47
          go_wp2_with (first | (go_at_call 54; refine (callsB (specName_any _ _ HS.out) K0.out).mono ?_; rintro e w1 ⟨rfl, rfl⟩) | (go_at_call 40; (first | with_reducible refine (K1.out _).mono ?_ | with_reducible refine (K2.out _).mono ?_ | with_reducible refine (K3.out _).mono ?_); rintro e w1 ⟨rfl, rfl⟩))
          go_ret
          exact ⟨rfl, rfl⟩
        | true =>
          have Q3 := Lib.hid q3
          have K3 := Lib.hid (fun W => callsB (l00In_any x3 0 1000 W) q3)
          clear q3
          cases q4 : inB x4 0 10000 with
          | false =>
            obtain rfl : r = false := by rw [← HR.out]; simp [oneB, q4]
            have K4 := Lib.hid (fun W => callsB (l00In_any x4 0 10000 W) q4)
            clear q4
            go_enter Try.func47, Try.ntmps47
            go_wp2_with (first | (go_at_call 54; refine (callsB (specName_any _ _ HS.out) K0.out).mono ?_; rintro e w1 ⟨rfl, rfl⟩) | (go_at_call 40; (first | with_reducible refine (K1.out _).mono ?_ | with_reducible refine (K2.out _).mono ?_ | with_reducible refine (K3.out _).mono ?_ | with_reducible refine (K4.out _).mono ?_); rintro e w1 ⟨rfl, rfl⟩))
            go_ret
            exact ⟨rfl, rfl⟩
          | true =>
            have Q4 := Lib.hid q4
            have K4 := Lib.hid (fun W => callsB (l00In_any x4 0 10000 W) q4)
            clear q4
            obtain rfl : r = true := by rw [← HR.out]; simp [oneB, Q0.out, Q1.out, Q2.out, Q3.out, Q4.out]
            go_enter Try.func47, Try.ntmps47
            go_wp2_with (first | (go_at_call 54; refine (callsB (specName_any _ _ HS.out) K0.out).mono ?_; rintro e w1 ⟨rfl, rfl⟩) | (go_at_call 40; (first | with_reducible refine (K1.out _).mono ?_ | with_reducible refine (K2.out _).mono ?_ | with_reducible refine (K3.out _).mono ?_ | with_reducible refine (K4.out _).mono ?_); rintro e w1 ⟨rfl, rfl⟩))
            go_ret
            exact ⟨rfl, rfl⟩
/-- None of the first j names is that of the stuff k. -/
theorem dup_hit {S : Nat → ByteArray × Int × Int × Int × Int} {k j : Nat} (hj : j < k) (h : (S j).1 = (S k).1) : stfAt S k = false := by
  have : dupB S k = true := List.any_eq_true.2 ⟨j, List.mem_range.2 hj, decide_eq_true h⟩
  simp [stfAt, this]
theorem dup_none {S : Nat → ByteArray × Int × Int × Int × Int} {k : Nat} (h1 : oneB (S k) = true) (h : ∀ j, j < k → (S j).1 ≠ (S k).1) : stfAt S k = true := by
  have : dupB S k = false := by
    rw [dupB, List.any_eq_false]
    intro j hj
    simpa using h j (List.mem_range.1 hj)
  simp [stfAt, this, h1]
set_option maxRecDepth 100000 in
set_option maxHeartbeats 3200000 in
theorem specStuffs (a : Option Addr) (n c : Nat) (S : Nat → ByteArray × Int × Int × Int × Int) (w : World) (hn : n ≤ 1048576) (hok : StfOk S n) (ha : CellsAt w a (stfC S n)) :
    Calls Try.prog 28 #[.slice a n c] w fun e w' => e = .returned (.bool (stfB S n)) ∧ Below w.heap.size w w' := by
  obtain ⟨r, hr⟩ : ∃ r, stfB S n = r := ⟨_, rfl⟩
  rw [hr]
  have HR := Lib.hid hr
  have HO := Lib.hid hok
  clear hr hok
  by_cases h0 : n = 0
  · subst h0
    clear ha
    go_enter Try.func28, Try.ntmps28
    go_wp2
    refine wp_loop_once ?_
    go_wp2
    go_ret
    exact ⟨ret_bool (by rw [← stfB_end HR.out (Nat.le_refl _) (fun j hj => absurd hj (by omega))]; simp), Below.refl _ _⟩
  · obtain ⟨b, o, rfl, hb, hc⟩ := ha.at_ (by rw [stfC_length]; omega)
    have H1 := Lib.hid hc
    clear hc ha
    go_enter Try.func28, Try.ntmps28
    go_wp2
    go_loopw [3, 4] (fun i _ wr => ∃ k : Nat, k ≤ n ∧ i = .int .i64 k ∧ Hid (∀ j, j < k → stfAt S j = true) ∧ Hid (Below w.heap.size w wr)) (fun i _ _ => n - (intOf i).toNat)
    case atStart => exact ⟨0, Nat.zero_le _, rfl, Lib.hid (fun j hj => absurd hj (by omega)), Lib.hid (Below.refl _ _)⟩
    case round =>
      obtain ⟨k, hk, rfl, hall, hbw⟩ := hrel
      obtain ⟨wo, rfl⟩ : ∃ wo : World, wo = wr := ⟨_, rfl⟩
      by_cases hlt : k < n
      · obtain ⟨x0, x1, x2, x3, x4, hx⟩ : ∃ x t g s p, S k = (x, t, g, s, p) := ⟨_, _, _, _, _, rfl⟩
        obtain ⟨hc0, hc1, hc2, hc3, hc4⟩ := stf_cells hb hbw.out H1.out hlt hx
        have HOne := Lib.hid (l17One_any b (o + k * 5) x0 x1 x2 x3 x4 wo (HO.out k hlt _ _ _ _ _ hx).1 hc0 hc1 hc2 hc3 hc4)
        have HX := Lib.hid hx
        have hlt' : (k : Int) < (n : Int) := by omega
        clear hx
        cases hone : oneB (x0, x1, x2, x3, x4) with
        | false =>
          obtain rfl := stfB_bad HR.out hlt (oneB_false HX.out hone)
          have HQ := Lib.hid (callsB HOne.out hone)
          clear hone
          go_wp2_with (go_at_call 47; refine HQ.out.mono ?_; rintro e w1 ⟨rfl, rfl⟩)
          go_ret
          exact ⟨rfl, hbw.out⟩
        | true =>
          have HQ := Lib.hid (callsB HOne.out hone)
          have H1b := Lib.hid (show oneB (S k) = true by rw [HX.out]; exact hone)
          clear hone hc0 hc1 hc2 hc3 hc4
          go_wp2_with (go_at_call 47; refine HQ.out.mono ?_; rintro e w1 ⟨rfl, rfl⟩)
          go_loopw [4] (fun i wr => ∃ j : Nat, j ≤ k ∧ i = .int .i64 j ∧ Hid (∀ i, i < j → (S i).1 ≠ (S k).1) ∧ Hid (Below w.heap.size w wr)) (fun i _ => k - (intOf i).toNat)
          case atStart => exact ⟨0, Nat.zero_le _, rfl, Lib.hid (fun j hj => absurd hj (by omega)), hbw⟩
          case round =>
            obtain ⟨j, hj, rfl, hno, hbi⟩ := hrel
            by_cases hlj : j < k
            · obtain ⟨y0, y1, y2, y3, y4, hy⟩ : ∃ x t g s p, S j = (x, t, g, s, p) := ⟨_, _, _, _, _, rfl⟩
              obtain ⟨hd0, _, _, _, _⟩ := stf_cells hb hbi.out H1.out (show j < n by omega) hy
              obtain ⟨hc0, _, _, _, _⟩ := stf_cells hb hbi.out H1.out hlt HX.out
              have hlj' : (j : Int) < (k : Int) := by omega
              have hjn : (j : Int) < (n : Int) := by omega
              by_cases e : y0 = x0
              · obtain rfl := stfB_bad HR.out hlt (dup_hit hlj (by rw [hy, HX.out]; exact e))
                have gg := str_eq_true e
                clear hy e
                go_wp2_with fail
                go_big_quiet (fail)
                go_wp2_with fail
                go_ret
                exact ⟨rfl, below_drewN hbi.out _⟩
              · have gg := str_eq_false e
                have HN := Lib.hid (show ∀ i, i < j + 1 → (S i).1 ≠ (S k).1 from fun i hi => by
                  by_cases e2 : i = j
                  · subst e2; rw [hy, HX.out]; exact e
                  · exact hno.out i (by omega))
                clear hy e
                go_wp2_with fail
                go_big_quiet (fail)
                go_wp2_with fail
                go_roundw
                case rel => exact ⟨j + 1, by omega, by go_num, HN, Lib.hid (below_drewN hbi.out _)⟩
                case measure => simp [intOf]; omega
            · obtain rfl : j = k := by omega
              have HN := Lib.hid (dup_none H1b.out hno.out)
              go_wp2_with fail
              go_roundw
              case rel => exact ⟨j + 1, by omega, by go_num, Lib.hid (stfB_more hall.out HN.out), hbi⟩
              case measure => simp [intOf]; omega
      · go_wp2
        go_ret
        exact ⟨ret_bool (stfB_end HR.out (by omega) hall.out), hbw.out⟩
theorem specStuffs' (a : Option Addr) (n c : Nat) (S : Nat → ByteArray × Int × Int × Int × Int) (w : World) (hn : n ≤ 1048576) (hok : StfOk S n) (ha : CellsAt w a (stfC S n)) :
    Calls Try.prog 9 #[.slice a n c] w fun e w' => e = .returned (.bool (stfB S n)) ∧ Below w.heap.size w w' := by
  have H := Lib.hid (specStuffs a n c S w hn hok ha)
  clear hok ha
  go_enter Try.func9, Try.ntmps9
  go_wp2_with (go_at_call 28; refine H.out.mono ?_; rintro e w1 ⟨rfl, hb1⟩)
  go_ret
  exact ⟨rfl, hb1⟩
end Go.Proofs.Ythihhkabbdkohaa
