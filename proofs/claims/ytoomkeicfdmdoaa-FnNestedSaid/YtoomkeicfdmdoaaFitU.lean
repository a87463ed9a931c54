/-
  Contracts of the reference's FirstRows and TallRows. No condition of its own.
-/
import Derived.Test.YtoomkeicfdmdoaaFitS
import Derived.Test.YtoomkeicfdmdoaaFitT
import Derived.Test.YtoomkeicfdmdoaaClone
namespace Go.Proofs.Ytoomkeicfdmdoaa
open Go.ChangeShapes Go.WideShapes Go.ChangeAt Go.RowKit Go.Deep Go.Shelf

theorem own_capge {W : World} {B E k n c m g : Nat} {cs : List Value} (h : W.ownsRow B E k (.slice (some ⟨g, 0, none⟩) n c) m cs) : n ≤ c := by
  rcases h.2 with ⟨h0, _⟩ | ⟨g', cap, cur, hv, _, _, hc, _⟩
  · cases h0
  · simp only [Value.slice.injEq] at hv
    omega
theorem cells_take {W : World} {a : Option Addr} {cs : List Value} (h : CellsAt W a cs) (j : Nat) : CellsAt W a (cs.take j) := by
  rcases h with h | ⟨b, off, h1, h2, h3⟩
  · exact .inl (by rw [h]; simp)
  · refine .inr ⟨b, off, h1, h2, fun i hi => ?_⟩
    simp only [List.length_take] at hi
    rw [h3 i (by omega), List.getElem?_take, if_pos (by omega)]
theorem nats_take (T : List Nat) (j : Nat) : (nats T).take j = ((T.take j).map fun i : Nat => (i : Int)).map (Value.int .i64) := by simp only [nats, List.map_take, List.map_map]; rfl
theorem fitEnd_row {w w0 : World} {n : Nat} {R : List Int} {g : Nat} {w' : World} (hR : R.length = n) (hn : n ≤ 1048576) (hb : Below w.heap.size w w0) (ho : w'.ownsRow w0.heap.size 2 1 (.slice (some ⟨g, 0, none⟩) n n) n (nints R)) (hb' : Below w0.heap.size w0 w') :
    RowEnd w 2 1 R 0 (.returned (.tuple #[.slice (some ⟨g, 0, none⟩) n n, .int .i64 0])) w' :=
  ⟨_, n, n, rfl, by rw [hR]; omega, by omega, own_base ho hb.size, hb.trans (hb'.mono hb.size)⟩
set_option maxHeartbeats 3200000 in
theorem spec_FirstRows (w : World) (a : Option Addr) (n c : Nat) (zs : List Int) (hl : zs.length = n * 2) (hn : n ≤ 1048576) (hc : CellsAt w a (zs.map (Value.int .i64))) (roll : Int) :
    Calls Try.prog 40 #[.slice a n c, .int .i64 roll] w (RowEnd w 2 1 (fitL zs roll n) (nestC zs roll n)) := by
  have h1 := specBlocksOk a n c zs roll w hl hc
  cases hok : blocksB zs roll n with
  | false =>
    rw [show fitL zs roll n = [] by simp [fitL, hok], show nestC zs roll n = 1 by simp [nestC, hok]]
    rw [hok] at h1
    clear hok hl hc
    go_enter Try.func40, Try.ntmps40
    go_wp2_with (go_at_call 62; refine h1.mono ?_; rintro e w1 ⟨rfl, hb1⟩)
    go_ret2
    exact nrowEnd_fail hb1
  | true =>
    rw [show fitL zs roll n = firstFit zs roll (List.range n) (List.replicate 9 0) (List.replicate n 0) by simp [fitL, hok], show nestC zs roll n = 0 by simp [nestC, hok]]
    have hlenR := (order_fine hok hl (List.Perm.refl _)).1
    have H2 := Lib.hid (fun W g cap (e : Below w.heap.size w W) (ho : CellsAt W (some ⟨g, 0, none⟩) (nats (List.range n))) => l11First_any W a n c zs roll (some ⟨g, 0, none⟩) cap (List.range n) hl (hc.below e) hok (List.Perm.refl _) ho)
    rw [hok] at h1
    have H1 := Lib.hid h1
    generalize firstFit zs roll (List.range n) (List.replicate 9 0) (List.replicate n 0) = R at H2 hlenR ⊢
    have HL := Lib.hid hlenR
    clear hok hl hc h1 hlenR
    go_enter Try.func40, Try.ntmps40
    go_wp2_with fail
    refine H1.out.mono ?_
    rintro e w1 ⟨rfl, hb1⟩
    have HB1 := Lib.hid ((Bel.of hb1).alloc (.cells #[] 2))
    have HO1 := Lib.hid (own_none' w1 w.heap.size 2 1 hb1.size)
    clear hb1
    go_wp2_with fail
    go_loopw [6, 7] (fun v u wr => ∃ k : Nat, k ≤ n ∧ u = .int .i64 k ∧ ∃ g cap : Nat, v = .slice (some ⟨g, 0, none⟩) k cap ∧ Hid (wr.ownsRow w.heap.size 2 1 (.slice (some ⟨g, 0, none⟩) k cap) k (nats (List.range k))) ∧ Hid (Bel w.heap.size w wr)) (fun _ u _ => n - (intOf u).toNat)
    case atStart => exact ⟨0, Nat.zero_le _, rfl, w1.heap.size, 0, rfl, HO1, HB1⟩
    case round =>
      obtain ⟨k, hk, rfl, g, cap, rfl, ho, hbw⟩ := hrel
      by_cases hlt : k < n
      · have hlt' : (k : Int) < (n : Int) := by omega
        go_wp2_with (at_builtin; refine appJ (by rfl) _ _ (by rfl) w.heap.size _ _ _ (by rfl) ho.out _ 1 wr.heap.size (by simp) (by rfl) (by omega) hbw.out ?_; intro g5 cap5 w5 ho5 hb5 _ _; have Ho5 := Lib.hid ho5; have Hb5 := Lib.hid hb5; clear ho5 hb5)
        go_roundw
        case rel => exact ⟨k + 1, by omega, by go_num, g5, cap5, rfl, Lib.hid (by have h := Ho5.out; rw [nats_snoc] at h; exact h), Hb5⟩
        case measure => simp [intOf]; omega
      · obtain rfl : k = n := by omega
        go_wp2_with fail
        refine (H2.out wr g cap hbw.out.1 (CellsAt.of_own ho.out)).mono ?_
        rintro e w3 ⟨g3, rfl, ho3, hb3⟩
        have HE := Lib.hid (fitEnd_row HL.out hn hbw.out.1 ho3 hb3)
        clear ho3 hb3
        go_wp2_with fail
        go_ret2
        exact HE.out

set_option maxRecDepth 100000 in
set_option maxHeartbeats 6400000 in
theorem spec_TallRows (w : World) (a : Option Addr) (n c : Nat) (zs : List Int) (hl : zs.length = n * 2) (hn : n ≤ 1048576) (hc : CellsAt w a (zs.map (Value.int .i64))) (roll : Int) :
    Calls Try.prog 42 #[.slice a n c, .int .i64 roll] w (RowEnd w 2 1 (tallL zs roll n) (nestC zs roll n)) := by
  have h1 := specBlocksOk a n c zs roll w hl hc
  cases hok : blocksB zs roll n with
  | false =>
    rw [show tallL zs roll n = [] by simp [tallL, hok], show nestC zs roll n = 1 by simp [nestC, hok]]
    rw [hok] at h1
    clear hok hl hc
    go_enter Try.func42, Try.ntmps42
    go_wp2_with (go_at_call 62; refine h1.mono ?_; rintro e w1 ⟨rfl, hb1⟩)
    go_ret2
    exact nrowEnd_fail hb1
  | true =>
    have n9 := (blocksB_parts hok).2.1
    rw [show tallL zs roll n = firstFit zs roll (tallTo zs n) (List.replicate 9 0) (List.replicate n 0) by simp [tallL, hok], show nestC zs roll n = 0 by simp [nestC, hok]]
    have hp := tallTo_perm zs n
    have hlenR := (order_fine hok hl hp).1
    have H2 := Lib.hid (fun W g cap (e : Below w.heap.size w W) (ho : CellsAt W (some ⟨g, 0, none⟩) (nats (tallTo zs n))) => l11First_any W a n c zs roll (some ⟨g, 0, none⟩) cap (tallTo zs n) hl (hc.below e) hok hp ho)
    rw [hok] at h1
    have H1 := Lib.hid h1
    generalize firstFit zs roll (tallTo zs n) (List.replicate 9 0) (List.replicate n 0) = R at H2 hlenR ⊢
    have HL := Lib.hid hlenR
    have HA := Lib.hid hc
    have Hl := Lib.hid hl
    clear hok hl hc h1 hlenR hp
    go_enter Try.func42, Try.ntmps42
    go_wp2_with fail
    refine H1.out.mono ?_
    rintro e w1 ⟨rfl, hb1⟩
    have HB1 := Lib.hid ((Bel.of hb1).alloc (.cells #[] 2))
    have HO1 := Lib.hid (own_none' w1 w.heap.size 2 1 hb1.size)
    clear hb1
    go_wp2_with fail
    go_loopw [6, 7, 8, 9] (fun v u _ _ wr => ∃ i : Nat, i ≤ n ∧ u = .int .i64 i ∧ ∃ g cap : Nat, v = .slice (some ⟨g, 0, none⟩) i cap ∧ Hid (wr.ownsRow w.heap.size 2 1 (.slice (some ⟨g, 0, none⟩) i cap) i (nats (tallTo zs i))) ∧ Hid (Bel w.heap.size w wr)) (fun _ u _ _ _ => n - (intOf u).toNat)
    case atStart => exact ⟨0, Nat.zero_le _, rfl, w1.heap.size, 0, rfl, HO1, HB1⟩
    case round =>
      obtain ⟨i, hi, rfl, g, cap, rfl, ho, hbw⟩ := hrel
      by_cases hlt : i < n
      · have hlt' : (i : Int) < (n : Int) := by omega
        have HT := Lib.hid (tallTo_len zs i)
        have HLt := Lib.hid (fun k (h : k < i) => tallTo_lt (zs := zs) h)
        have HPut := Lib.hid (fun j (h : tallK zs (tallTo zs i) i i = j) => (show tallTo zs (i + 1) = ((tallTo zs i).take j ++ [i]) ++ (tallTo zs i).drop j by
          simp only [tallTo, tallPut]
          rw [tallTo_len, h]
          simp))
        have HStepK := Lib.hid (show ∀ q, tallK zs (tallTo zs i) i (q + 1) = if hOf zs ((tallTo zs i).getD q 0) < hOf zs i then tallK zs (tallTo zs i) i q else q + 1 from fun _ => rfl)
        generalize tallTo zs i = T at HT HLt HPut HStepK ho
        obtain ⟨bz, oz, rfl, hbz, hcz⟩ := HA.out.at_ (by have := Hl.out; simp; omega)
        have HCi := Lib.hid (fun (k : Nat) (hk : k < n) W (h : Bel w.heap.size w W) => (show W.cell? ⟨bz, oz + k * 2 + 1, none⟩ = some (.int .i64 (hOf zs k)) from by have h := cell_int hbz h.1 hcz (j := k * 2 + 1) (by rw [Hl.out]; omega) rfl; rwa [← Nat.add_assoc] at h))
        clear hcz
        go_wp2_with fail
        go_loopw [8] (fun v wi => ∃ j : Nat, j ≤ i ∧ v = .int .i64 j ∧ Hid (tallK zs T i i = tallK zs T i j) ∧ Hid (wi.ownsRow w.heap.size 2 1 (.slice (some ⟨g, 0, none⟩) i cap) i (nats T)) ∧ Hid (Bel w.heap.size w wi)) (fun v _ => (intOf v).toNat)
        case atStart => exact ⟨i, Nat.le_refl _, rfl, Lib.hid rfl, ho, hbw⟩
        case round =>
          clear ho hbw HB1 HO1
          obtain ⟨j, hji, rfl, hK, ho, hbw⟩ := hrel
          have ki := HCi.out i hlt wr hbw.out
          have hcap := own_capge ho.out
          by_cases hgo : 0 < j ∧ hOf zs (T.getD (j - 1) 0) < hOf zs i
          · obtain ⟨q, rfl⟩ : ∃ q, j = q + 1 := ⟨j - 1, by omega⟩
            obtain ⟨t, ht⟩ : ∃ t, T.getD q 0 = t := ⟨_, rfl⟩
            have hlow := hgo.2
            rw [Nat.add_sub_cancel, ht] at hlow
            have htn : t < n := by have := HLt.out q (by omega); omega
            have kt := HCi.out t htn wr hbw.out
            have kq := own_nat ho.out (k := q) (by rw [HT.out]; omega) ht
            have hsk := HStepK.out q
            rw [ht, if_pos hlow] at hsk
            have HK2 := Lib.hid (hK.out.trans hsk)
            obtain ⟨ht0, hht⟩ : ∃ v, hOf zs t = v := ⟨_, rfl⟩
            obtain ⟨hi0, hhi⟩ : ∃ v, hOf zs i = v := ⟨_, rfl⟩
            rw [hht] at kt hlow
            rw [hhi] at ki hlow
            have hq1 : IntKind.i64.wrap ((q : Int) + 1 - 1) = (q : Int) := by rw [Int.add_sub_cancel]; exact IntWalk.i64_in _ (by omega)
            have hq2 : (q : Int) < (i : Int) := by omega
            have hq3 : (t : Int) < (n : Int) := by omega
            have hd : decide (ht0 < hi0) = true := by simpa using hlow
            clear ht hsk hht hhi hgo hlow
            go_wp2_with fail
            go_big_quiet (fail)
            go_wp2_with fail
            go_roundw
            case rel => exact ⟨q, by omega, by go_num, HK2, Lib.hid ho.out, Lib.hid (hbw.out.drewN _)⟩
            case measure => simp [intOf]
          · have HStop := Lib.hid (show tallK zs T i i = j by
              rw [hK.out]
              cases j with
              | zero => rfl
              | succ q =>
                rw [HStepK.out q, if_neg (fun h => hgo ⟨by omega, by simpa using h⟩)])
            by_cases hj : 0 < j
            · obtain ⟨q, hq⟩ : ∃ q, j = q + 1 := ⟨j - 1, by omega⟩
              obtain ⟨t, ht⟩ : ∃ t, T.getD q 0 = t := ⟨_, rfl⟩
              have hlow : ¬ hOf zs t < hOf zs i := fun h => hgo ⟨by omega, by rw [hq, Nat.add_sub_cancel, ht]; exact h⟩
              have htn : t < n := by have := HLt.out q (by omega); omega
              have kt := HCi.out t htn wr hbw.out
              have kq := own_nat ho.out (k := q) (by rw [HT.out]; omega) ht
              obtain ⟨ht0, hht⟩ : ∃ v, hOf zs t = v := ⟨_, rfl⟩
              obtain ⟨hi0, hhi⟩ : ∃ v, hOf zs i = v := ⟨_, rfl⟩
              rw [hht] at kt hlow
              rw [hhi] at ki hlow
              have hq1 : IntKind.i64.wrap ((j : Int) - 1) = (q : Int) := by rw [show (j : Int) - 1 = (q : Int) by omega]; exact IntWalk.i64_in _ (by omega)
              have hq2 : (q : Int) < (i : Int) := by omega
              have hq3 : (t : Int) < (n : Int) := by omega
              have hj' : (0 : Int) < (j : Int) := by omega
              have hjc : (j : Int) ≤ (cap : Int) := by omega
              have hjc2 : j ≤ cap := by omega
              have hd : decide (ht0 < hi0) = false := by simpa using hlow
              clear ht hht hhi hgo hlow hq
              go_wp2_with fail
              go_big_quiet (fail)
              generalize hw3 : wr.drewN _ = w3
              have HO3 := Lib.hid (show w3.ownsRow w.heap.size 2 1 (.slice (some ⟨g, 0, none⟩) i cap) i (nats T) by rw [← hw3]; exact ho.out)
              have HB3 := Lib.hid (show Bel w.heap.size w w3 by rw [← hw3]; exact hbw.out.drewN _)
              clear hw3 kt kq ki ho hbw
              have hcl := l00Own_any g j cap ((T.take j).map fun i : Nat => (i : Int)) w3 (by have := HT.out; simp; omega) (by omega) (by rw [← nats_take]; exact cells_take (CellsAt.of_own HO3.out) j)
              rw [← nats_take] at hcl
              have HCl := Lib.hid hcl
              clear hcl
              go_wp2_with fail
              refine HCl.out.mono ?_
              rintro e w4 ⟨a4, cap4, rfl, ho4, hb4⟩
              have hg3 := (own_block (b := g) HO3.out rfl).2
              have HN4 := Lib.hid (show ∀ b, (Value.slice a4 j cap4).ownBlock = some b → g ≠ b from fun b hb => by have := (own_block ho4 hb).1; omega)
              have HO4 := Lib.hid (own_base ho4 HB3.out.2)
              have HT4 := Lib.hid (own_below HO3.out hb4)
              have HB4 := Lib.hid (HB3.out.step hb4)
              have hg4 : g < w4.heap.size := Nat.lt_of_lt_of_le hg3 hb4.size
              clear ho4 hb4 hg3
              go_upto_region 11 with (at_builtin; refine appJ (by rfl) _ _ (by rfl) w.heap.size _ _ _ (by rfl) HO4.out _ 1 w4.heap.size (by simp) (by rfl) (by omega) HB4.out ?_; intro g5 cap5 w5 ho5 hb5 hg5 hat5; have Ho5 := Lib.hid ho5; have Hb5 := Lib.hid hb5; have HT5 := Lib.hid (own_grown_ne HT4.out hg5 (fun b hb e => HN4.out b e (by simpa [Value.ownBlock] using hb))); have HN5 := Lib.hid (show g ≠ g5 by rcases hat5 with h | h; (exact HN4.out g5 h); omega); clear ho5 hb5 hg5 hat5)
              obtain ⟨iI, hiI, hz0, hz1, hz2⟩ := info_parts infoI
              have HII := Lib.hid (And.intro hiI (And.intro hz0 (And.intro hz1 hz2)))
              clear hiI hz0 hz1 hz2
              by_cases hij : j < i
              · have hcj : ¬ cap = j := by omega
                have hcj2 : ¬ j = cap := by omega
                have hcj3 : ¬ (cap : Int) = (j : Int) := by omega
                go_wp2_with (at_builtin; refine wpList_append_lies _ (by rfl) _ _ 22 (by rfl) w.heap.size 2 iI (.int .i64 0) 1 8 Try.underlying22 HII.out.1 HII.out.2.1 HII.out.2.2.1 HII.out.2.2.2 (by rfl) (by omega) _ _ _ (by rfl) Ho5.out ⟨g, j, none⟩ (i - j) (cap - j) ((nats T).drop j) (by first | rfl | (simp; done)) (by have := HT.out; simp [nats]; omega) ?qc1 ?qc2 (by omega) (by unfold maxLen; omega) (by omega) Hb5.out.2 _ rfl ?_)
                case qc1 =>
                  intro jj u hu
                  rw [addr_add, HT5.out.cellAt _ (by have h := (List.getElem?_eq_some_iff.1 hu).1; have := HT.out; simp [nats] at h; omega)]
                  rw [List.getElem?_drop] at hu
                  exact hu
                case qc2 =>
                  intro u hu
                  obtain ⟨z, _, rfl⟩ := List.mem_map.1 (List.mem_of_mem_drop hu)
                  rfl
                intro g6 cap6 w6 ho6 hg6 _ _
                have HO6 := Lib.hid (show w6.ownsRow w.heap.size 2 1 (.slice (some ⟨g6, 0, none⟩) (i + 1) cap6) (i + 1) (nats (tallTo zs (i + 1))) by
                  have h := ho6
                  rw [show j + 1 + (i - j) = i + 1 by omega] at h
                  rw [HPut.out j HStop.out]
                  simpa [nats, List.map_append, List.map_take, List.map_drop] using h)
                have HB6 := Lib.hid (Hb5.out.grown hg6 (fun k hk => (own_block Ho5.out hk).1))
                have hlen6 : j + 1 + (i - j) = i + 1 := by omega
                clear ho6 hg6
                rw [hlen6]
                go_wp2_with fail
                go_roundw
                case rel => exact ⟨i + 1, by omega, by go_num, g6, cap6, rfl, HO6, HB6⟩
                case measure => simp [intOf]; omega
              · obtain rfl : j = i := by omega
                have hsub : j - j = 0 := by omega
                go_wp2_with (at_builtin; refine wpList_append_fits_any _ (by rfl) _ _ 22 (by rfl) w.heap.size 2 iI 1 Try.underlying22 HII.out.1 HII.out.2.2.1 g5 (j + 1) cap5 _ (by rfl) Ho5.out _ 0 _ [] (by rfl) (by simp) (fun h => by split at h <;> cases h) (by simp) (by simp) (by have := own_capge Ho5.out; omega) ?_; intro w6 ho6 hg6; have HO6 := Lib.hid ho6; have HG6 := Lib.hid hg6; clear ho6 hg6)
                all_goals
                  have HO7 := Lib.hid (show w6.ownsRow w.heap.size 2 1 (.slice (some ⟨g5, 0, none⟩) (j + 1) cap5) (j + 1) (nats (tallTo zs (j + 1))) by
                    have h := HO6.out
                    rw [HPut.out j HStop.out, List.drop_of_length_le (by rw [HT.out]; omega)]
                    simpa [nats, List.map_append, List.map_take] using h)
                  have HB7 := Lib.hid (Hb5.out.grown HG6.out (fun k hk => by cases hk; exact (own_block (b := g5) Ho5.out rfl).1))
                  go_roundw
                  case rel => exact ⟨j + 1, by omega, by go_num, g5, cap5, rfl, HO7, HB7⟩
                  case measure => simp [intOf]; omega
            · have hj0 : j = 0 := by omega
              have hjn : ¬ (0 : Int) < (j : Int) := by omega
              have hjc : (j : Int) ≤ (cap : Int) := by omega
              have hjc2 : j ≤ cap := by omega
              have HJ0 := Lib.hid hj0
              have kt := ki
              have kq := ki
              clear hj0 hgo
              go_wp2_with fail
              go_big_quiet (fail)
              generalize hw3 : wr.drewN _ = w3
              have HO3 := Lib.hid (show w3.ownsRow w.heap.size 2 1 (.slice (some ⟨g, 0, none⟩) i cap) i (nats T) by rw [← hw3]; exact ho.out)
              have HB3 := Lib.hid (show Bel w.heap.size w w3 by rw [← hw3]; exact hbw.out.drewN _)
              clear hw3 kt kq ki ho hbw
              have hcl := l00Own_any g j cap ((T.take j).map fun i : Nat => (i : Int)) w3 (by have := HT.out; simp; omega) (by omega) (by rw [← nats_take]; exact cells_take (CellsAt.of_own HO3.out) j)
              rw [← nats_take] at hcl
              have HCl := Lib.hid hcl
              clear hcl
              go_wp2_with fail
              refine HCl.out.mono ?_
              rintro e w4 ⟨a4, cap4, rfl, ho4, hb4⟩
              have hg3 := (own_block (b := g) HO3.out rfl).2
              have HN4 := Lib.hid (show ∀ b, (Value.slice a4 j cap4).ownBlock = some b → g ≠ b from fun b hb => by have := (own_block ho4 hb).1; omega)
              have HO4 := Lib.hid (own_base ho4 HB3.out.2)
              have HT4 := Lib.hid (own_below HO3.out hb4)
              have HB4 := Lib.hid (HB3.out.step hb4)
              have hg4 : g < w4.heap.size := Nat.lt_of_lt_of_le hg3 hb4.size
              clear ho4 hb4 hg3
              go_upto_region 11 with (at_builtin; refine appJ (by rfl) _ _ (by rfl) w.heap.size _ _ _ (by rfl) HO4.out _ 1 w4.heap.size (by simp) (by rfl) (by omega) HB4.out ?_; intro g5 cap5 w5 ho5 hb5 hg5 hat5; have Ho5 := Lib.hid ho5; have Hb5 := Lib.hid hb5; have HT5 := Lib.hid (own_grown_ne HT4.out hg5 (fun b hb e => HN4.out b e (by simpa [Value.ownBlock] using hb))); have HN5 := Lib.hid (show g ≠ g5 by rcases hat5 with h | h; (exact HN4.out g5 h); omega); clear ho5 hb5 hg5 hat5)
              obtain ⟨iI, hiI, hz0, hz1, hz2⟩ := info_parts infoI
              have HII := Lib.hid (And.intro hiI (And.intro hz0 (And.intro hz1 hz2)))
              clear hiI hz0 hz1 hz2
              by_cases hij : j < i
              · have hcj : ¬ cap = j := by omega
                have hcj2 : ¬ j = cap := by omega
                have hcj3 : ¬ (cap : Int) = (j : Int) := by omega
                go_wp2_with (at_builtin; refine wpList_append_lies _ (by rfl) _ _ 22 (by rfl) w.heap.size 2 iI (.int .i64 0) 1 8 Try.underlying22 HII.out.1 HII.out.2.1 HII.out.2.2.1 HII.out.2.2.2 (by rfl) (by omega) _ _ _ (by rfl) Ho5.out ⟨g, j, none⟩ (i - j) (cap - j) ((nats T).drop j) (by first | rfl | (simp; done)) (by have := HT.out; simp [nats]; omega) ?qc1 ?qc2 (by omega) (by unfold maxLen; omega) (by omega) Hb5.out.2 _ rfl ?_)
                case qc1 =>
                  intro jj u hu
                  rw [addr_add, HT5.out.cellAt _ (by have h := (List.getElem?_eq_some_iff.1 hu).1; have := HT.out; simp [nats] at h; omega)]
                  rw [List.getElem?_drop] at hu
                  exact hu
                case qc2 =>
                  intro u hu
                  obtain ⟨z, _, rfl⟩ := List.mem_map.1 (List.mem_of_mem_drop hu)
                  rfl
                intro g6 cap6 w6 ho6 hg6 _ _
                have HO6 := Lib.hid (show w6.ownsRow w.heap.size 2 1 (.slice (some ⟨g6, 0, none⟩) (i + 1) cap6) (i + 1) (nats (tallTo zs (i + 1))) by
                  have h := ho6
                  rw [show j + 1 + (i - j) = i + 1 by omega] at h
                  rw [HPut.out j HStop.out]
                  simpa [nats, List.map_append, List.map_take, List.map_drop] using h)
                have HB6 := Lib.hid (Hb5.out.grown hg6 (fun k hk => (own_block Ho5.out hk).1))
                have hlen6 : j + 1 + (i - j) = i + 1 := by omega
                clear ho6 hg6
                rw [hlen6]
                go_wp2_with fail
                go_roundw
                case rel => exact ⟨i + 1, by omega, by go_num, g6, cap6, rfl, HO6, HB6⟩
                case measure => simp [intOf]; omega
              · obtain rfl : j = i := by omega
                have hsub : j - j = 0 := by omega
                go_wp2_with (at_builtin; refine wpList_append_fits_any _ (by rfl) _ _ 22 (by rfl) w.heap.size 2 iI 1 Try.underlying22 HII.out.1 HII.out.2.2.1 g5 (j + 1) cap5 _ (by rfl) Ho5.out _ 0 _ [] (by rfl) (by simp) (fun h => by split at h <;> cases h) (by simp) (by simp) (by have := own_capge Ho5.out; omega) ?_; intro w6 ho6 hg6; have HO6 := Lib.hid ho6; have HG6 := Lib.hid hg6; clear ho6 hg6)
                all_goals
                  have HO7 := Lib.hid (show w6.ownsRow w.heap.size 2 1 (.slice (some ⟨g5, 0, none⟩) (j + 1) cap5) (j + 1) (nats (tallTo zs (j + 1))) by
                    have h := HO6.out
                    rw [HPut.out j HStop.out, List.drop_of_length_le (by rw [HT.out]; omega)]
                    simpa [nats, List.map_append, List.map_take] using h)
                  have HB7 := Lib.hid (Hb5.out.grown HG6.out (fun k hk => by cases hk; exact (own_block (b := g5) Ho5.out rfl).1))
                  go_roundw
                  case rel => exact ⟨j + 1, by omega, by go_num, g5, cap5, rfl, HO7, HB7⟩
                  case measure => simp [intOf]; omega
      · obtain rfl : i = n := by omega
        go_wp2_with fail
        refine (H2.out wr g cap hbw.out.1 (CellsAt.of_own ho.out)).mono ?_
        rintro e w3 ⟨g3, rfl, ho3, hb3⟩
        have HE := Lib.hid (fitEnd_row HL.out hn hbw.out.1 ho3 hb3)
        clear ho3 hb3
        go_wp2_with fail
        go_ret2
        exact HE.out
end Go.Proofs.Ytoomkeicfdmdoaa
