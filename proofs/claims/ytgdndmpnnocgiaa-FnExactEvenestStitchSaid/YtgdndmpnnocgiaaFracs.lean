/-
  Contracts of the laws' own helpers on slices of fractions, and appends of fractions. No condition of its own.
-/
import Derived.Test.YtgdndmpnnocgiaaApp2
import Derived.Test.YtgdndmpnnocgiaaFrac
import Derived.StillTailTactics
import Derived.Deep.RegionHeld3
namespace Go.Proofs.Ytgdndmpnnocgiaa
open Go.ChangeShapes Go.WideShapes Go.ChangeAt Go.RowKit Go.Deep

theorem infoFraction : (Try.prog.info? 49).map (fun i => (i.zero, i.size, i.bytes)) = some (some (.agg #[.int .i64 0, .int .i64 0]), 2, 16) := by kernel_rfl
theorem eqFraction_any (x0 x1 : Int) (w : World) : Calls Try.prog 40 #[.agg #[.int .i64 x0, .int .i64 x1], .agg #[.int .i64 x0, .int .i64 x1]] w fun e w' => e = .returned (.bool true) ∧ (w.alloc (.cells #[.int .i64 x0, .int .i64 x1] 49)).alloc (.cells #[.int .i64 x0, .int .i64 x1] 49) = w' := by
  go_enter Try.func40, Try.ntmps40
  go_wp2
  go_ret
  exact ⟨rfl, rfl⟩
set_option maxRecDepth 100000 in
set_option maxHeartbeats 1600000 in
theorem eqFractionS_any (a b : Option Addr) (n c d : Nat) (zs : List Int) (w : World) (hz : zs.length = n * 2) (hn : n ≤ 1073741824) (ha : CellsAt w a (zs.map (Value.int .i64))) (hb : CellsAt w b (zs.map (Value.int .i64))) :
    Calls Try.prog 33 #[.slice a n c, .slice b n d] w fun e w' => e = .returned (.bool true) ∧ Below w.heap.size w w' := by
  by_cases h0 : n = 0
  · subst h0
    have Hz := Lib.hid hz
    clear hz ha hb
    go_enter Try.func33, Try.ntmps33
    go_wp2
    refine wp_loop_once ?_
    go_wp2
    go_ret
    exact ⟨rfl, Below.refl _ _⟩
  · obtain ⟨b1, o1, rfl, hb1, hc1⟩ := ha.at_ (by simp; omega)
    obtain ⟨b2, o2, rfl, hb2, hc2⟩ := hb.at_ (by simp; omega)
    have Hz := Lib.hid hz
    have H1 := Lib.hid hc1
    have H2 := Lib.hid hc2
    clear hz hc1 hc2 ha hb
    have hnn : ((n : Int) != (n : Int)) = false := by simp
    go_enter Try.func33, Try.ntmps33
    go_wp2
    go_loopw [5] (fun i wr => ∃ k : Nat, k ≤ n ∧ i = .int .i64 k ∧ Below w.heap.size w wr) (fun i _ => n - (intOf i).toNat)
    case atStart => exact ⟨0, Nat.zero_le _, rfl, Below.refl _ _⟩
    case round =>
      obtain ⟨k, hk, rfl, hbw⟩ := hrel
      by_cases hlt : k < n
      · have hkz : k * 2 + 2 ≤ zs.length := by rw [Hz.out]; omega
        obtain ⟨x0, hx0⟩ : ∃ x, x = zs.getD (k * 2) 0 := ⟨_, rfl⟩
        have hc10 : wr.cell? ⟨b1, o1 + k * 2, none⟩ = some (.int .i64 x0) := by
          have h := (hbw.cell (p := ⟨b1, o1 + (k * 2), none⟩) hb1).trans (H1.out (k * 2) (by simp; omega))
          rw [show o1 + (k * 2) = o1 + k * 2 from by omega] at h
          rw [h, hx0]
          simp [List.getElem?_eq_getElem (show k * 2 < zs.length by omega)]
        have hc20 : wr.cell? ⟨b2, o2 + k * 2, none⟩ = some (.int .i64 x0) := by
          have h := (hbw.cell (p := ⟨b2, o2 + (k * 2), none⟩) hb2).trans (H2.out (k * 2) (by simp; omega))
          rw [show o2 + (k * 2) = o2 + k * 2 from by omega] at h
          rw [h, hx0]
          simp [List.getElem?_eq_getElem (show k * 2 < zs.length by omega)]
        clear hx0
        obtain ⟨x1, hx1⟩ : ∃ x, x = zs.getD (k * 2 + 1) 0 := ⟨_, rfl⟩
        have hc11 : wr.cell? ⟨b1, o1 + k * 2 + 1, none⟩ = some (.int .i64 x1) := by
          have h := (hbw.cell (p := ⟨b1, o1 + (k * 2 + 1), none⟩) hb1).trans (H1.out (k * 2 + 1) (by simp; omega))
          rw [show o1 + (k * 2 + 1) = o1 + k * 2 + 1 from by omega] at h
          rw [h, hx1]
          simp [List.getElem?_eq_getElem (show k * 2 + 1 < zs.length by omega)]
        have hc21 : wr.cell? ⟨b2, o2 + k * 2 + 1, none⟩ = some (.int .i64 x1) := by
          have h := (hbw.cell (p := ⟨b2, o2 + (k * 2 + 1), none⟩) hb2).trans (H2.out (k * 2 + 1) (by simp; omega))
          rw [show o2 + (k * 2 + 1) = o2 + k * 2 + 1 from by omega] at h
          rw [h, hx1]
          simp [List.getElem?_eq_getElem (show k * 2 + 1 < zs.length by omega)]
        clear hx1
        have hb' : Bel w.heap.size w wr := Bel.of hbw
        have Hb := Lib.hid hb'
        clear hbw hb'
        have hlt' : (k : Int) < (n : Int) := by omega
        go_wp2_with fail
        go_still_tail 8, (by kernel_rfl)
        go_wp2_with (go_at_call 40; refine (eqFraction_any _ _ _).mono ?_; rintro e w1 ⟨rfl, rfl⟩)
        go_roundw
        case rel => exact ⟨k + 1, by omega, by go_num, (((Hb.out.alloc _).alloc _).drew).1⟩
        case measure => simp [intOf]; omega
      · go_wp2
        go_ret
        exact ⟨rfl, hbw⟩
set_option maxHeartbeats 1600000 in
theorem markFractionS_any (a : Option Addr) (n c B : Nat) (k0 : Int) (cs : List Value) (w : World) (hn : n ≤ 1073741824) (h1 : 0 ≤ k0) (h2 : k0 ≤ 1152921504606846976) (ho : w.ownsRow B 49 2 (.slice a n c) n cs) :
    Calls Try.prog 34 #[.slice a n c, .int .i64 k0] w (Marked w B 49 2 (.slice a n c) n (n * 2) k0) := by
  rcases own_form ho with h0 | ⟨g, rfl⟩
  · subst h0
    have hz := cells_zero ho rfl
    subst hz
    have Ho := Lib.hid ho
    clear ho
    go_enter Try.func34, Try.ntmps34
    go_wp2
    refine wp_loop_once ?_
    go_wp2
    go_ret
    exact ⟨ret_int (by simp), by simpa [marks] using Ho.out, World.grownBy.refl _ _⟩
  · have hl := ho.1
    have Hl := Lib.hid hl
    have Ho := Lib.hid ho
    clear hl ho
    go_enter Try.func34, Try.ntmps34
    go_wp2
    go_loopw [1, 5] (fun y i wr => ∃ k : Nat, k ≤ n ∧ i = .int .i64 k ∧ (∃ z : Int, y = .int .i64 z ∧ Hid (z = k0 + ((k * 2 : Nat) : Int))) ∧ wr.ownsRow B 49 2 (.slice (some ⟨g, 0, none⟩) n c) n (marks k0 (k * 2) ++ cs.drop (k * 2)) ∧ w.grownBy wr (some g))
      (fun _ i _ => n - (intOf i).toNat)
    case atStart => exact ⟨0, Nat.zero_le _, rfl, ⟨k0, rfl, Lib.hid (by simp)⟩, by simpa [marks] using Ho.out, World.grownBy.refl _ _⟩
    case round =>
      obtain ⟨k, hk, rfl, ⟨z, rfl, hzk⟩, hown, hgr⟩ := hrel
      have hzb : 0 ≤ z ∧ z ≤ 2305843009213693952 := by have := hzk.out; omega
      obtain ⟨hz1, hz2⟩ := hzb
      by_cases hlt : k < n
      · have hkz : k * 2 + 2 ≤ cs.length := by rw [Hl.out]; omega
        obtain ⟨u0, hu0⟩ : ∃ u, wr.cell? ⟨g, k * 2, none⟩ = some u := by
          rw [hown.cellAt (k * 2) (by omega)]
          exact ⟨_, List.getElem?_eq_getElem (by rw [hown.1]; omega)⟩
        have hf0 := hown.frozenAt (k * 2)
        obtain ⟨u1, hu1⟩ : ∃ u, wr.cell? ⟨g, k * 2 + 1, none⟩ = some u := by
          rw [hown.cellAt (k * 2 + 1) (by omega)]
          exact ⟨_, List.getElem?_eq_getElem (by rw [hown.1]; omega)⟩
        have hf1 := hown.frozenAt (k * 2 + 1)
        have hsd0 := hown.stored (k * 2) (.int .i64 (z))
        have hsd1 := hsd0.1.stored (k * 2 + 1) (.int .i64 (z + 1))
        have Hs := Lib.hid hsd1.1
        have Hg := Lib.hid (grown_trans_row (grown_trans_row (hgr) hsd0.2) hsd1.2)
        clear hsd0 hsd1 hown hgr
        go_wp2
        go_roundw
        case rel =>
          refine ⟨k + 1, by omega, by go_num, ⟨z + 1 + 1, rfl, Lib.hid (by have := hzk.out; omega)⟩, ?_, Hg.out⟩
          have h := Hs.out
          rw [marks_set' _ _ (k * 2) (z) (by omega) (by have := hzk.out; omega)] at h
          rw [marks_set' _ _ (k * 2 + 1) (z + 1) (by omega) (by have := hzk.out; omega)] at h
          rw [show (k + 1) * 2 = k * 2 + 2 from by omega]
          exact h
        case measure => simp [intOf]; omega
      · go_wp2
        go_ret
        have e : k = n := by omega
        subst e
        have h := hown
        rw [List.drop_of_length_le (by rw [Hl.out]; omega), List.append_nil] at h
        exact ⟨ret_int (by have := hzk.out; omega), h, hgr⟩
set_option maxHeartbeats 1600000 in
theorem heldFractionS_any (a : Option Addr) (n c : Nat) (k0 : Int) (w : World) (hn : n ≤ 1073741824) (h1 : 0 ≤ k0) (h2 : k0 ≤ 1152921504606846976) (hc : CellsAt w a (marks k0 (n * 2))) :
    Calls Try.prog 35 #[.slice a n c, .int .i64 k0] w fun e w' => e = .returned (.int .i64 (k0 + ((n * 2 : Nat) : Int))) ∧ Below w.heap.size w w' := by
  by_cases h0 : n = 0
  · subst h0
    clear hc
    go_enter Try.func35, Try.ntmps35
    go_wp2
    refine wp_loop_once ?_
    go_wp2
    go_ret
    exact ⟨ret_int (by simp), Below.refl _ _⟩
  · obtain ⟨b, o, rfl, hb, hcell⟩ := hc.at_ (by rw [length_marks]; omega)
    have Hc := Lib.hid hcell
    clear hcell hc
    go_enter Try.func35, Try.ntmps35
    go_wp2
    go_loopw [1, 5] (fun y i wr => ∃ k : Nat, k ≤ n ∧ i = .int .i64 k ∧ (∃ z : Int, y = .int .i64 z ∧ Hid (z = k0 + ((k * 2 : Nat) : Int))) ∧ Below w.heap.size w wr) (fun _ i _ => n - (intOf i).toNat)
    case atStart => exact ⟨0, Nat.zero_le _, rfl, ⟨k0, rfl, Lib.hid (by simp)⟩, Below.refl _ _⟩
    case round =>
      obtain ⟨k, hk, rfl, ⟨z, rfl, hzk⟩, hbw⟩ := hrel
      have hzb : 0 ≤ z ∧ z ≤ 2305843009213693952 := by have := hzk.out; omega
      obtain ⟨hz1, hz2⟩ := hzb
      by_cases hlt : k < n
      · have hc0 : wr.cell? ⟨b, o + k * 2, none⟩ = some (.int .i64 (z)) := by
          have h := (hbw.cell (p := ⟨b, o + (k * 2), none⟩) hb).trans (Hc.out (k * 2) (by rw [length_marks]; omega))
          rw [show o + (k * 2) = o + k * 2 from by omega, marks_at _ _ _ (by omega), show k0 + ((k * 2 : Nat) : Int) = z from by have := hzk.out; omega] at h
          exact h
        have hc1 : wr.cell? ⟨b, o + k * 2 + 1, none⟩ = some (.int .i64 (z + 1)) := by
          have h := (hbw.cell (p := ⟨b, o + (k * 2 + 1), none⟩) hb).trans (Hc.out (k * 2 + 1) (by rw [length_marks]; omega))
          rw [show o + (k * 2 + 1) = o + k * 2 + 1 from by omega, marks_at _ _ _ (by omega), show k0 + ((k * 2 + 1 : Nat) : Int) = z + 1 from by have := hzk.out; omega] at h
          exact h
        have Hb := Lib.hid hbw
        clear hbw
        go_wp2
        go_roundw
        case rel => exact ⟨k + 1, by omega, by go_num, ⟨z + 1 + 1, rfl, Lib.hid (by have := hzk.out; omega)⟩, Hb.out⟩
        case measure => simp [intOf]; omega
      · go_wp2
        go_ret
        have e : k = n := by omega
        subst e
        exact ⟨ret_int (by have := hzk.out; omega), hbw⟩

set_option maxHeartbeats 800000 in
theorem appFraction {w0 W : World} {ops : Array Oper} {rest : List Oper} {o : Oper} {a : Act} {Q : Exit → Act → World → Prop} (hgd : o.guard = none) (s x : Operand)
    (ho : o.op = .call { callee := .builtin .append, args := #[s, x], argTypes := #[40, 40] }) (B : Nat) (v : Value) (n : Nat) (xs : List Value) (hs : a.eval s = v) (hown : W.ownsRow B 49 2 v n xs)
    (x0 x1 : Int) (c H : Nat) (hH : W.heap.size = H) (hx : a.eval x = .slice (some ⟨H, 0, none⟩) 1 c) (hn : n ≤ 1099511627776) (hb : Bel B w0 W)
    (h : ∀ g cap w', w'.ownsRow B 49 2 (.slice (some ⟨g, 0, none⟩) (n + 1) cap) (n + 1) (xs ++ [.int .i64 x0, .int .i64 x1]) → Bel B w0 w' → W.grownBy w' v.ownBlock → (v.ownBlock = some g ∨ W.heap.size ≤ g) → wpList Try.prog ops Q rest (a.put o.dst (.slice (some ⟨g, 0, none⟩) (n + 1) cap)) w') :
    wpList Try.prog ops Q (o :: rest) a (W.alloc (.cells #[.int .i64 x0, .int .i64 x1] 49)) := by
  subst hH
  obtain ⟨i, hi, h0, h1, h2⟩ := info_parts infoFraction
  refine wpList_append_lies _ hgd s x 40 ho B 49 i (.agg #[.int .i64 0, .int .i64 0]) 2 16 Try.underlying40 hi h0 h1 h2 rfl (by omega) v n xs hs (hown.alloc _) ⟨W.heap.size, 0, none⟩ 1 c [.int .i64 x0, .int .i64 x1] hx rfl ?_ ?_ (by omega) (by unfold maxLen; omega) (by omega) (by have := hb.2; simp; omega) _ rfl ?_
  · intro j u hj
    match j, hj with
    | 0, hj => simp at hj; subst hj; simp [Addr.add]
    | 1, hj => simp at hj; subst hj; simp [Addr.add]
  · intro u hu
    simp only [List.mem_cons, List.not_mem_nil, or_false] at hu
    rcases hu with rfl | rfl <;> rfl
  · intro g cap w' h3 h4 h5 _
    refine h g cap w' h3 ((hb.alloc _).grown h4 (fun k hk => (own_block hown hk).1)) ?_ ?_
    · exact ⟨h4.os, h4.tape, h4.output, Nat.le_trans (by simp) h4.size, fun i hi hne => (h4.block i (by simp; omega) hne).trans ((World.grownBy_alloc W _ none).block i hi (by simp))⟩
    · rcases h5 with h5 | h5
      · exact .inl h5
      · exact .inr (by rw [h5]; simp)


set_option maxHeartbeats 800000 in
theorem appFractionW {w0 W : World} {ops : Array Oper} {rest : List Oper} {o : Oper} {a : Act} {Q : Exit → Act → World → Prop} (hgd : o.guard = none) (s x : Operand)
    (ho : o.op = .call { callee := .builtin .append, args := #[s, x], argTypes := #[40, 40] }) (B : Nat) (v : Value) (n : Nat) (xs : List Value) (hs : a.eval s = v) (hown : W.ownsRow B 49 2 v n xs)
    (news : List Value) (hl : news.length = 2) (h1 : ∀ u ∈ news, u.oneCell' = true) (c H : Nat) (hnews : ∀ (j : Nat) u, news[j]? = some u → W.cell? ((⟨H, 0, none⟩ : Addr).add j) = some u) (hx : a.eval x = .slice (some ⟨H, 0, none⟩) 1 c) (hn : n ≤ 1099511627776) (hb : Bel B w0 W)
    (h : ∀ g cap w', w'.ownsRow B 49 2 (.slice (some ⟨g, 0, none⟩) (n + 1) cap) (n + 1) (xs ++ news) → Bel B w0 w' → W.grownBy w' v.ownBlock → (v.ownBlock = some g ∨ W.heap.size ≤ g) → wpList Try.prog ops Q rest (a.put o.dst (.slice (some ⟨g, 0, none⟩) (n + 1) cap)) w') :
    wpList Try.prog ops Q (o :: rest) a W := by
  obtain ⟨i, hi, q0, q1, q2⟩ := info_parts infoFraction
  refine wpList_append_lies _ hgd s x 40 ho B 49 i (.agg #[.int .i64 0, .int .i64 0]) 2 16 Try.underlying40 hi q0 q1 q2 rfl (by omega) v n xs hs hown ⟨H, 0, none⟩ 1 c news hx (by omega) hnews h1 (by omega) (by unfold maxLen; omega) (by omega) hb.2 _ rfl ?_
  intro g cap w' h3 h4 h5 _
  refine h g cap w' h3 (hb.grown h4 (fun k hk => (own_block hown hk).1)) h4 ?_
  rcases h5 with h5 | h5
  · exact .inl h5
  · exact .inr (by omega)

set_option maxHeartbeats 800000 in
theorem stepFraction {w0 W : World} {ops : Array Oper} {o : Oper} {a : Act} {K : Act → World → Prop} {Q : Exit → Act → World → Prop} {E : Prop} (hgd : o.guard = none) (s x : Operand)
    (ho : o.op = .call { callee := .builtin .append, args := #[s, x], argTypes := #[40, 40] }) (B : Nat) (v : Value) (n : Nat) (xs : List Value) (hs : a.eval s = v) (hown : W.ownsRow B 49 2 v n xs)
    (news : List Value) (hl : news.length = 2) (h1 : ∀ u ∈ news, u.oneCell' = true) (c H : Nat) (hnews : ∀ (j : Nat) u, news[j]? = some u → W.cell? ((⟨H, 0, none⟩ : Addr).add j) = some u) (hx : a.eval x = .slice (some ⟨H, 0, none⟩) 1 c) (hn : n ≤ 1099511627776) (hb : Bel B w0 W)
    (h : ∀ g cap w', w'.ownsRow B 49 2 (.slice (some ⟨g, 0, none⟩) (n + 1) cap) (n + 1) (xs ++ news) → Bel B w0 w' → W.grownBy w' v.ownBlock → (v.ownBlock = some g ∨ W.heap.size ≤ g) → K (a.put o.dst (.slice (some ⟨g, 0, none⟩) (n + 1) cap)) w') :
    if Region.wanted o (yielded ops a.tmps) = true then Oper.wp Try.prog o a W K Q else E := by
  obtain ⟨i, hi, q0, q1, q2⟩ := info_parts infoFraction
  refine step_append_lies _ hgd s x 40 ho B 49 i (.agg #[.int .i64 0, .int .i64 0]) 2 16 Try.underlying40 hi q0 q1 q2 rfl (by omega) v n xs hs hown ⟨H, 0, none⟩ 1 c news hx (by omega) hnews h1 (by omega) (by unfold maxLen; omega) (by omega) hb.2 _ rfl ?_
  intro g cap w' h3 h4 h5 _
  refine h g cap w' h3 (hb.grown h4 (fun k hk => (own_block hown hk).1)) h4 ?_
  rcases h5 with h5 | h5
  · exact .inl h5
  · exact .inr (by omega)


theorem new_cells {w w' : World} {cs : Array Value} {t H : Nat} (hH : w.heap.size = H) (hw : (w.alloc (.cells cs t)).heap = w'.heap) : ∀ (j : Nat) (u : Value), cs.toList[j]? = some u → w'.cell? ((⟨H, 0, none⟩ : Addr).add j) = some u := by
  subst hH
  intro j u hj
  have h := heap_alloc_new w (.cells cs t)
  rw [hw] at h
  exact World.news_of_block h j u hj
end Go.Proofs.Ytgdndmpnnocgiaa
