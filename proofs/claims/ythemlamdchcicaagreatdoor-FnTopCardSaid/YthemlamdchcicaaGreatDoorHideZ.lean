/-
  Contracts of ValidHide, ValidCuts and of a hide's fields, the program. No condition of its own.
-/
import Derived.Test.YthemlamdchcicaaGreatDoorHideY
namespace Go.Proofs.YthemlamdchcicaaGreatDoor
open Go.ChangeShapes Go.WideShapes Go.ChangeAt Go.RowKit Go.Deep Go.Shelf

theorem rowB_parts {z : Nat} {r : ByteArray} (h0 : r.size = z) (h : inB (r.size : Int) 1 6 = true) : rowB z r = r.data.toList.all fun b => decide (0 ≤ qualU b) := by
  have := inB_true.1 h
  unfold rowB
  rw [decide_eq_true h0, decide_eq_true (show 1 ≤ r.size by omega), decide_eq_true (show r.size ≤ 6 by omega)]
  rfl
set_option maxRecDepth 100000 in
set_option maxHeartbeats 1600000 in
theorem validHide1_any (r r0 : ByteArray) (q b o n ca : Nat) (w : World) (hs : r.size ≤ maxLen) (_ : r0.size ≤ maxLen) (hn : 0 < n) (hq : w.cell? ⟨q, 0, none⟩ = some (.slice (some ⟨b, o, none⟩) n ca)) (hb : w.cell? ⟨b, o, none⟩ = some (.string r0)) (_ : q < w.heap.size) (_ : b < w.heap.size) :
    Calls Tryz.prog 80 #[.string r, .pointer (some ⟨q, 0, none⟩)] w fun e w' => e = .returned (.bool (!rowB r0.size r)) ∧ Below w.heap.size w w' := by
  obtain ⟨x, hx⟩ : ∃ x, (!rowB r0.size r) = x := ⟨_, rfl⟩
  rw [hx]
  have HX := Lib.hid hx
  clear hx
  cases hin : inB (r.size : Int) 1 6 with
  | false =>
    obtain rfl : x = true := by rw [← HX.out, rowB_out hin]; rfl
    have HI := Lib.hid (fun W => callsB (within_any (r.size : Int) 1 6 W) hin)
    unfold maxLen at *
    clear hin
    go_enter Tryz.func80, Tryz.ntmps80
    go_wp2_with (go_at_call 53; (with_reducible refine (HI.out _).mono ?_); rintro e w1 ⟨rfl, rfl⟩)
    go_ret
    exact ⟨rfl, Below.refl _ _⟩
  | true =>
    have HI := Lib.hid (fun W => callsB (within_any (r.size : Int) 1 6 W) hin)
    by_cases e1 : r.size = r0.size
    · obtain ⟨t, ht1, ht2⟩ := trim_any r w hs
      have hx2 := HX.out
      rw [rowB_parts e1 hin, ← ht1] at hx2
      have e1' : ((r.size : Int) != (r0.size : Int)) = false := by simp [e1]
      have HT := Lib.hid ht2
      unfold maxLen at *
      clear hin e1 ht1 ht2
      cases x with
      | true =>
        have hte : t.toList.isEmpty = false := by simpa using hx2
        clear hx2
        go_enter Tryz.func80, Tryz.ntmps80
        go_wp2_with (first | (go_at_call 53; (with_reducible refine (HI.out _).mono ?_); rintro e w1 ⟨rfl, rfl⟩) | (go_at_call 81; (with_reducible refine HT.out.mono ?_); rintro e w2 ⟨rfl, hb2⟩; have HB2 := Lib.hid hb2; clear hb2))
        go_ret
        exact ⟨rfl, HB2.out⟩
      | false =>
        have hte : t.toList.isEmpty = true := by simpa using hx2
        clear hx2
        go_enter Tryz.func80, Tryz.ntmps80
        go_wp2_with (first | (go_at_call 53; (with_reducible refine (HI.out _).mono ?_); rintro e w1 ⟨rfl, rfl⟩) | (go_at_call 81; (with_reducible refine HT.out.mono ?_); rintro e w2 ⟨rfl, hb2⟩; have HB2 := Lib.hid hb2; clear hb2))
        go_ret
        exact ⟨rfl, HB2.out⟩
    · obtain rfl : x = true := by rw [← HX.out, rowB_len e1]; rfl
      have e1' : ((r.size : Int) != (r0.size : Int)) = true := by simp; omega
      unfold maxLen at *
      clear hin e1
      go_enter Tryz.func80, Tryz.ntmps80
      go_wp2_with (go_at_call 53; (with_reducible refine (HI.out _).mono ?_); rintro e w1 ⟨rfl, rfl⟩)
      go_ret
      exact ⟨rfl, Below.refl _ _⟩
theorem any_not (rows : List ByteArray) (z : Nat) : ((List.range rows.length).any fun k => !rowB z (rows.getD k ⟨#[]⟩)) = !rows.all (rowB z) := by
  cases h : rows.all (rowB z) with
  | true =>
    rw [List.all_eq_true] at h
    rw [Bool.not_true, List.any_eq_false]
    intro k hk
    have hk' := List.mem_range.1 hk
    rw [List.getD_eq_getElem?_getD, List.getElem?_eq_getElem hk']
    simp [h _ (List.getElem_mem hk')]
  | false =>
    rw [List.all_eq_false] at h
    obtain ⟨r, hr, h⟩ := h
    obtain ⟨k, hk, rfl⟩ := List.mem_iff_getElem.1 hr
    rw [Bool.not_false, List.any_eq_true]
    exact ⟨k, List.mem_range.2 hk, by rw [List.getD_eq_getElem?_getD, List.getElem?_eq_getElem hk]; simpa using h⟩
set_option maxRecDepth 100000 in
set_option maxHeartbeats 3200000 in
theorem validHide_any (a : Option Addr) (rows : List ByteArray) (n ca : Nat) (w : World) (hn : rows.length = n) (hn2 : n ≤ 1048576) (hs : ∀ r ∈ rows, r.size ≤ maxLen) (hc : CellsAt w a (strs rows)) :
    Calls Tryz.prog 38 #[.slice a n ca] w fun e w' => e = .returned (.bool (hideB rows)) ∧ Below w.heap.size w w' := by
  obtain ⟨q, hq⟩ : ∃ q, hideB rows = q := ⟨_, rfl⟩
  rw [hq]
  have hq2 := hideB_eq rows
  rw [hq, hn] at hq2
  cases hin : inB (n : Int) 1 6 with
  | false =>
    obtain rfl : q = false := by rw [hq2, hin]; rfl
    have HI := Lib.hid (fun W => callsB (within_any (n : Int) 1 6 W) hin)
    clear hin hq hq2 hs hc hn
    go_enter Tryz.func38, Tryz.ntmps38
    go_wp2_with (go_at_call 53; (with_reducible refine (HI.out _).mono ?_); rintro e w1 ⟨rfl, rfl⟩)
    go_ret
    exact ⟨rfl, (by repeat (first | exact Below.refl _ _ | assumption | refine Below.drew ?_ | refine below_drewN ?_ _ | refine Below.alloc ?_ (by simp; try omega) _ | refine Below.setCell ?_ (by simp; try omega) _))⟩
  | true =>
    have h16 := inB_true.1 hin
    rw [hin, Bool.true_and] at hq2
    obtain ⟨b, o, rfl, hb, hcell⟩ := hc.at_ (by rw [strs_len]; omega)
    obtain ⟨r0, hr0⟩ : ∃ r0, rows[0]? = some r0 := ⟨rows[0]'(by omega), List.getElem?_eq_getElem _⟩
    have hr0' : rows.getD 0 ⟨#[]⟩ = r0 := by rw [List.getD_eq_getElem?_getD, hr0]; rfl
    rw [hr0'] at hq2
    have HI := Lib.hid (fun W => callsB (within_any (n : Int) 1 6 W) hin)
    have eg : ∀ args w, (callFunc 80 args).run Tryz.prog w = .ok (.enter 80 args) w := enters_of Tryz.func80 (by kernel_rfl) rfl
    obtain ⟨wb, hwb⟩ : ∃ wb, wb = w.alloc (.cells #[.slice (some ⟨b, o, none⟩) n ca] 47) := ⟨_, rfl⟩
    have hbw : Below w.heap.size w wb := by rw [hwb]; exact (Below.refl _ _).alloc (Nat.le_refl _) _
    have hbox : wb.cell? ⟨w.heap.size, 0, none⟩ = some (.slice (some ⟨b, o, none⟩) n ca) := by rw [hwb]; simp
    have hboxl : w.heap.size < wb.heap.size := by rw [hwb]; simp
    have hcr0 := str_cell hb hbw hcell hr0
    rw [Nat.add_zero] at hcr0
    have hcon := containsStr_any (some ⟨b, o, none⟩) n ca rows (fun k => !rowB r0.size (rows.getD k ⟨#[]⟩)) 80 #[.pointer (some ⟨w.heap.size, 0, none⟩)] wb eg hn (by omega) (hc.below hbw)
      (fun k r W hb' hr => by
        have h := validHide1_any r r0 w.heap.size b o n ca W (hs r (List.mem_of_getElem? hr)) (hs r0 (List.mem_of_getElem? hr0)) (by omega) ((hb'.cell (p := ⟨w.heap.size, 0, none⟩) hboxl).trans hbox) ((hb'.cell (p := ⟨b, o, none⟩) (Nat.lt_of_lt_of_le hb hbw.size)).trans hcr0) (Nat.lt_of_lt_of_le hboxl hb'.size) (Nat.lt_of_lt_of_le (Nat.lt_of_lt_of_le hb hbw.size) hb'.size)
        have e : rows.getD k ⟨#[]⟩ = r := by rw [List.getD_eq_getElem?_getD, hr]; rfl
        simp only [e]
        exact h)
    have hany := any_not rows r0.size
    rw [hn] at hany
    rw [hany, ← hq2] at hcon
    have HCon := Lib.hid hcon
    have HW := Lib.hid hwb
    have HBw := Lib.hid hbw
    clear hin hq hq2 hs hc hn hr0 hr0' hcell hcon hany hwb hbw hbox hcr0 eg hboxl
    go_enter Tryz.func38, Tryz.ntmps38
    go_wp2_with (go_at_call 53; (with_reducible refine (HI.out _).mono ?_); rintro e w1 ⟨rfl, rfl⟩)
    rw [← HW.out]
    refine HCon.out.mono ?_
    rintro e w2 ⟨rfl, hb2⟩
    have HB2 := Lib.hid (HBw.out.trans (hb2.mono HBw.out.size))
    clear hb2
    go_wp2_with fail
    go_ret
    exact ⟨ret_bool (by simp), HB2.out⟩
theorem validCuts1_any (x0 x1 x2 x3 : Int) (w : World) : Calls Tryz.prog 83 #[.agg #[.int .i64 x0, .int .i64 x1, .int .i64 x2, .int .i64 x3]] w fun e w' => e = .returned (.bool (!cutB x0 x1 x2 x3)) ∧ Below w.heap.size w w' := by
  have H := Lib.hid (fun W => validCut_any x0 x1 x2 x3 W)
  have HB := Lib.hid ((Bel.refl w).alloc (.cells #[.int .i64 x0, .int .i64 x1, .int .i64 x2, .int .i64 x3] 75))
  generalize cutB x0 x1 x2 x3 = q at H ⊢
  go_enter Tryz.func83, Tryz.ntmps83
  go_wp2_with fail
  refine (H.out _).mono ?_
  rintro e w1 ⟨rfl, hb1⟩
  have HB1 := Lib.hid (HB.out.step hb1)
  clear hb1
  go_wp2_with fail
  go_ret
  exact ⟨rfl, HB1.out.1⟩
theorem any_not_cut (zs : List Int) (n : Nat) : ((List.range n).any fun k => !cutB (zs.getD (k * 4) 0) (zs.getD (k * 4 + 1) 0) (zs.getD (k * 4 + 2) 0) (zs.getD (k * 4 + 3) 0)) = !((List.range n).all fun k => cutB (zs.getD (k * 4) 0) (zs.getD (k * 4 + 1) 0) (zs.getD (k * 4 + 2) 0) (zs.getD (k * 4 + 3) 0)) := by
  generalize List.range n = l
  induction l with
  | nil => rfl
  | cons a l ih => rw [List.any_cons, List.all_cons, ih, Bool.not_and]
set_option maxRecDepth 100000 in
set_option maxHeartbeats 3200000 in
theorem validCuts_any (a : Option Addr) (n ca : Nat) (zs : List Int) (w : World) (hz : zs.length = n * 4) (hn : n ≤ 1048576) (hc : CellsAt w a (zs.map (Value.int .i64))) :
    Calls Tryz.prog 39 #[.slice a n ca] w fun e w' => e = .returned (.bool (cutsB zs n)) ∧ Below w.heap.size w w' := by
  obtain ⟨q, hq⟩ : ∃ q, cutsB zs n = q := ⟨_, rfl⟩
  rw [hq]
  by_cases h4 : n ≤ 4
  · have eg : ∀ args w, (callFunc 83 args).run Tryz.prog w = .ok (.enter 83 args) w := enters_of Tryz.func83 (by kernel_rfl) rfl
    have hcon := containsCut_any a n ca zs (fun k => !cutB (zs.getD (k * 4) 0) (zs.getD (k * 4 + 1) 0) (zs.getD (k * 4 + 2) 0) (zs.getD (k * 4 + 3) 0)) 83 #[] w eg hz (by omega) hc
      (fun k W hb hk => validCuts1_any _ _ _ _ W)
    rw [any_not_cut] at hcon
    have hq2 : ((List.range n).all fun k => cutB (zs.getD (k * 4) 0) (zs.getD (k * 4 + 1) 0) (zs.getD (k * 4 + 2) 0) (zs.getD (k * 4 + 3) 0)) = q := by
      rw [← hq, cutsB, decide_eq_true h4, Bool.true_and]
    rw [hq2] at hcon
    have HCon := Lib.hid hcon
    clear hcon hq hq2 hz hc eg
    go_enter Tryz.func39, Tryz.ntmps39
    go_wp2_with fail
    refine HCon.out.mono ?_
    rintro e w1 ⟨rfl, hb1⟩
    have HB1 := Lib.hid hb1
    clear hb1
    go_wp2_with fail
    go_ret
    exact ⟨ret_bool (by simp), HB1.out⟩
  · obtain rfl : q = false := by rw [← hq, cutsB, decide_eq_false h4, Bool.false_and]
    clear hq hz hc
    go_enter Tryz.func39, Tryz.ntmps39
    go_wp2_with fail
    go_ret
    exact ⟨rfl, Below.refl _ _⟩
end Go.Proofs.YthemlamdchcicaaGreatDoor
