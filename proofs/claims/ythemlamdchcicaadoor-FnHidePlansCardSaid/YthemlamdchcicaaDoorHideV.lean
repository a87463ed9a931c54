/-
  Contracts of the tests of hides and of pieces, the reference. No condition of its own.
-/
import Derived.Test.YthemlamdchcicaaDoorHideU
namespace Go.Proofs.YthemlamdchcicaaDoor
open Go.ChangeShapes Go.WideShapes Go.ChangeAt Go.RowKit Go.Deep Go.Shelf

/-- A row of a hide, as long as the first one. -/
def rowB (z : Nat) (r : ByteArray) : Bool := decide (r.size = z) && (decide (1 ≤ r.size) && (decide (r.size ≤ 6) && r.data.toList.all fun b => decide (0 ≤ qualU b)))
theorem hideB_eq (rows : List ByteArray) : hideB rows = (inB (rows.length : Int) 1 6 && rows.all (rowB (rows.getD 0 ⟨#[]⟩).size)) := by
  have e : inB (rows.length : Int) 1 6 = (decide (1 ≤ rows.length) && decide (rows.length ≤ 6)) := by
    unfold inB
    congr 1 <;> (congr 1; apply propext; omega)
  rw [e, Bool.and_assoc]
  rfl
theorem hideB_bad {rows : List ByteArray} {k : Nat} {r : ByteArray} {q : Bool} (hq : hideB rows = q) (hk : rows[k]? = some r) (h : rowB (rows.getD 0 ⟨#[]⟩).size r = false) : q = false := by
  rw [← hq, hideB_eq]
  have : rows.all (rowB (rows.getD 0 ⟨#[]⟩).size) = false := by
    rw [List.all_eq_false]
    exact ⟨r, List.mem_of_getElem? hk, by rw [h]; exact Bool.false_ne_true⟩
  rw [this, Bool.and_false]
theorem hideB_end {rows : List ByteArray} (h : ∀ (k : Nat) (r : ByteArray), rows[k]? = some r → rowB (rows.getD 0 ⟨#[]⟩).size r = true) : hideB rows = inB (rows.length : Int) 1 6 := by
  rw [hideB_eq]
  have : rows.all (rowB (rows.getD 0 ⟨#[]⟩).size) = true := by
    rw [List.all_eq_true]
    intro r hr
    obtain ⟨k, hk⟩ := List.mem_iff_getElem?.1 hr
    exact h k r hk
  rw [this, Bool.and_true]
theorem rowB_len {z : Nat} {r : ByteArray} (h : r.size ≠ z) : rowB z r = false := by simp [rowB, h]
theorem rowB_out {z : Nat} {r : ByteArray} (h : inB (r.size : Int) 1 6 = false) : rowB z r = false := by
  have := inB_false.1 h
  by_cases h1 : 1 ≤ r.size
  · have h2 : ¬ r.size ≤ 6 := by omega
    simp [rowB, h2]
  · simp [rowB, h1]
theorem rowB_q {z : Nat} {r : ByteArray} {x : Nat} (hx : x < r.size) (h : qualU r[x] < 0) : rowB z r = false := by
  have : r.data.toList.all (fun b => decide (0 ≤ qualU b)) = false := by
    rw [List.all_eq_false]
    exact ⟨r[x], byte_mem hx, by simp; omega⟩
  simp [rowB, this]
theorem rowB_yes {r : ByteArray} {z : Nat} (h0 : r.size = z) (h : inB (r.size : Int) 1 6 = true) (hq : ∀ x (hx : x < r.size), 0 ≤ qualU r[x]) : rowB z r = true := by
  have := inB_true.1 h
  simp only [rowB, Bool.and_eq_true, decide_eq_true_eq, List.all_eq_true]
  refine ⟨h0, by omega, by omega, fun b hb => ?_⟩
  obtain ⟨x, hx, rfl⟩ := List.mem_iff_getElem.1 hb
  have hx' : x < r.size := by rw [Lib.size_eq]; exact hx
  have := hq x hx'
  exact this
set_option maxRecDepth 100000 in
set_option maxHeartbeats 3200000 in
theorem l10Ok_any (a : Option Addr) (rows : List ByteArray) (n ca : Nat) (w : World) (hn : rows.length = n) (hn2 : n ≤ 1048576) (hs : ∀ r ∈ rows, r.size ≤ maxLen) (hc : CellsAt w a (strs rows)) :
    Calls Tryd.prog 42 #[.slice a n ca] w fun e w' => e = .returned (.bool (hideB rows)) ∧ Below w.heap.size w w' := by
  obtain ⟨q, hq⟩ : ∃ q, hideB rows = q := ⟨_, rfl⟩
  rw [hq]
  by_cases h0 : n = 0
  · subst h0
    have hr : rows = [] := List.eq_nil_of_length_eq_zero hn
    subst hr
    obtain rfl : q = false := by rw [← hq]; rfl
    clear hc hs hq
    go_enter Tryd.func42, Tryd.ntmps42
    go_wp2
    refine wp_loop_once ?_
    go_wp2_with (go_at_call 69; refine (callsB (l00In_any _ _ _ _) (c := false) (by decide)).mono ?_; rintro e w1 ⟨rfl, rfl⟩)
    go_ret
    exact ⟨rfl, Below.refl _ _⟩
  · obtain ⟨b, o, rfl, hb, hcell⟩ := hc.at_ (by rw [strs_len]; omega)
    obtain ⟨r0, hr0⟩ : ∃ r0, rows[0]? = some r0 := ⟨rows[0]'(by omega), List.getElem?_eq_getElem _⟩
    have hr0' : rows.getD 0 ⟨#[]⟩ = r0 := by rw [List.getD_eq_getElem?_getD, hr0]; rfl
    have hz0 := hs r0 (List.mem_of_getElem? hr0)
    have HQ := Lib.hid hq
    have HC := Lib.hid hcell
    have HR0 := Lib.hid hr0
    have HR0' := Lib.hid hr0'
    have HS := Lib.hid hs
    have HN := Lib.hid hn
    have hn0 : 0 < n := by omega
    clear hq hcell hr0 hr0' hs hn hc
    go_enter Tryd.func42, Tryd.ntmps42
    go_wp2_with fail
    go_loopw [3, 4] (fun u _ wr => ∃ y : Nat, y ≤ n ∧ u = .int .i64 (y : Int) ∧ Hid (∀ (k : Nat) (r : ByteArray), k < y → rows[k]? = some r → rowB r0.size r = true) ∧ Hid (Below w.heap.size w wr)) (fun u _ _ => n - (intOf u).toNat)
    case atStart => exact ⟨0, Nat.zero_le _, rfl, Lib.hid (fun k r h => absurd h (Nat.not_lt_zero _)), Lib.hid (Below.refl _ _)⟩
    case round =>
      obtain ⟨y, hy, rfl, hall, hbw⟩ := hrel
      have hsz : b < wr.heap.size := Nat.lt_of_lt_of_le hb hbw.out.size
      have hcr0 := str_cell hb hbw.out HC.out HR0.out
      rw [Nat.add_zero] at hcr0
      by_cases hlt : y < n
      · have hyn : (y : Int) < (n : Int) := by omega
        obtain ⟨s, hs⟩ : ∃ s, rows[y]? = some s := ⟨rows[y]'(by have := HN.out; omega), List.getElem?_eq_getElem _⟩
        have hss := HS.out s (List.mem_of_getElem? hs)
        have hcs := str_cell hb hbw.out HC.out hs
        have HSs := Lib.hid hs
        have Hss := Lib.hid hss
        unfold maxLen at hz0 hss
        clear hs
        by_cases e1 : s.size = r0.size
        · have e1' : ((s.size : Int) != (r0.size : Int)) = false := by simp [e1]
          cases hin : inB (s.size : Int) 1 6 with
          | false =>
            obtain rfl := hideB_bad HQ.out HSs.out (rowB_out hin)
            have HI := Lib.hid (fun W => callsB (l00In_any (s.size : Int) 1 6 W) hin)
            have H1 := Lib.hid e1
            clear hin e1
            go_wp2_with fail
            go_big_quiet ((go_at_call 69; first | with_reducible exact quiet_left (HI.out _) | with_reducible exact quiet_add_left (HI.out _)))
            go_wp2_with fail
            go_ret
            exact ⟨rfl, below_drewN hbw.out _⟩
          | true =>
            have HI := Lib.hid (fun W => callsB (l00In_any (s.size : Int) 1 6 W) hin)
            have HIn := Lib.hid hin
            have H1 := Lib.hid e1
            clear hin e1
            go_wp2_with fail
            go_big_quiet ((go_at_call 69; first | with_reducible exact quiet_left (HI.out _) | with_reducible exact quiet_add_left (HI.out _)))
            go_wp2_with fail
            go_loopw [4] (fun u wq => ∃ x : Nat, x ≤ s.size ∧ u = .int .i64 (x : Int) ∧ Hid (∀ (k : Nat) (hk : k < s.size), k < x → 0 ≤ qualU s[k]) ∧ Hid (Below w.heap.size w wq)) (fun u _ => s.size - (intOf u).toNat)
            case atStart => exact ⟨0, Nat.zero_le _, rfl, Lib.hid (fun k _ h => absurd h (Nat.not_lt_zero _)), Lib.hid (below_drewN hbw.out _)⟩
            case round =>
              clear hcs hcr0 hsz
              obtain ⟨x, hx, rfl, hqs, hbq⟩ := hrel
              have hsz : b < wr.heap.size := Nat.lt_of_lt_of_le hb hbq.out.size
              have hcs := str_cell hb hbq.out HC.out HSs.out
              by_cases hlx : x < s.size
              · have hlx' : (x : Int) < (s.size : Int) := by omega
                have HQl := Lib.hid (fun W => l10Quality_any s[x] W)
                obtain ⟨q1, hq1⟩ : ∃ q1, qualU s[x] = q1 := ⟨_, rfl⟩
                rw [hq1] at HQl
                have Hq1 := Lib.hid hq1
                clear hq1
                by_cases hneg : q1 < 0
                · obtain rfl := hideB_bad HQ.out HSs.out (rowB_q hlx (by rw [Hq1.out]; exact hneg))
                  go_wp2_with (go_at_call 70; (with_reducible refine (HQl.out _).mono ?_); rintro e w1 ⟨rfl, rfl⟩)
                  go_ret
                  exact ⟨rfl, hbq.out⟩
                · have HN2 := Lib.hid (show ∀ (k : Nat) (hk : k < s.size), k < x + 1 → 0 ≤ qualU s[k] from fun k hk h => by
                    by_cases e : k = x
                    · subst e; rw [Hq1.out]; omega
                    · exact hqs.out k hk (by omega))
                  go_wp2_with (go_at_call 70; (with_reducible refine (HQl.out _).mono ?_); rintro e w1 ⟨rfl, rfl⟩)
                  go_roundw
                  case rel => exact ⟨x + 1, by omega, by go_num, HN2, hbq⟩
                  case measure => simp [intOf]; omega
              · have HRow := Lib.hid (show ∀ (k : Nat) (r : ByteArray), k < y + 1 → rows[k]? = some r → rowB r0.size r = true from fun k r hk hr => by
                  by_cases e : k = y
                  · subst e
                    rw [HSs.out] at hr
                    cases hr
                    exact rowB_yes H1.out HIn.out (fun x' hx' => hqs.out x' hx' (by omega))
                  · exact hall.out k r (by omega) hr)
                go_wp2_with fail
                go_roundw
                case rel => exact ⟨y + 1, by omega, by go_num, HRow, hbq⟩
                case measure => simp [intOf]; omega
        · obtain rfl := hideB_bad HQ.out HSs.out (rowB_len (by rw [HR0'.out]; exact e1))
          have e1' : ((s.size : Int) != (r0.size : Int)) = true := by simp; omega
          clear e1
          go_wp2_with fail
          go_big_quiet (fail)
          go_wp2_with fail
          go_ret
          exact ⟨rfl, below_drewN hbw.out _⟩
      · obtain rfl : y = n := by omega
        have hkl : ∀ (k : Nat) (r : ByteArray), rows[k]? = some r → k < y := fun k r hk => by
          have := HN.out
          rcases Nat.lt_or_ge k rows.length with h | h
          · omega
          · rw [List.getElem?_eq_none h] at hk; cases hk
        have HE := hideB_end (rows := rows) (fun k r hk => by rw [HR0'.out]; exact hall.out k r (hkl k r hk) hk)
        clear hkl
        rw [HQ.out, HN.out] at HE
        have HI := Lib.hid (fun W => callsB (l00In_any (y : Int) 1 6 W) HE.symm)
        clear HE
        go_wp2_with (go_at_call 69; (with_reducible refine (HI.out _).mono ?_); rintro e w1 ⟨rfl, rfl⟩)
        go_ret
        exact ⟨rfl, hbw.out⟩
end Go.Proofs.YthemlamdchcicaaDoor
