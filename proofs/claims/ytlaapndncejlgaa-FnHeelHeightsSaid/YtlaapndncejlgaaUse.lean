/-
  Contracts of UseLifts, both sides. No condition of its own.
-/
import Derived.Test.YtlaapndncejlgaaStockOk
import Derived.Test.YtlaapndncejlgaaSlices
import Derived.Test.YtlaapndncejlgaaClone
import Derived.Test.YtlaapndncejlgaaStep
import Derived.StillTailTactics
namespace Go.Proofs.Ytlaapndncejlgaa
open Go.ChangeShapes Go.WideShapes Go.ChangeAt Go.RowKit Go.Deep Go.Shelf

/-- The first i lifts, with those that are used taken away. -/
def useL (zs cs : List Int) : Nat → List Int
  | 0 => []
  | i + 1 => useL zs cs i ++ [zs.getD (i * 2) 0, zs.getD (i * 2 + 1) 0 - cs.getD i 0]
theorem length_useL (zs cs : List Int) (i : Nat) : (useL zs cs i).length = i * 2 := by
  induction i with
  | zero => rfl
  | succ i ih => simp only [useL, List.length_append, ih, List.length_cons, List.length_nil]; omega
def askB (cs : List Int) (n m : Nat) : Bool := decide (m = n) && !outB cs 0 20
def tight (zs cs : List Int) (n : Nat) : Prop := ∃ k, k < n ∧ zs.getD (k * 2 + 1) 0 < cs.getD k 0
open Classical in
noncomputable def useF (zs cs : List Int) (n m : Nat) : List Int := if stockB zs n = true ∧ askB cs n m = true ∧ ¬ tight zs cs n then useL zs cs n else []
open Classical in
noncomputable def useC (zs cs : List Int) (n m : Nat) : Int := if stockB zs n = true then (if askB cs n m = true then (if tight zs cs n then 10 else 0) else 2) else 1
theorem use_bad {zs cs : List Int} {n m : Nat} (h : stockB zs n = false) : useF zs cs n m = [] ∧ useC zs cs n m = 1 := by simp [useF, useC, h]
theorem use_range {zs cs : List Int} {n m : Nat} (h : stockB zs n = true) (k : askB cs n m = false) : useF zs cs n m = [] ∧ useC zs cs n m = 2 := by simp [useF, useC, h, k]
theorem use_tight {zs cs : List Int} {n m : Nat} (h : stockB zs n = true) (k : askB cs n m = true) (t : tight zs cs n) : useF zs cs n m = [] ∧ useC zs cs n m = 10 := by simp [useF, useC, h, k, t]
theorem use_ok {zs cs : List Int} {n m : Nat} (h : stockB zs n = true) (k : askB cs n m = true) (t : ¬ tight zs cs n) : useF zs cs n m = useL zs cs n ∧ useC zs cs n m = 0 := by simp [useF, useC, h, k, t]
theorem stockB_at {zs : List Int} {n k : Nat} (h : stockB zs n = true) (hk : k < n) : 1 ≤ zs.getD (k * 2) 0 ∧ zs.getD (k * 2) 0 ≤ 100 ∧ 0 ≤ zs.getD (k * 2 + 1) 0 ∧ zs.getD (k * 2 + 1) 0 ≤ 20 := by
  simp only [stockB, Bool.and_eq_true, decide_eq_true_eq] at h
  have := h.1 k hk
  simp only [liftAt, Bool.and_eq_true, inB_true] at this
  exact ⟨this.1.1, this.1.2, this.2.1.1, this.2.1.2⟩
theorem use_store (zs cs : List Int) (k : Nat) (hk : k * 2 + 1 < zs.length) : (useL zs cs k ++ zs.drop (k * 2)).set (k * 2 + 1) (zs.getD (k * 2 + 1) 0 - cs.getD k 0) = useL zs cs (k + 1) ++ zs.drop ((k + 1) * 2) := by
  rw [List.set_append_right _ _ (by rw [length_useL]; omega), length_useL, show k * 2 + 1 - k * 2 = 1 from by omega, List.drop_eq_getElem_cons (by omega), List.drop_eq_getElem_cons (by omega), show (k + 1) * 2 = k * 2 + 1 + 1 from by omega]
  simp only [List.set_cons_succ, List.set_cons_zero, useL, List.append_assoc, List.cons_append, List.nil_append]
  congr 2
  simp [List.getElem?_eq_getElem (show k * 2 < zs.length by omega)]
theorem rowEnd_fail {w w' : World} {E k : Nat} {c : Int} (hb : Below w.heap.size w w') : RowEnd w E k [] c (.returned (.tuple #[.slice none 0 0, .int .i64 c])) w' :=
  ⟨none, 0, 0, rfl, by simp, by omega, World.ownsRow_nil _ _ _ _, hb⟩
theorem ask_parts {cs : List Int} {n m : Nat} (h : askB cs n m = true) : m = n ∧ outB cs 0 20 = false := by
  simpa [askB] using h
theorem outB_bad {zs : List Int} {lo hi x : Int} {k : Nat} (hk : k < zs.length) (hx : zs.getD k 0 = x) (h : inB x lo hi = false) : outB zs lo hi = true := by
  have : zs[k] = x := by rw [← hx]; simp [List.getElem?_eq_getElem hk]
  simp only [outB, List.any_eq_true]
  exact ⟨x, by rw [← this]; exact List.getElem_mem hk, by simp [h]⟩
theorem outB_good {zs : List Int} {lo hi : Int} {k : Nat} (hk : zs.length ≤ k) (h : ∀ j, j < k → inB (zs.getD j 0) lo hi = true) : outB zs lo hi = false := by
  rw [outB_false]
  intro z hz
  obtain ⟨j, hj, rfl⟩ := List.mem_iff_getElem.1 hz
  have := h j (by omega)
  rw [inB_true] at this
  simpa [List.getElem?_eq_getElem hj] using this
theorem inB_more {zs : List Int} {lo hi x : Int} {k : Nat} (h : ∀ j, j < k → inB (zs.getD j 0) lo hi = true) (hx : zs.getD k 0 = x) (hk : inB x lo hi = true) : ∀ j, j < k + 1 → inB (zs.getD j 0) lo hi = true := fun j hj => by
  by_cases e : j = k
  · subst e; rw [hx]; exact hk
  · exact h j (by omega)
theorem cell_int {w W : World} {b o j : Nat} {zs : List Int} {x : Int} (hb : b < w.heap.size) (hbw : Below w.heap.size w W) (hc : ∀ i, i < (zs.map (Value.int .i64)).length → w.cell? ⟨b, o + i, none⟩ = (zs.map (Value.int .i64))[i]?) (hj : j < zs.length) (hx : zs.getD j 0 = x) :
    W.cell? ⟨b, o + j, none⟩ = some (.int .i64 x) := by
  rw [(hbw.cell (p := ⟨b, o + j, none⟩) hb).trans (hc j (by simpa using hj)), ← hx]
  simp [List.getElem?_eq_getElem hj]
theorem outB_at {ys : List Int} {lo hi : Int} {j : Nat} (h : outB ys lo hi = false) (hj : j < ys.length) : lo ≤ ys.getD j 0 ∧ ys.getD j 0 ≤ hi := by
  have := outB_false.1 h ys[j] (List.getElem_mem hj)
  simpa [List.getElem?_eq_getElem hj] using this
theorem cell_at0 {w W : World} {g j : Nat} {zs : List Int} {x : Int} (hc : CellsAt w (some ⟨g, 0, none⟩) (zs.map (Value.int .i64))) (hbw : Below w.heap.size w W) (hj : j < zs.length) (hx : zs.getD j 0 = x) :
    W.cell? ⟨g, j, none⟩ = some (.int .i64 x) := by
  obtain ⟨b, off, hae, hb, hcc⟩ := hc.at_ (by simp; omega)
  obtain ⟨rfl, rfl⟩ : g = b ∧ 0 = off := by simpa using hae
  have h := cell_int hb hbw hcc hj hx
  rw [Nat.zero_add] at h
  exact h


set_option maxRecDepth 100000 in
set_option maxHeartbeats 3200000 in
theorem implUse_c (w : World) (g n c : Nat) (zs : List Int) (hl : zs.length = n * 2) (hn : n ≤ 1048576) (hc : CellsAt w (some ⟨g, 0, none⟩) (zs.map (Value.int .i64))) 
    (a1 : Option Addr) (m c1 : Nat) (cs : List Int) (hl1 : cs.length = m) (hm : m ≤ 1048576) (hc1 : CellsAt w a1 (cs.map (Value.int .i64))) :
    Calls Try.prog 28 #[.slice (some ⟨g, 0, none⟩) n c, .slice a1 m c1] w (RowEnd w 50 2 (useF zs cs n m) (useC zs cs n m)) := by
  have h1 := implStockOk (some ⟨g, 0, none⟩) n c zs w hl (by omega) hc
  cases hok : stockB zs n with
  | false =>
    rw [(use_bad (cs := cs) (m := m) hok).1, (use_bad (cs := cs) (m := m) hok).2]
    rw [hok] at h1
    have H1 := Lib.hid h1
    clear h1 hok hl hl1 hc hc1
    go_enter Try.func28, Try.ntmps28
    go_wp2_with (go_at_call 22; refine H1.out.mono ?_; rintro e w1 ⟨rfl, hb1⟩)
    go_ret2
    exact rowEnd_fail hb1
  | true =>
    have h2 := fun W (e : Below w.heap.size w W) => outside_any a1 m c1 cs 0 20 W hl1 (by omega) (hc1.below e)
    rw [hok] at h1
    cases hask : askB cs n m with
    | false =>
      rw [(use_range hok hask).1, (use_range hok hask).2]
      have H1 := Lib.hid h1
      by_cases hmn : m = n
      · subst hmn
        have ho : outB cs 0 20 = true := by simpa [askB] using hask
        rw [ho] at h2
        have H2 := Lib.hid h2
        clear h1 h2 hok hask ho hl hl1 hc hc1
        go_enter Try.func28, Try.ntmps28
        go_wp2_with (first | (go_at_call 22; refine H1.out.mono ?_; rintro e w1 ⟨rfl, hb1⟩; have HB1 := Lib.hid hb1; clear hb1) | (go_at_call 66; refine (H2.out _ HB1.out).mono ?_; rintro e w2 ⟨rfl, hb2⟩; have HB2 := Lib.hid hb2; clear hb2))
        go_ret2
        exact rowEnd_fail ((Bel.of HB1.out).step HB2.out).1
      · have hmn' : ((m : Int) != (n : Int)) = true := by simp; omega
        clear h1 h2 hok hask hl hl1 hc hc1
        go_enter Try.func28, Try.ntmps28
        go_wp2_with (go_at_call 22; refine H1.out.mono ?_; rintro e w1 ⟨rfl, hb1⟩; have HB1 := Lib.hid hb1; clear hb1)
        go_ret2
        exact rowEnd_fail HB1.out
    | true =>
      obtain ⟨rfl, ho⟩ := ask_parts hask
      have h3 := fun W (e : Below w.heap.size w W) => cloneLift_any g m c zs W hl (by omega) (hc.below e)
      have hat := fun k (hk : k < m) => stockB_at hok hk
      rw [ho] at h2
      obtain ⟨r, hr⟩ : ∃ r, useF zs cs m m = r := ⟨_, rfl⟩
      obtain ⟨s, hs⟩ : ∃ s, useC zs cs m m = s := ⟨_, rfl⟩
      rw [hr, hs]
      have HT := Lib.hid (fun t : tight zs cs m => (hr ▸ hs ▸ use_tight hok hask t : r = [] ∧ s = 10))
      have HN := Lib.hid (fun t : ¬ tight zs cs m => (hr ▸ hs ▸ use_ok hok hask t : r = useL zs cs m ∧ s = 0))
      have H1 := Lib.hid h1
      have H2 := Lib.hid h2
      have H3 := Lib.hid h3
      have HAt := Lib.hid hat
      have HO := Lib.hid ho
      have Hz := Lib.hid hl
      have Hy := Lib.hid hl1
      have HB := Lib.hid hc1
      clear h1 h2 h3 hat ho hok hask hr hs hl hl1 hc hc1
      go_enter Try.func28, Try.ntmps28
      go_wp2_with (first | (go_at_call 22; refine H1.out.mono ?_; rintro e w1 ⟨rfl, hb1⟩; have HB1 := Lib.hid hb1; clear hb1) | (go_at_call 66; refine (H2.out _ HB1.out).mono ?_; rintro e w2 ⟨rfl, hb2⟩; have HB2 := Lib.hid ((Bel.of HB1.out).step hb2); clear hb2))
      refine (H3.out _ HB2.out.1).mono ?_
      rintro e w3 ⟨aL, capL, rfl, hoL, hb3⟩
      have HL0 := Lib.hid (own_base hoL HB2.out.2)
      have HB3 := Lib.hid (HB2.out.step hb3)
      clear hoL hb3
      go_wp2
      go_loopw [27] (fun t wr => ∃ k : Nat, k ≤ m ∧ t = .int .i64 k ∧ Hid (∀ j, j < k → ¬ zs.getD (j * 2 + 1) 0 < cs.getD j 0) ∧ Hid (wr.ownsRow w.heap.size 50 2 (.slice aL m capL) m ((useL zs cs k ++ zs.drop (k * 2)).map (Value.int .i64))) ∧ Hid (Bel w.heap.size w wr)) (fun t _ => m - (intOf t).toNat)
      case atStart => exact ⟨0, Nat.zero_le _, rfl, Lib.hid (fun j hj => absurd hj (by omega)), Lib.hid (by simpa [useL] using HL0.out), HB3⟩
      case round =>
        obtain ⟨k, hk, rfl, hno, hown, hbw⟩ := hrel
        by_cases hlt : k < m
        · obtain ⟨b1, off1, rfl, hb1, hcc⟩ := HB.out.at_ (by have := Hy.out; simp; omega)
          obtain ⟨x, hx⟩ : ∃ z, cs.getD k 0 = z := ⟨_, rfl⟩
          have hcx := cell_int hb1 hbw.out.1 hcc (by rw [Hy.out]; exact hlt) hx
          have hxb := outB_at HO.out (j := k) (by rw [Hy.out]; exact hlt)
          rw [hx] at hxb
          obtain ⟨hx0, hx1⟩ := hxb
          rcases own_form hown.out with h0 | ⟨gL, rfl⟩
          · omega
          obtain ⟨u, hu⟩ : ∃ z, zs.getD (k * 2 + 1) 0 = z := ⟨_, rfl⟩
          have hub := (HAt.out k hlt).2.2
          rw [hu] at hub
          obtain ⟨hu0, hu1⟩ := hub
          have hkz : k * 2 + 1 < zs.length := by rw [Hz.out]; omega
          have hcl : wr.cell? ⟨gL, k * 2 + 1, none⟩ = some (.int .i64 u) := by
            rw [hown.out.cellAt (k * 2 + 1) (by omega), List.getElem?_map, List.getElem?_append_right (by rw [length_useL]; omega), length_useL, List.getElem?_drop, show k * 2 + (k * 2 + 1 - k * 2) = k * 2 + 1 from by omega, ← hu]
            simp [List.getElem?_eq_getElem hkz]
          have hfz := hown.out.frozenAt (k * 2 + 1)
          have hstd := hown.out.stored (k * 2 + 1) (.int .i64 (u - x))
          have hrd : (wr.setCell ⟨gL, k * 2 + 1, none⟩ (.int .i64 (u - x))).cell? ⟨gL, k * 2 + 1, none⟩ = some (.int .i64 (u - x)) := by
            rw [hstd.1.cellAt (k * 2 + 1) (by omega), List.getElem?_set_self (by have := Hz.out; simp [length_useL]; omega)]
          have HS := Lib.hid (show (wr.setCell ⟨gL, k * 2 + 1, none⟩ (.int .i64 (u - x))).ownsRow w.heap.size 50 2 (.slice (some ⟨gL, 0, none⟩) m capL) m ((useL zs cs (k + 1) ++ zs.drop ((k + 1) * 2)).map (Value.int .i64)) by
            rw [← use_store zs cs k hkz, List.map_set, hu, hx]; exact hstd.1)
          have HbS := Lib.hid (hbw.out.grown hstd.2 (fun k h => by cases h; exact (own_block hown.out rfl).1))
          have Hu := Lib.hid hu
          have Hx := Lib.hid hx
          have hlt' : (k : Int) < (m : Int) := by omega
          clear hstd hu hx hcc hkz
          by_cases hneg : u < x
          · obtain ⟨rfl, rfl⟩ := HT.out ⟨k, hlt, by rw [Hu.out, Hx.out]; exact hneg⟩
            go_wp2
            go_ret2
            exact rowEnd_fail HbS.out.1
          · go_wp2
            go_roundw
            case rel =>
              refine ⟨k + 1, by omega, by go_num, Lib.hid (fun j hj => ?_), HS, HbS⟩
              by_cases e : j = k
              · subst e; rw [Hu.out, Hx.out]; omega
              · exact hno.out j (by omega)
            case measure => simp [intOf]; omega
        · obtain rfl : k = m := by omega
          obtain ⟨rfl, rfl⟩ := HN.out (fun ⟨j, hj, ht⟩ => hno.out j hj ht)
          go_wp2
          go_ret2
          have h := hown.out
          rw [List.drop_of_length_le (by rw [Hz.out]; omega), List.append_nil] at h
          exact ⟨aL, k, capL, rfl, length_useL _ _ _, by omega, h, hbw.out.1⟩
theorem impl_UseLifts (w : World) (g n : Nat) (zs : List Int) (hl : zs.length = n * 2) (hn : n ≤ 1048576) (hc : CellsAt w (some ⟨g, 0, none⟩) (zs.map (Value.int .i64))) (_ : ∀ z ∈ zs, (Lit.int .i64 z).wf = true)
    (g1 m : Nat) (cs : List Int) (hl1 : cs.length = m) (hm : m ≤ 1048576) (hc1 : CellsAt w (some ⟨g1, 0, none⟩) (cs.map (Value.int .i64))) (_ : ∀ z ∈ cs, (Lit.int .i64 z).wf = true) :
    Calls Try.prog 28 #[.slice (some ⟨g, 0, none⟩) n n, .slice (some ⟨g1, 0, none⟩) m m] w (RowEnd w 50 2 (useF zs cs n m) (useC zs cs n m)) := implUse_c w g n n zs hl hn hc (some ⟨g1, 0, none⟩) m m cs hl1 hm hc1
theorem cell_two {w W : World} {g j : Nat} {zs : List Int} {n : Nat} {x y : Int} (hz : zs.length = n * 2) (hc : CellsAt w (some ⟨g, 0, none⟩) (zs.map (Value.int .i64))) (hbw : Below w.heap.size w W) (hj : j < n) (hx : zs.getD (j * 2) 0 = x) (hy : zs.getD (j * 2 + 1) 0 = y) :
    W.cell? ⟨g, j * 2, none⟩ = some (.int .i64 x) ∧ W.cell? ⟨g, j * 2 + 1, none⟩ = some (.int .i64 y) := by
  obtain ⟨b, off, hae, hb, hcc⟩ := hc.at_ (by simp; omega)
  obtain ⟨rfl, rfl⟩ : g = b ∧ 0 = off := by simpa using hae
  have h1 := cell_int hb hbw hcc (by omega) hx
  have h2 := cell_int hb hbw hcc (by omega) hy
  rw [Nat.zero_add] at h1 h2
  exact ⟨h1, h2⟩

set_option maxRecDepth 100000 in
set_option maxHeartbeats 3200000 in
theorem spec_UseLifts (w : World) (g n : Nat) (zs : List Int) (hl : zs.length = n * 2) (hn : n ≤ 1048576) (hc : CellsAt w (some ⟨g, 0, none⟩) (zs.map (Value.int .i64))) (_ : ∀ z ∈ zs, (Lit.int .i64 z).wf = true)
    (g1 m : Nat) (cs : List Int) (hl1 : cs.length = m) (hm : m ≤ 1048576) (hc1 : CellsAt w (some ⟨g1, 0, none⟩) (cs.map (Value.int .i64))) (_ : ∀ z ∈ cs, (Lit.int .i64 z).wf = true) :
    Calls Try.prog 26 #[.slice (some ⟨g, 0, none⟩) n n, .slice (some ⟨g1, 0, none⟩) m m] w (RowEnd w 50 2 (useF zs cs n m) (useC zs cs n m)) := by
  have h1 := specStockOk (some ⟨g, 0, none⟩) n n zs w hl (by omega) hc
  cases hok : stockB zs n with
  | false =>
    rw [(use_bad (cs := cs) (m := m) hok).1, (use_bad (cs := cs) (m := m) hok).2]
    rw [hok] at h1
    have H1 := Lib.hid h1
    clear h1 hok hl hl1 hc hc1
    go_enter Try.func26, Try.ntmps26
    go_wp2_with (go_at_call 62; refine H1.out.mono ?_; rintro e w1 ⟨rfl, hb1⟩)
    go_ret2
    exact rowEnd_fail hb1
  | true =>
    obtain ⟨r, hr⟩ : ∃ r, useF zs cs n m = r := ⟨_, rfl⟩
    obtain ⟨s, hs⟩ : ∃ s, useC zs cs n m = s := ⟨_, rfl⟩
    rw [hr, hs]
    have HA := Lib.hid (fun t : askB cs n m = false => (hr ▸ hs ▸ use_range hok t : r = [] ∧ s = 2))
    have HT := Lib.hid (fun k (t : tight zs cs n) => (hr ▸ hs ▸ use_tight hok k t : r = [] ∧ s = 10))
    have HN := Lib.hid (fun k (t : ¬ tight zs cs n) => (hr ▸ hs ▸ use_ok hok k t : r = useL zs cs n ∧ s = 0))
    have hat := fun k (hk : k < n) => stockB_at hok hk
    rw [hok] at h1
    have H1 := Lib.hid h1
    have HAt := Lib.hid hat
    have Hz := Lib.hid hl
    have Hy := Lib.hid hl1
    have HC := Lib.hid hc
    have HB := Lib.hid hc1
    clear h1 hat hok hr hs hl hl1 hc hc1
    go_enter Try.func26, Try.ntmps26
    go_wp2_with (go_at_call 62; refine H1.out.mono ?_; rintro e w1 ⟨rfl, hb1⟩; have HB1 := Lib.hid (Bel.of hb1); clear hb1)
    go_loopw [6] (fun i wr => ∃ k : Nat, k ≤ m ∧ i = .int .i64 k ∧ Hid (∀ j, j < k → inB (cs.getD j 0) 0 20 = true) ∧ Hid (Bel w.heap.size w wr)) (fun i _ => m - (intOf i).toNat)
    case atStart => exact ⟨0, Nat.zero_le _, rfl, Lib.hid (fun j hj => absurd hj (by omega)), HB1⟩
    case round =>
      obtain ⟨k, hk, rfl, hall, hbw⟩ := hrel
      by_cases hlt : k < m
      · obtain ⟨b, o, hae, hb, hcc⟩ := HB.out.at_ (by have := Hy.out; simp; omega)
        obtain ⟨rfl, rfl⟩ : g1 = b ∧ 0 = o := by simpa using hae
        obtain ⟨x, hx⟩ : ∃ z, cs.getD k 0 = z := ⟨_, rfl⟩
        have hcx := cell_int hb hbw.out.1 hcc (by rw [Hy.out]; exact hlt) hx
        rw [Nat.zero_add] at hcx
        have Hx := Lib.hid hx
        clear hcc hx hae
        have hlt' : (k : Int) < (m : Int) := by omega
        cases h1 : inB x 0 20 with
        | false =>
          obtain ⟨rfl, rfl⟩ := HA.out (by rw [askB, outB_bad (by rw [Hy.out]; exact hlt) Hx.out h1]; simp)
          go_wp2_with (go_at_call 60; refine (l00In_any _ _ _ _).mono ?_; rintro e w1 ⟨rfl, rfl⟩)
          go_ret2
          exact rowEnd_fail hbw.out.1
        | true =>
          have H2 := Lib.hid h1
          go_wp2_with (go_at_call 60; refine (l00In_any _ _ _ _).mono ?_; rintro e w1 ⟨rfl, rfl⟩)
          go_roundw
          case rel => exact ⟨k + 1, by omega, by go_num, Lib.hid (inB_more hall.out Hx.out H2.out), hbw⟩
          case measure => simp [intOf]; omega
      · have Hyg := Lib.hid (outB_good (zs := cs) (lo := 0) (hi := 20) (k := k) (by rw [Hy.out]; omega) hall.out)
        clear hall
        by_cases hmn : m = n
        · subst hmn
          have hask : askB cs m m = true := by simp [askB, Hyg.out]
          have HT2 := Lib.hid (HT.out hask)
          have HN2 := Lib.hid (HN.out hask)
          have HO := Lib.hid (fun j (hj : j < m) => outB_at (j := j) Hyg.out (by rw [Hy.out]; exact hj))
          clear hask
          go_wp2_with fail
          go_loopw [7, 8] (fun v t wi => ∃ i : Nat, i ≤ m ∧ t = .int .i64 i ∧ ∃ (ao : Option Addr) (co : Nat), v = .slice ao i co ∧ Hid (∀ j, j < i → ¬ zs.getD (j * 2 + 1) 0 < cs.getD j 0) ∧ Hid (wi.ownsRow w.heap.size 50 2 (.slice ao i co) i ((useL zs cs i).map (Value.int .i64))) ∧ Hid (Bel w.heap.size w wi)) (fun _ t _ => m - (intOf t).toNat)
          case atStart => exact ⟨0, Nat.zero_le _, rfl, _, _, rfl, Lib.hid (fun j hj => absurd hj (by omega)), Lib.hid (own_none' wr w.heap.size 50 2 hbw.out.2), Lib.hid (hbw.out.alloc _)⟩
          case round =>
            obtain ⟨i, hi, rfl, ao, co, rfl, hno, hown, hbi⟩ := hrel
            by_cases hli : i < m
            · obtain ⟨b, o, hae, hb, hcc⟩ := HB.out.at_ (by have := Hy.out; simp; omega)
              obtain ⟨rfl, rfl⟩ : g1 = b ∧ 0 = o := by simpa using hae
              obtain ⟨x, hx⟩ : ∃ z, cs.getD i 0 = z := ⟨_, rfl⟩
              have hcx := cell_int hb hbi.out.1 hcc (by rw [Hy.out]; exact hli) hx
              rw [Nat.zero_add] at hcx
              have hxb := HO.out i hli
              rw [hx] at hxb
              obtain ⟨hx0, hx1⟩ := hxb
              obtain ⟨u, hu⟩ : ∃ z, zs.getD (i * 2 + 1) 0 = z := ⟨_, rfl⟩
              obtain ⟨v, hv⟩ : ∃ z, zs.getD (i * 2) 0 = z := ⟨_, rfl⟩
              obtain ⟨hc1, hc2⟩ := cell_two Hz.out HC.out hbi.out.1 hli hv hu
              have hub := (HAt.out i hli).2.2
              rw [hu] at hub
              obtain ⟨hu0, hu1⟩ := hub
              have Hu := Lib.hid hu
              have Hv := Lib.hid hv
              have Hx := Lib.hid hx
              have hli' : (i : Int) < (m : Int) := by omega
              clear hu hv hx hcc hae
              by_cases hneg : u < x
              · obtain ⟨rfl, rfl⟩ := HT2.out ⟨i, hli, by rw [Hu.out, Hx.out]; exact hneg⟩
                go_wp2
                go_big_quiet (fail)
                go_wp2
                go_ret2
                exact rowEnd_fail (hbi.out.drewN _).1
              · go_wp2_with fail
                go_big_quiet (fail)
                go_wp2_with fail
                generalize hwq : wr.drewN _ = wq
                have kcx : wq.cell? ⟨g1, i, none⟩ = some (.int .i64 x) := by rw [← hwq]; exact hcx
                have kc1 : wq.cell? ⟨g, i * 2, none⟩ = some (.int .i64 v) := by rw [← hwq]; exact hc1
                have kc2 : wq.cell? ⟨g, i * 2 + 1, none⟩ = some (.int .i64 u) := by rw [← hwq]; exact hc2
                have Ho4 := Lib.hid (show wq.ownsRow w.heap.size 50 2 (.slice ao i co) i ((useL zs cs i).map (Value.int .i64)) by rw [← hwq]; exact hown.out)
                have Hb4 := Lib.hid (show Bel w.heap.size w wq by rw [← hwq]; exact hbi.out.drewN _)
                have Hk := Lib.hid (fun W (h : Bel w.heap.size w W) => (⟨cell_at0 HB.out h.1 (by rw [Hy.out]; exact hli) Hx.out, cell_two Hz.out HC.out h.1 hli Hv.out Hu.out⟩ : W.cell? ⟨g1, i, none⟩ = some (.int .i64 x) ∧ W.cell? ⟨g, i * 2, none⟩ = some (.int .i64 v) ∧ W.cell? ⟨g, i * 2 + 1, none⟩ = some (.int .i64 u)))
                clear hwq hcx hc1 hc2
                have hwr : IntKind.i64.wrap (u - x) = u - x := IntWalk.i64_in _ (by omega)
                go_region_held3 (fun W => W.cell? ⟨g1, i, none⟩ = some (.int .i64 x) ∧ W.cell? ⟨g, i * 2, none⟩ = some (.int .i64 v) ∧ W.cell? ⟨g, i * 2 + 1, none⟩ = some (.int .i64 u))
                  (first | go_keep | exact Hk.out _ hb5)
                  ((refine stepLift (by rfl) _ _ (by rfl) w.heap.size _ _ _ (by rfl) ((Ho4.out.alloc _).drew) [.int .i64 v, .int .i64 (u - x)] (by rfl) (by simp [Value.oneCell']) 1 wq.heap.size (new_cells (w := wq) (cs := #[.int .i64 v, .int .i64 (u - x)]) (t := 50) rfl rfl) (by rfl) (by omega) (Hb4.out.alloc _).drew ?_; intro g5 cap5 w5 ho5 hb5 hg5 hat5))
                have Ho5 := Lib.hid ho5
                have Hb5 := Lib.hid hb5
                clear ho5 hb5 hg5 hat5
                go_wp2
                go_roundw
                case rel =>
                  refine ⟨i + 1, by omega, by go_num, some ⟨g5, 0, none⟩, cap5, rfl, Lib.hid (fun j hj => ?_), Lib.hid (by simp only [useL, Hu.out, Hv.out, Hx.out, List.map_append, List.map_cons, List.map_nil]; exact Ho5.out), Hb5⟩
                  by_cases e : j = i
                  · subst e; rw [Hu.out, Hx.out]; omega
                  · have := hno.out j (by omega); omega
                case measure => simp [intOf]; omega
            · obtain rfl : i = m := by omega
              obtain ⟨rfl, rfl⟩ := HN2.out (fun ⟨j, hj, ht⟩ => hno.out j hj ht)
              go_wp2
              go_ret2
              exact ⟨ao, i, co, rfl, length_useL _ _ _, by omega, hown.out, hbi.out.1⟩
        · have hmn' : ((m : Int) != (n : Int)) = true := by simp; omega
          obtain ⟨rfl, rfl⟩ := HA.out (by simp [askB, hmn])
          clear hmn
          go_wp2
          go_ret2
          exact rowEnd_fail hbw.out.1
end Go.Proofs.Ytlaapndncejlgaa
