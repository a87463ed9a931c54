/-
  Contracts of FewestSpools, both sides. No condition of its own.
-/
import Derived.Test.YtoomkeicfdmdoaaFewS
import Derived.Test.YtoomkeicfdmdoaaRow
import Derived.Deep.RegionHeld3
namespace Go.Proofs.Ytoomkeicfdmdoaa
open Go.ChangeShapes Go.WideShapes Go.ChangeAt Go.RowKit Go.Deep Go.Shelf

/-- A new slice of ints, a number and a code. -/
def RowEnd2 (w : World) (E k : Nat) (ds : List Int) (x c : Int) (e : Ending) (w' : World) : Prop :=
  ∃ a n cap, e = .returned (.tuple #[.slice a n cap, .int .i64 x, .int .i64 c]) ∧ ds.length = n * k ∧ n ≤ 1073741824 ∧ w'.ownsRow w.heap.size E k (.slice a n cap) n (ds.map (Value.int .i64)) ∧ Below w.heap.size w w'
theorem rowEnd2_fail {w w' : World} {E k : Nat} {c : Int} (h : Below w.heap.size w w') : RowEnd2 w E k [] 0 c (.returned (.tuple #[.slice none 0 0, .int .i64 0, .int .i64 c])) w' :=
  ⟨none, 0, 0, rfl, by simp, by omega, World.ownsRow_nil _ _ _ _, h⟩
def few0 (zs ys : List Int) (n : Nat) : List Int × Int := fewTo ys zs (List.replicate n 0) [] 0 ([], -1)
def fewL (zs ys : List Int) (n m : Nat) : List Int := if spoolsB zs ys n m then (if (few0 zs ys n).2 < 0 then [] else (few0 zs ys n).1) else []
def fewN (zs ys : List Int) (n m : Nat) : Int := if spoolsB zs ys n m then (if (few0 zs ys n).2 < 0 then 0 else (few0 zs ys n).2) else 0
def fewC (zs ys : List Int) (n m : Nat) : Int := if spoolsB zs ys n m then (if (few0 zs ys n).2 < 0 then 10 else 0) else 2
theorem fewB_parts {zs ys : List Int} {n m : Nat} (h : spoolsB zs ys n m = true) : outB zs 0 1000000 = false ∧ outB ys 1 1000000 = false ∧ n ≤ 6 ∧ m ≤ 8 := by
  simp only [spoolsB, Bool.and_eq_true, Bool.not_eq_true', decide_eq_true_eq] at h
  exact h
theorem few0_len {zs ys : List Int} {n m : Nat} (h : ys.length = m) (hm : m ≤ 8) : (few0 zs ys n).1.length ≤ 8 := by
  have := fewTo_len ys zs (List.replicate n 0) [] 0 ([], -1) (by simp)
  simp only [List.length_nil] at this
  unfold few0
  omega
theorem zeros_ints (n : Nat) : zeros n = ints (List.replicate n 0) := by simp [zeros, ints]
theorem rep_getD (n j : Nat) : (List.replicate n (0 : Int)).getD j 0 = 0 := by
  simp only [List.getD_eq_getElem?_getD, List.getElem?_replicate]
  split <;> rfl
theorem own_made (W : World) (n x B : Nat) (hn : n ≤ 1048576) (hx : x = W.heap.size) (hB : B ≤ W.heap.size) : (W.alloc (.cells (madeCells #[Value.int .i64 0] n) 2)).ownsRow B 2 1 (.slice (some ⟨x, 0, none⟩) n n) n (ints (List.replicate n 0)) := by
  subst hx
  have := World.ownsRow_lit (size := 1) (e := 2) W (madeCells #[Value.int .i64 0] n) n (Nat.le_refl _) (by unfold maxLen; omega) (by rw [size_madeCells]; omega)
  rw [toList_madeCells_one] at this
  rw [← zeros_ints]
  exact own_base this hB
theorem own_lit0 (W : World) (x B E k : Nat) (hx : x = W.heap.size) (hB : B ≤ W.heap.size) : (W.alloc (.cells #[] E)).ownsRow B E k (.slice (some ⟨x, 0, none⟩) 0 0) 0 (ints []) := by
  subst hx
  exact own_base (own_none W E k) hB
theorem own_nils (W : World) (B E k : Nat) : W.ownsRow B E k (.slice none 0 0) 0 (ints []) := World.ownsRow_nil _ _ _ _

theorem grown_set (W : World) (b o : Nat) (x : Value) : W.grownBy (W.setCell ⟨b, o, none⟩ x) (some b) := by
  unfold World.setCell
  refine ⟨rfl, rfl, rfl, ?_, fun k hk hne => ?_⟩
  · simp
  · simp only [Array.getElem?_modify]
    rw [if_neg]
    intro e
    exact hne (by rw [e])
theorem own_box6 (W : World) (x B E : Nat) (v0 v1 v2 v3 v4 v5 : Value) (hx : x = W.heap.size) (hB : B ≤ W.heap.size) : (W.alloc (.cells #[v0, v1, v2, v3, v4, v5] E)).ownsRow B E 6 (.slice (some ⟨x, 0, none⟩) 1 1) 1 [v0, v1, v2, v3, v4, v5] := by
  subst hx
  exact own_base (World.ownsRow_lit (base := W.heap.size) (size := 6) (e := E) W #[v0, v1, v2, v3, v4, v5] 1 (Nat.le_refl _) (by unfold maxLen; omega) (by simp)) hB
theorem own_six {W : World} {B E p : Nat} {v0 v1 v2 v3 v4 v5 : Value} (h : W.ownsRow B E 6 (.slice (some ⟨p, 0, none⟩) 1 1) 1 [.slice none 0 0, .slice none 0 0, .slice none 0 0, .slice none 0 0, .slice none 0 0, .int .i64 0]) :
    ((((((W.setCell ⟨p, 0, none⟩ v0).setCell ⟨p, 1, none⟩ v1).setCell ⟨p, 2, none⟩ v2).setCell ⟨p, 3, none⟩ v3).setCell ⟨p, 4, none⟩ v4).setCell ⟨p, 5, none⟩ v5).ownsRow B E 6 (.slice (some ⟨p, 0, none⟩) 1 1) 1 [v0, v1, v2, v3, v4, v5] :=
  ((((((h.stored 0 v0).1.stored 1 v1).1.stored 2 v2).1.stored 3 v3).1.stored 4 v4).1.stored 5 v5).1
theorem own_set_ne {W : World} {B E k n b o : Nat} {v x : Value} {cs : List Value} (hne : v.ownBlock ≠ some b) (h : W.ownsRow B E k v n cs) : (W.setCell ⟨b, o, none⟩ x).ownsRow B E k v n cs :=
  own_ne h (grown_set W b o x) hne

set_option maxRecDepth 100000 in
set_option maxHeartbeats 12800000 in
theorem spec_FewestSpools (w : World) (g n : Nat) (zs : List Int) (hl : zs.length = n) (hn : n ≤ 1048576) (hc : CellsAt w (some ⟨g, 0, none⟩) (zs.map (Value.int .i64))) (_ : ∀ z ∈ zs, (Lit.int .i64 z).wf = true)
    (g1 m : Nat) (ys : List Int) (hl1 : ys.length = m) (hm : m ≤ 1048576) (hc1 : CellsAt w (some ⟨g1, 0, none⟩) (ys.map (Value.int .i64))) (_ : ∀ z ∈ ys, (Lit.int .i64 z).wf = true) :
    Calls Try.prog 21 #[.slice (some ⟨g, 0, none⟩) n n, .slice (some ⟨g1, 0, none⟩) m m] w (RowEnd2 w 2 1 (fewL zs ys n m) (fewN zs ys n m) (fewC zs ys n m)) := by
  have h1 := l16Spools_any (some ⟨g, 0, none⟩) n n zs (some ⟨g1, 0, none⟩) m m ys w hl hl1 (by omega) (by omega) hc hc1
  cases hpl : spoolsB zs ys n m with
  | false =>
    rw [show fewL zs ys n m = [] by simp [fewL, hpl], show fewN zs ys n m = 0 by simp [fewN, hpl], show fewC zs ys n m = 2 by simp [fewC, hpl]]
    rw [hpl] at h1
    have H1 := Lib.hid h1
    clear h1 hpl hl hl1 hc hc1
    go_enter Try.func21, Try.ntmps21
    go_wp2_with (go_at_call 52; refine H1.out.mono ?_; rintro e w1 ⟨rfl, hb1⟩)
    go_ret3
    exact rowEnd2_fail hb1
  | true =>
    obtain ⟨o1, o2, n6, m8⟩ := fewB_parts hpl
    have h2 := fun W (e : Below w.heap.size w W) => l00Own_any g n n zs W hl (by omega) (hc.below e)
    rw [hpl] at h1
    obtain ⟨r, hr⟩ : ∃ r, few0 zs ys n = r := ⟨_, rfl⟩
    have hlen := few0_len (zs := zs) (n := n) hl1 m8
    rw [hr] at hlen
    have HR := Lib.hid hr
    have HE := Lib.hid (show fewL zs ys n m = (if r.2 < 0 then [] else r.1) ∧ fewN zs ys n m = (if r.2 < 0 then 0 else r.2) ∧ fewC zs ys n m = (if r.2 < 0 then 10 else 0) from by simp [fewL, fewN, fewC, hpl, hr])
    have H1 := Lib.hid h1
    have H2 := Lib.hid h2
    have Hz := Lib.hid hl
    have Hy := Lib.hid hl1
    have HB := Lib.hid hc1
    have O1 := Lib.hid o1
    have O2 := Lib.hid o2
    have hmk := run_make_row' (P := Try.prog) 22 2 (.int .i64 0) 8 Try.underlying22 infoI rfl .i64 .i64 n (by omega) (by omega)
    clear h1 h2 hr hpl hl hl1 hc hc1 o1 o2
    go_enter Try.func21, Try.ntmps21
    go_wp2_with fail
    refine H1.out.mono ?_
    rintro e w1 ⟨rfl, hb1⟩
    have hB1 := Bel.of hb1
    clear hb1
    go_upto_region 3 with fail
    go_cut [7] (fun t7 W => ∃ (p gp gu : Nat) (al : Option Addr) (cl : Nat), t7 = .pointer (some ⟨p, 0, none⟩) ∧ Hid (FewMemX W w.heap.size p gu gp (.slice (some ⟨g1, 0, none⟩) m m) (.slice al n cl) n 0 n 0 zs (List.replicate n 0) [] [] (-1)) ∧ Hid (Bel w.heap.size w W))
    case first =>
      go_region_held3 (fun _ => True) (first | trivial | go_keep) ((refine (H2.out _ (Bel.below (by repeat (first | assumption | exact Bel.refl _ | refine Bel.drew ?_ | refine Bel.drewN ?_ _ | refine Bel.alloc ?_ _ | refine Bel.setCell ?_ (by simp; try omega) _)))).mono ?_; rintro e w2 ⟨aL, capL, rfl, hoL, hb2⟩))
      all_goals (go_wp2_with fail; go_meet)
      all_goals
        have s1 := hB1.2
        have s2 := hb2.size
        simp at s2
        have s3 := fun b h => own_block (b := b) hoL h
        simp at s3
        refine ⟨_, _, _, _, _, rfl, Lib.hid ⟨.slice none 0 0, 0, own_box6 _ _ _ _ _ _ _ _ _ _ (by first | (with_reducible rfl) | (simp; done)) (by first | omega | (simp; omega)), ?_, ?_, ?_, own_nils _ _ _ _, by simp [Value.ownBlock], by simp [Value.ownBlock], by simp [Value.ownBlock], (by intro b e; cases e), by omega, by omega, by omega, (fun e => by have := s3 _ e; omega), (fun e => by have := s3 _ e; omega), (fun e => by have := s3 _ e; omega)⟩, Lib.hid ?_⟩
        case refine_4 => repeat (first | (with_reducible exact hB1) | (with_reducible refine Bel.drew ?_) | (with_reducible refine Bel.alloc ?_ _) | (with_reducible refine Bel.step ?_ hb2))
        all_goals (repeat (first | (with_reducible exact own_base hoL (by first | omega | (simp; omega))) | ((with_reducible refine own_made _ _ _ _ (by omega) ?_ ?_); (· (first | (with_reducible rfl) | (simp; done))); (· (first | omega | (simp; omega)))) | ((with_reducible refine own_lit0 _ _ _ _ _ ?_ ?_); (· (first | (with_reducible rfl) | (simp; done))); (· (first | omega | (simp; omega)))) | (with_reducible refine World.ownsRow.alloc ?_ _) | (with_reducible refine World.ownsRow.drew ?_) | (with_reducible refine own_below ?_ hb2)))
    case rest =>
      obtain ⟨p, gp, gu, al, cl, rfl, hM, hB2⟩ := hcut
      have hw := walk_any w p gu n m n m cl (some ⟨g1, 0, none⟩) al ys Hy.out m8 n6 HB.out O2.out m 0 zs (List.replicate n 0) [] [] 0 (-1) gp 0 wc (by omega) Hz.out (low_of O1.out) (by simp) (fun j => by rw [rep_getD]; omega) rfl (by omega) (by omega) (by omega) (by omega) hB2.out hM.out
      rw [List.drop_zero, show fewTo ys zs (List.replicate n 0) [] 0 ([], -1) = r from HR.out] at hw
      have HW := Lib.hid hw
      clear hw hmk
      go_wp2_with fail
      refine HW.out.mono ?_
      rintro e w4 ⟨rfl, hb4, gp4, cp4, hm4⟩
      obtain ⟨bv, nb, k1, k2, k3, k4, k5, _⟩ := hm4
      obtain ⟨ab, cb, rfl⟩ := own_cap k5
      have c4 : w4.cell? ⟨p, 4, none⟩ = some (.slice ab nb cb) := by rw [k1.cellAt 4 (by omega)]; rfl
      have c5 : w4.cell? ⟨p, 5, none⟩ = some (.int .i64 r.2) := by rw [k1.cellAt 5 (by omega)]; rfl
      have hnb := k5.1
      simp at hnb
      obtain ⟨rb, rl⟩ := r
      simp only at c5 k5 hnb hlen
      have K5 := Lib.hid k5
      have Hnb := Lib.hid hnb
      have HB4 := Lib.hid hb4
      clear k1 k2 k3 k4 k5 hb4 hnb
      by_cases hneg : rl < 0
      · have e1 := HE.out
        rw [if_pos hneg, if_pos hneg, if_pos hneg] at e1
        have E1 := Lib.hid e1
        clear e1
        go_wp2_with fail
        go_ret3
        rw [E1.out.1, E1.out.2.1, E1.out.2.2]
        exact rowEnd2_fail HB4.out.1
      · have e1 := HE.out
        rw [if_neg hneg, if_neg hneg, if_neg hneg] at e1
        have E1 := Lib.hid e1
        clear e1
        go_wp2_with fail
        go_big_quiet (fail)
        go_wp2_with fail
        go_ret3
        rw [E1.out.1, E1.out.2.1, E1.out.2.2]
        exact ⟨ab, nb, cb, rfl, by have := Hnb.out; simp; omega, by have := Hnb.out; omega, K5.out, (HB4.out.drewN _).1⟩

set_option maxRecDepth 100000 in
set_option maxHeartbeats 12800000 in
theorem impl_FewestSpools_c (w : World) (g n c : Nat) (zs : List Int) (hl : zs.length = n) (hn : n ≤ 1048576) (hc : CellsAt w (some ⟨g, 0, none⟩) (zs.map (Value.int .i64))) (_ : ∀ z ∈ zs, (Lit.int .i64 z).wf = true)
    (g1 m d : Nat) (ys : List Int) (hl1 : ys.length = m) (hm : m ≤ 1048576) (hc1 : CellsAt w (some ⟨g1, 0, none⟩) (ys.map (Value.int .i64))) (_ : ∀ z ∈ ys, (Lit.int .i64 z).wf = true) :
    Calls Try.prog 22 #[.slice (some ⟨g, 0, none⟩) n c, .slice (some ⟨g1, 0, none⟩) m d] w (RowEnd2 w 2 1 (fewL zs ys n m) (fewN zs ys n m) (fewC zs ys n m)) := by
  have h1 := areSpools_any (some ⟨g, 0, none⟩) n c zs (some ⟨g1, 0, none⟩) m d ys w hl hl1 (by omega) (by omega) hc hc1
  cases hpl : spoolsB zs ys n m with
  | false =>
    rw [show fewL zs ys n m = [] by simp [fewL, hpl], show fewN zs ys n m = 0 by simp [fewN, hpl], show fewC zs ys n m = 2 by simp [fewC, hpl]]
    rw [hpl] at h1
    have H1 := Lib.hid h1
    clear h1 hpl hl hl1 hc hc1
    go_enter Try.func22, Try.ntmps22
    go_wp2_with (go_at_call 54; refine H1.out.mono ?_; rintro e w1 ⟨rfl, hb1⟩)
    go_ret3
    exact rowEnd2_fail hb1
  | true =>
    obtain ⟨o1, o2, n6, m8⟩ := fewB_parts hpl
    have h2 := fun W (e : Below w.heap.size w W) => cloneI_any g n c zs W hl (by omega) (hc.below e)
    rw [hpl] at h1
    obtain ⟨r, hr⟩ : ∃ r, few0 zs ys n = r := ⟨_, rfl⟩
    have hlen := few0_len (zs := zs) (n := n) hl1 m8
    rw [hr] at hlen
    have HR := Lib.hid hr
    have HE := Lib.hid (show fewL zs ys n m = (if r.2 < 0 then [] else r.1) ∧ fewN zs ys n m = (if r.2 < 0 then 0 else r.2) ∧ fewC zs ys n m = (if r.2 < 0 then 10 else 0) from by simp [fewL, fewN, fewC, hpl, hr])
    have H1 := Lib.hid h1
    have H2 := Lib.hid h2
    have Hz := Lib.hid hl
    have Hy := Lib.hid hl1
    have HB := Lib.hid hc1
    have O1 := Lib.hid o1
    have O2 := Lib.hid o2
    have hmk := run_make_row' (P := Try.prog) 22 2 (.int .i64 0) 8 Try.underlying22 infoI rfl .i64 .i64 n (by omega) (by omega)
    have hmk2 := run_make_row' (P := Try.prog) 22 2 (.int .i64 0) 8 Try.underlying22 infoI rfl .i64 .i64 m (by omega) (by omega)
    clear h1 h2 hr hpl hl hl1 hc hc1 o1 o2
    go_enter Try.func22, Try.ntmps22
    go_wp2_with fail
    refine H1.out.mono ?_
    rintro e w1 ⟨rfl, hb1⟩
    have hB1 := Bel.of hb1
    clear hb1
    go_upto_region 3 with fail
    go_cut [7] (fun t7 W => ∃ (p gp gu : Nat) (al : Option Addr) (cl : Nat), t7 = .pointer (some ⟨p, 0, none⟩) ∧ Hid (FewMem W w.heap.size p gp gu (.slice (some ⟨g1, 0, none⟩) m d) (.slice al n cl) n m n m zs (List.replicate n 0) (List.replicate m 0) [] (-1)) ∧ Hid (Sep p gp gu (.slice al n cl)) ∧ Hid (Bel w.heap.size w W))
    case first =>
      go_region_held3 (fun _ => True) (first | trivial | go_keep) ((refine (H2.out _ (Bel.below (by repeat (first | assumption | exact Bel.refl _ | refine Bel.drew ?_ | refine Bel.drewN ?_ _ | refine Bel.alloc ?_ _ | refine Bel.setCell ?_ (by simp; try omega) _)))).mono ?_; rintro e w2 ⟨aL, capL, rfl, hoL, hb2⟩; obtain ⟨hc2, hf2, hl2⟩ := bcell hb2; have s2 := hb2.size; simp at s2; (try have z0 : w1.heap.size < w2.heap.size := by omega); (try have z1 : w1.heap.size + 1 < w2.heap.size := by omega); (try have z2 : w1.heap.size + 1 + 1 < w2.heap.size := by omega)))
      all_goals (go_wp2_with fail; go_meet)
      all_goals
        have s1 := hB1.2
        have s3 := fun b h => own_block (b := b) hoL h
        simp at s3
        clear hc2 hf2 hl2 hmk hmk2
        apply Exists.intro
        apply Exists.intro
        apply Exists.intro
        apply Exists.intro
        apply Exists.intro
        refine ⟨rfl, Lib.hid ⟨.slice none 0 0, 0, ?_, ?_, ?_, ?_, own_nils _ _ _ _, by simp [Value.ownBlock], by simp [Value.ownBlock], by simp [Value.ownBlock], (by intro b e; cases e)⟩, ?_, Lib.hid ?_⟩
        · (repeat (first | (with_reducible exact own_base hoL (by first | omega | (simp; omega))) | ((with_reducible refine own_made _ _ _ _ (by omega) ?_ ?_); (· (first | (with_reducible rfl) | (simp; done))); (· (first | omega | (simp; omega)))) | ((with_reducible refine own_box6 _ _ _ _ _ _ _ _ _ _ ?_ ?_); (· (first | (with_reducible rfl) | (simp; done))); (· (first | omega | (simp; omega)))) | (with_reducible refine own_six ?_) | (with_reducible refine World.ownsRow.alloc ?_ _) | (with_reducible refine World.ownsRow.drew ?_) | ((with_reducible refine own_set_ne ?_ ?_); (· (first | (intro e; with_reducible have q := s3 _ e; omega) | (simp [Value.ownBlock]; done) | (simp [Value.ownBlock]; omega)))) | (with_reducible refine own_below ?_ hb2)))
        · (repeat (first | (with_reducible exact own_base hoL (by first | omega | (simp; omega))) | ((with_reducible refine own_made _ _ _ _ (by omega) ?_ ?_); (· (first | (with_reducible rfl) | (simp; done))); (· (first | omega | (simp; omega)))) | ((with_reducible refine own_box6 _ _ _ _ _ _ _ _ _ _ ?_ ?_); (· (first | (with_reducible rfl) | (simp; done))); (· (first | omega | (simp; omega)))) | (with_reducible refine own_six ?_) | (with_reducible refine World.ownsRow.alloc ?_ _) | (with_reducible refine World.ownsRow.drew ?_) | ((with_reducible refine own_set_ne ?_ ?_); (· (first | (intro e; with_reducible have q := s3 _ e; omega) | (simp [Value.ownBlock]; done) | (simp [Value.ownBlock]; omega)))) | (with_reducible refine own_below ?_ hb2)))
        · (repeat (first | (with_reducible exact own_base hoL (by first | omega | (simp; omega))) | ((with_reducible refine own_made _ _ _ _ (by omega) ?_ ?_); (· (first | (with_reducible rfl) | (simp; done))); (· (first | omega | (simp; omega)))) | ((with_reducible refine own_box6 _ _ _ _ _ _ _ _ _ _ ?_ ?_); (· (first | (with_reducible rfl) | (simp; done))); (· (first | omega | (simp; omega)))) | (with_reducible refine own_six ?_) | (with_reducible refine World.ownsRow.alloc ?_ _) | (with_reducible refine World.ownsRow.drew ?_) | ((with_reducible refine own_set_ne ?_ ?_); (· (first | (intro e; with_reducible have q := s3 _ e; omega) | (simp [Value.ownBlock]; done) | (simp [Value.ownBlock]; omega)))) | (with_reducible refine own_below ?_ hb2)))
        · (repeat (first | (with_reducible exact own_base hoL (by first | omega | (simp; omega))) | ((with_reducible refine own_made _ _ _ _ (by omega) ?_ ?_); (· (first | (with_reducible rfl) | (simp; done))); (· (first | omega | (simp; omega)))) | ((with_reducible refine own_box6 _ _ _ _ _ _ _ _ _ _ ?_ ?_); (· (first | (with_reducible rfl) | (simp; done))); (· (first | omega | (simp; omega)))) | (with_reducible refine own_six ?_) | (with_reducible refine World.ownsRow.alloc ?_ _) | (with_reducible refine World.ownsRow.drew ?_) | ((with_reducible refine own_set_ne ?_ ?_); (· (first | (intro e; with_reducible have q := s3 _ e; omega) | (simp [Value.ownBlock]; done) | (simp [Value.ownBlock]; omega)))) | (with_reducible refine own_below ?_ hb2)))
        · exact Lib.hid ⟨by omega, by omega, by omega, (fun e => by have := s3 _ e; omega), (fun e => by have := s3 _ e; omega), (fun e => by have := s3 _ e; omega)⟩
        · repeat (first | (with_reducible exact hB1) | (with_reducible refine Bel.drew ?_) | (with_reducible refine Bel.alloc ?_ _) | (with_reducible refine Bel.setCell ?_ (by first | omega | (simp; omega)) _) | (with_reducible refine Bel.step ?_ hb2))
    case rest =>
      obtain ⟨p, gp, gu, al, cl, rfl, hM, hS, hB2⟩ := hcut
      have hw := from_any w p gp gu n m n m d cl (some ⟨g1, 0, none⟩) al ys Hy.out m8 n6 HB.out O2.out hS.out m 0 0 zs (List.replicate n 0) (List.replicate m 0) [] 0 (-1) wc rfl (by omega) Hz.out (low_of O1.out) (by simp) (fun j => by rw [rep_getD]; omega) (by simp) (by omega) (by omega) (by omega) (by omega) hB2.out hM.out
      rw [List.drop_zero, List.take_zero, show fewTo ys zs (List.replicate n 0) [] 0 ([], -1) = r from HR.out] at hw
      have HW := Lib.hid hw
      clear hw hmk hmk2
      go_wp2_with fail
      refine HW.out.mono ?_
      rintro e w4 ⟨rfl, hb4, plan4, _, _, hm4⟩
      obtain ⟨bv, nb, k1, k2, k3, k4, k5, _⟩ := hm4
      obtain ⟨ab, cb, rfl⟩ := own_cap k5
      have c4 : w4.cell? ⟨p, 4, none⟩ = some (.slice ab nb cb) := by rw [k1.cellAt 4 (by omega)]; rfl
      have c5 : w4.cell? ⟨p, 5, none⟩ = some (.int .i64 r.2) := by rw [k1.cellAt 5 (by omega)]; rfl
      have hnb := k5.1
      simp at hnb
      obtain ⟨rb, rl⟩ := r
      simp only at c5 k5 hnb hlen
      have K5 := Lib.hid k5
      have Hnb := Lib.hid hnb
      have HB4 := Lib.hid hb4
      clear k1 k2 k3 k4 k5 hb4 hnb
      by_cases hneg : rl < 0
      · have e1 := HE.out
        rw [if_pos hneg, if_pos hneg, if_pos hneg] at e1
        have E1 := Lib.hid e1
        clear e1
        go_wp2_with fail
        go_ret3
        rw [E1.out.1, E1.out.2.1, E1.out.2.2]
        exact rowEnd2_fail HB4.out.1
      · have e1 := HE.out
        rw [if_neg hneg, if_neg hneg, if_neg hneg] at e1
        have E1 := Lib.hid e1
        clear e1
        go_wp2_with fail
        go_big_quiet (fail)
        go_wp2_with fail
        go_ret3
        rw [E1.out.1, E1.out.2.1, E1.out.2.2]
        exact ⟨ab, nb, cb, rfl, by have := Hnb.out; simp; omega, by have := Hnb.out; omega, K5.out, (HB4.out.drewN _).1⟩
theorem impl_FewestSpools (w : World) (g n : Nat) (zs : List Int) (hl : zs.length = n) (hn : n ≤ 1048576) (hc : CellsAt w (some ⟨g, 0, none⟩) (zs.map (Value.int .i64))) (hz : ∀ z ∈ zs, (Lit.int .i64 z).wf = true)
    (g1 m : Nat) (ys : List Int) (hl1 : ys.length = m) (hm : m ≤ 1048576) (hc1 : CellsAt w (some ⟨g1, 0, none⟩) (ys.map (Value.int .i64))) (hy : ∀ z ∈ ys, (Lit.int .i64 z).wf = true) :
    Calls Try.prog 22 #[.slice (some ⟨g, 0, none⟩) n n, .slice (some ⟨g1, 0, none⟩) m m] w (RowEnd2 w 2 1 (fewL zs ys n m) (fewN zs ys n m) (fewC zs ys n m)) :=
  impl_FewestSpools_c w g n n zs hl hn hc hz g1 m m ys hl1 hm hc1 hy
end Go.Proofs.Ytoomkeicfdmdoaa
