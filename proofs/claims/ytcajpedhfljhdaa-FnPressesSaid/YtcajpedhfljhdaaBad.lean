/-
  Contracts of BadJoins, both sides. No condition of its own.
-/
import Derived.Test.YtcajpedhfljhdaaJoinsOk
import Derived.Test.YtcajpedhfljhdaaGlue3
import Derived.Test.YtcajpedhfljhdaaApp
import Derived.StillTailTactics
namespace Go.Proofs.Ytcajpedhfljhdaa
open Go.ChangeShapes Go.WideShapes Go.ChangeAt Go.RowKit Go.Deep Go.Shelf

/-- The fault of the join number k. -/
def faultAt (d o p : Int) (zs : List Int) (k : Nat) : ByteArray := faultF d o p (zs.getD (k * 4) 0) (zs.getD (k * 4 + 1) 0) (zs.getD (k * 4 + 2) 0) (zs.getD (k * 4 + 3) 0)
/-- The joins with faults among the first k. -/
def badTo (d o p : Int) (zs : List Int) : Nat → List Int
  | 0 => []
  | k + 1 => badTo d o p zs k ++ (if faultAt d o p zs k = noneS then [] else [(k : Int)])
theorem fault_cases {d o p : Int} {zs : List Int} {k : Nat} {fs : ByteArray} (h : faultAt d o p zs k = fs) (hf : fs ≠ noneS) : fs = ⟨#[119, 101, 116]⟩ ∨ fs = ⟨#[108, 97, 116, 101]⟩ ∨ fs = ⟨#[112, 114, 101, 115, 115]⟩ := by
  rw [← h] at hf ⊢
  revert hf
  simp only [faultAt, faultF]
  split
  · intro _; exact .inl rfl
  · split
    · intro _; exact .inr (.inl rfl)
    · split
      · intro _; exact .inr (.inr rfl)
      · intro hf; exact absurd rfl hf
theorem badTo_length (d o p : Int) (zs : List Int) (k : Nat) : (badTo d o p zs k).length ≤ k := by
  induction k with
  | zero => simp [badTo]
  | succ k ih => simp only [badTo, List.length_append]; split <;> simp <;> omega
def badF (d o p : Int) (zs : List Int) (n : Nat) : List Int := if (glueB d o p && joinsB zs n) = true then badTo d o p zs n else []
def badC (d o p : Int) (zs : List Int) (n : Nat) : Int := if (glueB d o p && joinsB zs n) = true then 0 else 1
theorem joinsB_at {zs : List Int} {n k : Nat} (h : joinsB zs n = true) (hk : k < n) : joinAt zs k = true := by
  simp [joinsB] at h
  exact h.1 k hk
theorem joinsB_le' {zs : List Int} {n : Nat} (h : joinsB zs n = true) : n ≤ 20 := by simp [joinsB] at h; exact h.2

/-- What a round of BadJoins leaves. -/
theorem bad_hit {d o p : Int} {zs ds : List Int} {k : Nat} (hd : ds = badTo d o p zs k) (hf : faultAt d o p zs k ≠ noneS) : ds ++ [(k : Int)] = badTo d o p zs (k + 1) := by simp only [badTo, if_neg hf, hd]
theorem bad_miss {d o p : Int} {zs ds : List Int} {k : Nat} (hd : ds = badTo d o p zs k) (hf : faultAt d o p zs k = noneS) : ds = badTo d o p zs (k + 1) := by simp only [badTo, if_pos hf, hd, List.append_nil]

theorem rowEnd_fail {w w' : World} {E k : Nat} {c : Int} (hb : Below w.heap.size w w') : RowEnd w E k [] c (.returned (.tuple #[.slice none 0 0, .int .i64 c])) w' :=
  ⟨none, 0, 0, rfl, by simp, by omega, World.ownsRow_nil _ _ _ _, hb⟩

set_option maxRecDepth 100000 in
set_option maxHeartbeats 3200000 in
theorem impl_BadJoins (w : World) (d : Int) (_ : (Lit.int .i64 d).wf = true) (o : Int) (_ : (Lit.int .i64 o).wf = true) (p : Int) (_ : (Lit.int .i64 p).wf = true) (a : Option Addr) (n c : Nat) (zs : List Int) (hl : zs.length = n * 4) (hn : n ≤ 1048576) (ha : CellsAt w a (zs.map (Value.int .i64))) (_ : ∀ z ∈ zs, (Lit.int .i64 z).wf = true) :
    Calls Try.prog 38 #[.agg #[.int .i64 d, .int .i64 o, .int .i64 p], .slice a n c] w (RowEnd w 2 1 (badF d o p zs n) (badC d o p zs n)) := by
  cases hg : glueB d o p with
  | false =>
    rw [show badF d o p zs n = [] by simp [badF, hg], show badC d o p zs n = 1 by simp [badC, hg]]
    have Hl := Lib.hid hl
    have Ha := Lib.hid ha
    clear hl ha
    go_enter Try.func38, Try.ntmps38
    go_wp2_with (go_at_call 16; refine (validGlue_any _ _ _ _).mono ?_; rintro e w1 ⟨rfl, rfl⟩)
    go_ret2
    exact rowEnd_fail (by repeat (first | exact Below.refl _ _ | assumption | refine Below.drew ?_ | refine below_drewN ?_ _ | refine Below.alloc ?_ (by simp; try omega) _ | refine Below.setCell ?_ (by simp; try omega) _))
  | true =>
    have hv := fun W (e : Below w.heap.size w W) => implJoinsOk a n c zs W hl (by omega) (ha.below e)
    obtain ⟨g1, g2, g3, g4, g5⟩ := glueB_true.1 hg
    cases hok : joinsB zs n with
    | false =>
      rw [show badF d o p zs n = [] by simp [badF, hok], show badC d o p zs n = 1 by simp [badC, hok]]
      rw [hok] at hv
      have H := Lib.hid hv
      clear hv hok hl ha
      go_enter Try.func38, Try.ntmps38
      go_wp2_with (first | (go_at_call 16; refine (validGlue_any _ _ _ _).mono ?_; rintro e w1 ⟨rfl, rfl⟩) | (go_at_call 31; refine (H.out _ (by exact (by repeat (first | exact Below.refl _ _ | assumption | refine Below.drew ?_ | refine below_drewN ?_ _ | refine Below.alloc ?_ (by simp; try omega) _ | refine Below.setCell ?_ (by simp; try omega) _)))).mono ?_; rintro e w1 ⟨rfl, hb1⟩; have hB1 := Bel.step (B := w.heap.size) (a := w) (by repeat (first | assumption | exact Bel.refl _ | refine Bel.drew ?_ | refine Bel.drewN ?_ _ | refine Bel.alloc ?_ _ | refine Bel.setCell ?_ (by simp; try omega) _)) hb1; clear hb1))
      go_ret2
      exact rowEnd_fail hB1.1
    | true =>
      have hn20 := joinsB_le' hok
      have hall := fun k => joinsB_at (zs := zs) (n := n) (k := k) hok
      have HA := Lib.hid hall
      rw [show badF d o p zs n = badTo d o p zs n by simp [badF, hok, hg], show badC d o p zs n = 0 by simp [badC, hok, hg]]
      rw [hok] at hv
      have H := Lib.hid hv
      clear hv hok hall
      by_cases h0 : n = 0
      · subst h0
        clear hl ha
        go_enter Try.func38, Try.ntmps38
        go_wp2_with (first | (go_at_call 16; refine (validGlue_any _ _ _ _).mono ?_; rintro e w1 ⟨rfl, rfl⟩) | (go_at_call 31; refine (H.out _ (by exact (by repeat (first | exact Below.refl _ _ | assumption | refine Below.drew ?_ | refine below_drewN ?_ _ | refine Below.alloc ?_ (by simp; try omega) _ | refine Below.setCell ?_ (by simp; try omega) _)))).mono ?_; rintro e w1 ⟨rfl, hb1⟩; have hB1 := Bel.step (B := w.heap.size) (a := w) (by repeat (first | assumption | exact Bel.refl _ | refine Bel.drew ?_ | refine Bel.drewN ?_ _ | refine Bel.alloc ?_ _ | refine Bel.setCell ?_ (by simp; try omega) _)) hb1; clear hb1))
        refine wp_loop_once ?_
        go_wp2
        go_ret2
        exact ⟨_, 0, 0, rfl, by simp [badTo], by omega, own_none' _ _ _ _ hB1.2, (hB1.alloc _).1⟩
      · obtain ⟨b, off, rfl, hb, hc⟩ := ha.at_ (by simp; omega)
        have Hz := Lib.hid hl
        have H1 := Lib.hid hc
        clear hl hc ha
        have hcellW : ∀ W : World, Below w.heap.size w W → ∀ j, j < n * 4 → W.cell? ⟨b, off + j, none⟩ = some (.int .i64 (zs.getD j 0)) := fun W hbw j hj => by
          rw [(hbw.cell (p := ⟨b, off + j, none⟩) hb).trans (H1.out j (by have := Hz.out; simp; omega))]
          simp [List.getElem?_eq_getElem (show j < zs.length by rw [Hz.out]; exact hj)]
        have HC := Lib.hid hcellW
        clear hcellW H1
        go_enter Try.func38, Try.ntmps38
        go_wp2_with (first | (go_at_call 16; refine (validGlue_any _ _ _ _).mono ?_; rintro e w1 ⟨rfl, rfl⟩) | (go_at_call 31; refine (H.out _ (by exact (by repeat (first | exact Below.refl _ _ | assumption | refine Below.drew ?_ | refine below_drewN ?_ _ | refine Below.alloc ?_ (by simp; try omega) _ | refine Below.setCell ?_ (by simp; try omega) _)))).mono ?_; rintro e w1 ⟨rfl, hb1⟩; obtain ⟨hc1, hf1, hl1⟩ := bcell hb1; have hs1 := hl1 w.heap.size (by first | (simp; done) | (simp; omega)); have hB1 := Bel.step (B := w.heap.size) (a := w) (by repeat (first | assumption | exact Bel.refl _ | refine Bel.drew ?_ | refine Bel.drewN ?_ _ | refine Bel.alloc ?_ _ | refine Bel.setCell ?_ (by simp; try omega) _)) hb1; clear hb1))
        have HB1 := Lib.hid hB1
        have hgl : w1.cell? ⟨w.heap.size, 0, none⟩ = some (.int .i64 d) ∧ w1.cell? ⟨w.heap.size, 1, none⟩ = some (.int .i64 o) ∧ w1.cell? ⟨w.heap.size, 2, none⟩ = some (.int .i64 p) := by
          refine ⟨?_, ?_, ?_⟩ <;> (rw [hc1 _ _ (by simp; try omega)]; simp)
        have HG := Lib.hid hgl
        clear hB1 hc1 hf1 hl1 hgl
        go_loopw [6, 20] (fun v i wr => ∃ k : Nat, k ≤ n ∧ i = .int .i64 k ∧ ∃ ds : List Int, Hid (ds = badTo d o p zs k) ∧ Hid (wr.ownsRow w1.heap.size 2 1 v ds.length (ds.map (Value.int .i64))) ∧ Hid (Bel w1.heap.size w1 wr)) (fun _ i _ => n - (intOf i).toNat)
        case atStart => exact ⟨0, Nat.zero_le _, rfl, [], Lib.hid rfl, Lib.hid (own_none _ _ _), Lib.hid ((Bel.refl w1).alloc _)⟩
        case round =>
          obtain ⟨k, hk, rfl, ds, hds, hown, hin⟩ := hrel
          have hdl : ds.length ≤ k := by rw [hds.out]; exact badTo_length _ _ _ _ _
          by_cases hlt : k < n
          · have hcell := HC.out wr (HB1.out.step hin.out.1).1
            obtain ⟨x0, hx0⟩ : ∃ z, zs.getD (k * 4) 0 = z := ⟨_, rfl⟩
            obtain ⟨x1, hx1⟩ : ∃ z, zs.getD (k * 4 + 1) 0 = z := ⟨_, rfl⟩
            obtain ⟨x2, hx2⟩ : ∃ z, zs.getD (k * 4 + 2) 0 = z := ⟨_, rfl⟩
            obtain ⟨x3, hx3⟩ : ∃ z, zs.getD (k * 4 + 3) 0 = z := ⟨_, rfl⟩
            have c0 := hcell (k * 4) (by omega)
            have c1 := hcell (k * 4 + 1) (by omega)
            have c2 := hcell (k * 4 + 2) (by omega)
            have c3 := hcell (k * 4 + 3) (by omega)
            have hj := HA.out k hlt
            obtain ⟨fs, hfs⟩ : ∃ q, faultAt d o p zs k = q := ⟨_, rfl⟩
            have hfs2 := hfs
            simp only [faultAt, hx0, hx1, hx2, hx3] at hfs2
            simp only [joinAt, hx0, hx1, hx2, hx3, joinB_true] at hj
            obtain ⟨j1, j2, j3, j4, j5, j6, j7, j8, j9, j10⟩ := hj
            have hfault := fun W => fault_any d o p x0 x1 x2 x3 W g1 g2 g3 j1 j2 j3 j4 j5 j6 j7 j8
            rw [hfs2] at hfault
            rw [hx0] at c0
            rw [hx1, ← Nat.add_assoc] at c1
            rw [hx2, ← Nat.add_assoc] at c2
            rw [hx3, ← Nat.add_assoc] at c3
            have Hfs := Lib.hid hfs
            have HF := Lib.hid hfault
            clear hcell hx0 hx1 hx2 hx3 hfs hfs2 hfault j9 j10
            have hlt' : (k : Int) < (n : Int) := by omega
            have k0 : wr.cell? ⟨w.heap.size, 0, none⟩ = some (.int .i64 d) := (hin.out.1.cell (p := ⟨w.heap.size, 0, none⟩) hs1).trans HG.out.1
            have k1 : wr.cell? ⟨w.heap.size, 1, none⟩ = some (.int .i64 o) := (hin.out.1.cell (p := ⟨w.heap.size, 1, none⟩) hs1).trans HG.out.2.1
            have k2 : wr.cell? ⟨w.heap.size, 2, none⟩ = some (.int .i64 p) := (hin.out.1.cell (p := ⟨w.heap.size, 2, none⟩) hs1).trans HG.out.2.2
            have hsr : w.heap.size < wr.heap.size := Nat.lt_of_lt_of_le hs1 hin.out.1.size
            by_cases hf : fs = noneS
            · subst hf
              rw [noneS] at HF
              go_wp2_with (go_at_call 67; refine (HF.out _).mono ?_; rintro e w2 ⟨rfl, hb2⟩)
              go_roundw
              case rel => exact ⟨k + 1, by omega, by go_num, ds, Lib.hid (bad_miss hds.out Hfs.out), Lib.hid (own_below (hown.out.alloc _) hb2), Lib.hid ((hin.out.alloc _).step hb2)⟩
              case measure => simp [intOf]; omega
            · have hcs := fault_cases Hfs.out hf
              have Hnf := Lib.hid hf
              clear hf
              rcases hcs with rfl | rfl | rfl
              all_goals
                go_wp2_with (first | (go_at_call 67; refine (HF.out _).mono ?_; rintro e w2 ⟨rfl, hb2⟩; have Hb2 := Lib.hid hb2; clear hb2) | (at_builtin; refine appI (by rfl) _ _ (by rfl) w1.heap.size _ _ _ (by rfl) (own_below (hown.out.alloc _) Hb2.out) _ 1 (by rfl) (by omega) ((hin.out.alloc _).step Hb2.out) ?_; intro g cap w3 ho3 hb3))
                have Ho3 := Lib.hid ho3
                have Hb3 := Lib.hid hb3
                clear ho3 hb3
                go_wp2
                go_roundw
                case rel => exact ⟨k + 1, by omega, by go_num, ds ++ [(k : Int)], Lib.hid (bad_hit hds.out (by rw [Hfs.out]; exact Hnf.out)), Lib.hid (by simpa using Ho3.out), Hb3⟩
                case measure => simp [intOf]; omega
          · go_wp2
            go_ret2
            obtain rfl : k = n := by omega
            obtain ⟨a', cap', rfl⟩ := own_cap hown.out
            rw [← hds.out]
            exact ⟨a', ds.length, cap', rfl, by omega, by omega, own_base hown.out HB1.out.2, (HB1.out.step hin.out.1).1⟩
set_option maxRecDepth 100000 in
set_option maxHeartbeats 3200000 in
theorem spec_BadJoins (w : World) (d : Int) (_ : (Lit.int .i64 d).wf = true) (o : Int) (_ : (Lit.int .i64 o).wf = true) (p : Int) (_ : (Lit.int .i64 p).wf = true) (a : Option Addr) (n c : Nat) (zs : List Int) (hl : zs.length = n * 4) (hn : n ≤ 1048576) (ha : CellsAt w a (zs.map (Value.int .i64))) (_ : ∀ z ∈ zs, (Lit.int .i64 z).wf = true) :
    Calls Try.prog 37 #[.agg #[.int .i64 d, .int .i64 o, .int .i64 p], .slice a n c] w (RowEnd w 2 1 (badF d o p zs n) (badC d o p zs n)) := by
  cases hg : glueB d o p with
  | false =>
    rw [show badF d o p zs n = [] by simp [badF, hg], show badC d o p zs n = 1 by simp [badC, hg]]
    have Hl := Lib.hid hl
    have Ha := Lib.hid ha
    clear hl ha
    go_enter Try.func37, Try.ntmps37
    go_wp2_with (go_at_call 54; refine (l19Ok_any _ _ _ _).mono ?_; rintro e w1 ⟨rfl, rfl⟩)
    go_ret2
    exact rowEnd_fail (by repeat (first | exact Below.refl _ _ | assumption | refine Below.drew ?_ | refine below_drewN ?_ _ | refine Below.alloc ?_ (by simp; try omega) _ | refine Below.setCell ?_ (by simp; try omega) _))
  | true =>
    have hv := fun W (e : Below w.heap.size w W) => specJoinsOk a n c zs W hl (by omega) (ha.below e)
    obtain ⟨g1, g2, g3, g4, g5⟩ := glueB_true.1 hg
    cases hok : joinsB zs n with
    | false =>
      rw [show badF d o p zs n = [] by simp [badF, hok], show badC d o p zs n = 1 by simp [badC, hok]]
      rw [hok] at hv
      have H := Lib.hid hv
      clear hv hok hl ha
      go_enter Try.func37, Try.ntmps37
      go_wp2_with (first | (go_at_call 54; refine (l19Ok_any _ _ _ _).mono ?_; rintro e w1 ⟨rfl, rfl⟩) | (go_at_call 68; refine (H.out _ (by exact (by repeat (first | exact Below.refl _ _ | assumption | refine Below.drew ?_ | refine below_drewN ?_ _ | refine Below.alloc ?_ (by simp; try omega) _ | refine Below.setCell ?_ (by simp; try omega) _)))).mono ?_; rintro e w1 ⟨rfl, hb1⟩; have hB1 := Bel.step (B := w.heap.size) (a := w) (by repeat (first | assumption | exact Bel.refl _ | refine Bel.drew ?_ | refine Bel.drewN ?_ _ | refine Bel.alloc ?_ _ | refine Bel.setCell ?_ (by simp; try omega) _)) hb1; clear hb1))
      go_ret2
      exact rowEnd_fail hB1.1
    | true =>
      have hn20 := joinsB_le' hok
      have hall := fun k => joinsB_at (zs := zs) (n := n) (k := k) hok
      have HA := Lib.hid hall
      rw [show badF d o p zs n = badTo d o p zs n by simp [badF, hok, hg], show badC d o p zs n = 0 by simp [badC, hok, hg]]
      rw [hok] at hv
      have H := Lib.hid hv
      clear hv hok hall
      by_cases h0 : n = 0
      · subst h0
        clear hl ha
        go_enter Try.func37, Try.ntmps37
        go_wp2_with (first | (go_at_call 54; refine (l19Ok_any _ _ _ _).mono ?_; rintro e w1 ⟨rfl, rfl⟩) | (go_at_call 68; refine (H.out _ (by exact (by repeat (first | exact Below.refl _ _ | assumption | refine Below.drew ?_ | refine below_drewN ?_ _ | refine Below.alloc ?_ (by simp; try omega) _ | refine Below.setCell ?_ (by simp; try omega) _)))).mono ?_; rintro e w1 ⟨rfl, hb1⟩; have hB1 := Bel.step (B := w.heap.size) (a := w) (by repeat (first | assumption | exact Bel.refl _ | refine Bel.drew ?_ | refine Bel.drewN ?_ _ | refine Bel.alloc ?_ _ | refine Bel.setCell ?_ (by simp; try omega) _)) hb1; clear hb1))
        refine wp_loop_once ?_
        go_wp2
        go_ret2
        exact ⟨_, 0, 0, rfl, by simp [badTo], by omega, own_none' _ _ _ _ hB1.2, (hB1.alloc _).1⟩
      · obtain ⟨b, off, rfl, hb, hc⟩ := ha.at_ (by simp; omega)
        have Hz := Lib.hid hl
        have H1 := Lib.hid hc
        clear hl hc ha
        have hcellW : ∀ W : World, Below w.heap.size w W → ∀ j, j < n * 4 → W.cell? ⟨b, off + j, none⟩ = some (.int .i64 (zs.getD j 0)) := fun W hbw j hj => by
          rw [(hbw.cell (p := ⟨b, off + j, none⟩) hb).trans (H1.out j (by have := Hz.out; simp; omega))]
          simp [List.getElem?_eq_getElem (show j < zs.length by rw [Hz.out]; exact hj)]
        have HC := Lib.hid hcellW
        clear hcellW H1
        go_enter Try.func37, Try.ntmps37
        go_wp2_with (first | (go_at_call 54; refine (l19Ok_any _ _ _ _).mono ?_; rintro e w1 ⟨rfl, rfl⟩) | (go_at_call 68; refine (H.out _ (by exact (by repeat (first | exact Below.refl _ _ | assumption | refine Below.drew ?_ | refine below_drewN ?_ _ | refine Below.alloc ?_ (by simp; try omega) _ | refine Below.setCell ?_ (by simp; try omega) _)))).mono ?_; rintro e w1 ⟨rfl, hb1⟩; obtain ⟨hc1, hf1, hl1⟩ := bcell hb1; have hs1 := hl1 w.heap.size (by first | (simp; done) | (simp; omega)); have hB1 := Bel.step (B := w.heap.size) (a := w) (by repeat (first | assumption | exact Bel.refl _ | refine Bel.drew ?_ | refine Bel.drewN ?_ _ | refine Bel.alloc ?_ _ | refine Bel.setCell ?_ (by simp; try omega) _)) hb1; clear hb1))
        have HB1 := Lib.hid hB1
        have hgl : w1.cell? ⟨w.heap.size, 0, none⟩ = some (.int .i64 d) ∧ w1.cell? ⟨w.heap.size, 1, none⟩ = some (.int .i64 o) ∧ w1.cell? ⟨w.heap.size, 2, none⟩ = some (.int .i64 p) := by
          refine ⟨?_, ?_, ?_⟩ <;> (rw [hc1 _ _ (by simp; try omega)]; simp)
        have HG := Lib.hid hgl
        clear hB1 hc1 hf1 hl1 hgl
        go_loopw [6, 7] (fun v i wr => ∃ k : Nat, k ≤ n ∧ i = .int .i64 k ∧ ∃ ds : List Int, Hid (ds = badTo d o p zs k) ∧ Hid (wr.ownsRow w1.heap.size 2 1 v ds.length (ds.map (Value.int .i64))) ∧ Hid (Bel w1.heap.size w1 wr)) (fun _ i _ => n - (intOf i).toNat)
        case atStart => exact ⟨0, Nat.zero_le _, rfl, [], Lib.hid rfl, Lib.hid (own_none _ _ _), Lib.hid ((Bel.refl w1).alloc _)⟩
        case round =>
          obtain ⟨k, hk, rfl, ds, hds, hown, hin⟩ := hrel
          have hdl : ds.length ≤ k := by rw [hds.out]; exact badTo_length _ _ _ _ _
          by_cases hlt : k < n
          · have hcell := HC.out wr (HB1.out.step hin.out.1).1
            obtain ⟨x0, hx0⟩ : ∃ z, zs.getD (k * 4) 0 = z := ⟨_, rfl⟩
            obtain ⟨x1, hx1⟩ : ∃ z, zs.getD (k * 4 + 1) 0 = z := ⟨_, rfl⟩
            obtain ⟨x2, hx2⟩ : ∃ z, zs.getD (k * 4 + 2) 0 = z := ⟨_, rfl⟩
            obtain ⟨x3, hx3⟩ : ∃ z, zs.getD (k * 4 + 3) 0 = z := ⟨_, rfl⟩
            have c0 := hcell (k * 4) (by omega)
            have c1 := hcell (k * 4 + 1) (by omega)
            have c2 := hcell (k * 4 + 2) (by omega)
            have c3 := hcell (k * 4 + 3) (by omega)
            have hj := HA.out k hlt
            obtain ⟨fs, hfs⟩ : ∃ q, faultAt d o p zs k = q := ⟨_, rfl⟩
            have hfs2 := hfs
            simp only [faultAt, hx0, hx1, hx2, hx3] at hfs2
            simp only [joinAt, hx0, hx1, hx2, hx3, joinB_true] at hj
            obtain ⟨j1, j2, j3, j4, j5, j6, j7, j8, j9, j10⟩ := hj
            rw [hx0] at c0
            rw [hx1, ← Nat.add_assoc] at c1
            rw [hx2, ← Nat.add_assoc] at c2
            rw [hx3, ← Nat.add_assoc] at c3
            have hbr : b < wr.heap.size := Nat.lt_of_lt_of_le hb (HB1.out.step hin.out.1).1.size
            have hfault := l19Fault_any d o p x0 x1 x2 x3 b (off + k * 4) wr.drew g1 g2 g3 j1 j2 j3 j4 j5 j6 j7 j8 hbr c0 c1 c2 c3
            rw [hfs2] at hfault
            have Hfs := Lib.hid hfs
            have HF := Lib.hid hfault
            clear hcell hx0 hx1 hx2 hx3 hfs hfs2 hfault j9 j10
            have hlt' : (k : Int) < (n : Int) := by omega
            have k0 : wr.cell? ⟨w.heap.size, 0, none⟩ = some (.int .i64 d) := (hin.out.1.cell (p := ⟨w.heap.size, 0, none⟩) hs1).trans HG.out.1
            have k1 : wr.cell? ⟨w.heap.size, 1, none⟩ = some (.int .i64 o) := (hin.out.1.cell (p := ⟨w.heap.size, 1, none⟩) hs1).trans HG.out.2.1
            have k2 : wr.cell? ⟨w.heap.size, 2, none⟩ = some (.int .i64 p) := (hin.out.1.cell (p := ⟨w.heap.size, 2, none⟩) hs1).trans HG.out.2.2
            have hsr : w.heap.size < wr.heap.size := Nat.lt_of_lt_of_le hs1 hin.out.1.size
            by_cases hf : fs = noneS
            · subst hf
              rw [noneS] at HF
              go_wp2_with fail
              go_still_tail 4, (by kernel_rfl)
              go_wp2_with (go_at_call 65; refine HF.out.mono ?_; rintro e w2 ⟨rfl, hb2⟩)
              go_roundw
              case rel => exact ⟨k + 1, by omega, by go_num, ds, Lib.hid (bad_miss hds.out Hfs.out), Lib.hid (own_below (w := wr.drew) hown.out hb2), Lib.hid (hin.out.drew.step hb2)⟩
              case measure => simp [intOf]; omega
            · have hcs := fault_cases Hfs.out hf
              have Hnf := Lib.hid hf
              clear hf
              rcases hcs with rfl | rfl | rfl
              all_goals
                go_wp2_with fail
                go_still_tail 4, (by kernel_rfl)
                go_wp2_with (first | (go_at_call 65; refine HF.out.mono ?_; rintro e w2 ⟨rfl, hb2⟩; have Hb2 := Lib.hid hb2; clear hb2) | (at_builtin; refine appI (by rfl) _ _ (by rfl) w1.heap.size _ _ _ (by rfl) (own_below (w := wr.drew) hown.out Hb2.out) _ 1 (by rfl) (by omega) (hin.out.drew.step Hb2.out) ?_; intro g cap w3 ho3 hb3))
                have Ho3 := Lib.hid ho3
                have Hb3 := Lib.hid hb3
                clear ho3 hb3
                go_wp2
                go_roundw
                case rel => exact ⟨k + 1, by omega, by go_num, ds ++ [(k : Int)], Lib.hid (bad_hit hds.out (by rw [Hfs.out]; exact Hnf.out)), Lib.hid (by simpa using Ho3.out), Hb3⟩
                case measure => simp [intOf]; omega
          · go_wp2
            go_ret2
            obtain rfl : k = n := by omega
            obtain ⟨a', cap', rfl⟩ := own_cap hown.out
            rw [← hds.out]
            exact ⟨a', ds.length, cap', rfl, by omega, by omega, own_base hown.out HB1.out.2, (HB1.out.step hin.out.1).1⟩
end Go.Proofs.Ytcajpedhfljhdaa
