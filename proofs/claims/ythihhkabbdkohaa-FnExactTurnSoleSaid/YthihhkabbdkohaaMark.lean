/-
  The laws' own markText, markStuffS, markSole, heldSole: contracts. No condition of its own.
-/
import Derived.Test.YthihhkabbdkohaaSole
import Derived.Outline
import Derived.WalkLawsBesides
import Derived.WalkSpells
namespace Go.Proofs.Ythihhkabbdkohaa
open Go.ChangeShapes Go.WideShapes Go.ChangeAt Go.RowKit Go.Deep Go.Shelf

theorem dig_down {x : Int} {m : Nat} (h : x < ((10 ^ (m + 1) : Nat) : Int)) : x / 10 < ((10 ^ m : Nat) : Int) := by
  rw [Nat.pow_succ] at h
  omega
/-- A text is answered. -/
def TextEnd (w : World) (e : Ending) (w' : World) : Prop := ∃ t : ByteArray, e = .returned (.string t) ∧ t.size ≤ 30 ∧ Below w.heap.size w w'
theorem strOf_one (n : Int) : (strOfNums [n]).size = 1 := rfl
set_option maxRecDepth 100000 in
set_option maxHeartbeats 1600000 in
theorem markText_any (k : Int) (w : World) (h0 : 0 ≤ k) (h1 : k ≤ 4611686018427387904) :
    Calls Try.prog 43 #[.int .i64 k] w (TextEnd w) := by
  by_cases hz : k ≤ 0
  · go_enter Try.func43, Try.ntmps43
    go_wp2
    go_ret
    exact ⟨_, rfl, by decide, Below.refl _ _⟩
  · have hd : k < ((10 ^ 19 : Nat) : Int) := by omega
    have HD := Lib.hid hd
    clear hd
    go_enter Try.func43, Try.ntmps43
    go_wp2
    go_loopw [0, 3] (fun u v wr => ∃ (j : Nat) (x : Int) (s : ByteArray), j ≤ 19 ∧ u = .int .i64 x ∧ v = .string s ∧ 0 ≤ x ∧ x ≤ 4611686018427387904 ∧ s.size ≤ j ∧ Hid (x < ((10 ^ (19 - j) : Nat) : Int)) ∧ Hid (Bel w.heap.size w wr)) (fun u _ _ => (intOf u).toNat)
    case atStart => exact ⟨0, k, ByteArray.empty, by omega, rfl, rfl, h0, h1, by simp, HD, Lib.hid (Bel.refl w)⟩
    case round =>
      obtain ⟨j, x, s, hj, rfl, rfl, hx0, hx1, hs, hx, hbw⟩ := hrel
      by_cases hlt : 0 < x
      · have hm1 := Int.emod_nonneg x (show (10 : Int) ≠ 0 by omega)
        have hm2 := Int.emod_lt_of_pos x (show (0 : Int) < 10 by omega)
        have hcell : ∀ i, i < 1 → (wr.alloc (.cells #[.int .u8 (48 + x % 10)] 5)).cell? ⟨wr.heap.size, 0 + i, none⟩ = some (.int .u8 ([48 + x % 10].getD i 0)) := fun i hi => by
          obtain rfl : i = 0 := by omega
          simp [go_sem]
        have hcv := run_convert_bytes_arg (P := Try.prog) (wr.alloc (.cells #[.int .u8 (48 + x % 10)] 5)) 71 5 Try.underlying71 Try.underlying5 wr.heap.size 0 1 1 [48 + x % 10] rfl hcell 9 Try.underlying9
        obtain ⟨t, ht⟩ : ∃ t, strOfNums [48 + x % 10] = t := ⟨_, rfl⟩
        have htz : t.size = 1 := by rw [← ht]; exact strOf_one _
        have hj1 : j + 1 ≤ 19 := by
          rcases Nat.lt_or_ge j 19 with h | h
          · omega
          · have h2 := hx.out
            rw [show 19 - j = 0 by omega] at h2
            simp at h2
            omega
        have HX := Lib.hid (show x / 10 < ((10 ^ (19 - (j + 1)) : Nat) : Int) from dig_down (by rw [show 19 - (j + 1) + 1 = 19 - j by omega]; exact hx.out))
        rw [ht] at hcv
        clear ht hcell
        go_wp2
        go_roundw
        case rel => exact ⟨j + 1, x / 10, t ++ s, hj1, rfl, rfl, by omega, by omega, by rw [ByteArray.size_append]; omega, HX, Lib.hid (hbw.out.alloc _)⟩
        case measure => simp [intOf]; omega
      · go_wp2
        go_ret
        exact ⟨_, rfl, by rw [ByteArray.size_append, show (⟨#[109]⟩ : ByteArray).size = 1 from rfl]; omega, hbw.out.1⟩
set_option maxRecDepth 100000 in
set_option maxHeartbeats 3200000 in
/-- A marking of stuffs: it ends, and only their block has turned. -/
theorem markStuffS_any (g n c B : Nat) (k0 : Int) (cs : List Value) (w : World) (hn : n ≤ 1048576) (h1 : 0 ≤ k0) (h2 : k0 ≤ 4294967296) (ho : w.ownsRow B 49 5 (.slice (some ⟨g, 0, none⟩) n c) n cs) :
    Calls Try.prog 22 #[.slice (some ⟨g, 0, none⟩) n c, .int .i64 k0] w fun e w' => e = .returned (.int .i64 (k0 + ((n * 5 : Nat) : Int))) ∧ w.grownBy w' (some g) := by
  have Hl := Lib.hid ho.1
  have Ho := Lib.hid ho
  clear ho
  go_enter Try.func22, Try.ntmps22
  go_wp2
  go_loopw [1, 5] (fun y i wr => ∃ k : Nat, k ≤ n ∧ i = .int .i64 k ∧ (∃ z : Int, y = .int .i64 z ∧ Hid (z = k0 + ((k * 5 : Nat) : Int))) ∧ (∃ ds : List Value, Hid (wr.ownsRow B 49 5 (.slice (some ⟨g, 0, none⟩) n c) n ds)) ∧ Hid (w.grownBy wr (some g)))
    (fun _ i _ => n - (intOf i).toNat)
  case atStart => exact ⟨0, Nat.zero_le _, rfl, ⟨k0, rfl, Lib.hid (by simp)⟩, ⟨cs, Ho⟩, Lib.hid (World.grownBy.refl _ _)⟩
  case round =>
    obtain ⟨k, hk, rfl, ⟨z, rfl, hzk⟩, ⟨ds, hown⟩, hgr⟩ := hrel
    have hzb : 0 ≤ z ∧ z ≤ 8589934592 := by have := hzk.out; omega
    obtain ⟨hz1, hz2⟩ := hzb
    by_cases hlt : k < n
    · have HM := Lib.hid (markText_any z wr hz1 (by omega))
      have i1 : (k : Int) < (n : Int) := by omega
      go_wp2_with fail
      refine HM.out.mono ?_
      rintro e w1 ⟨t, rfl, _, hb1⟩
      have hown1 := own_below hown.out hb1
      have hgr1 : w.grownBy w1 (some g) := grown_trans_row hgr.out ⟨hb1.os, hb1.tape, hb1.output, hb1.size, fun i hi _ => hb1.block i hi⟩
      have hcell := fun (W : World) (ds : List Value) (h : W.ownsRow B 49 5 (.slice (some ⟨g, 0, none⟩) n c) n ds) (j : Nat) (hj : j < n * 5) => (show ∃ u, W.cell? ⟨g, j, none⟩ = some u from by
        rw [h.cellAt j (by omega)]
        exact ⟨_, List.getElem?_eq_getElem (by rw [h.1]; omega)⟩)
      obtain ⟨u0, hu0⟩ := hcell _ _ hown1 (k * 5) (by omega)
      obtain ⟨u1, hu1⟩ := hcell _ _ hown1 (k * 5 + 1) (by omega)
      obtain ⟨u2, hu2⟩ := hcell _ _ hown1 (k * 5 + 2) (by omega)
      obtain ⟨u3, hu3⟩ := hcell _ _ hown1 (k * 5 + 3) (by omega)
      obtain ⟨u4, hu4⟩ := hcell _ _ hown1 (k * 5 + 4) (by omega)
      have f0 := hown1.frozenAt (k * 5)
      have f1 := hown1.frozenAt (k * 5 + 1)
      have f2 := hown1.frozenAt (k * 5 + 2)
      have f3 := hown1.frozenAt (k * 5 + 3)
      have f4 := hown1.frozenAt (k * 5 + 4)
      have s0 := hown1.stored (k * 5) (.string t)
      have s1 := s0.1.stored (k * 5 + 1) (.int .i64 (z + 1))
      have s2 := s1.1.stored (k * 5 + 2) (.int .i64 (z + 1 + 1))
      have s3 := s2.1.stored (k * 5 + 3) (.int .i64 (z + 1 + 1 + 1))
      have s4 := s3.1.stored (k * 5 + 4) (.int .i64 (z + 1 + 1 + 1 + 1))
      have HS := Lib.hid s4.1
      have HG := Lib.hid (grown_trans_row (grown_trans_row (grown_trans_row (grown_trans_row (grown_trans_row hgr1 s0.2) s1.2) s2.2) s3.2) s4.2)
      clear s0 s1 s2 s3 s4 hown1 hgr1 hb1 hcell hown hgr HM
      go_wp2_with fail
      go_roundw
      case rel => exact ⟨k + 1, by omega, by go_num, ⟨_, rfl, Lib.hid (by have := hzk.out; omega)⟩, ⟨_, HS⟩, HG⟩
      case measure => simp [intOf]; omega
    · obtain rfl : k = n := by omega
      go_wp2
      go_ret
      exact ⟨ret_int hzk.out, hgr.out⟩
theorem grown_alloc_row {w w' : World} {o : Obj} {row : Option Nat} (hg : (w.alloc o).grownBy w' row) : w.grownBy w' row := by
  refine ⟨hg.os, hg.tape, hg.output, Nat.le_trans (by simp) hg.size, fun i hi hne => (hg.block i (by simp; omega) hne).trans ?_⟩
  exact (World.grownBy_alloc w o none).block i hi (by simp)
theorem markSole_any (a : Option Addr) (n c B : Nat) (k0 : Int) (cs : List Value) (w : World) (hn : n ≤ 1048576) (h1 : 0 ≤ k0) (h2 : k0 ≤ 1152921504606846976) (ho : w.ownsRow B 2 1 (.slice a n c) n cs) :
    Calls Try.prog 23 #[.agg #[.slice a n c], .int .i64 k0] w (Marked w B 2 1 (.slice a n c) n n k0) := by
  have HM := Lib.hid (markInt64S_any a n c B k0 cs (w.alloc (.cells #[.slice a n c] 34)) (by omega) h1 h2 (ho.alloc _))
  clear ho
  go_enter Try.func23, Try.ntmps23
  go_wp2_with fail
  refine HM.out.mono ?_
  rintro e w1 ⟨rfl, ho1, hg1⟩
  have H := Lib.hid (And.intro ho1 (grown_alloc_row hg1))
  clear ho1 hg1
  go_wp2_with fail
  go_ret
  exact ⟨rfl, H.out.1, H.out.2⟩
theorem heldSole_any (a : Option Addr) (n c : Nat) (k0 : Int) (w : World) (hn : n ≤ 1048576) (h1 : 0 ≤ k0) (h2 : k0 ≤ 1152921504606846976) (hc : CellsAt w a (marks k0 n)) :
    Calls Try.prog 24 #[.agg #[.slice a n c], .int .i64 k0] w fun e w' => e = .returned (.int .i64 (k0 + ((n : Nat) : Int))) ∧ Below w.heap.size w w' := by
  have HB := Lib.hid ((Bel.refl w).alloc (.cells #[.slice a n c] 34))
  have HM := Lib.hid (heldInt64S_any a n c k0 _ (by omega) h1 h2 (hc.below HB.out.1))
  have g0 : ¬ k0 + (n : Int) < 0 := by omega
  clear hc
  go_enter Try.func24, Try.ntmps24
  go_wp2_with fail
  refine HM.out.mono ?_
  rintro e w1 ⟨rfl, hb1⟩
  have HB1 := Lib.hid (HB.out.step hb1)
  clear hb1
  go_wp2_with fail
  go_ret
  exact ⟨rfl, HB1.out.1⟩
end Go.Proofs.Ythihhkabbdkohaa
