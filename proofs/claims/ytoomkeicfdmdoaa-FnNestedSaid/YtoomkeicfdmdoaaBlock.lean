/-
  Contracts of the laws' own helpers on slices of blocks, and of their validity. No condition of its own.
-/
import Derived.Test.YtoomkeicfdmdoaaCopy
import Derived.Test.YtoomkeicfdmdoaaSlices
import Derived.StillTailTactics
import Derived.BigQuiet
namespace Go.Proofs.Ytoomkeicfdmdoaa
open Go.ChangeShapes Go.WideShapes Go.ChangeAt Go.RowKit Go.Deep Go.Shelf

theorem toBlock_any (x0 : Int) (x1 : Int) (w : World) : Calls Try.prog 64 #[.agg #[.int .i64 x0, .int .i64 x1]] w fun e w' => e = .returned (.agg #[.int .i64 x0, .int .i64 x1]) ∧ ((w.alloc (.cells #[.int .i64 x0, .int .i64 x1] 74)).alloc (.cells #[.int .i64 x0, .int .i64 x1] 72)).alloc (.cells #[.int .i64 x0, .int .i64 x1] 72) = w' := by
  go_enter Try.func64, Try.ntmps64
  go_wp2
  exact bodyPost_ret (v := .agg #[.int .i64 x0, .int .i64 x1]) (by simp [results, Try.results64, go_sem]) rfl ⟨rfl, rfl⟩

theorem infoBlock : (Try.prog.info? 72).map (fun i => (i.zero, i.size, i.bytes)) = some (some (.agg #[.int .i64 0, .int .i64 0]), 2, 16) := by kernel_rfl
theorem makeBlock (n : Nat) (hn : n ≤ 1048576) (w : World) : (Instr.makeSlice 43 (.int .i64 (n : Int)) (.int .i64 (n : Int))).run Try.prog w =
    .ok (.slice (some ⟨w.heap.size, 0, none⟩) n n) (w.alloc (.cells (madeCells #[.int .i64 0, .int .i64 0] (n * 2)) 72)) := by
  obtain ⟨i, hi, h0, h1, h2⟩ := info_parts infoBlock
  have hr := run_make (P := Try.prog) w 43 72 i _ Try.underlying43 hi h0 .i64 .i64 n n (by omega) (Int.le_refl _) (by rw [h2]; omega) (by omega)
  simp only [Int.toNat_natCast, h1, Value.cells] at hr
  exact hr
theorem madeBlock (n : Nat) (hn : n ≤ 1048576) (w : World) : (w.alloc (.cells (madeCells #[.int .i64 0, .int .i64 0] (n * 2)) 72)).ownsRow w.heap.size 72 2 (.slice (some ⟨w.heap.size, 0, none⟩) n n) n (madeCells #[.int .i64 0, .int .i64 0] (n * 2)).toList :=
  World.ownsRow_lit (size := 2) (e := 72) w _ n (Nat.le_refl _) (by unfold maxLen; omega) (size_madeCells _ _)

set_option maxHeartbeats 1600000 in
theorem toBlockS_any (a : Option Addr) (n c : Nat) (zs : List Int) (w : World) (hz : zs.length = n * 2) (hn : n ≤ 1048576) (hc : CellsAt w a (zs.map (Value.int .i64))) :
    Calls Try.prog 29 #[.slice a n c] w (NewRow w 72 2 n (zs.map (Value.int .i64))) := by
  have hmk := makeBlock n hn
  have hst := madeBlock n hn w
  have hzl : (madeCells #[.int .i64 0, .int .i64 0] (n * 2)).toList.length = n * 2 := by simp [size_madeCells]
  generalize (madeCells #[.int .i64 0, .int .i64 0] (n * 2)) = zr at hmk hst hzl
  rcases hc with h0 | ⟨b, off, rfl, hb, hcell⟩
  · have h1 : zs = [] := by simpa using h0
    have hn0 : n ≤ 0 := by
      have : n * 2 = 0 := by rw [← hz, h1]; rfl
      omega
    have HS := Lib.hid hst
    have Hz := Lib.hid hz
    have H1 := Lib.hid h1
    have Hl := Lib.hid hzl
    clear hst hz h0 h1 hzl
    go_enter Try.func29, Try.ntmps29
    go_wp2
    refine wp_loop_once ?_
    go_wp2
    go_ret
    have h1 := H1.out
    subst h1
    have h2 : n = 0 := by omega
    subst h2
    have e : zr.toList = [] := List.eq_nil_of_length_eq_zero (by simpa using Hl.out)
    have h3 := HS.out
    rw [e] at h3
    exact newRow_intro h3 ((Below.refl _ _).alloc (Nat.le_refl _) _)
  · have HS := Lib.hid hst
    have Hz := Lib.hid hz
    have Hc := Lib.hid hcell
    have Hl := Lib.hid hzl
    clear hst hz hcell hzl
    go_enter Try.func29, Try.ntmps29
    go_wp2
    go_loopw [4] (fun i wr => ∃ k : Nat, k ≤ n ∧ i = .int .i64 k ∧ wr.ownsRow w.heap.size 72 2 (.slice (some ⟨w.heap.size, 0, none⟩) n n) n ((zs.map (Value.int .i64)).take (k * 2) ++ zr.toList.drop (k * 2)) ∧ Below w.heap.size w wr)
      (fun i _ => n - (intOf i).toNat)
    case atStart => exact ⟨0, Nat.zero_le _, rfl, by simpa using HS.out, (Below.refl _ _).alloc (Nat.le_refl _) _⟩
    case round =>
      obtain ⟨k, hk, rfl, hown, hbw⟩ := hrel
      by_cases hlt : k < n
      · have hkz : k * 2 + 2 ≤ zs.length := by rw [Hz.out]; omega
        have hsz : w.heap.size < wr.heap.size := (hown.lt _ rfl).2
        have hsz1 : w.heap.size < wr.heap.size + 1 := by omega
        have hsz2 : w.heap.size < wr.heap.size + 1 + 1 := by omega
        obtain ⟨x0, hx0⟩ : ∃ x, x = zs.getD (k * 2) 0 := ⟨_, rfl⟩
        have hc0 : wr.cell? ⟨b, off + k * 2, none⟩ = some (.int .i64 x0) := by
          have h := (hbw.cell (p := ⟨b, off + (k * 2), none⟩) hb).trans (Hc.out (k * 2) (by simp; omega))
          rw [show off + (k * 2) = off + k * 2 from by omega] at h
          rw [h, hx0]
          simp [List.getElem?_eq_getElem (show k * 2 < zs.length by omega)]
        obtain ⟨u0, hu0⟩ : ∃ u, wr.cell? ⟨w.heap.size, k * 2, none⟩ = some u := by
          rw [hown.cellAt (k * 2) (by omega)]
          exact ⟨_, List.getElem?_eq_getElem (by rw [hown.1]; omega)⟩
        have hf0 := hown.frozenAt (k * 2)
        have Hx0 := Lib.hid hx0
        clear hx0
        obtain ⟨x1, hx1⟩ : ∃ x, x = zs.getD (k * 2 + 1) 0 := ⟨_, rfl⟩
        have hc1 : wr.cell? ⟨b, off + k * 2 + 1, none⟩ = some (.int .i64 x1) := by
          have h := (hbw.cell (p := ⟨b, off + (k * 2 + 1), none⟩) hb).trans (Hc.out (k * 2 + 1) (by simp; omega))
          rw [show off + (k * 2 + 1) = off + k * 2 + 1 from by omega] at h
          rw [h, hx1]
          simp [List.getElem?_eq_getElem (show k * 2 + 1 < zs.length by omega)]
        obtain ⟨u1, hu1⟩ : ∃ u, wr.cell? ⟨w.heap.size, k * 2 + 1, none⟩ = some u := by
          rw [hown.cellAt (k * 2 + 1) (by omega)]
          exact ⟨_, List.getElem?_eq_getElem (by rw [hown.1]; omega)⟩
        have hf1 := hown.frozenAt (k * 2 + 1)
        have Hx1 := Lib.hid hx1
        clear hx1
        have hsd0 := hown.stored (k * 2) (.int .i64 x0)
        have hsd1 := hsd0.1.stored (k * 2 + 1) (.int .i64 x1)
        have Hs := Lib.hid hsd1.1
        have hbx : Bel w.heap.size w wr := Bel.of hbw
        have Hb := Lib.hid (((hbx).grown hsd0.2 (fun k h => by cases h; exact Nat.le_refl _)).grown hsd1.2 (fun k h => by cases h; exact Nat.le_refl _))
        clear hsd0 hsd1 hown hbw hbx
        go_wp2_with (go_at_call 64; refine (toBlock_any _ _ _).mono ?_; rintro e w1 ⟨rfl, rfl⟩)
        go_roundw
        case rel =>
          refine ⟨k + 1, by omega, by go_num, ?_, (((Hb.out.alloc _).alloc _).alloc _).1⟩
          have h := ((Hs.out.alloc (.cells #[.int .i64 x0, .int .i64 x1] 74)).alloc (.cells #[.int .i64 x0, .int .i64 x1] 72)).alloc (.cells #[.int .i64 x0, .int .i64 x1] 72)
          rw [set_fill _ _ (k * 2) _ (by simp; omega) (by simp [Hz.out]; simpa using Hl.out) (by rw [Hx0.out]; simp [List.getElem?_eq_getElem (show k * 2 < zs.length by omega)])] at h
          rw [set_fill _ _ (k * 2 + 1) _ (by simp; omega) (by simp [Hz.out]; simpa using Hl.out) (by rw [Hx1.out]; simp [List.getElem?_eq_getElem (show k * 2 + 1 < zs.length by omega)])] at h
          rw [show (k + 1) * 2 = k * 2 + 2 from by omega]
          exact h
        case measure => simp [intOf]; omega
      · go_wp2
        go_ret
        have e : k = n := by omega
        subst e
        refine newRow_intro ?_ hbw
        have h := hown
        rw [List.take_of_length_le (by simp [Hz.out]), List.drop_of_length_le (by rw [Hl.out]; exact Nat.le_refl _), List.append_nil] at h
        exact h
theorem eqBlock_any (x0 x1 : Int) (w : World) : Calls Try.prog 66 #[.agg #[.int .i64 x0, .int .i64 x1], .agg #[.int .i64 x0, .int .i64 x1]] w fun e w' => e = .returned (.bool true) ∧ (w.alloc (.cells #[.int .i64 x0, .int .i64 x1] 72)).alloc (.cells #[.int .i64 x0, .int .i64 x1] 72) = w' := by
  go_enter Try.func66, Try.ntmps66
  go_wp2
  go_ret
  exact ⟨rfl, rfl⟩
set_option maxRecDepth 100000 in
set_option maxHeartbeats 1600000 in
theorem eqBlockS_any (a b : Option Addr) (n c d : Nat) (zs : List Int) (w : World) (hz : zs.length = n * 2) (hn : n ≤ 1073741824) (ha : CellsAt w a (zs.map (Value.int .i64))) (hb : CellsAt w b (zs.map (Value.int .i64))) :
    Calls Try.prog 31 #[.slice a n c, .slice b n d] w fun e w' => e = .returned (.bool true) ∧ Below w.heap.size w w' := by
  by_cases h0 : n = 0
  · subst h0
    have Hz := Lib.hid hz
    clear hz ha hb
    go_enter Try.func31, Try.ntmps31
    go_wp2
    refine wp_loop_once ?_
    go_wp2
    go_ret
    exact ⟨rfl, Below.refl _ _⟩
  · obtain ⟨b1, o1, rfl, hb1, hc1⟩ := ha.at_ (by simp; omega)
    obtain ⟨b2, o2, rfl, hb2, hc2⟩ := hb.at_ (by simp; omega)
    have Hz := Lib.hid hz
    have H1 := Lib.hid hc1
    have H2 := Lib.hid hc2
    clear hz hc1 hc2 ha hb
    have hnn : ((n : Int) != (n : Int)) = false := by simp
    go_enter Try.func31, Try.ntmps31
    go_wp2
    go_loopw [5] (fun i wr => ∃ k : Nat, k ≤ n ∧ i = .int .i64 k ∧ Below w.heap.size w wr) (fun i _ => n - (intOf i).toNat)
    case atStart => exact ⟨0, Nat.zero_le _, rfl, Below.refl _ _⟩
    case round =>
      obtain ⟨k, hk, rfl, hbw⟩ := hrel
      by_cases hlt : k < n
      · have hkz : k * 2 + 2 ≤ zs.length := by rw [Hz.out]; omega
        obtain ⟨x0, hx0⟩ : ∃ x, x = zs.getD (k * 2) 0 := ⟨_, rfl⟩
        have hc10 : wr.cell? ⟨b1, o1 + k * 2, none⟩ = some (.int .i64 x0) := by
          have h := (hbw.cell (p := ⟨b1, o1 + (k * 2), none⟩) hb1).trans (H1.out (k * 2) (by simp; omega))
          rw [show o1 + (k * 2) = o1 + k * 2 from by omega] at h
          rw [h, hx0]
          simp [List.getElem?_eq_getElem (show k * 2 < zs.length by omega)]
        have hc20 : wr.cell? ⟨b2, o2 + k * 2, none⟩ = some (.int .i64 x0) := by
          have h := (hbw.cell (p := ⟨b2, o2 + (k * 2), none⟩) hb2).trans (H2.out (k * 2) (by simp; omega))
          rw [show o2 + (k * 2) = o2 + k * 2 from by omega] at h
          rw [h, hx0]
          simp [List.getElem?_eq_getElem (show k * 2 < zs.length by omega)]
        clear hx0
        obtain ⟨x1, hx1⟩ : ∃ x, x = zs.getD (k * 2 + 1) 0 := ⟨_, rfl⟩
        have hc11 : wr.cell? ⟨b1, o1 + k * 2 + 1, none⟩ = some (.int .i64 x1) := by
          have h := (hbw.cell (p := ⟨b1, o1 + (k * 2 + 1), none⟩) hb1).trans (H1.out (k * 2 + 1) (by simp; omega))
          rw [show o1 + (k * 2 + 1) = o1 + k * 2 + 1 from by omega] at h
          rw [h, hx1]
          simp [List.getElem?_eq_getElem (show k * 2 + 1 < zs.length by omega)]
        have hc21 : wr.cell? ⟨b2, o2 + k * 2 + 1, none⟩ = some (.int .i64 x1) := by
          have h := (hbw.cell (p := ⟨b2, o2 + (k * 2 + 1), none⟩) hb2).trans (H2.out (k * 2 + 1) (by simp; omega))
          rw [show o2 + (k * 2 + 1) = o2 + k * 2 + 1 from by omega] at h
          rw [h, hx1]
          simp [List.getElem?_eq_getElem (show k * 2 + 1 < zs.length by omega)]
        clear hx1
        have hb' : Bel w.heap.size w wr := Bel.of hbw
        have Hb := Lib.hid hb'
        clear hbw hb'
        have hlt' : (k : Int) < (n : Int) := by omega
        go_wp2_with fail
        go_still_tail 8, (by kernel_rfl)
        go_wp2_with (go_at_call 66; refine (eqBlock_any _ _ _).mono ?_; rintro e w1 ⟨rfl, rfl⟩)
        go_roundw
        case rel => exact ⟨k + 1, by omega, by go_num, (((Hb.out.alloc _).alloc _).drew).1⟩
        case measure => simp [intOf]; omega
      · go_wp2
        go_ret
        exact ⟨rfl, hbw⟩
theorem szBlockS_any (a : Option Addr) (n c : Nat) (left : Int) (w : World) (h1 : 0 ≤ left) (h2 : left ≤ 1048576) (hn : n ≤ maxLen) :
    Calls Try.prog 27 #[.slice a n c, .int .i64 left] w fun e w' => e = .returned (.int .i64 (if left < n then -1 else left - n)) ∧ w = w' := by
  unfold maxLen at hn
  by_cases h : left < n
  · rw [if_pos h]
    go_enter Try.func27, Try.ntmps27
    go_wp2
    go_ret
    exact ⟨rfl, rfl⟩
  · rw [if_neg h]
    go_enter Try.func27, Try.ntmps27
    go_wp2
    go_ret
    exact ⟨rfl, rfl⟩
set_option maxHeartbeats 1600000 in
theorem markBlockS_any (a : Option Addr) (n c B : Nat) (k0 : Int) (cs : List Value) (w : World) (hn : n ≤ 1073741824) (h1 : 0 ≤ k0) (h2 : k0 ≤ 1152921504606846976) (ho : w.ownsRow B 72 2 (.slice a n c) n cs) :
    Calls Try.prog 34 #[.slice a n c, .int .i64 k0] w (Marked w B 72 2 (.slice a n c) n (n * 2) k0) := by
  rcases own_form ho with h0 | ⟨g, rfl⟩
  · subst h0
    have hz := cells_zero ho rfl
    subst hz
    have Ho := Lib.hid ho
    clear ho
    go_enter Try.func34, Try.ntmps34
    go_wp2
    refine wp_loop_once ?_
    go_wp2
    go_ret
    exact ⟨ret_int (by simp), by simpa [marks] using Ho.out, World.grownBy.refl _ _⟩
  · have hl := ho.1
    have Hl := Lib.hid hl
    have Ho := Lib.hid ho
    clear hl ho
    go_enter Try.func34, Try.ntmps34
    go_wp2
    go_loopw [1, 5] (fun y i wr => ∃ k : Nat, k ≤ n ∧ i = .int .i64 k ∧ (∃ z : Int, y = .int .i64 z ∧ Hid (z = k0 + ((k * 2 : Nat) : Int))) ∧ wr.ownsRow B 72 2 (.slice (some ⟨g, 0, none⟩) n c) n (marks k0 (k * 2) ++ cs.drop (k * 2)) ∧ w.grownBy wr (some g))
      (fun _ i _ => n - (intOf i).toNat)
    case atStart => exact ⟨0, Nat.zero_le _, rfl, ⟨k0, rfl, Lib.hid (by simp)⟩, by simpa [marks] using Ho.out, World.grownBy.refl _ _⟩
    case round =>
      obtain ⟨k, hk, rfl, ⟨z, rfl, hzk⟩, hown, hgr⟩ := hrel
      have hzb : 0 ≤ z ∧ z ≤ 2305843009213693952 := by have := hzk.out; omega
      obtain ⟨hz1, hz2⟩ := hzb
      by_cases hlt : k < n
      · have hkz : k * 2 + 2 ≤ cs.length := by rw [Hl.out]; omega
        obtain ⟨u0, hu0⟩ : ∃ u, wr.cell? ⟨g, k * 2, none⟩ = some u := by
          rw [hown.cellAt (k * 2) (by omega)]
          exact ⟨_, List.getElem?_eq_getElem (by rw [hown.1]; omega)⟩
        have hf0 := hown.frozenAt (k * 2)
        obtain ⟨u1, hu1⟩ : ∃ u, wr.cell? ⟨g, k * 2 + 1, none⟩ = some u := by
          rw [hown.cellAt (k * 2 + 1) (by omega)]
          exact ⟨_, List.getElem?_eq_getElem (by rw [hown.1]; omega)⟩
        have hf1 := hown.frozenAt (k * 2 + 1)
        have hsd0 := hown.stored (k * 2) (.int .i64 (z))
        have hsd1 := hsd0.1.stored (k * 2 + 1) (.int .i64 (z + 1))
        have Hs := Lib.hid hsd1.1
        have Hg := Lib.hid (grown_trans_row (grown_trans_row (hgr) hsd0.2) hsd1.2)
        clear hsd0 hsd1 hown hgr
        go_wp2
        go_roundw
        case rel =>
          refine ⟨k + 1, by omega, by go_num, ⟨z + 1 + 1, rfl, Lib.hid (by have := hzk.out; omega)⟩, ?_, Hg.out⟩
          have h := Hs.out
          rw [marks_set' _ _ (k * 2) (z) (by omega) (by have := hzk.out; omega)] at h
          rw [marks_set' _ _ (k * 2 + 1) (z + 1) (by omega) (by have := hzk.out; omega)] at h
          rw [show (k + 1) * 2 = k * 2 + 2 from by omega]
          exact h
        case measure => simp [intOf]; omega
      · go_wp2
        go_ret
        have e : k = n := by omega
        subst e
        have h := hown
        rw [List.drop_of_length_le (by rw [Hl.out]; omega), List.append_nil] at h
        exact ⟨ret_int (by have := hzk.out; omega), h, hgr⟩

set_option maxHeartbeats 1600000 in
theorem indexBlock_any (a : Option Addr) (n c : Nat) (zs : List Int) (p : Nat → Bool) (g : Nat) (lb : Array Value) (w : World) (eg : ∀ args w, (callFunc g args).run Try.prog w = .ok (.enter g args) w)
    (hz : zs.length = n * 2) (hn : n ≤ 1073741824) (hc : CellsAt w a (zs.map (Value.int .i64)))
    (hp : ∀ (k : Nat) (W : World), Below w.heap.size w W → k < n → Calls Try.prog g (#[.agg #[.int .i64 (zs.getD (k * 2) 0), .int .i64 (zs.getD (k * 2 + 1) 0)]] ++ lb) W fun e W' => e = .returned (.bool (p k)) ∧ Below W.heap.size W W') :
    Calls Try.prog 92 #[.slice a n c, .func (.func g) #[] lb] w fun e w' => e = .returned (.int .i64 (idxI p (List.range n))) ∧ Below w.heap.size w w' := by
  by_cases h0 : n = 0
  · subst h0
    clear hz hc hp eg
    go_enter Try.func92, Try.ntmps92
    go_wp2
    refine wp_loop_once ?_
    go_wp2
    go_ret
    exact ⟨rfl, Below.refl _ _⟩
  · obtain ⟨b, off, rfl, hb, hcell⟩ := hc.at_ (by simp; omega)
    have Hc := Lib.hid hcell
    have Hz := Lib.hid hz
    have Hp := Lib.hid hp
    clear hcell hz hp hc
    go_enter Try.func92, Try.ntmps92
    go_wp2
    go_loopw [5, 8] (fun _ i wr => ∃ k : Nat, k ≤ n ∧ i = .int .i64 k ∧ Below w.heap.size w wr ∧ Hid (∀ j, j < k → p j = false)) (fun _ i _ => n - (intOf i).toNat)
    case atStart => exact ⟨0, Nat.zero_le _, rfl, Below.refl _ _, Lib.hid (fun j hj => absurd hj (Nat.not_lt_zero _))⟩
    case round =>
      obtain ⟨k, hk, rfl, hbw, hno⟩ := hrel
      by_cases hlt : k < n
      · have hcall := Hp.out k wr hbw hlt
        obtain ⟨x0, hx0⟩ : ∃ x, x = zs.getD (k * 2) 0 := ⟨_, rfl⟩
        have hc0 : wr.cell? ⟨b, off + k * 2, none⟩ = some (.int .i64 x0) := by
          have h := (hbw.cell (p := ⟨b, off + (k * 2), none⟩) hb).trans (Hc.out (k * 2) (by have := Hz.out; simp; omega))
          rw [show off + (k * 2) = off + k * 2 from by omega] at h
          rw [h, hx0]
          simp [List.getElem?_eq_getElem (show k * 2 < zs.length by have := Hz.out; omega)]
        rw [← hx0] at hcall
        clear hx0
        obtain ⟨x1, hx1⟩ : ∃ x, x = zs.getD (k * 2 + 1) 0 := ⟨_, rfl⟩
        have hc1 : wr.cell? ⟨b, off + k * 2 + 1, none⟩ = some (.int .i64 x1) := by
          have h := (hbw.cell (p := ⟨b, off + (k * 2 + 1), none⟩) hb).trans (Hc.out (k * 2 + 1) (by have := Hz.out; simp; omega))
          rw [show off + (k * 2 + 1) = off + k * 2 + 1 from by omega] at h
          rw [h, hx1]
          simp [List.getElem?_eq_getElem (show k * 2 + 1 < zs.length by have := Hz.out; omega)]
        rw [← hx1] at hcall
        clear hx1
        have Hb := Lib.hid hbw
        clear hbw
        have hlt' : (k : Int) < (n : Int) := by omega
        cases hq : p k with
        | true =>
          rw [hq] at hcall
          have Hq := Lib.hid hq
          clear hq
          go_wp2_with (go_at_fn g; refine hcall.mono ?_; rintro e w' ⟨rfl, hb'⟩)
          go_ret
          exact ⟨ret_int (idxI_hit (p := p) (zs := List.range n) (k := k) (x := k) (by simp [hlt]) Hq.out (fun j y hj hy => by
            have hjn : j < n := by omega
            simp [hjn] at hy
            rw [← hy]; exact hno.out j hj)).symm, Hb.out.trans (hb'.mono Hb.out.size)⟩
        | false =>
          rw [hq] at hcall
          have Hq := Lib.hid hq
          clear hq
          go_wp2_with (go_at_fn g; refine hcall.mono ?_; rintro e w' ⟨rfl, hb'⟩)
          go_roundw
          case rel =>
            refine ⟨k + 1, by omega, by go_num, Hb.out.trans (hb'.mono Hb.out.size), Lib.hid (fun j hj => ?_)⟩
            by_cases e : j = k
            · subst e; exact Hq.out
            · exact hno.out j (by omega)
          case measure => simp [intOf]; omega
      · go_wp2
        go_ret
        have e : k = n := by omega
        subst e
        refine ⟨ret_int (idxI_none (p := p) (zs := List.range k) (fun z hz => ?_)).symm, hbw⟩
        exact hno.out z (List.mem_range.1 hz)
theorem containsBlock_any (a : Option Addr) (n c : Nat) (zs : List Int) (p : Nat → Bool) (g : Nat) (lb : Array Value) (w : World) (eg : ∀ args w, (callFunc g args).run Try.prog w = .ok (.enter g args) w)
    (hz : zs.length = n * 2) (hn : n ≤ 1073741824) (hc : CellsAt w a (zs.map (Value.int .i64)))
    (hp : ∀ (k : Nat) (W : World), Below w.heap.size w W → k < n → Calls Try.prog g (#[.agg #[.int .i64 (zs.getD (k * 2) 0), .int .i64 (zs.getD (k * 2 + 1) 0)]] ++ lb) W fun e W' => e = .returned (.bool (p k)) ∧ Below W.heap.size W W') :
    Calls Try.prog 77 #[.slice a n c, .func (.func g) #[] lb] w fun e w' => e = .returned (.bool ((List.range n).any p)) ∧ Below w.heap.size w w' := by
  have hcon := indexBlock_any a n c zs p g lb w eg hz hn hc hp
  have hi := idxI_neg p (List.range n)
  have Hi := Lib.hid hi
  clear hi hz hc hp eg
  generalize idxI p (List.range n) = r at hcon Hi
  generalize (List.range n).any p = q at Hi ⊢
  go_enter Try.func77, Try.ntmps77
  go_wp2_with (go_at_call 92; refine hcon.mono ?_; rintro e w' ⟨rfl, hb'⟩)
  all_goals
    go_ret
    exact ⟨ret_bool Hi.out, hb'⟩

def blockAt (zs : List Int) (roll : Int) (k : Nat) : Bool := inB (zs.getD (k * 2) 0) 1 roll && inB (zs.getD (k * 2 + 1) 0) 1 5000
def blocksB (zs : List Int) (roll : Int) (n : Nat) : Bool := inB roll 1 5000 && (decide (n ≤ 9) && decide (∀ k, k < n → blockAt zs roll k = true))
theorem blocksB_parts {zs : List Int} {roll : Int} {n : Nat} (h : blocksB zs roll n = true) : (1 ≤ roll ∧ roll ≤ 5000) ∧ n ≤ 9 ∧ ∀ k, k < n → blockAt zs roll k = true := by
  simp only [blocksB, Bool.and_eq_true, decide_eq_true_eq, inB_true] at h
  exact h
theorem blocksB_any {zs : List Int} {roll : Int} {n : Nat} (h1 : inB roll 1 5000 = true) (h9 : n ≤ 9) : (!(List.range n).any fun k => !blockAt zs roll k) = blocksB zs roll n := by
  rw [blocksB, h1, decide_eq_true h9, Bool.true_and, Bool.true_and, Bool.eq_iff_iff]
  simp

set_option maxHeartbeats 1600000 in
theorem blockClosure (x y roll : Int) (q : Addr) (w : World) (hq : w.cell? q = some (.int .i64 roll)) (hl : q.block < w.heap.size) : Calls Try.prog 78 (#[.agg #[.int .i64 x, .int .i64 y]] ++ #[.pointer (some q)]) w fun e w' => e = .returned (.bool (!(inB x 1 roll && inB y 1 5000))) ∧ Below w.heap.size w w' := by
  obtain ⟨b, o, t⟩ := q
  cases h1 : inB x 1 roll with
  | false =>
    go_enter Try.func78, Try.ntmps78
    go_wp2_with (go_at_call 76; refine (callsB (within_any _ _ _ _) h1).mono ?_; rintro e w1 ⟨rfl, rfl⟩)
    go_ret
    exact ⟨rfl, (by repeat (first | exact Below.refl _ _ | assumption | refine Below.drew ?_ | refine below_drewN ?_ _ | refine Below.alloc ?_ (by simp; try omega) _ | refine Below.setCell ?_ (by simp; try omega) _))⟩
  | true =>
    go_enter Try.func78, Try.ntmps78
    go_wp2_with fail
    refine (callsB (within_any _ _ _ _) h1).mono ?_
    rintro e w1 ⟨rfl, rfl⟩
    go_wp2_with fail
    refine (within_any _ _ _ _).mono ?_
    rintro e w1 ⟨rfl, rfl⟩
    go_wp2_with fail
    go_ret
    exact ⟨by simp, (by repeat (first | exact Below.refl _ _ | assumption | refine Below.drew ?_ | refine below_drewN ?_ _ | refine Below.alloc ?_ (by simp; try omega) _ | refine Below.setCell ?_ (by simp; try omega) _))⟩
set_option maxHeartbeats 1600000 in
theorem implBlocksOk (a : Option Addr) (n c : Nat) (zs : List Int) (roll : Int) (w : World) (hz : zs.length = n * 2) (hn : n ≤ 1073741824) (ha : CellsAt w a (zs.map (Value.int .i64))) :
    Calls Try.prog 44 #[.slice a n c, .int .i64 roll] w fun e w' => e = .returned (.bool (blocksB zs roll n)) ∧ Below w.heap.size w w' := by
  cases h1 : inB roll 1 5000 with
  | false =>
    rw [show blocksB zs roll n = false by simp [blocksB, h1]]
    clear hz ha
    go_enter Try.func44, Try.ntmps44
    go_wp2_with (go_at_call 76; refine (callsB (within_any _ _ _ _) h1).mono ?_; rintro e w1 ⟨rfl, rfl⟩)
    go_ret
    exact ⟨rfl, (by repeat (first | exact Below.refl _ _ | assumption | refine Below.drew ?_ | refine below_drewN ?_ _ | refine Below.alloc ?_ (by simp; try omega) _ | refine Below.setCell ?_ (by simp; try omega) _))⟩
  | true =>
    by_cases h9 : n ≤ 9
    · have eg : ∀ args w, (callFunc 78 args).run Try.prog w = .ok (.enter 78 args) w := enters_of Try.func78 (by kernel_rfl) rfl
      have hcon := containsBlock_any a n c zs (fun k => !blockAt zs roll k) 78 #[.pointer (some ⟨w.heap.size, 0, none⟩)] (w.alloc (.cells #[.int .i64 roll] 2)) eg hz hn (ha.below ((Below.refl _ _).alloc (Nat.le_refl _) _))
        (fun k W hb _ => blockClosure _ _ roll ⟨w.heap.size, 0, none⟩ W (by rw [hb.cell (p := ⟨w.heap.size, 0, none⟩) (by simp)]; simp) (by have := hb.size; simp at this; show w.heap.size < W.heap.size; omega))
      have he := blocksB_any (zs := zs) h1 h9
      rw [← he]
      have H1 := Lib.hid h1
      clear he hz ha eg h1
      generalize (List.range n).any (fun k => !blockAt zs roll k) = q at hcon ⊢
      have HC := Lib.hid hcon
      clear hcon
      go_enter Try.func44, Try.ntmps44
      go_wp2_with fail
      refine (callsB (within_any _ _ _ _) H1.out).mono ?_
      rintro e w1 ⟨rfl, rfl⟩
      go_wp2_with fail
      refine HC.out.mono ?_
      rintro e w2 ⟨rfl, hb'⟩
      have HB' := Lib.hid hb'
      clear hb'
      go_wp2_with fail
      go_ret
      exact ⟨rfl, ((Below.refl _ _).alloc (Nat.le_refl _) _).trans (HB'.out.mono (by simp))⟩
    · rw [show blocksB zs roll n = false by simp [blocksB, h9]]
      have H1 := Lib.hid h1
      clear hz ha h1
      go_enter Try.func44, Try.ntmps44
      go_wp2_with (go_at_call 76; refine (callsB (within_any _ _ _ _) H1.out).mono ?_; rintro e w1 ⟨rfl, rfl⟩)
      go_ret
      exact ⟨rfl, (by repeat (first | exact Below.refl _ _ | assumption | refine Below.drew ?_ | refine below_drewN ?_ _ | refine Below.alloc ?_ (by simp; try omega) _ | refine Below.setCell ?_ (by simp; try omega) _))⟩
theorem blocks_bad {zs : List Int} {roll : Int} {n k : Nat} {r : Bool} (hr : blocksB zs roll n = r) (hk : k < n) (h : blockAt zs roll k = false) : r = false := by
  rw [← hr, blocksB]
  have : ¬ (∀ k, k < n → blockAt zs roll k = true) := fun hall => by rw [hall k hk] at h; cases h
  simp [this]
set_option maxRecDepth 100000 in
set_option maxHeartbeats 1600000 in
theorem specBlocksOk (a : Option Addr) (n c : Nat) (zs : List Int) (roll : Int) (w : World) (hz : zs.length = n * 2) (ha : CellsAt w a (zs.map (Value.int .i64))) :
    Calls Try.prog 62 #[.slice a n c, .int .i64 roll] w fun e w' => e = .returned (.bool (blocksB zs roll n)) ∧ Below w.heap.size w w' := by
  cases h1 : inB roll 1 5000 with
  | false =>
    rw [show blocksB zs roll n = false by simp [blocksB, h1]]
    clear hz ha
    go_enter Try.func62, Try.ntmps62
    go_wp2_with (go_at_call 83; refine (callsB (l00In_any _ _ _ _) h1).mono ?_; rintro e w1 ⟨rfl, rfl⟩)
    go_ret
    exact ⟨rfl, Below.refl _ _⟩
  | true =>
    by_cases h9 : n ≤ 9
    · obtain ⟨r, hr⟩ : ∃ r, blocksB zs roll n = r := ⟨_, rfl⟩
      rw [hr]
      have HR := Lib.hid hr
      have H1 := Lib.hid h1
      have Hz := Lib.hid hz
      have HA := Lib.hid ha
      have h9' : (n : Int) ≤ 9 := by omega
      clear hr h1 hz ha
      go_enter Try.func62, Try.ntmps62
      go_wp2_with fail
      refine (callsB (l00In_any _ _ _ _) H1.out).mono ?_
      rintro e w1 ⟨rfl, rfl⟩
      go_wp2_with fail
      go_loopw [5] (fun i wr => ∃ k : Nat, k ≤ n ∧ i = .int .i64 k ∧ Hid (∀ j, j < k → blockAt zs roll j = true) ∧ Hid (w = wr)) (fun i _ => n - (intOf i).toNat)
      case atStart => exact ⟨0, Nat.zero_le _, rfl, Lib.hid (fun j hj => absurd hj (by omega)), Lib.hid rfl⟩
      case round =>
        obtain ⟨k, hk, rfl, hall, hw⟩ := hrel
        have e := hw.out
        subst e
        clear hw
        by_cases hlt : k < n
        · obtain ⟨b, o, rfl, hb, hcc⟩ := HA.out.at_ (by have := Hz.out; simp; omega)
          obtain ⟨x, hx⟩ : ∃ z, zs.getD (k * 2) 0 = z := ⟨_, rfl⟩
          obtain ⟨y, hy⟩ : ∃ z, zs.getD (k * 2 + 1) 0 = z := ⟨_, rfl⟩
          have k1 : w.cell? ⟨b, o + k * 2, none⟩ = some (.int .i64 x) := by
            rw [hcc (k * 2) (by have := Hz.out; simp; omega), ← hx]
            simp [List.getElem?_eq_getElem (show k * 2 < zs.length by have := Hz.out; omega)]
          have k2 : w.cell? ⟨b, o + k * 2 + 1, none⟩ = some (.int .i64 y) := by
            have h := hcc (k * 2 + 1) (by have := Hz.out; simp; omega)
            rw [← Nat.add_assoc] at h
            rw [h, ← hy]
            simp [List.getElem?_eq_getElem (show k * 2 + 1 < zs.length by have := Hz.out; omega)]
          have Hx := Lib.hid hx
          have Hy := Lib.hid hy
          have hlt' : (k : Int) < (n : Int) := by omega
          clear hcc hx hy
          cases g1 : inB x 1 roll with
          | false =>
            have hbad := blocks_bad HR.out hlt (by simp only [blockAt, Hx.out, g1, Bool.false_and])
            subst hbad
            go_wp2_with (go_at_call 83; refine (callsB (l00In_any _ _ _ _) g1).mono ?_; rintro e w1 ⟨rfl, rfl⟩)
            go_ret
            exact ⟨rfl, Below.refl _ _⟩
          | true =>
            have G1 := Lib.hid g1
            clear g1
            cases g2 : inB y 1 5000 with
            | false =>
              have hbad := blocks_bad HR.out hlt (by simp only [blockAt, Hx.out, Hy.out, G1.out, g2, Bool.and_false])
              subst hbad
              go_wp2_with fail
              refine (callsB (l00In_any _ _ _ _) G1.out).mono ?_
              rintro e w1 ⟨rfl, rfl⟩
              go_wp2_with fail
              refine (callsB (l00In_any _ _ _ _) g2).mono ?_
              rintro e w1 ⟨rfl, rfl⟩
              go_wp2_with fail
              go_ret
              exact ⟨rfl, Below.refl _ _⟩
            | true =>
              have G2 := Lib.hid g2
              clear g2
              go_wp2_with fail
              refine (callsB (l00In_any _ _ _ _) G1.out).mono ?_
              rintro e w1 ⟨rfl, rfl⟩
              go_wp2_with fail
              refine (callsB (l00In_any _ _ _ _) G2.out).mono ?_
              rintro e w1 ⟨rfl, rfl⟩
              go_wp2_with fail
              go_roundw
              case rel =>
                exact ⟨k + 1, by omega, by go_num, Lib.hid (fun j hj => by
                  by_cases e : j = k
                  · subst e; simp only [blockAt, Hx.out, Hy.out, G1.out, G2.out]; rfl
                  · exact hall.out j (by omega)), Lib.hid (by first | trivial | rfl)⟩
              case measure => simp [intOf]; omega
        · obtain rfl : k = n := by omega
          go_wp2_with fail
          go_ret
          refine ⟨ret_bool ?_, Below.refl _ _⟩
          rw [← HR.out, blocksB, H1.out, decide_eq_true h9, decide_eq_true hall.out]
          rfl
    · rw [show blocksB zs roll n = false by simp [blocksB, h9]]
      have H1 := Lib.hid h1
      clear hz ha h1
      go_enter Try.func62, Try.ntmps62
      go_wp2_with (go_at_call 83; refine (callsB (l00In_any _ _ _ _) H1.out).mono ?_; rintro e w1 ⟨rfl, rfl⟩)
      go_ret
      exact ⟨rfl, Below.refl _ _⟩
end Go.Proofs.Ytoomkeicfdmdoaa
