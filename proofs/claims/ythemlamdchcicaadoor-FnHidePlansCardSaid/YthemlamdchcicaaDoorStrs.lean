/-
  The laws' own helpers on slices of strings: sizes, copies, sameness, markings. No condition of its own.
-/
import Derived.Test.YthemlamdchcicaaDoorHideS
import Derived.Test.YthemlamdchcicaaDoorRow
import Derived.Outline
import Derived.WalkLawsBesides
import Derived.WalkSpells
namespace Go.Proofs.YthemlamdchcicaaDoor
open Go.ChangeShapes Go.WideShapes Go.ChangeAt Go.RowKit Go.Deep

theorem infoStr : (Tryd.prog.info? 9).map (fun i => (i.zero, i.size, i.bytes)) = some (some (.string ByteArray.empty), 1, 16) := by kernel_rfl
def blanks (n : Nat) : List Value := List.replicate n (.string ByteArray.empty)
theorem length_blanks (n : Nat) : (blanks n).length = n := by simp [blanks]
theorem str_ne (s : ByteArray) : (s.toList != s.toList) = false := by simp
theorem strs_at {rows : List ByteArray} {k : Nat} (h : k < rows.length) : (strs rows)[k]? = some (.string rows[k]) := by simp [strs, h]
/-- The sizes of the first texts. -/
def strSz (l : List ByteArray) : Nat := (l.map ByteArray.size).sum
theorem strSz_take (l : List ByteArray) (k : Nat) (h : k < l.length) : strSz (l.take (k + 1)) = strSz (l.take k) + l[k].size := by
  simp only [strSz, List.take_add_one, List.getElem?_eq_getElem h, Option.toList_some, List.map_append, List.sum_append, List.map_cons, List.map_nil, List.sum_cons, List.sum_nil, Nat.add_zero]
theorem strSz_le (l : List ByteArray) (k : Nat) : strSz (l.take k) ≤ strSz l := by
  have h : strSz l = strSz (l.take k) + strSz (l.drop k) := by
    conv => lhs; rw [← List.take_append_drop k l]
    simp only [strSz, List.map_append, List.sum_append]
  omega
set_option maxRecDepth 100000 in
set_option maxHeartbeats 1600000 in
theorem toStringS_any (a : Option Addr) (n c : Nat) (rows : List ByteArray) (w : World) (hz : rows.length = n) (hn : n ≤ 1048576) (hc : CellsAt w a (strs rows)) :
    Calls Tryd.prog 16 #[.slice a n c] w (NewRow w 9 1 n (strs rows)) := by
  have hmk := run_make_row' (P := Tryd.prog) 24 9 (.string ByteArray.empty) 16 Tryd.underlying24 infoStr rfl .i64 .i64 n (by omega) (by omega)
  have hst : (w.alloc (.cells (madeCells #[Value.string ByteArray.empty] n) 9)).ownsRow w.heap.size 9 1 (.slice (some ⟨w.heap.size, 0, none⟩) n n) n (blanks n) := by
    have := World.ownsRow_lit (size := 1) (e := 9) w (madeCells #[Value.string ByteArray.empty] n) n (Nat.le_refl _) (by unfold maxLen; omega) (by rw [size_madeCells]; omega)
    rw [toList_madeCells_one] at this
    exact this
  rcases hc with h0 | ⟨b, off, rfl, hb, hcell⟩
  · have hn0 : n ≤ 0 := by
      have : rows = [] := by simpa [strs] using h0
      rw [← hz, this]; simp
    have HS := Lib.hid hst
    have Hz := Lib.hid hz
    have H0 := Lib.hid h0
    clear hst hz h0
    go_enter Tryd.func16, Tryd.ntmps16
    go_wp2
    refine wp_loop_once ?_
    go_wp2
    go_ret
    have h1 : rows = [] := by simpa [strs] using H0.out
    subst h1
    have h2 : n = 0 := by omega
    subst h2
    exact newRow_intro HS.out ((Below.refl _ _).alloc (Nat.le_refl _) _)
  · have HS := Lib.hid hst
    have Hz := Lib.hid hz
    clear hst hz
    have Hc := Lib.hid hcell
    clear hcell
    go_enter Tryd.func16, Tryd.ntmps16
    go_wp2
    go_loopw [4] (fun i wr => ∃ k : Nat, k ≤ n ∧ i = .int .i64 k ∧ wr.ownsRow w.heap.size 9 1 (.slice (some ⟨w.heap.size, 0, none⟩) n n) n ((strs rows).take k ++ (blanks n).drop k) ∧ Below w.heap.size w wr)
      (fun i _ => n - (intOf i).toNat)
    case atStart => exact ⟨0, Nat.zero_le _, rfl, by simpa using HS.out, (Below.refl _ _).alloc (Nat.le_refl _) _⟩
    case round =>
      obtain ⟨k, hk, rfl, hown, hbw⟩ := hrel
      by_cases hlt : k < n
      · obtain ⟨x, hx⟩ : ∃ x, rows[k]? = some x := ⟨_, List.getElem?_eq_getElem (by rw [Hz.out]; exact hlt)⟩
        have hcx : wr.cell? ⟨b, off + k, none⟩ = some (.string x) := str_cell hb hbw Hc.out hx
        have HX := Lib.hid (show (strs rows)[k]? = some (.string x) by simp [strs, hx])
        clear hx
        obtain ⟨u, hu⟩ : ∃ u, wr.cell? ⟨w.heap.size, k, none⟩ = some u := by
          rw [hown.cellAt k (by omega)]
          exact ⟨_, List.getElem?_eq_getElem (by simp [length_blanks, strs_len, Hz.out]; omega)⟩
        have hfz := hown.frozenAt k
        have hsd := hown.stored k (.string x)
        have Hs := Lib.hid hsd
        have Hb := Lib.hid hbw
        clear hsd hbw hown
        go_wp2
        go_roundw
        case rel =>
          refine ⟨k + 1, by omega, by go_num, ?_, Hb.out.grown Hs.out.2 Hb.out.size (by simp)⟩
          have h := Hs.out.1
          rw [set_fill _ _ _ _ (by simp [strs_len, Hz.out]; exact hlt) (by simp [strs_len, length_blanks, Hz.out]) HX.out] at h
          exact h
        case measure => simp [intOf]; omega
      · go_wp2
        go_ret
        have e : k = n := by omega
        subst e
        refine newRow_intro ?_ hbw
        have h := hown
        rw [List.take_of_length_le (by rw [strs_len, Hz.out]; exact Nat.le_refl _), List.drop_of_length_le (by rw [length_blanks]; exact Nat.le_refl _), List.append_nil] at h
        exact h
set_option maxRecDepth 100000 in
set_option maxHeartbeats 1600000 in
theorem eqStringS_any (a b : Option Addr) (n c d : Nat) (rows : List ByteArray) (w : World) (hz : rows.length = n) (hn : n ≤ 1073741824) (ha : CellsAt w a (strs rows)) (hb : CellsAt w b (strs rows)) :
    Calls Tryd.prog 19 #[.slice a n c, .slice b n d] w fun e w' => e = .returned (.bool true) ∧ Below w.heap.size w w' := by
  by_cases h0 : n = 0
  · subst h0
    clear ha hb
    go_enter Tryd.func19, Tryd.ntmps19
    go_wp2
    refine wp_loop_once ?_
    go_wp2
    go_ret
    exact ⟨rfl, Below.refl _ _⟩
  · obtain ⟨b1, o1, rfl, hb1, hc1⟩ := ha.at_ (by rw [strs_len]; omega)
    obtain ⟨b2, o2, rfl, hb2, hc2⟩ := hb.at_ (by rw [strs_len]; omega)
    have H1 := Lib.hid hc1
    have H2 := Lib.hid hc2
    have Hz := Lib.hid hz
    clear hc1 hc2 ha hb hz
    have hnn : ((n : Int) != (n : Int)) = false := by simp
    go_enter Tryd.func19, Tryd.ntmps19
    go_wp2
    go_loopw [5] (fun i wr => ∃ k : Nat, k ≤ n ∧ i = .int .i64 k ∧ Below w.heap.size w wr) (fun i _ => n - (intOf i).toNat)
    case atStart => exact ⟨0, Nat.zero_le _, rfl, Below.refl _ _⟩
    case round =>
      obtain ⟨k, hk, rfl, hbw⟩ := hrel
      by_cases hlt : k < n
      · obtain ⟨x, hx⟩ : ∃ x, rows[k]? = some x := ⟨_, List.getElem?_eq_getElem (by rw [Hz.out]; exact hlt)⟩
        have hc0 := str_cell hb1 hbw H1.out hx
        have hd0 := str_cell hb2 hbw H2.out hx
        have hxx := str_ne x
        have Hb := Lib.hid hbw
        clear hbw hx
        have hlt' : (k : Int) < (n : Int) := by omega
        go_wp2
        go_quiet (fail)
        go_wp2
        go_roundw
        case rel => exact ⟨k + 1, by omega, by go_num, below_drewN Hb.out _⟩
        case measure => simp [intOf]; omega
      · go_wp2
        go_ret
        exact ⟨rfl, hbw⟩
theorem dig_down {x : Int} {m : Nat} (h : x < ((10 ^ (m + 1) : Nat) : Int)) : x / 10 < ((10 ^ m : Nat) : Int) := by
  rw [Nat.pow_succ] at h
  omega
/-- A text is answered. -/
def TextEnd (w : World) (e : Ending) (w' : World) : Prop := ∃ t : ByteArray, e = .returned (.string t) ∧ t.size ≤ 30 ∧ Below w.heap.size w w'
theorem strOf_one (n : Int) : (strOfNums [n]).size = 1 := rfl
set_option maxRecDepth 100000 in
set_option maxHeartbeats 1600000 in
theorem markText_any (k : Int) (w : World) (h0 : 0 ≤ k) (h1 : k ≤ 4611686018427387904) :
    Calls Tryd.prog 47 #[.int .i64 k] w (TextEnd w) := by
  by_cases hz : k ≤ 0
  · go_enter Tryd.func47, Tryd.ntmps47
    go_wp2
    go_ret
    exact ⟨_, rfl, by decide, Below.refl _ _⟩
  · have hd : k < ((10 ^ 19 : Nat) : Int) := by omega
    have HD := Lib.hid hd
    clear hd
    go_enter Tryd.func47, Tryd.ntmps47
    go_wp2
    go_loopw [0, 3] (fun u v wr => ∃ (j : Nat) (x : Int) (s : ByteArray), j ≤ 19 ∧ u = .int .i64 x ∧ v = .string s ∧ 0 ≤ x ∧ x ≤ 4611686018427387904 ∧ s.size ≤ j ∧ Hid (x < ((10 ^ (19 - j) : Nat) : Int)) ∧ Hid (Bel w.heap.size w wr)) (fun u _ _ => (intOf u).toNat)
    case atStart => exact ⟨0, k, ByteArray.empty, by omega, rfl, rfl, h0, h1, by simp, HD, Lib.hid (Bel.refl w)⟩
    case round =>
      obtain ⟨j, x, s, hj, rfl, rfl, hx0, hx1, hs, hx, hbw⟩ := hrel
      by_cases hlt : 0 < x
      · have hm1 := Int.emod_nonneg x (show (10 : Int) ≠ 0 by omega)
        have hm2 := Int.emod_lt_of_pos x (show (0 : Int) < 10 by omega)
        have hcell : ∀ i, i < 1 → (wr.alloc (.cells #[.int .u8 (48 + x % 10)] 5)).cell? ⟨wr.heap.size, 0 + i, none⟩ = some (.int .u8 ([48 + x % 10].getD i 0)) := fun i hi => by
          obtain rfl : i = 0 := by omega
          simp [go_sem]
        have hcv := run_convert_bytes_arg (P := Tryd.prog) (wr.alloc (.cells #[.int .u8 (48 + x % 10)] 5)) 22 5 Tryd.underlying22 Tryd.underlying5 wr.heap.size 0 1 1 [48 + x % 10] rfl hcell 9 Tryd.underlying9
        obtain ⟨t, ht⟩ : ∃ t, strOfNums [48 + x % 10] = t := ⟨_, rfl⟩
        have htz : t.size = 1 := by rw [← ht]; exact strOf_one _
        have hj1 : j + 1 ≤ 19 := by
          rcases Nat.lt_or_ge j 19 with h | h
          · omega
          · have h2 := hx.out
            rw [show 19 - j = 0 by omega] at h2
            simp at h2
            omega
        have HX := Lib.hid (show x / 10 < ((10 ^ (19 - (j + 1)) : Nat) : Int) from dig_down (by rw [show 19 - (j + 1) + 1 = 19 - j by omega]; exact hx.out))
        rw [ht] at hcv
        clear ht hcell
        go_wp2
        go_roundw
        case rel => exact ⟨j + 1, x / 10, t ++ s, hj1, rfl, rfl, by omega, by omega, by rw [ByteArray.size_append]; omega, HX, Lib.hid (hbw.out.alloc _)⟩
        case measure => simp [intOf]; omega
      · go_wp2
        go_ret
        exact ⟨_, rfl, by rw [ByteArray.size_append, show (⟨#[109]⟩ : ByteArray).size = 1 from rfl]; omega, hbw.out.1⟩
set_option maxRecDepth 100000 in
set_option maxHeartbeats 1600000 in
theorem szStringS_any (a : Option Addr) (n c : Nat) (rows : List ByteArray) (left : Int) (w : World) (hz : rows.length = n) (h1 : 0 ≤ left) (h2 : left ≤ 1048576) (hn : n ≤ maxLen) (hok : ∀ r ∈ rows, r.size ≤ maxLen) (hc : CellsAt w a (strs rows)) :
    Calls Tryd.prog 13 #[.slice a n c, .int .i64 left] w fun e w' => e = .returned (.int .i64 (if left < (n : Int) + (strSz rows : Int) then -1 else left - (n : Int) - (strSz rows : Int))) ∧ w = w' := by
  unfold maxLen at hn
  obtain ⟨r, hr⟩ : ∃ r, (if left < (n : Int) + (strSz rows : Int) then -1 else left - (n : Int) - (strSz rows : Int)) = r := ⟨_, rfl⟩
  rw [hr]
  have HR := Lib.hid hr
  have HO := Lib.hid hok
  have HC := Lib.hid hc
  have HZ := Lib.hid hz
  clear hr hok hc hz
  by_cases h : left < n
  · obtain rfl : r = -1 := by rw [← HR.out, if_pos (by omega)]
    go_enter Tryd.func13, Tryd.ntmps13
    go_wp2
    go_ret
    exact ⟨rfl, rfl⟩
  · go_enter Tryd.func13, Tryd.ntmps13
    go_wp2
    go_loopw [1, 5] (fun v i wr => ∃ k : Nat, k ≤ n ∧ i = .int .i64 k ∧ ∃ y : Int, v = .int .i64 y ∧ 0 ≤ y ∧ y ≤ 1048576 ∧ Hid (y = left - (n : Int) - (strSz (rows.take k) : Int)) ∧ w = wr) (fun _ i _ => n - (intOf i).toNat)
    case atStart => exact ⟨0, Nat.zero_le _, rfl, left - (n : Int), rfl, by omega, by omega, Lib.hid (by simp [strSz]), (by first | trivial | rfl)⟩
    case round =>
      obtain ⟨k, hk, rfl, y, rfl, y1, y2, hy, rfl⟩ := hrel
      by_cases hlt : k < n
      · obtain ⟨b, o, rfl, hb, hcc⟩ := HC.out.at_ (by rw [strs_len, HZ.out]; omega)
        have hkl : k < rows.length := by rw [HZ.out]; exact hlt
        obtain ⟨x, hx⟩ : ∃ x, rows[k]? = some x := ⟨_, List.getElem?_eq_getElem hkl⟩
        have hc0 := str_cell hb (Below.refl _ _) hcc hx
        have hxe : rows[k] = x := by rw [List.getElem?_eq_getElem hkl] at hx; exact Option.some.inj hx
        have hsz := HO.out x (by rw [← hxe]; exact List.getElem_mem hkl)
        unfold maxLen at hsz
        have HN := Lib.hid (show strSz (rows.take (k + 1)) = strSz (rows.take k) + x.size by rw [strSz_take _ _ hkl, hxe])
        have HM := Lib.hid (strSz_le rows (k + 1))
        clear hcc hx hxe hkl
        have hlt' : (k : Int) < (n : Int) := by omega
        by_cases hneg : y - (x.size : Int) < 0
        · obtain rfl : r = -1 := by
            rw [← HR.out, if_pos]
            have h1 := hy.out
            have h2 := HN.out
            have h3 := HM.out
            omega
          go_wp2
          go_ret
          exact ⟨rfl, rfl⟩
        · go_wp2
          go_roundw
          case rel => exact ⟨k + 1, by omega, by go_num, _, rfl, by omega, by omega, Lib.hid (by have h1 := hy.out; have h2 := HN.out; omega), (by first | trivial | rfl)⟩
          case measure => simp [intOf]; omega
      · obtain rfl : k = n := by omega
        obtain rfl : r = y := by
          have h1 := hy.out
          rw [List.take_of_length_le (by rw [HZ.out]; exact Nat.le_refl _)] at h1
          rw [← HR.out, if_neg (by omega)]
          exact h1.symm
        go_wp2
        go_ret
        exact ⟨rfl, rfl⟩
set_option maxRecDepth 100000 in
set_option maxHeartbeats 3200000 in
/-- A marking of texts: it ends, and only their block has turned. -/
theorem markStringS_any (g n c B : Nat) (k0 : Int) (cs : List Value) (w : World) (hn : n ≤ 1048576) (h1 : 0 ≤ k0) (h2 : k0 ≤ 4294967296) (ho : w.ownsRow B 9 1 (.slice (some ⟨g, 0, none⟩) n c) n cs) :
    Calls Tryd.prog 21 #[.slice (some ⟨g, 0, none⟩) n c, .int .i64 k0] w fun e w' => e = .returned (.int .i64 (k0 + ((n : Nat) : Int))) ∧ w.grownBy w' (some g) := by
  have Hl := Lib.hid ho.1
  have Ho := Lib.hid ho
  clear ho
  go_enter Tryd.func21, Tryd.ntmps21
  go_wp2
  go_loopw [1, 5] (fun y i wr => ∃ k : Nat, k ≤ n ∧ i = .int .i64 k ∧ (∃ z : Int, y = .int .i64 z ∧ Hid (z = k0 + ((k : Nat) : Int))) ∧ (∃ ds : List Value, Hid (wr.ownsRow B 9 1 (.slice (some ⟨g, 0, none⟩) n c) n ds)) ∧ Hid (w.grownBy wr (some g)))
    (fun _ i _ => n - (intOf i).toNat)
  case atStart => exact ⟨0, Nat.zero_le _, rfl, ⟨k0, rfl, Lib.hid (by simp)⟩, ⟨cs, Ho⟩, Lib.hid (World.grownBy.refl _ _)⟩
  case round =>
    obtain ⟨k, hk, rfl, ⟨z, rfl, hzk⟩, ⟨ds, hown⟩, hgr⟩ := hrel
    have hzb : 0 ≤ z ∧ z ≤ 8589934592 := by have := hzk.out; omega
    obtain ⟨hz1, hz2⟩ := hzb
    by_cases hlt : k < n
    · have HM := Lib.hid (markText_any z wr hz1 (by omega))
      have i1 : (k : Int) < (n : Int) := by omega
      go_wp2_with fail
      refine HM.out.mono ?_
      rintro e w1 ⟨t, rfl, _, hb1⟩
      have hown1 := own_below hown.out hb1
      have hgr1 : w.grownBy w1 (some g) := grown_trans_row hgr.out ⟨hb1.os, hb1.tape, hb1.output, hb1.size, fun i hi _ => hb1.block i hi⟩
      obtain ⟨u0, hu0⟩ : ∃ u, w1.cell? ⟨g, k, none⟩ = some u := by
        rw [hown1.cellAt k (by omega)]
        exact ⟨_, List.getElem?_eq_getElem (by rw [hown1.1]; omega)⟩
      have f0 := hown1.frozenAt k
      have s0 := hown1.stored k (.string t)
      have HS := Lib.hid s0.1
      have HG := Lib.hid (grown_trans_row hgr1 s0.2)
      clear s0 hown1 hgr1 hb1 hown hgr HM
      go_wp2_with fail
      go_roundw
      case rel => exact ⟨k + 1, by omega, by go_num, ⟨_, rfl, Lib.hid (by have := hzk.out; omega)⟩, ⟨_, HS⟩, HG⟩
      case measure => simp [intOf]; omega
    · obtain rfl : k = n := by omega
      go_wp2
      go_ret
      exact ⟨ret_int hzk.out, hgr.out⟩
theorem markStr_as {f : FuncId} {args : Array Value} {w : World} {g n c : Nat} {k0 k1 : Int} (h : Calls Tryd.prog f args w fun e w' => e = .returned (.int .i64 (k0 + ((n : Nat) : Int))) ∧ w.grownBy w' (some g)) (hk : k1 = k0 + ((n : Nat) : Int)) :
    Calls Tryd.prog f args w fun e w' => e = .returned (.int .i64 k1) ∧ w.grownBy w' (Value.ownBlock (.slice (some ⟨g, 0, none⟩) n c)) := by
  rw [hk]; exact h
end Go.Proofs.YthemlamdchcicaaDoor
