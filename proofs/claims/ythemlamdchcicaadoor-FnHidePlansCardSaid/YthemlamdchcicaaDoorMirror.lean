/-
  impl.MirrorHide. No condition of its own.
-/
import Derived.Test.YthemlamdchcicaaDoorBytes
namespace Go.Proofs.YthemlamdchcicaaDoor
open Go.ChangeShapes Go.WideShapes Go.ChangeAt Go.RowKit Go.Deep Go.Sort

theorem hide_rev {rows : List ByteArray} {n m : Nat} (h : HideOk rows n m) : HideOk (rows.map revB) n m where
  len := by simp [h.len]
  n1 := h.n1
  n6 := h.n6
  m1 := h.m1
  m6 := h.m6
  size := fun r hr => by
    obtain ⟨x, hx, rfl⟩ := List.mem_map.1 hr
    rw [revB_size]
    exact h.size x hx
  good := fun r hr b hb => by
    obtain ⟨x, hx, rfl⟩ := List.mem_map.1 hr
    exact h.good x hx b (by simpa [revB] using hb)
def MirrorEnd (w : World) (rows : List ByteArray) (n : Nat) (e : Ending) (w' : World) : Prop :=
  ∃ (g c : Nat), e = .returned (.tuple #[.slice (some ⟨g, 0, none⟩) n c, .int .i64 0]) ∧ CellsAt w' (some ⟨g, 0, none⟩) (strs (rows.map revB)) ∧ Below w.heap.size w w'
set_option maxRecDepth 100000 in
set_option maxHeartbeats 3200000 in
theorem mirror_any (w : World) (a : Option Addr) (rows : List ByteArray) (n m ca : Nat) (hok : HideOk rows n m) (hr : CellsAt w a (strs rows)) :
    Calls Tryd.prog 9 #[.slice a n ca] w (MirrorEnd w rows n) := by
  have hn6 := hok.n6
  have hn1 := hok.n1
  have hm6 := hok.m6
  have hm1 := hok.m1
  have HH := Lib.hid (validHide_any a rows n ca w hok.len (by omega) (fun r h => by rw [hok.size r h]; unfold maxLen; omega) hr)
  rw [hideB_of hok] at HH
  obtain ⟨b, o, rfl, hb, hcc⟩ := hr.at_ (by rw [strs_len, hok.len]; omega)
  have HC := Lib.hid hcc
  have HOk := Lib.hid hok
  clear hr hcc hok
  go_enter Tryd.func9, Tryd.ntmps9
  go_wp2_with fail
  refine HH.out.mono ?_
  rintro e w1 ⟨rfl, hb1⟩
  have HB1 := Lib.hid (Bel.of hb1)
  have hB1 := HB1.out.2
  have HO := Lib.hid (own_none' w1 w.heap.size 9 1 hB1)
  have HB2 := Lib.hid (HB1.out.alloc (.cells #[] 9))
  clear hb1
  go_wp2_with fail
  go_loopw [4, 6, 7, 14] (fun v _ _ u wr => ∃ i : Nat, i ≤ n ∧ u = .int .i64 i ∧ ∃ (g co : Nat), v = .slice (some ⟨g, 0, none⟩) i co ∧ Hid (wr.ownsRow w.heap.size 9 1 (.slice (some ⟨g, 0, none⟩) i co) i (strs ((rows.take i).map revB))) ∧ Hid (Bel w.heap.size w wr)) (fun _ _ _ u _ => n - (intOf u).toNat)
  case atStart => exact ⟨0, by omega, rfl, w1.heap.size, 0, rfl, HO, HB2⟩
  case round =>
    clear HO HB1 HB2
    obtain ⟨i, hi, rfl, g, co, rfl, hown, hbw⟩ := hrel
    by_cases hlt : i < n
    · have i1 : (i : Int) < (n : Int) := by omega
      obtain ⟨r, hr, _, hrs, _⟩ := hide_row HOk.out hlt
      have hc0 := str_cell hb hbw.out.1 HC.out hr
      have HR := Lib.hid (show (rows.take (i + 1)).map revB = (rows.take i).map revB ++ [revB r] by rw [List.take_add_one, hr]; simp)
      obtain ⟨W2, c2, hcv, hbr, hb2, _⟩ := bytes_of wr r w.heap.size hbw.out.2
      obtain ⟨q, hq⟩ : ∃ q, wr.heap.size = q := ⟨_, rfl⟩
      rw [hrs, hq] at hcv
      rw [hq] at hbr
      have hgq : g < q := by have := (own_block (b := g) hown.out rfl).2; omega
      have HO2 := Lib.hid (own_below hown.out hb2)
      have HB2 := Lib.hid (hbw.out.step hb2)
      have hzl : (r.data.toList.map fun b => (b.toNat : Int)).length = m := by rw [List.length_map, Array.length_toList]; exact hrs
      have HV := Lib.hid (reverse_any q m c2 w.heap.size (r.data.toList.map fun b => (b.toNat : Int)) W2 hzl (by omega) (by omega) (by
        have h := hbr
        rw [u8s] at h
        rw [List.map_map]
        exact h))
      have hqb := hbr.lt.1
      clear hb2 hbr hr hq hzl
      go_wp2_with fail
      refine HV.out.mono ?_
      rintro e w3 ⟨rfl, hb3, hg3⟩
      have HB3 := Lib.hid (HB2.out.grown hg3 (fun k h => by cases h; exact hqb))
      have HO3 := Lib.hid (own_drawn HO2.out hg3 (fun e => by have h1 : g = q := (by simpa [Value.ownBlock] using e); omega))
      have hu : (r.data.toList.map fun b => (b.toNat : Int)).reverse.map (Value.int .u8) = u8s r.data.toList.reverse := by
        rw [u8s, ← List.map_reverse, List.map_map]
        rfl
      rw [hu] at hb3
      have hcv2 := run_convert_bytes_back (P := Tryd.prog) w3 22 9 5 ⟨q, 0, none⟩ c2 r.data.toList.reverse Tryd.underlying22 Tryd.underlying5 Tryd.underlying9 (fun j hj => by
        rw [addr_add, Nat.zero_add, hb3.cell j (by simpa [u8s] using hj), u8s, List.getElem?_map, List.getElem?_eq_getElem hj]
        rfl)
      have hl2 : r.data.toList.reverse.length = m := by rw [List.length_reverse, Array.length_toList]; exact hrs
      rw [hl2] at hcv2
      have hrb : (⟨r.data.toList.reverse.toArray⟩ : ByteArray) = revB r := by rw [revB, ← Array.toList_reverse]
      rw [hrb] at hcv2
      obtain ⟨t, ht⟩ : ∃ t, revB r = t := ⟨_, rfl⟩
      rw [ht] at hcv2 HR
      clear hb3 hg3 hu hl2 hrb ht hc0 hcv
      go_wp2_with (at_builtin; refine appStr (by rfl) _ _ (by rfl) w.heap.size _ _ _ (by rfl) HO3.out t 1 w3.heap.size (by simp) (by rfl) (by omega) HB3.out ?_; intro g7 cap7 w7 ho7 hb7 hg7 hat7; have Ho7 := Lib.hid ho7; have Hb7 := Lib.hid hb7; clear ho7 hb7 hg7 hat7)
      go_roundw
      case rel => exact ⟨i + 1, by omega, by go_num, g7, cap7, rfl, Lib.hid (by rw [HR.out]; exact Ho7.out), Hb7⟩
      case measure => simp [intOf]; omega
    · obtain rfl : i = n := by omega
      have HE := Lib.hid (show wr.ownsRow w.heap.size 9 1 (.slice (some ⟨g, 0, none⟩) i co) i (strs (rows.map revB)) by
        have h := hown.out
        rw [List.take_of_length_le (by rw [HOk.out.len]; exact Nat.le_refl _)] at h
        exact h)
      go_wp2_with fail
      go_ret2
      exact ⟨g, co, rfl, CellsAt.of_own HE.out, hbw.out.1⟩
end Go.Proofs.YthemlamdchcicaaDoor
