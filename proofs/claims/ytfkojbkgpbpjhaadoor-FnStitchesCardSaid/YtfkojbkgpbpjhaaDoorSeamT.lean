/-
  Contracts of the text of a seam. No condition of its own.
-/
import Derived.Test.YtfkojbkgpbpjhaaDoorNumT
import Derived.Test.YtfkojbkgpbpjhaaDoorSides
namespace Go.Proofs.YtfkojbkgpbpjhaaDoor
open Go.ChangeShapes Go.WideShapes Go.ChangeAt Go.RowKit Go.Deep Go.Shelf Go.Sort

/-- The text of one side. -/
def sideT (s z : Int) : ByteArray := dec (cntI z s) ++ ⟨#[47]⟩ ++ dec z
def seamL (zs : List Int) (s : Int) (i : Nat) : List ByteArray := (zs.take i).map (sideT s)
def seamJ (zs : List Int) (s : Int) : ByteArray := ⟨(Lib.join ((zs.map (sideT s)).map (·.data.toList)) (⟨#[32]⟩ : ByteArray).data.toList).toArray⟩
def seamT (zs : List Int) (n : Nat) (s : Int) : ByteArray := if sidesC zs n s = 0 then seamJ zs s else ⟨#[]⟩
theorem seamL_next {zs : List Int} {s : Int} {i n : Nat} (hl : zs.length = n) (hi : i < n) {z : Int} (h : zs.getD i 0 = z) : seamL zs s (i + 1) = seamL zs s i ++ [sideT s z] := by
  subst h
  unfold seamL
  rw [List.take_succ_eq_append_getElem (by omega), List.map_append]
  simp [List.getD, List.getElem?_eq_getElem (show i < zs.length by omega)]
theorem sidesC_zero {zs : List Int} {n : Nat} {s : Int} (h : sidesC zs n s = 0) : sidesB zs n = true ∧ 10 ≤ s ∧ s ≤ 120 := by
  unfold sidesC at h
  split at h
  · next h1 =>
    split at h
    · next h2 => exact ⟨h1, inB_true.1 h2⟩
    · omega
  · omega

theorem cell_at1 {w W : World} {b o j : Nat} {zs : List Int} {x : Int} (hb : b < w.heap.size) (hbw : Below w.heap.size w W) (hc : ∀ i, i < (zs.map (Value.int .i64)).length → w.cell? ⟨b, o + i, none⟩ = (zs.map (Value.int .i64))[i]?) (hj : j < zs.length) (hx : zs.getD j 0 = x) :
    W.cell? ⟨b, o + j, none⟩ = some (.int .i64 x) := by
  rw [(hbw.cell (p := ⟨b, o + j, none⟩) hb).trans (hc j (by simpa using hj)), ← hx]
  simp [List.getElem?_eq_getElem hj]
theorem sideT_size {s z : Int} (hz0 : 1 ≤ z) (hz1 : z ≤ 5000) (hs0 : 10 ≤ s) : (sideT s z).size ≤ 61 := by
  have h := cntI_bd (a := z) (s := s) (by omega) (by omega)
  have e1 := dec_size (cntI z s) (by omega) (by omega)
  have e2 := dec_size z (by omega) (by omega)
  unfold sideT
  simp only [ByteArray.size_append]
  have : (⟨#[47]⟩ : ByteArray).size = 1 := rfl
  omega
theorem tail_len (k : Nat) (sep : List UInt8) (hs : sep.length ≤ 1) (r : List (List UInt8)) (h : ∀ x ∈ r, x.length ≤ k) : (Lib.joinTail sep r).length ≤ r.length * (k + 1) := by
  induction r with
  | nil => simp [Lib.joinTail]
  | cons x r ih =>
    have h1 := ih fun y hy => h y (by simp [hy])
    have h2 := h x (by simp)
    have e : (Lib.joinTail sep (x :: r)).length = sep.length + x.length + (Lib.joinTail sep r).length := by simp [Lib.joinTail]; omega
    rw [e, List.length_cons, Nat.succ_mul]
    omega
theorem join_len (k : Nat) (sep : List UInt8) (hs : sep.length ≤ 1) (r : List (List UInt8)) (h : ∀ x ∈ r, x.length ≤ k) : (Lib.join r sep).length ≤ r.length * (k + 1) := by
  match r, h with
  | [], _ => simp [Lib.join_nil]
  | x :: r, h =>
    rw [Lib.join_cons]
    have h1 := tail_len k sep hs r fun y hy => h y (by simp [hy])
    have h2 := h x (by simp)
    simp only [List.length_append, List.length_cons, Nat.succ_mul]
    omega

set_option maxRecDepth 100000 in
set_option maxHeartbeats 6400000 in
theorem impl_SeamText (a : Option Addr) (n c : Nat) (zs : List Int) (s : Int) (w : World) (hl : zs.length = n) (hn : n ≤ 1073741824) (hc : CellsAt w a (zs.map (Value.int .i64))) (ht : Pow w) :
    Calls Tryd.prog 31 #[.slice a n c, .int .i64 s] w fun e w' => e = .returned (.string (seamT zs n s)) ∧ Below w.heap.size w w' := by
  have HV := Lib.hid (sidesCode_any a n c zs s w hl hn hc)
  have HT := Lib.hid ht
  by_cases h0 : sidesC zs n s = 0
  case neg =>
    have HE := Lib.hid (show seamT zs n s = ⟨#[]⟩ by simp [seamT, h0])
    have hne : (sidesC zs n s != 0) = true := by simpa using h0
    clear ht hc hl
    go_enter Tryd.func31, Tryd.ntmps31
    go_wp2_with (go_at_call 73; refine HV.out.mono ?_; rintro e w1 ⟨rfl, hb1⟩; have HB1 := Lib.hid hb1; clear hb1)
    go_ret
    exact ⟨by rw [HE.out]; rfl, HB1.out⟩
  have HE := Lib.hid (show seamT zs n s = seamJ zs s by simp [seamT, h0])
  obtain ⟨hb, s1, s2⟩ := sidesC_zero h0
  obtain ⟨k1, k2⟩ := sides_n hb
  obtain ⟨i9, hi9, hz0, hz1, hz2⟩ := info_parts infoStr
  rcases hc with hc | ⟨b, off, rfl, hbs, hcc⟩
  · simp at hc; subst hc; simp at hl; omega
  have HC := Lib.hid hcc
  have HS := Lib.hid (fun k (hk : k < n) => sides_at hb hl hk)
  have HL := Lib.hid hl
  rw [h0] at HV
  clear ht hcc hl h0 hb
  go_enter Tryd.func31, Tryd.ntmps31
  go_wp2_with (go_at_call 73; refine HV.out.mono ?_; rintro e w1 ⟨rfl, hb1⟩; have HB1 := Lib.hid (Bel.of hb1); clear hb1)
  have HO := Lib.hid (own_none' w1 w.heap.size 9 1 HB1.out.2)
  have HB := Lib.hid (HB1.out.alloc (.cells #[] 9))
  go_loopw [5, 7, 15] (fun v _ u wr => ∃ (i g cc : Nat), i ≤ n ∧ u = .int .i64 (i : Int) ∧ v = .slice (some ⟨g, 0, none⟩) i cc ∧ Hid (wr.ownsRow w.heap.size 9 1 (.slice (some ⟨g, 0, none⟩) i cc) i (strs (seamL zs s i))) ∧ Hid (Bel w.heap.size w wr)) (fun _ _ u _ => n - (intOf u).toNat)
  case atStart => exact ⟨0, w1.heap.size, 0, by omega, rfl, rfl, Lib.hid (by simpa [strs, seamL] using HO.out), HB⟩
  case round =>
    obtain ⟨i, g, cc, hin, rfl, rfl, hown, hbw⟩ := hrel
    by_cases hlt : i < n
    · have hlt' : (i : Int) < (n : Int) := by omega
      obtain ⟨z, hzz⟩ : ∃ z, zs.getD i 0 = z := ⟨_, rfl⟩
      obtain ⟨z1, z2⟩ := HS.out i hlt
      rw [hzz] at z1 z2
      have hBw := hbw.out
      have hcell : wr.cell? ⟨b, off + i, none⟩ = some (.int .i64 z) := cell_at1 hbs hBw.1 HC.out (by rw [HL.out]; exact hlt) hzz
      have HZZ := Lib.hid hzz
      obtain ⟨q1, q2⟩ := cntI_bd (a := z) (s := s) (by omega) (by omega)
      have HSF := Lib.hid (fun W => stitchesFor_any z s W (by omega) (by omega) (by omega) (by omega))
      obtain ⟨kk, hkk⟩ : ∃ kk, cntI z s = kk := ⟨_, rfl⟩
      rw [hkk] at HSF q1 q2
      have HKK := Lib.hid hkk
      clear hzz hkk
      go_wp2_with (first | (go_at_call 74; refine (HSF.out _).mono ?_; rintro e w2 ⟨rfl, rfl⟩) | (go_at_call 55; refine (numbers2 _ _ kk z _ _ (by show 1 ≤ 100; omega) (by simp) (by omega) (by omega) (by omega) (by omega) (by go_simp) (by go_simp) (HT.out.below (Bel.below (by repeat (first | assumption | exact Bel.refl _ | refine Bel.drew ?_ | refine Bel.drewN ?_ _ | refine Bel.alloc ?_ _ | refine Bel.setCell ?_ (by simp; try omega) _))))).mono ?_; rintro e w3 ⟨rfl, hb3⟩; have Hb3 := Lib.hid hb3; clear hb3) | (at_builtin; refine appStr (by rfl) _ _ (by rfl) w.heap.size _ i (seamL zs s i) (by rfl) (own_below (hown.out.alloc _) Hb3.out) _ 1 (by rfl) (by omega) (Bel.step (hBw.alloc _) Hb3.out) ?_; intro g5 cap5 w5 ho5 hb5; have Ho5 := Lib.hid ho5; have Hb5 := Lib.hid hb5; clear ho5 hb5))
      go_roundw
      case rel => exact ⟨i + 1, g5, cap5, by omega, by go_num, rfl, Lib.hid (by rw [seamL_next HL.out hlt HZZ.out, sideT, HKK.out]; exact Ho5.out), Hb5⟩
      case measure =>
        simp [intOf]; omega
    · obtain rfl : i = n := by omega
      have hlt' : ¬ (i : Int) < (i : Int) := by omega
      have hl : seamL zs s i = zs.map (sideT s) := by rw [seamL, List.take_of_length_le (by rw [HL.out]; omega)]
      have hown2 := hown.out
      rw [hl] at hown2
      have hlen : (zs.map (sideT s)).length = i := by simp [HL.out]
      have hJ := Tryd.strings_Join g 0 cc (zs.map (sideT s)) ⟨#[32]⟩ wr (by
          intro j x hx
          rw [Nat.zero_add, hown2.cellAt j (by have := (List.getElem?_eq_some_iff.1 hx).1; omega)]
          simpa [strs] using hx) (own_block hown2 rfl).2 (by omega) (by rw [hlen]; exact own_cap_le hown2) (by
          have h := join_len 61 (⟨#[32]⟩ : ByteArray).data.toList (by simp) ((zs.map (sideT s)).map (·.data.toList)) (by
            intro x hx
            simp only [List.mem_map] at hx
            obtain ⟨y, ⟨z, hz, rfl⟩, rfl⟩ := hx
            obtain ⟨k, hk, rfl⟩ := List.mem_iff_getElem.1 hz
            have := HS.out k (by rw [← HL.out]; exact hk)
            rw [List.getD_eq_getElem?_getD, List.getElem?_eq_getElem hk] at this
            have h2 := sideT_size (s := s) (z := zs[k]) this.1 this.2 s1
            show ((sideT s zs[k]).data.toList).length ≤ 61
            simpa using h2)
          refine Nat.le_trans h ?_
          simp only [List.length_map, HL.out]
          omega)
      rw [hlen] at hJ
      have HF := Lib.hid hJ
      clear hJ hl hown2 hlen
      go_wp2_with (go_at_call 75; refine HF.out.mono ?_; rintro e w4 ⟨rfl, hb4⟩; have Hb4 := Lib.hid hb4; clear hb4)
      go_ret
      exact ⟨by rw [HE.out]; simp only [seamJ, List.map_map]; rfl, (Bel.step hbw.out Hb4.out).1⟩
end Go.Proofs.YtfkojbkgpbpjhaaDoor
