/-
  Contracts of StitchTotal and SeamMinutes, both sides. No condition of its own.
-/
import Derived.Test.YtfkojbkgpbpjhaaDoorSides
namespace Go.Proofs.YtfkojbkgpbpjhaaDoor
open Go.ChangeShapes Go.WideShapes Go.ChangeAt Go.RowKit Go.Deep Go.Shelf

def totI (zs : List Int) (s : Int) : Nat → Int
  | 0 => 0
  | i + 1 => totI zs s i + cntI (zs.getD i 0) s
theorem totI_bd {zs : List Int} {n : Nat} {s : Int} (h : sidesB zs n = true) (hl : zs.length = n) (hs : 10 ≤ s) : ∀ {i : Nat}, i ≤ n → 0 ≤ totI zs s i ∧ totI zs s i ≤ i * 5001 := by
  intro i
  induction i with
  | zero => intro _; simp [totI]
  | succ i ih =>
    intro hi
    have h1 := ih (by omega)
    have h2 := sides_at h hl (k := i) (by omega)
    have h3 := cntI_bd (a := zs.getD i 0) (s := s) (by omega) (by omega)
    simp only [totI]
    omega
def totF (zs : List Int) (n : Nat) (s : Int) : Int := if sidesC zs n s = 0 then totI zs s n else 0
theorem sides_ok {zs : List Int} {n : Nat} {s : Int} (h : sidesC zs n s = 0) : sidesB zs n = true ∧ 10 ≤ s ∧ s ≤ 120 := by
  unfold sidesC at h
  split at h
  · split at h
    · rename_i h1 h2
      exact ⟨h1, inB_true.1 h2⟩
    · omega
  · omega

set_option maxRecDepth 100000 in
set_option maxHeartbeats 1600000 in
theorem impl_StitchTotal (w : World) (a : Option Addr) (n c : Nat) (zs : List Int) (hl : zs.length = n) (hn : n ≤ 1048576) (hc : CellsAt w a (zs.map (Value.int .i64))) (_ : ∀ z ∈ zs, (Lit.int .i64 z).wf = true) (s : Int) (_ : (Lit.int .i64 s).wf = true) :
    Calls Tryd.prog 37 #[.slice a n c, .int .i64 s] w fun e w' => e = .returned (.tuple #[.int .i64 (totF zs n s), .int .i64 (sidesC zs n s)]) ∧ Below w.heap.size w w' := by
  have h1 := sidesCode_any a n c zs s w hl (by omega) hc
  obtain ⟨r, hr⟩ : ∃ r, totF zs n s = r := ⟨_, rfl⟩
  obtain ⟨q, hq⟩ : ∃ q, sidesC zs n s = q := ⟨_, rfl⟩
  rw [hr, hq]
  rw [hq] at h1
  by_cases h0 : q = 0
  · subst h0
    obtain ⟨hb, s1, s2⟩ := sides_ok hq
    have hr' : totI zs s n = r := by rw [← hr]; simp [totF, hq]
    have HBd := Lib.hid (fun i (hi : i ≤ n) => totI_bd hb hl s1 hi)
    have HAt := Lib.hid (fun k (hk : k < n) => sides_at hb hl hk)
    obtain ⟨n1, n2⟩ := sides_n hb
    have H1 := Lib.hid h1
    have HR := Lib.hid hr'
    have Hz := Lib.hid hl
    have HA := Lib.hid hc
    clear h1 hr hr' hq hb hl hc
    go_enter Tryd.func37, Tryd.ntmps37
    go_wp2_with (go_at_call 73; refine H1.out.mono ?_; rintro e w1 ⟨rfl, hb1⟩; have HB1 := Lib.hid (Bel.of hb1); clear hb1)
    go_loopw [7, 18] (fun v t wr => ∃ k : Nat, k ≤ n ∧ t = .int .i64 k ∧ (∃ x : Int, v = .int .i64 x ∧ Hid (x = totI zs s k)) ∧ Hid (Bel w.heap.size w wr)) (fun _ t _ => n - (intOf t).toNat)
    case atStart => exact ⟨0, Nat.zero_le _, rfl, ⟨0, rfl, Lib.hid rfl⟩, HB1⟩
    case round =>
      obtain ⟨k, hk, rfl, ⟨x, rfl, hx⟩, hbw⟩ := hrel
      obtain ⟨x1, x2⟩ := HBd.out k hk
      rw [← hx.out] at x1 x2
      by_cases hlt : k < n
      · obtain ⟨b, o, rfl, hb, hcc⟩ := HA.out.at_ (by have := Hz.out; simp; omega)
        obtain ⟨z, hz⟩ : ∃ z, zs.getD k 0 = z := ⟨_, rfl⟩
        have hcx := cell_int hb hbw.out.1 hcc (by rw [Hz.out]; exact hlt) hz
        have z12 := HAt.out k hlt
        rw [hz] at z12
        obtain ⟨z1, z2⟩ := z12
        obtain ⟨y1, y2⟩ := cntI_bd (a := z) (s := s) (by omega) (by omega)
        have HZ := Lib.hid hz
        clear hcc hz
        go_wp2_with (go_at_call 74; refine (stitchesFor_any z s _ (by omega) (by omega) (by omega) (by omega)).mono ?_; rintro e w1 ⟨rfl, rfl⟩)
        go_roundw
        case rel => exact ⟨k + 1, by omega, by go_num, ⟨_, rfl, Lib.hid (by simp only [totI, HZ.out, hx.out])⟩, hbw⟩
        case measure => simp [intOf]; omega
      · obtain rfl : k = n := by omega
        obtain rfl : x = r := by rw [hx.out, HR.out]
        go_wp2
        go_ret2
        exact ⟨rfl, hbw.out.1⟩
  · obtain rfl : r = 0 := by rw [← hr]; simp [totF, hq, h0]
    have h0' : (q != 0) = true := by simpa using h0
    have H1 := Lib.hid h1
    clear h1 hr hq h0 hl hc
    go_enter Tryd.func37, Tryd.ntmps37
    go_wp2_with (go_at_call 73; refine H1.out.mono ?_; rintro e w1 ⟨rfl, hb1⟩)
    go_ret2
    exact ⟨rfl, hb1⟩

set_option maxRecDepth 100000 in
set_option maxHeartbeats 1600000 in
theorem l15Total_any (w : World) (a : Option Addr) (n c : Nat) (zs : List Int) (hl : zs.length = n) (hc : CellsAt w a (zs.map (Value.int .i64))) (s : Int) (hq : sidesC zs n s = 0) :
    Calls Tryd.prog 79 #[.slice a n c, .int .i64 s] w fun e w' => e = .returned (.int .i64 (totI zs s n)) ∧ Below w.heap.size w w' := by
  obtain ⟨r, hr⟩ : ∃ r, totI zs s n = r := ⟨_, rfl⟩
  rw [hr]
  obtain ⟨hb, s1, s2⟩ := sides_ok hq
  have HBd := Lib.hid (fun i (hi : i ≤ n) => totI_bd hb hl s1 hi)
  have HAt := Lib.hid (fun k (hk : k < n) => sides_at hb hl hk)
  obtain ⟨n1, n2⟩ := sides_n hb
  have HR := Lib.hid hr
  have Hz := Lib.hid hl
  have HA := Lib.hid hc
  clear hr hq hb hl hc
  go_enter Tryd.func79, Tryd.ntmps79
  go_wp2
  go_loopw [5, 6] (fun v t wr => ∃ k : Nat, k ≤ n ∧ t = .int .i64 k ∧ (∃ x : Int, v = .int .i64 x ∧ Hid (x = totI zs s k)) ∧ Hid (Bel w.heap.size w wr)) (fun _ t _ => n - (intOf t).toNat)
  case atStart => exact ⟨0, Nat.zero_le _, rfl, ⟨0, rfl, Lib.hid rfl⟩, Lib.hid (Bel.refl w)⟩
  case round =>
    obtain ⟨k, hk, rfl, ⟨x, rfl, hx⟩, hbw⟩ := hrel
    obtain ⟨x1, x2⟩ := HBd.out k hk
    rw [← hx.out] at x1 x2
    by_cases hlt : k < n
    · obtain ⟨b, o, rfl, hb, hcc⟩ := HA.out.at_ (by have := Hz.out; simp; omega)
      obtain ⟨z, hz⟩ : ∃ z, zs.getD k 0 = z := ⟨_, rfl⟩
      have hcx := cell_int hb hbw.out.1 hcc (by rw [Hz.out]; exact hlt) hz
      have z12 := HAt.out k hlt
      rw [hz] at z12
      obtain ⟨z1, z2⟩ := z12
      obtain ⟨y1, y2⟩ := cntI_bd (a := z) (s := s) (by omega) (by omega)
      have HZ := Lib.hid hz
      clear hcc hz
      go_wp2_with (go_at_call 72; refine (l15Count_any z s _ (by omega) (by omega) (by omega) (by omega)).mono ?_; rintro e w1 ⟨rfl, rfl⟩)
      go_roundw
      case rel => exact ⟨k + 1, by omega, by go_num, ⟨_, rfl, Lib.hid (by simp only [totI, HZ.out, hx.out])⟩, hbw⟩
      case measure => simp [intOf]; omega
    · obtain rfl : k = n := by omega
      obtain rfl : x = r := by rw [hx.out, HR.out]
      go_wp2
      go_ret
      exact ⟨rfl, hbw.out.1⟩

set_option maxHeartbeats 1600000 in
theorem spec_StitchTotal (w : World) (a : Option Addr) (n c : Nat) (zs : List Int) (hl : zs.length = n) (hn : n ≤ 1048576) (hc : CellsAt w a (zs.map (Value.int .i64))) (_ : ∀ z ∈ zs, (Lit.int .i64 z).wf = true) (s : Int) (_ : (Lit.int .i64 s).wf = true) :
    Calls Tryd.prog 38 #[.slice a n c, .int .i64 s] w fun e w' => e = .returned (.tuple #[.int .i64 (totF zs n s), .int .i64 (sidesC zs n s)]) ∧ Below w.heap.size w w' := by
  have h1 := l15Code_any a n c zs s w hl (by omega) hc
  have h2 := fun W (e : Below w.heap.size w W) => l15Total_any W a n c zs hl (hc.below e) s
  obtain ⟨r, hr⟩ : ∃ r, totF zs n s = r := ⟨_, rfl⟩
  obtain ⟨q, hq⟩ : ∃ q, sidesC zs n s = q := ⟨_, rfl⟩
  rw [hr, hq]
  rw [hq] at h1
  by_cases h0 : q = 0
  · subst h0
    have h3 := fun W e => h2 W e hq
    rw [show totI zs s n = r by rw [← hr]; simp [totF, hq]] at h3
    have H1 := Lib.hid h1
    have H3 := Lib.hid h3
    clear h1 h2 h3 hr hq hl hc
    go_enter Tryd.func38, Tryd.ntmps38
    go_wp2_with (first | (go_at_call 70; refine H1.out.mono ?_; rintro e w1 ⟨rfl, hb1⟩; have HB1 := Lib.hid hb1; clear hb1) | (go_at_call 79; refine (H3.out _ HB1.out).mono ?_; rintro e w2 ⟨rfl, hb2⟩; have HB2 := Lib.hid hb2; clear hb2))
    go_ret2
    exact ⟨rfl, ((Bel.of HB1.out).step HB2.out).1⟩
  · obtain rfl : r = 0 := by rw [← hr]; simp [totF, hq, h0]
    have h0' : (q != 0) = true := by simpa using h0
    have H1 := Lib.hid h1
    clear h1 h2 hr hq h0 hl hc
    go_enter Tryd.func38, Tryd.ntmps38
    go_wp2_with (go_at_call 70; refine H1.out.mono ?_; rintro e w1 ⟨rfl, hb1⟩)
    go_ret2
    exact ⟨rfl, hb1⟩

/-! ### Minutes -/
def minB (e k : Int) : Bool := inB e 0 600 && inB k 0 600
def minC (zs : List Int) (n : Nat) (s e k : Int) : Int := if sidesC zs n s = 0 then (if minB e k then 0 else 2) else sidesC zs n s
def minF (zs : List Int) (n : Nat) (s e k : Int) : Int := if sidesC zs n s = 0 then (if minB e k then (totI zs s n * e + ((n : Int) - 1) * k + 59) / 60 else 0) else 0
theorem prod_bd {a b A B : Int} (h1 : 0 ≤ a) (h2 : a ≤ A) (h3 : 0 ≤ b) (h4 : b ≤ B) : 0 ≤ a * b ∧ a * b ≤ A * B :=
  ⟨Int.mul_nonneg h1 h3, Int.mul_le_mul h2 h4 h3 (by omega)⟩

end Go.Proofs.YtfkojbkgpbpjhaaDoor
