/-
  Contracts of StitchLengths, both sides. No condition of its own.
-/
import Derived.Test.YtfkojbkgpbpjhaaDoorHoles
import Derived.Test.YtfkojbkgpbpjhaaDoorFracs
import Derived.Test.YtfkojbkgpbpjhaaDoorClone
namespace Go.Proofs.YtfkojbkgpbpjhaaDoor
open Go.ChangeShapes Go.WideShapes Go.ChangeAt Go.RowKit Go.Deep Go.Shelf

/-- A fraction in lowest terms. -/
def lowI (n d : Int) : List Int := [n / Int.gcd n d, d / Int.gcd n d]
def lensI (zs : List Int) (s : Int) : Nat → List Int
  | 0 => []
  | i + 1 => lensI zs s i ++ lowI (zs.getD i 0) (cntI (zs.getD i 0) s)
theorem length_lensI (zs : List Int) (s : Int) (i : Nat) : (lensI zs s i).length = i * 2 := by
  induction i with
  | zero => rfl
  | succ i ih => simp only [lensI, lowI, List.length_append, ih, List.length_cons, List.length_nil]; omega
def lensF (zs : List Int) (n : Nat) (s : Int) : List Int := if sidesC zs n s = 0 then lensI zs s n else []

set_option maxRecDepth 100000 in
set_option maxHeartbeats 3200000 in
theorem lengths_any (w : World) (a : Option Addr) (n c : Nat) (zs : List Int) (s : Int) (hl : zs.length = n) (hc : CellsAt w a (zs.map (Value.int .i64))) (hb : sidesB zs n = true) (s1 : 10 ≤ s) (s2 : s ≤ 120) :
    Calls Tryd.prog 77 #[.slice a n c, .int .i64 s] w (OwnRow w 69 2 n ((lensI zs s n).map (Value.int .i64))) := by
  obtain ⟨r, hr⟩ : ∃ r, lensI zs s n = r := ⟨_, rfl⟩
  rw [hr]
  have HAt := Lib.hid (fun k (hk : k < n) => sides_at hb hl hk)
  obtain ⟨n1, n2⟩ := sides_n hb
  have HR := Lib.hid hr
  have Hz := Lib.hid hl
  have HA := Lib.hid hc
  clear hr hb hl hc
  go_enter Tryd.func77, Tryd.ntmps77
  go_wp2
  go_loopw [5, 11] (fun v t wr => ∃ i : Nat, i ≤ n ∧ t = .int .i64 i ∧ ∃ (ao : Option Addr) (co : Nat), v = .slice ao i co ∧ Hid (wr.ownsRow w.heap.size 69 2 (.slice ao i co) i ((lensI zs s i).map (Value.int .i64))) ∧ Hid (Bel w.heap.size w wr)) (fun _ t _ => n - (intOf t).toNat)
  case atStart => exact ⟨0, Nat.zero_le _, rfl, _, _, rfl, Lib.hid (own_none' w w.heap.size 69 2 (Nat.le_refl _)), Lib.hid ((Bel.refl w).alloc _)⟩
  case round =>
    obtain ⟨i, hi, rfl, ao, co, rfl, hown, hbw⟩ := hrel
    by_cases hlt : i < n
    · obtain ⟨b, o, rfl, hb, hcc⟩ := HA.out.at_ (by have := Hz.out; simp; omega)
      obtain ⟨z, hz⟩ : ∃ z, zs.getD i 0 = z := ⟨_, rfl⟩
      have hcx := cell_int hb hbw.out.1 hcc (by rw [Hz.out]; exact hlt) hz
      have z12 := HAt.out i hlt
      rw [hz] at z12
      obtain ⟨z1, z2⟩ := z12
      obtain ⟨y1, y2⟩ := cntI_bd (a := z) (s := s) (by omega) (by omega)
      have hlow := fun W => lowest_any z (cntI z s) W (by omega) (by omega) y1 (by omega)
      obtain ⟨p, hp⟩ : ∃ p, z / Int.gcd z (cntI z s) = p := ⟨_, rfl⟩
      obtain ⟨q, hq⟩ : ∃ q, cntI z s / Int.gcd z (cntI z s) = q := ⟨_, rfl⟩
      simp only [hp, hq] at hlow
      have HL := Lib.hid hlow
      have HN := Lib.hid (show lensI zs s (i + 1) = lensI zs s i ++ [p, q] by simp only [lensI, lowI, hz, hp, hq])
      have hlt' : (i : Int) < (n : Int) := by omega
      clear hcc hz hp hq hlow
      go_wp2_with (first | (go_at_call 74; refine (stitchesFor_any z s _ (by omega) (by omega) (by omega) (by omega)).mono ?_; rintro e w1 ⟨rfl, rfl⟩) | (go_at_call 91; refine (HL.out _).mono ?_; rintro e w3 ⟨rfl, hb3⟩; have Hb3 := Lib.hid (hbw.out.step hb3); have Ho3 := Lib.hid (own_below hown.out hb3); clear hb3) | (at_builtin; refine appFraction (by rfl) _ _ (by rfl) w.heap.size _ _ _ (by rfl) Ho3.out _ _ 1 w3.heap.size (by simp) (by rfl) (by omega) Hb3.out ?_; intro g5 cap5 w5 ho5 hb5 hg5 hat5; have Ho5 := Lib.hid ho5; have Hb5 := Lib.hid hb5; clear ho5 hb5 hg5 hat5))
      go_roundw
      case rel => exact ⟨i + 1, by omega, by go_num, some ⟨g5, 0, none⟩, cap5, rfl, Lib.hid (by rw [HN.out, List.map_append]; exact Ho5.out), Hb5⟩
      case measure => simp [intOf]; omega
    · obtain rfl : i = n := by omega
      go_wp2
      go_ret
      exact ⟨ao, co, rfl, by rw [← HR.out]; exact hown.out, hbw.out.1⟩
set_option maxHeartbeats 1600000 in
theorem impl_StitchLengths (w : World) (a : Option Addr) (n c : Nat) (zs : List Int) (hl : zs.length = n) (hn : n ≤ 1048576) (hc : CellsAt w a (zs.map (Value.int .i64))) (_ : ∀ z ∈ zs, (Lit.int .i64 z).wf = true) (s : Int) (_ : (Lit.int .i64 s).wf = true) :
    Calls Tryd.prog 35 #[.slice a n c, .int .i64 s] w (RowEnd w 69 2 (lensF zs n s) (sidesC zs n s)) := by
  have h1 := sidesCode_any a n c zs s w hl (by omega) hc
  obtain ⟨r, hr⟩ : ∃ r, lensF zs n s = r := ⟨_, rfl⟩
  obtain ⟨q, hq⟩ : ∃ q, sidesC zs n s = q := ⟨_, rfl⟩
  rw [hr, hq]
  rw [hq] at h1
  by_cases h0 : q = 0
  · subst h0
    obtain ⟨hb, s1, s2⟩ := sides_ok hq
    obtain ⟨n1, n2⟩ := sides_n hb
    have h2 := fun W (e : Below w.heap.size w W) => lengths_any W a n c zs s hl (hc.below e) hb s1 s2
    have hr' : lensI zs s n = r := by rw [← hr]; simp [lensF, hq]
    have hrl : r.length = n * 2 := by rw [← hr', length_lensI]
    rw [hr'] at h2
    have H1 := Lib.hid h1
    have H2 := Lib.hid h2
    have HL := Lib.hid hrl
    clear h1 h2 hr hr' hrl hq hb hl hc
    go_enter Tryd.func35, Tryd.ntmps35
    go_wp2_with (first | (go_at_call 73; refine H1.out.mono ?_; rintro e w1 ⟨rfl, hb1⟩; have HB1 := Lib.hid (Bel.of hb1); clear hb1) | (go_at_call 77; refine (H2.out _ HB1.out.1).mono ?_; rintro e w2 ⟨aL, capL, rfl, hoL, hb2⟩; have HO := Lib.hid (own_base hoL HB1.out.2); have HB2 := Lib.hid (HB1.out.step hb2); clear hoL hb2))
    go_ret2
    exact ⟨aL, n, capL, rfl, HL.out, by omega, HO.out, HB2.out.1⟩
  · obtain rfl : r = [] := by rw [← hr]; simp [lensF, hq, h0]
    have h0' : (q != 0) = true := by simpa using h0
    have H1 := Lib.hid h1
    clear h1 hr hq h0 hl hc
    go_enter Tryd.func35, Tryd.ntmps35
    go_wp2_with (go_at_call 73; refine H1.out.mono ?_; rintro e w1 ⟨rfl, hb1⟩)
    go_ret2
    exact rowEnd_fail hb1

set_option maxRecDepth 100000 in
set_option maxHeartbeats 3200000 in
theorem spec_StitchLengths (w : World) (a : Option Addr) (n c : Nat) (zs : List Int) (hl : zs.length = n) (hn : n ≤ 1048576) (hc : CellsAt w a (zs.map (Value.int .i64))) (_ : ∀ z ∈ zs, (Lit.int .i64 z).wf = true) (s : Int) (_ : (Lit.int .i64 s).wf = true) :
    Calls Tryd.prog 36 #[.slice a n c, .int .i64 s] w (RowEnd w 69 2 (lensF zs n s) (sidesC zs n s)) := by
  have h1 := l15Code_any a n c zs s w hl (by omega) hc
  obtain ⟨r, hr⟩ : ∃ r, lensF zs n s = r := ⟨_, rfl⟩
  obtain ⟨q, hq⟩ : ∃ q, sidesC zs n s = q := ⟨_, rfl⟩
  rw [hr, hq]
  rw [hq] at h1
  by_cases h0 : q = 0
  · subst h0
    obtain ⟨hb, s1, s2⟩ := sides_ok hq
    obtain ⟨n1, n2⟩ := sides_n hb
    have hr' : lensI zs s n = r := by rw [← hr]; simp [lensF, hq]
    have HAt := Lib.hid (fun k (hk : k < n) => sides_at hb hl hk)
    have H1 := Lib.hid h1
    have HR := Lib.hid hr'
    have Hz := Lib.hid hl
    have HA := Lib.hid hc
    clear h1 hr hr' hq hb hl hc
    go_enter Tryd.func36, Tryd.ntmps36
    go_wp2_with (go_at_call 70; refine H1.out.mono ?_; rintro e w1 ⟨rfl, hb1⟩; have HB1 := Lib.hid (Bel.of hb1); clear hb1)
    go_loopw [7, 8] (fun v t wr => ∃ i : Nat, i ≤ n ∧ t = .int .i64 i ∧ ∃ (ao : Option Addr) (co : Nat), v = .slice ao i co ∧ Hid (wr.ownsRow w.heap.size 69 2 (.slice ao i co) i ((lensI zs s i).map (Value.int .i64))) ∧ Hid (Bel w.heap.size w wr)) (fun _ t _ => n - (intOf t).toNat)
    case atStart => exact ⟨0, Nat.zero_le _, rfl, _, _, rfl, Lib.hid (own_none' w1 w.heap.size 69 2 HB1.out.2), Lib.hid (HB1.out.alloc _)⟩
    case round =>
      obtain ⟨i, hi, rfl, ao, co, rfl, hown, hbw⟩ := hrel
      by_cases hlt : i < n
      · obtain ⟨b, o, rfl, hb, hcc⟩ := HA.out.at_ (by have := Hz.out; simp; omega)
        obtain ⟨z, hz⟩ : ∃ z, zs.getD i 0 = z := ⟨_, rfl⟩
        have HCC := Lib.hid (fun W (h : Bel w.heap.size w W) => cell_int hb h.1 hcc (by rw [Hz.out]; exact hlt) hz)
        have hcx := HCC.out _ hbw.out
        have z12 := HAt.out i hlt
        rw [hz] at z12
        obtain ⟨z1, z2⟩ := z12
        obtain ⟨y1, y2⟩ := cntI_bd (a := z) (s := s) (by omega) (by omega)
        have hlow := fun W => l02Make_any z (cntI z s) W (by omega) (by omega) y1 (by omega)
        have hcnt := fun W => l15Count_any z s W (by omega) (by omega) (by omega) (by omega)
        obtain ⟨p, hp⟩ : ∃ p, z / Int.gcd z (cntI z s) = p := ⟨_, rfl⟩
        obtain ⟨q, hq⟩ : ∃ q, cntI z s / Int.gcd z (cntI z s) = q := ⟨_, rfl⟩
        simp only [hp, hq] at hlow
        have HL := Lib.hid hlow
        have HCn := Lib.hid hcnt
        have HN := Lib.hid (show lensI zs s (i + 1) = lensI zs s i ++ [p, q] by simp only [lensI, lowI, hz, hp, hq])
        have hlt' : (i : Int) < (n : Int) := by omega
        have hi0 : (0 : Int) ≤ (i : Int) := by omega
        clear hcc hz hp hq hlow hcnt
        go_wp2_with fail
        go_region_held3 (fun W => W.cell? ⟨b, o + i, none⟩ = some (.int .i64 z)) (first | go_keep | exact HCC.out _ hb5 | exact HCC.out _ Hb3.out)
          ((first | (go_at_call 72; refine (HCn.out _).mono ?_; rintro e w9 ⟨rfl, rfl⟩) | (go_at_call 78; refine (HL.out _).mono ?_; rintro e w3 ⟨rfl, hb3⟩; have Hb3 := Lib.hid (hbw.out.drew.step hb3); have Ho3 := Lib.hid (own_below (w := wr.drew) hown.out hb3); clear hb3) | (refine stepFraction (by rfl) _ _ (by rfl) w.heap.size _ _ _ (by rfl) (Ho3.out.alloc _) [.int .i64 p, .int .i64 q] (by rfl) (by simp [Value.oneCell']) 1 w3.heap.size (new_cells (w := w3) (cs := #[.int .i64 p, .int .i64 q]) (t := 69) rfl rfl) (by rfl) (by omega) (Hb3.out.alloc _) ?_; intro g5 cap5 w5 ho5 hb5 hg5 hat5)))
        have Ho5 := Lib.hid ho5
        have Hb5 := Lib.hid hb5
        clear ho5 hb5 hg5 hat5
        go_wp2
        go_roundw
        case rel => exact ⟨i + 1, by omega, by go_num, some ⟨g5, 0, none⟩, cap5, rfl, Lib.hid (by rw [HN.out, List.map_append]; exact Ho5.out), Hb5⟩
        case measure => simp [intOf]; omega
      · obtain rfl : i = n := by omega
        go_wp2
        go_ret2
        exact ⟨ao, i, co, rfl, by rw [← HR.out, length_lensI], by omega, by rw [← HR.out]; exact hown.out, hbw.out.1⟩
  · obtain rfl : r = [] := by rw [← hr]; simp [lensF, hq, h0]
    have h0' : (q != 0) = true := by simpa using h0
    have H1 := Lib.hid h1
    clear h1 hr hq h0 hl hc
    go_enter Tryd.func36, Tryd.ntmps36
    go_wp2_with (go_at_call 70; refine H1.out.mono ?_; rintro e w1 ⟨rfl, hb1⟩)
    go_ret2
    exact rowEnd_fail hb1
end Go.Proofs.YtfkojbkgpbpjhaaDoor
