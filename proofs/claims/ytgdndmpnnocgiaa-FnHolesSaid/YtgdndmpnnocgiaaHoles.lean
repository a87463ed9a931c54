/-
  Contracts of HolesOf, both sides. No condition of its own.
-/
import Derived.Test.YtgdndmpnnocgiaaTotal
import Derived.Test.YtgdndmpnnocgiaaApp2
namespace Go.Proofs.Ytgdndmpnnocgiaa
open Go.ChangeShapes Go.WideShapes Go.ChangeAt Go.RowKit Go.Deep Go.Shelf

theorem rowEnd_fail {w w' : World} {E k : Nat} {c : Int} (hb : Below w.heap.size w w') : RowEnd w E k [] c (.returned (.tuple #[.slice none 0 0, .int .i64 c])) w' :=
  ⟨none, 0, 0, rfl, by simp, by omega, World.ownsRow_nil _ _ _ _, hb⟩
theorem own_one (w : World) (B E : Nat) (v : Value) (hB : B ≤ w.heap.size) : (w.alloc (.cells #[v] E)).ownsRow B E 1 (.slice (some ⟨w.heap.size, 0, none⟩) 1 1) 1 [v] :=
  own_base (World.ownsRow_lit (size := 1) (e := E) w #[v] 1 (Nat.le_refl _) (by unfold maxLen; omega) (by simp)) hB

/-- The holes of one side. -/
def sideH (b z c : Int) : Nat → List Int
  | 0 => []
  | k + 1 => sideH b z c k ++ [b + rndI (z * ((k : Int) + 1)) c]
theorem length_sideH (b z c : Int) (k : Nat) : (sideH b z c k).length = k := by
  induction k with
  | zero => rfl
  | succ k ih => simp only [sideH, List.length_append, ih, List.length_cons, List.length_nil]
def begI (zs : List Int) : Nat → Int
  | 0 => 0
  | i + 1 => begI zs i + zs.getD i 0
def holesI (zs : List Int) (s : Int) : Nat → List Int
  | 0 => [0]
  | i + 1 => holesI zs s i ++ sideH (begI zs i) (zs.getD i 0) (cntI (zs.getD i 0) s) (cntI (zs.getD i 0) s).toNat
def holesF (zs : List Int) (n : Nat) (s : Int) : List Int := if sidesC zs n s = 0 then holesI zs s n else []
theorem begI_bd {zs : List Int} {n : Nat} (h : sidesB zs n = true) (hl : zs.length = n) : ∀ {i : Nat}, i ≤ n → 0 ≤ begI zs i ∧ begI zs i ≤ i * 5000 := by
  intro i
  induction i with
  | zero => intro _; simp [begI]
  | succ i ih =>
    intro hi
    have h1 := ih (by omega)
    have h2 := sides_at h hl (k := i) (by omega)
    simp only [begI]
    omega
theorem side_step {zs ds : List Int} {i k m : Nat} {x z s : Int} (h : ds = holesI zs s i ++ sideH x z m k) : ds ++ [x + rndI (z * ((k : Int) + 1)) m] = holesI zs s i ++ sideH x z m (k + 1) := by
  rw [h]; simp [sideH]
theorem side_end {zs ds : List Int} {i m : Nat} {x z s : Int} (h : ds = holesI zs s i ++ sideH x z m m) (hz : zs.getD i 0 = z) (hx : x = begI zs i) (hm : cntI z s = (m : Int)) : ds = holesI zs s (i + 1) := by
  rw [h]; simp only [holesI, hz, hm, ← hx, Int.toNat_natCast]

set_option maxRecDepth 100000 in
set_option maxHeartbeats 3200000 in
theorem impl_HolesOf (w : World) (a : Option Addr) (n c : Nat) (zs : List Int) (hl : zs.length = n) (hn : n ≤ 1048576) (hc : CellsAt w a (zs.map (Value.int .i64))) (_ : ∀ z ∈ zs, (Lit.int .i64 z).wf = true) (s : Int) (_ : (Lit.int .i64 s).wf = true) :
    Calls Try.prog 26 #[.slice a n c, .int .i64 s] w (RowEnd w 2 1 (holesF zs n s) (sidesC zs n s)) := by
  have h1 := sidesCode_any a n c zs s w hl (by omega) hc
  obtain ⟨r, hr⟩ : ∃ r, holesF zs n s = r := ⟨_, rfl⟩
  obtain ⟨q, hq⟩ : ∃ q, sidesC zs n s = q := ⟨_, rfl⟩
  rw [hr, hq]
  rw [hq] at h1
  by_cases h0 : q = 0
  · subst h0
    obtain ⟨hb, s1, s2⟩ := sides_ok hq
    have hr' : holesI zs s n = r := by rw [← hr]; simp [holesF, hq]
    have HBd := Lib.hid (fun i (hi : i ≤ n) => begI_bd hb hl hi)
    have HAt := Lib.hid (fun k (hk : k < n) => sides_at hb hl hk)
    obtain ⟨n1, n2⟩ := sides_n hb
    have H1 := Lib.hid h1
    have HR := Lib.hid hr'
    have Hz := Lib.hid hl
    have HA := Lib.hid hc
    clear h1 hr hr' hq hb hl hc
    go_enter Try.func26, Try.ntmps26
    go_wp2_with (go_at_call 59; refine H1.out.mono ?_; rintro e w1 ⟨rfl, hb1⟩; have HB1 := Lib.hid (Bel.of hb1); clear hb1)
    go_loopw [7, 8, 22] (fun v b t wr => ∃ i : Nat, i ≤ n ∧ t = .int .i64 i ∧ ∃ (ds : List Int) (ao : Option Addr) (co : Nat) (x : Int), v = .slice ao ds.length co ∧ b = .int .i64 x ∧ ds.length ≤ 1 + i * 5001 ∧ Hid (ds = holesI zs s i) ∧ Hid (x = begI zs i) ∧ Hid (wr.ownsRow w.heap.size 2 1 (.slice ao ds.length co) ds.length (ds.map (Value.int .i64))) ∧ Hid (Bel w.heap.size w wr)) (fun _ _ t _ => n - (intOf t).toNat)
    case atStart => exact ⟨0, Nat.zero_le _, rfl, [0], some ⟨w1.heap.size, 0, none⟩, 1, 0, rfl, rfl, by simp, Lib.hid rfl, Lib.hid rfl, Lib.hid (own_one w1 w.heap.size 2 _ HB1.out.2), Lib.hid (HB1.out.alloc _)⟩
    case round =>
      obtain ⟨i, hi, rfl, ds, ao, co, x, rfl, rfl, hdl, hds, hx, hown, hbw⟩ := hrel
      obtain ⟨x1, x2⟩ := HBd.out i hi
      rw [← hx.out] at x1 x2
      by_cases hlt : i < n
      · obtain ⟨b, o, rfl, hb, hcc⟩ := HA.out.at_ (by have := Hz.out; simp; omega)
        obtain ⟨z, hz⟩ : ∃ z, zs.getD i 0 = z := ⟨_, rfl⟩
        have hcx := cell_int hb hbw.out.1 hcc (by rw [Hz.out]; exact hlt) hz
        have z12 := HAt.out i hlt
        rw [hz] at z12
        obtain ⟨z1, z2⟩ := z12
        obtain ⟨y1, y2⟩ := cntI_bd (a := z) (s := s) (by omega) (by omega)
        obtain ⟨m, hm⟩ : ∃ m : Nat, cntI z s = (m : Int) := ⟨(cntI z s).toNat, by omega⟩
        have hcall := fun W => stitchesFor_any z s W (by omega) (by omega) (by omega) (by omega)
        simp only [hm] at hcall
        rw [hm] at y1 y2
        have HM := Lib.hid hm
        have HZ := Lib.hid hz
        have HC := Lib.hid hcall
        clear hcc hz hm hcall
        go_wp2_with (go_at_call 60; refine (HC.out _).mono ?_; rintro e w1 ⟨rfl, rfl⟩)
        go_loopw [7, 12] (fun v t wi => ∃ k : Nat, k ≤ m ∧ t = .int .i64 ((k : Int) + 1) ∧ ∃ (ds : List Int) (ao : Option Addr) (co : Nat), v = .slice ao ds.length co ∧ ds.length ≤ 1 + i * 5001 + k ∧ Hid (ds = holesI zs s i ++ sideH x z m k) ∧ Hid (wi.ownsRow w.heap.size 2 1 (.slice ao ds.length co) ds.length (ds.map (Value.int .i64))) ∧ Hid (Bel w.heap.size w wi)) (fun _ t _ => (m + 1) - (intOf t).toNat)
        case atStart => exact ⟨0, Nat.zero_le _, rfl, ds, ao, co, rfl, by omega, Lib.hid (by rw [hds.out]; simp [sideH]), hown, hbw⟩
        case round =>
          obtain ⟨k, hk, rfl, ds, ao, co, rfl, hdl, hds, hown, hbw⟩ := hrel
          by_cases hlk : k < m
          · obtain ⟨p1, p2⟩ := prod_bd (a := z) (b := (k : Int) + 1) (by omega) z2 (by omega) (show (k : Int) + 1 ≤ 5001 by omega)
            obtain ⟨q1, q2⟩ := rndI_bd (b := (m : Int)) p1 y1
            go_wp2_with (first | (go_at_call 63; refine (rounded_any _ _ _ p1 (by omega) y1 (by omega)).mono ?_; rintro e w1 ⟨rfl, rfl⟩) | (at_builtin; refine appJ (by rfl) _ _ (by rfl) w.heap.size _ _ _ (by rfl) hown.out _ 1 wr.heap.size (by simp) (by rfl) (by omega) hbw.out ?_; intro g5 cap5 w5 ho5 hb5 hg5 hat5; have Ho5 := Lib.hid ho5; have Hb5 := Lib.hid hb5; clear ho5 hb5 hg5 hat5))
            go_roundw
            case rel => exact ⟨k + 1, by omega, by go_num, ds ++ [x + rndI (z * ((k : Int) + 1)) m], some ⟨g5, 0, none⟩, cap5, by simp, by simp; omega, Lib.hid (side_step hds.out), Lib.hid (by simpa using Ho5.out), Hb5⟩
            case measure => simp [intOf]; omega
          · obtain rfl : k = m := by omega
            go_wp2
            go_roundw
            case rel => exact ⟨i + 1, by omega, by go_num, ds, ao, co, x + z, rfl, rfl, by omega, Lib.hid (side_end hds.out HZ.out hx.out HM.out), Lib.hid (by simp only [begI, HZ.out, hx.out]), hown, hbw⟩
            case measure => simp [intOf]; omega
      · obtain rfl : i = n := by omega
        obtain rfl : ds = r := by rw [hds.out, HR.out]
        go_wp2
        go_ret2
        exact ⟨ao, ds.length, co, rfl, by omega, by omega, hown.out, hbw.out.1⟩
  · obtain rfl : r = [] := by rw [← hr]; simp [holesF, hq, h0]
    have h0' : (q != 0) = true := by simpa using h0
    have H1 := Lib.hid h1
    clear h1 hr hq h0 hl hc
    go_enter Try.func26, Try.ntmps26
    go_wp2_with (go_at_call 59; refine H1.out.mono ?_; rintro e w1 ⟨rfl, hb1⟩)
    go_ret2
    exact rowEnd_fail hb1
set_option maxRecDepth 100000 in
set_option maxHeartbeats 3200000 in
theorem spec_HolesOf (w : World) (a : Option Addr) (n c : Nat) (zs : List Int) (hl : zs.length = n) (hn : n ≤ 1048576) (hc : CellsAt w a (zs.map (Value.int .i64))) (_ : ∀ z ∈ zs, (Lit.int .i64 z).wf = true) (s : Int) (_ : (Lit.int .i64 s).wf = true) :
    Calls Try.prog 25 #[.slice a n c, .int .i64 s] w (RowEnd w 2 1 (holesF zs n s) (sidesC zs n s)) := by
  have h1 := l15Code_any a n c zs s w hl (by omega) hc
  obtain ⟨r, hr⟩ : ∃ r, holesF zs n s = r := ⟨_, rfl⟩
  obtain ⟨q, hq⟩ : ∃ q, sidesC zs n s = q := ⟨_, rfl⟩
  rw [hr, hq]
  rw [hq] at h1
  by_cases h0 : q = 0
  · subst h0
    obtain ⟨hb, s1, s2⟩ := sides_ok hq
    have hr' : holesI zs s n = r := by rw [← hr]; simp [holesF, hq]
    have HBd := Lib.hid (fun i (hi : i ≤ n) => begI_bd hb hl hi)
    have HAt := Lib.hid (fun k (hk : k < n) => sides_at hb hl hk)
    obtain ⟨n1, n2⟩ := sides_n hb
    have H1 := Lib.hid h1
    have HR := Lib.hid hr'
    have Hz := Lib.hid hl
    have HA := Lib.hid hc
    clear h1 hr hr' hq hb hl hc
    go_enter Try.func25, Try.ntmps25
    go_wp2_with (go_at_call 57; refine H1.out.mono ?_; rintro e w1 ⟨rfl, hb1⟩; have HB1 := Lib.hid (Bel.of hb1); clear hb1)
    go_loopw [7, 8, 9] (fun v b t wr => ∃ i : Nat, i ≤ n ∧ t = .int .i64 i ∧ ∃ (ds : List Int) (ao : Option Addr) (co : Nat) (x : Int), v = .slice ao ds.length co ∧ b = .int .i64 x ∧ ds.length ≤ 1 + i * 5001 ∧ Hid (ds = holesI zs s i) ∧ Hid (x = begI zs i) ∧ Hid (wr.ownsRow w.heap.size 2 1 (.slice ao ds.length co) ds.length (ds.map (Value.int .i64))) ∧ Hid (Bel w.heap.size w wr)) (fun _ _ t _ => n - (intOf t).toNat)
    case atStart => exact ⟨0, Nat.zero_le _, rfl, [0], some ⟨w1.heap.size, 0, none⟩, 1, 0, rfl, rfl, by simp, Lib.hid rfl, Lib.hid rfl, Lib.hid (own_one w1 w.heap.size 2 _ HB1.out.2), Lib.hid (HB1.out.alloc _)⟩
    case round =>
      obtain ⟨i, hi, rfl, ds, ao, co, x, rfl, rfl, hdl, hds, hx, hown, hbw⟩ := hrel
      obtain ⟨x1, x2⟩ := HBd.out i hi
      rw [← hx.out] at x1 x2
      by_cases hlt : i < n
      · obtain ⟨b, o, rfl, hb, hcc⟩ := HA.out.at_ (by have := Hz.out; simp; omega)
        obtain ⟨z, hz⟩ : ∃ z, zs.getD i 0 = z := ⟨_, rfl⟩
        have hcx := cell_int hb hbw.out.1 hcc (by rw [Hz.out]; exact hlt) hz
        have z12 := HAt.out i hlt
        rw [hz] at z12
        obtain ⟨z1, z2⟩ := z12
        obtain ⟨y1, y2⟩ := cntI_bd (a := z) (s := s) (by omega) (by omega)
        obtain ⟨m, hm⟩ : ∃ m : Nat, cntI z s = (m : Int) := ⟨(cntI z s).toNat, by omega⟩
        have hcall := fun W => l15Count_any z s W (by omega) (by omega) (by omega) (by omega)
        simp only [hm] at hcall
        rw [hm] at y1 y2
        have HCC := Lib.hid (fun W (h : Bel w.heap.size w W) => cell_int hb h.1 hcc (by rw [Hz.out]; exact hlt) hz)
        have HM := Lib.hid hm
        have HZ := Lib.hid hz
        have HC := Lib.hid hcall
        clear hcc hz hm hcall
        go_wp2_with (go_at_call 61; refine (HC.out _).mono ?_; rintro e w1 ⟨rfl, rfl⟩)
        clear hcx
        go_loopw [7, 11] (fun v t wi => ∃ k : Nat, k ≤ m ∧ t = .int .i64 ((k : Int) + 1) ∧ ∃ (ds : List Int) (ao : Option Addr) (co : Nat), v = .slice ao ds.length co ∧ ds.length ≤ 1 + i * 5001 + k ∧ Hid (ds = holesI zs s i ++ sideH x z m k) ∧ Hid (wi.ownsRow w.heap.size 2 1 (.slice ao ds.length co) ds.length (ds.map (Value.int .i64))) ∧ Hid (Bel w.heap.size w wi)) (fun _ t _ => (m + 1) - (intOf t).toNat)
        case atStart => exact ⟨0, Nat.zero_le _, rfl, ds, ao, co, rfl, by omega, Lib.hid (by rw [hds.out]; simp [sideH]), hown, hbw⟩
        case round =>
          obtain ⟨k, hk, rfl, ds, ao, co, rfl, hdl, hds, hown, hbw⟩ := hrel
          by_cases hlk : k < m
          · obtain ⟨p1, p2⟩ := prod_bd (a := z) (b := (k : Int) + 1) (by omega) z2 (by omega) (show (k : Int) + 1 ≤ 5001 by omega)
            obtain ⟨q1, q2⟩ := rndI_bd (b := (m : Int)) p1 y1
            have hcx := HCC.out _ hbw.out
            go_wp2_with (first | (go_at_call 62; refine (l02Round_any _ _ _ p1 (by omega) y1 (by omega)).mono ?_; rintro e w1 ⟨rfl, rfl⟩) | (at_builtin; refine appJ (by rfl) _ _ (by rfl) w.heap.size _ _ _ (by rfl) hown.out _ 1 wr.heap.size (by simp) (by rfl) (by omega) hbw.out ?_; intro g5 cap5 w5 ho5 hb5 hg5 hat5; have Ho5 := Lib.hid ho5; have Hb5 := Lib.hid hb5; clear ho5 hb5 hg5 hat5))
            go_roundw
            case rel => exact ⟨k + 1, by omega, by go_num, ds ++ [x + rndI (z * ((k : Int) + 1)) m], some ⟨g5, 0, none⟩, cap5, by simp, by simp; omega, Lib.hid (side_step hds.out), Lib.hid (by simpa using Ho5.out), Hb5⟩
            case measure => simp [intOf]; omega
          · obtain rfl : k = m := by omega
            have hcx := HCC.out _ hbw.out
            go_wp2
            go_roundw
            case rel => exact ⟨i + 1, by omega, by go_num, ds, ao, co, x + z, rfl, rfl, by omega, Lib.hid (side_end hds.out HZ.out hx.out HM.out), Lib.hid (by simp only [begI, HZ.out, hx.out]), hown, hbw⟩
            case measure => simp [intOf]; omega
      · obtain rfl : i = n := by omega
        obtain rfl : ds = r := by rw [hds.out, HR.out]
        go_wp2
        go_ret2
        exact ⟨ao, ds.length, co, rfl, by omega, by omega, hown.out, hbw.out.1⟩
  · obtain rfl : r = [] := by rw [← hr]; simp [holesF, hq, h0]
    have h0' : (q != 0) = true := by simpa using h0
    have H1 := Lib.hid h1
    clear h1 hr hq h0 hl hc
    go_enter Try.func25, Try.ntmps25
    go_wp2_with (go_at_call 57; refine H1.out.mono ?_; rintro e w1 ⟨rfl, hb1⟩)
    go_ret2
    exact rowEnd_fail hb1
end Go.Proofs.Ytgdndmpnnocgiaa
