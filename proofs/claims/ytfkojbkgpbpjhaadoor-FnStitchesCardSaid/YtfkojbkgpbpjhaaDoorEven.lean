/-
  The evenest stitch: plain laws, and the reference's contracts. No condition of its own.
-/
import Derived.Test.YtfkojbkgpbpjhaaDoorLengths
namespace Go.Proofs.YtfkojbkgpbpjhaaDoor
open Go.ChangeShapes Go.WideShapes Go.ChangeAt Go.RowKit Go.Deep Go.Shelf

/-! ### Fractions -/
/-- p / q is z / c, with a factor taken out. -/
def Rel (p q z c : Int) : Prop := ∃ g : Int, 1 ≤ g ∧ z = g * p ∧ c = g * q
theorem rel_low {z c : Int} (hc : 1 ≤ c) : Rel (z / Int.gcd z c) (c / Int.gcd z c) z c := by
  refine ⟨Int.gcd z c, gcd_pos hc, ?_, ?_⟩
  · rw [Int.mul_ediv_cancel' (Int.gcd_dvd_left z c)]
  · rw [Int.mul_ediv_cancel' (Int.gcd_dvd_right z c)]
theorem rel_trans {p q z c a b : Int} (h : Rel p q z c) (k : Rel z c a b) : Rel p q a b := by
  obtain ⟨g, h1, rfl, rfl⟩ := h
  obtain ⟨g', k1, rfl, rfl⟩ := k
  refine ⟨g' * g, ?_, by rw [Int.mul_assoc], by rw [Int.mul_assoc]⟩
  have := Int.mul_le_mul k1 h1 (by omega) (by omega)
  omega
theorem rel_cmp {p q z c p' q' z' c' : Int} (h : Rel p q z c) (k : Rel p' q' z' c') : z * c' < z' * c ↔ p * q' < p' * q := by
  obtain ⟨g, h1, rfl, rfl⟩ := h
  obtain ⟨g', k1, rfl, rfl⟩ := k
  have e1 : g * p * (g' * q') = (g * g') * (p * q') := by ac_rfl
  have e2 : g' * p' * (g * q) = (g * g') * (p' * q) := by ac_rfl
  have hg : 0 < g * g' := Int.mul_pos (by omega) (by omega)
  rw [e1, e2]
  exact ⟨fun h => Int.lt_of_mul_lt_mul_left h (by omega), fun h => Int.mul_lt_mul_of_pos_left h hg⟩
theorem rel_diff {p q z c p' q' z' c' : Int} (h : Rel p q z c) (k : Rel p' q' z' c') : Rel (p * q' - p' * q) (q * q') (z * c' - z' * c) (c * c') := by
  obtain ⟨g, h1, rfl, rfl⟩ := h
  obtain ⟨g', k1, rfl, rfl⟩ := k
  refine ⟨g * g', ?_, ?_, by ac_rfl⟩
  · have := Int.mul_le_mul h1 k1 (by omega) (by omega)
    omega
  · rw [Int.mul_sub]
    congr 1 <;> ac_rfl
theorem frac_trans {a b c d e f : Int} (hd : 0 < d) (hf : 0 < f) (hb : 0 < b) (h1 : a * d ≤ c * b) (h2 : c * f ≤ e * d) : a * f ≤ e * b := by
  have k1 : a * d * f ≤ c * b * f := Int.mul_le_mul_of_nonneg_right h1 (by omega)
  have k2 : c * f * b ≤ e * d * b := Int.mul_le_mul_of_nonneg_right h2 (by omega)
  have k3 : a * f * d ≤ e * b * d := by
    have e1 : a * f * d = a * d * f := by ac_rfl
    have e2 : c * b * f = c * f * b := by ac_rfl
    have e3 : e * b * d = e * d * b := by ac_rfl
    omega
  exact Int.le_of_mul_le_mul_right k3 hd
/-! ### The longest and the shortest stitch of a seam -/
def cn (zs : List Int) (s : Int) (i : Nat) : Int := cntI (zs.getD i 0) s
def loJ (zs : List Int) (s : Int) : Nat → Nat
  | 0 => 0
  | i + 1 => if zs.getD i 0 * cn zs s (loJ zs s i) < zs.getD (loJ zs s i) 0 * cn zs s i then i else loJ zs s i
def hiJ (zs : List Int) (s : Int) : Nat → Nat
  | 0 => 0
  | i + 1 => if zs.getD (hiJ zs s i) 0 * cn zs s i < zs.getD i 0 * cn zs s (hiJ zs s i) then i else hiJ zs s i
theorem lo_one (zs : List Int) (s : Int) : loJ zs s 1 = 0 ∧ hiJ zs s 1 = 0 := by simp [loJ, hiJ]
theorem lo_step {zs : List Int} {s z c lz lc : Int} {i l : Nat} (h : loJ zs s i = l) (h1 : zs.getD i 0 = z) (h2 : cn zs s i = c) (h3 : zs.getD l 0 = lz) (h4 : cn zs s l = lc) : loJ zs s (i + 1) = if z * lc < lz * c then i else l := by
  simp only [loJ, h, h1, h2, h3, h4]
theorem hi_step {zs : List Int} {s z c lz lc : Int} {i l : Nat} (h : hiJ zs s i = l) (h1 : zs.getD i 0 = z) (h2 : cn zs s i = c) (h3 : zs.getD l 0 = lz) (h4 : cn zs s l = lc) : hiJ zs s (i + 1) = if lz * c < z * lc then i else l := by
  simp only [hiJ, h, h1, h2, h3, h4]
theorem lo_lt (zs : List Int) (s : Int) {n : Nat} (hn : 1 ≤ n) : ∀ {i : Nat}, i ≤ n → loJ zs s i < n ∧ hiJ zs s i < n := by
  intro i
  induction i with
  | zero => intro _; exact ⟨hn, hn⟩
  | succ i ih =>
    intro hi
    have := ih (by omega)
    simp only [loJ, hiJ]
    constructor <;> split <;> omega
theorem cn_bd {zs : List Int} {n : Nat} {s : Int} (h : sidesB zs n = true) (hl : zs.length = n) (hs : 10 ≤ s) {k : Nat} (hk : k < n) : 1 ≤ zs.getD k 0 ∧ zs.getD k 0 ≤ 5000 ∧ 1 ≤ cn zs s k ∧ cn zs s k ≤ 5001 := by
  have h1 := sides_at h hl hk
  have h2 := cntI_bd (a := zs.getD k 0) (s := s) (by omega) (by omega)
  unfold cn
  omega
/-- The shortest is not longer than the longest. -/
theorem lo_le_hi {zs : List Int} {n : Nat} {s : Int} (h : sidesB zs n = true) (hl : zs.length = n) (hs : 10 ≤ s) : ∀ {i : Nat}, i ≤ n → zs.getD (loJ zs s i) 0 * cn zs s (hiJ zs s i) ≤ zs.getD (hiJ zs s i) 0 * cn zs s (loJ zs s i) := by
  intro i
  obtain ⟨n1, _⟩ := sides_n h
  induction i with
  | zero => intro _; exact Int.le_refl _
  | succ i ih =>
    intro hi
    have h1 := ih (by omega)
    obtain ⟨a1, a2⟩ := lo_lt zs s n1 (show i ≤ n by omega)
    have b1 := cn_bd h hl hs (show i < n by omega)
    have b2 := cn_bd h hl hs a1
    have b3 := cn_bd h hl hs a2
    simp only [loJ, hiJ]
    split
    · rename_i hlo
      split
      · exact Int.le_refl _
      · exact frac_trans (a := zs.getD i 0) (b := cn zs s i) (c := zs.getD (loJ zs s i) 0) (d := cn zs s (loJ zs s i)) (e := zs.getD (hiJ zs s i) 0) (f := cn zs s (hiJ zs s i)) (by omega) (by omega) (by omega) (Int.le_of_lt hlo) h1
    · split
      · rename_i hhi
        exact frac_trans (a := zs.getD (loJ zs s i) 0) (b := cn zs s (loJ zs s i)) (c := zs.getD (hiJ zs s i) 0) (d := cn zs s (hiJ zs s i)) (e := zs.getD i 0) (f := cn zs s i) (by omega) (by omega) (by omega) h1 (Int.le_of_lt hhi)
      · exact h1
def spN (zs : List Int) (n : Nat) (s : Int) : Int := zs.getD (hiJ zs s n) 0 * cn zs s (loJ zs s n) - zs.getD (loJ zs s n) 0 * cn zs s (hiJ zs s n)
def spD (zs : List Int) (n : Nat) (s : Int) : Int := cn zs s (hiJ zs s n) * cn zs s (loJ zs s n)
theorem sp_bd {zs : List Int} {n : Nat} {s : Int} (h : sidesB zs n = true) (hl : zs.length = n) (hs : 10 ≤ s) : 0 ≤ spN zs n s ∧ spN zs n s ≤ 25005000 ∧ 1 ≤ spD zs n s ∧ spD zs n s ≤ 25010001 := by
  obtain ⟨n1, _⟩ := sides_n h
  obtain ⟨a1, a2⟩ := lo_lt zs s n1 (Nat.le_refl n)
  have b2 := cn_bd h hl hs a1
  have b3 := cn_bd h hl hs a2
  have h1 := lo_le_hi h hl hs (Nat.le_refl n)
  obtain ⟨p1, p2⟩ := prod_bd (a := zs.getD (hiJ zs s n) 0) (b := cn zs s (loJ zs s n)) (A := 5000) (B := 5001) (by omega) (by omega) (by omega) (by omega)
  obtain ⟨p3, p4⟩ := prod_bd (a := zs.getD (loJ zs s n) 0) (b := cn zs s (hiJ zs s n)) (A := 5000) (B := 5001) (by omega) (by omega) (by omega) (by omega)
  obtain ⟨p5, p6⟩ := prod_bd (a := cn zs s (hiJ zs s n)) (b := cn zs s (loJ zs s n)) (A := 5001) (B := 5001) (by omega) (by omega) (by omega) (by omega)
  have p7 := Int.mul_pos (show 0 < cn zs s (hiJ zs s n) by omega) (show 0 < cn zs s (loJ zs s n) by omega)
  unfold spN spD
  omega
/-- The first wanted length with the least spread, of j more than the first. -/
def evJ (zs : List Int) (n : Nat) (l : Int) : Nat → Int
  | 0 => l
  | j + 1 => if spN zs n (l + ((j : Int) + 1)) * spD zs n (evJ zs n l j) < spN zs n (evJ zs n l j) * spD zs n (l + ((j : Int) + 1)) then l + ((j : Int) + 1) else evJ zs n l j
theorem evJ_bd (zs : List Int) (n : Nat) (l : Int) (j : Nat) : l ≤ evJ zs n l j ∧ evJ zs n l j ≤ l + j := by
  induction j with
  | zero => simp [evJ]
  | succ j ih => simp only [evJ]; split <;> omega
def evC (zs : List Int) (n : Nat) (l m : Int) : Int := if sidesC zs n l = 0 then (if inB m l 120 then 0 else 2) else sidesC zs n l
def evF (zs : List Int) (n : Nat) (l m : Int) : Int := if evC zs n l m = 0 then evJ zs n l (m - l).toNat else 0
theorem ev_ok {zs : List Int} {n : Nat} {l m : Int} (h : evC zs n l m = 0) : sidesB zs n = true ∧ 10 ≤ l ∧ l ≤ m ∧ m ≤ 120 := by
  unfold evC at h
  split at h
  · rename_i h0
    split at h
    · rename_i h1
      have := sides_ok h0
      have h2 := inB_true.1 h1
      exact ⟨this.1, this.2.1, h2.1, h2.2⟩
    · omega
  · omega

set_option maxRecDepth 100000 in
set_option maxHeartbeats 3200000 in
theorem spread_any (w : World) (a : Option Addr) (n c : Nat) (zs : List Int) (s : Int) (hl : zs.length = n) (hc : CellsAt w a (zs.map (Value.int .i64))) (hb : sidesB zs n = true) (s1 : 10 ≤ s) (s2 : s ≤ 120) :
    Calls Tryd.prog 93 #[.slice a n c, .int .i64 s] w fun e w' => e = .returned (.tuple #[.int .i64 (spN zs n s), .int .i64 (spD zs n s)]) ∧ Below w.heap.size w w' := by
  obtain ⟨n1, n2⟩ := sides_n hb
  obtain ⟨b, o, rfl, hb0, hcc⟩ := hc.at_ (by simp; omega)
  have HB := Lib.hid (fun (k : Nat) (hk : k < n) => cn_bd hb hl s1 hk)
  have HSp := Lib.hid (sp_bd hb hl s1)
  have HLt := Lib.hid (fun i (hi : i ≤ n) => lo_lt zs s n1 hi)
  obtain ⟨rN, hN⟩ : ∃ q, spN zs n s = q := ⟨_, rfl⟩
  obtain ⟨rD, hD⟩ : ∃ q, spD zs n s = q := ⟨_, rfl⟩
  rw [hN, hD]
  have HR := Lib.hid (And.intro hN hD)
  have Hz := Lib.hid hl
  have HC := Lib.hid (fun W (e : Below w.heap.size w W) k (hk : k < n) (x : Int) (hx : zs.getD k 0 = x) => cell_int hb0 e hcc (by rw [hl]; exact hk) hx)
  obtain ⟨x0, hx0⟩ : ∃ z, zs.getD 0 0 = z := ⟨_, rfl⟩
  have k0 := HC.out w (Below.refl _ _) 0 (by omega) x0 hx0
  have q0 := HB.out 0 (by omega)
  obtain ⟨c0, hc0⟩ : ∃ z, cn zs s 0 = z := ⟨_, rfl⟩
  rw [hx0, hc0] at q0
  obtain ⟨q1, q2, q3, q4⟩ := q0
  have hcall := fun W => l15Count_any x0 s W (by omega) (by omega) (by omega) (by omega)
  rw [show cntI x0 s = c0 by rw [← hc0, cn, hx0]] at hcall
  have HK := Lib.hid hcall
  have H0 := Lib.hid (And.intro hx0 hc0)
  have hn0 : (0 : Int) < (n : Int) := by omega
  simp only [Nat.add_zero] at k0
  clear hN hD hl hc hcc hb hx0 hc0 hcall
  go_enter Tryd.func93, Tryd.ntmps93
  go_wp2_with (go_at_call 72; refine (HK.out _).mono ?_; rintro e w1 ⟨rfl, rfl⟩)
  clear k0
  go_loopw [6, 7, 8, 9, 10] (fun t6 t7 t8 t9 t10 wr => ∃ i : Nat, 1 ≤ i ∧ i ≤ n ∧ t10 = .int .i64 i ∧ ∃ (l h : Nat) (lz lc hz hc : Int), l < n ∧ h < n ∧ t6 = .int .i64 lz ∧ t7 = .int .i64 lc ∧ t8 = .int .i64 hz ∧ t9 = .int .i64 hc ∧ Hid (loJ zs s i = l ∧ hiJ zs s i = h ∧ zs.getD l 0 = lz ∧ cn zs s l = lc ∧ zs.getD h 0 = hz ∧ cn zs s h = hc) ∧ Hid (wr = w)) (fun _ _ _ _ t10 _ => n - (intOf t10).toNat)
  case atStart => exact ⟨1, Nat.le_refl _, n1, rfl, 0, 0, x0, c0, x0, c0, by omega, by omega, rfl, rfl, rfl, rfl, Lib.hid ⟨(lo_one _ _).1, (lo_one _ _).2, H0.out.1, H0.out.2, H0.out.1, H0.out.2⟩, Lib.hid rfl⟩
  case round =>
    obtain ⟨i, hi1, hi, rfl, l, h, lz, lc, hz, hc, hln, hhn, rfl, rfl, rfl, rfl, hst, hw⟩ := hrel
    have hw' := hw.out
    subst hw'
    have e1 := HB.out _ hln
    have e2 := HB.out _ hhn
    rw [hst.out.2.2.1, hst.out.2.2.2.1] at e1
    rw [hst.out.2.2.2.2.1, hst.out.2.2.2.2.2] at e2
    obtain ⟨e11, e12, e13, e14⟩ := e1
    obtain ⟨e21, e22, e23, e24⟩ := e2
    by_cases hlt : i < n
    · obtain ⟨z, hzz⟩ : ∃ z, zs.getD i 0 = z := ⟨_, rfl⟩
      obtain ⟨c, hcc⟩ : ∃ z, cn zs s i = z := ⟨_, rfl⟩
      have k1 := HC.out wr (Below.refl _ _) i hlt z hzz
      have e3 := HB.out _ hlt
      rw [hzz, hcc] at e3
      obtain ⟨e31, e32, e33, e34⟩ := e3
      have hcall := fun W => l15Count_any z s W (by omega) (by omega) (by omega) (by omega)
      rw [show cntI z s = c by rw [← hcc, cn, hzz]] at hcall
      have HK2 := Lib.hid hcall
      have hlo := lo_step hst.out.1 hzz hcc hst.out.2.2.1 hst.out.2.2.2.1
      have hhi := hi_step hst.out.2.1 hzz hcc hst.out.2.2.2.2.1 hst.out.2.2.2.2.2
      obtain ⟨p1, p2⟩ := prod_bd (a := z) (b := lc) (A := 5000) (B := 5001) (by omega) (by omega) (by omega) (by omega)
      obtain ⟨p3, p4⟩ := prod_bd (a := lz) (b := c) (A := 5000) (B := 5001) (by omega) (by omega) (by omega) (by omega)
      obtain ⟨p5, p6⟩ := prod_bd (a := z) (b := hc) (A := 5000) (B := 5001) (by omega) (by omega) (by omega) (by omega)
      obtain ⟨p7, p8⟩ := prod_bd (a := hz) (b := c) (A := 5000) (B := 5001) (by omega) (by omega) (by omega) (by omega)
      have HZ := Lib.hid (And.intro hzz hcc)
      have hlt' : (i : Int) < (n : Int) := by omega
      clear hzz hcc hcall
      by_cases t1 : z * lc < lz * c
      · rw [if_pos t1] at hlo
        by_cases t2 : hz * c < z * hc
        · rw [if_pos t2] at hhi
          have HN := Lib.hid (show loJ zs s (i + 1) = i ∧ hiJ zs s (i + 1) = i ∧ zs.getD i 0 = z ∧ cn zs s i = c ∧ zs.getD i 0 = z ∧ cn zs s i = c from ⟨hlo, hhi, HZ.out.1, HZ.out.2, HZ.out.1, HZ.out.2⟩)
          clear hlo hhi
          go_wp2_with (go_at_call 72; refine (HK2.out _).mono ?_; rintro e w1 ⟨rfl, rfl⟩)
          go_roundw
          case rel => exact ⟨i + 1, by omega, by omega, by go_num, i, i, z, c, z, c, hlt, hlt, rfl, rfl, rfl, rfl, HN, Lib.hid trivial⟩
          case measure => simp [intOf]; omega
        · rw [if_neg t2] at hhi
          have HN := Lib.hid (show loJ zs s (i + 1) = i ∧ hiJ zs s (i + 1) = h ∧ zs.getD i 0 = z ∧ cn zs s i = c ∧ zs.getD h 0 = hz ∧ cn zs s h = hc from ⟨hlo, hhi, HZ.out.1, HZ.out.2, hst.out.2.2.2.2.1, hst.out.2.2.2.2.2⟩)
          clear hlo hhi
          go_wp2_with (go_at_call 72; refine (HK2.out _).mono ?_; rintro e w1 ⟨rfl, rfl⟩)
          go_roundw
          case rel => exact ⟨i + 1, by omega, by omega, by go_num, i, h, z, c, hz, hc, hlt, hhn, rfl, rfl, rfl, rfl, HN, Lib.hid trivial⟩
          case measure => simp [intOf]; omega
      · rw [if_neg t1] at hlo
        by_cases t2 : hz * c < z * hc
        · rw [if_pos t2] at hhi
          have HN := Lib.hid (show loJ zs s (i + 1) = l ∧ hiJ zs s (i + 1) = i ∧ zs.getD l 0 = lz ∧ cn zs s l = lc ∧ zs.getD i 0 = z ∧ cn zs s i = c from ⟨hlo, hhi, hst.out.2.2.1, hst.out.2.2.2.1, HZ.out.1, HZ.out.2⟩)
          clear hlo hhi
          go_wp2_with (go_at_call 72; refine (HK2.out _).mono ?_; rintro e w1 ⟨rfl, rfl⟩)
          go_roundw
          case rel => exact ⟨i + 1, by omega, by omega, by go_num, l, i, lz, lc, z, c, hln, hlt, rfl, rfl, rfl, rfl, HN, Lib.hid trivial⟩
          case measure => simp [intOf]; omega
        · rw [if_neg t2] at hhi
          have HN := Lib.hid (show loJ zs s (i + 1) = l ∧ hiJ zs s (i + 1) = h ∧ zs.getD l 0 = lz ∧ cn zs s l = lc ∧ zs.getD h 0 = hz ∧ cn zs s h = hc from ⟨hlo, hhi, hst.out.2.2.1, hst.out.2.2.2.1, hst.out.2.2.2.2.1, hst.out.2.2.2.2.2⟩)
          clear hlo hhi
          go_wp2_with (go_at_call 72; refine (HK2.out _).mono ?_; rintro e w1 ⟨rfl, rfl⟩)
          go_roundw
          case rel => exact ⟨i + 1, by omega, by omega, by go_num, l, h, lz, lc, hz, hc, hln, hhn, rfl, rfl, rfl, rfl, HN, Lib.hid trivial⟩
          case measure => simp [intOf]; omega
    · obtain rfl : i = n := by omega
      obtain ⟨p1, p2⟩ := prod_bd (a := hz) (b := lc) (A := 5000) (B := 5001) (by omega) (by omega) (by omega) (by omega)
      obtain ⟨p3, p4⟩ := prod_bd (a := lz) (b := hc) (A := 5000) (B := 5001) (by omega) (by omega) (by omega) (by omega)
      obtain ⟨p5, p6⟩ := prod_bd (a := hc) (b := lc) (A := 5001) (B := 5001) (by omega) (by omega) (by omega) (by omega)
      have HN := Lib.hid (show hz * lc - lz * hc = rN ∧ hc * lc = rD by
        obtain ⟨u1, u2, u3, u4, u5, u6⟩ := hst.out
        rw [← HR.out.1, ← HR.out.2, spN, spD, u1, u2, u3, u4, u5, u6]
        exact ⟨rfl, rfl⟩)
      go_wp2
      go_ret2
      exact ⟨ret_two HN.out.1 HN.out.2, Below.refl _ _⟩

theorem ev_step_yes {zs : List Int} {n j : Nat} {l b x y u v : Int} (h : evJ zs n l j = b) (h1 : spN zs n b = x) (h2 : spD zs n b = y) (h3 : spN zs n (l + ((j : Int) + 1)) = u) (h4 : spD zs n (l + ((j : Int) + 1)) = v) (k : u * y < x * v) : evJ zs n l (j + 1) = l + ((j : Int) + 1) := by
  simp only [evJ, h, h1, h2, h3, h4, if_pos k]
theorem ev_step_no {zs : List Int} {n j : Nat} {l b x y u v : Int} (h : evJ zs n l j = b) (h1 : spN zs n b = x) (h2 : spD zs n b = y) (h3 : spN zs n (l + ((j : Int) + 1)) = u) (h4 : spD zs n (l + ((j : Int) + 1)) = v) (k : ¬ u * y < x * v) : evJ zs n l (j + 1) = b := by
  simp only [evJ, h, h1, h2, h3, h4, if_neg k]

set_option maxRecDepth 100000 in
set_option maxHeartbeats 3200000 in
theorem spec_EvenestStitch (w : World) (a : Option Addr) (n c : Nat) (zs : List Int) (hl : zs.length = n) (hn : n ≤ 1048576) (hc : CellsAt w a (zs.map (Value.int .i64))) (_ : ∀ z ∈ zs, (Lit.int .i64 z).wf = true) (l : Int) (_ : (Lit.int .i64 l).wf = true) (m : Int) (_ : (Lit.int .i64 m).wf = true) :
    Calls Tryd.prog 44 #[.slice a n c, .int .i64 l, .int .i64 m] w fun e w' => e = .returned (.tuple #[.int .i64 (evF zs n l m), .int .i64 (evC zs n l m)]) ∧ Below w.heap.size w w' := by
  have h1 := l15Ok_any a n c zs w hl (by omega) hc
  obtain ⟨r, hr⟩ : ∃ r, evF zs n l m = r := ⟨_, rfl⟩
  obtain ⟨q, hq⟩ : ∃ q, evC zs n l m = q := ⟨_, rfl⟩
  rw [hr, hq]
  by_cases h0 : q = 0
  · subst h0
    obtain ⟨hb, l1, lm, m1⟩ := ev_ok hq
    rw [hb] at h1
    obtain ⟨J, hJ⟩ : ∃ J : Nat, (J : Int) = m - l := ⟨(m - l).toNat, by omega⟩
    have hr' : evJ zs n l J = r := by
      rw [← hr]
      simp only [evF, hq, if_true]
      rw [show (m - l).toNat = J by omega]
    have HSp := Lib.hid (fun W (e : Below w.heap.size w W) s (s1 : 10 ≤ s) (s2 : s ≤ 120) => spread_any W a n c zs s hl (hc.below e) hb s1 s2)
    have HBd := Lib.hid (fun s (s1 : 10 ≤ s) => sp_bd hb hl s1)
    have H1 := Lib.hid h1
    have HR := Lib.hid hr'
    have HJ := Lib.hid hJ
    have g1 : inB l 10 120 = true := inB_true.2 (by omega)
    have g2 : inB m l 120 = true := inB_true.2 (by omega)
    obtain ⟨x0, hx0⟩ : ∃ q, spN zs n l = q := ⟨_, rfl⟩
    obtain ⟨y0, hy0⟩ : ∃ q, spD zs n l = q := ⟨_, rfl⟩
    have H0 := Lib.hid (And.intro hx0 hy0)
    have J1 : (J : Int) ≤ 110 := by omega
    clear h1 hr hr' hq hb hl hc hJ
    go_enter Tryd.func44, Tryd.ntmps44
    go_wp2_with (first | (go_at_call 85; refine H1.out.mono ?_; rintro e w1 ⟨rfl, hb1⟩; have HB1 := Lib.hid (Bel.of hb1); clear hb1) | (go_at_call 92; refine (l15Stitch_any _ _).mono ?_; rintro e w1 ⟨rfl, rfl⟩) | (go_at_call 86; refine (l00In_any _ _ _ _).mono ?_; rintro e w1 ⟨rfl, rfl⟩))
    have hsp := HSp.out w1 HB1.out.1 l (by omega) (by omega)
    rw [H0.out.1, H0.out.2] at hsp
    refine hsp.mono ?_
    rintro e w2 ⟨rfl, hb2⟩
    have HB2 := Lib.hid (HB1.out.step hb2)
    clear hb2 g1 g2 hsp
    go_wp2
    go_loopw [8, 9, 10, 11] (fun t8 t9 t10 t11 wr => ∃ j : Nat, j ≤ J ∧ t11 = .int .i64 (l + ((j : Int) + 1)) ∧ ∃ b x y : Int, l ≤ b ∧ b ≤ 120 ∧ t8 = .int .i64 b ∧ t9 = .int .i64 x ∧ t10 = .int .i64 y ∧ Hid (evJ zs n l j = b ∧ spN zs n b = x ∧ spD zs n b = y) ∧ Hid (Bel w.heap.size w wr)) (fun _ _ _ t11 _ => (m + 1 - intOf t11).toNat)
    case atStart => exact ⟨0, Nat.zero_le _, by simp, l, x0, y0, by omega, by omega, rfl, rfl, rfl, Lib.hid ⟨rfl, H0.out.1, H0.out.2⟩, HB2⟩
    case round =>
      obtain ⟨j, hj, rfl, b, x, y, hb1, hb2, rfl, rfl, rfl, hst, hbw⟩ := hrel
      have xb := HBd.out b (by omega)
      rw [hst.out.2.1, hst.out.2.2] at xb
      obtain ⟨x1, x2, x3, x4⟩ := xb
      by_cases hlt : j < J
      · have f1 : l + ((j : Int) + 1) ≤ m := by have := HJ.out; omega
        have hsp := HSp.out wr hbw.out.1 (l + ((j : Int) + 1)) (by omega) (by omega)
        obtain ⟨u, hu⟩ : ∃ q, spN zs n (l + ((j : Int) + 1)) = q := ⟨_, rfl⟩
        obtain ⟨v, hv⟩ : ∃ q, spD zs n (l + ((j : Int) + 1)) = q := ⟨_, rfl⟩
        rw [hu, hv] at hsp
        have ub := HBd.out (l + ((j : Int) + 1)) (by omega)
        rw [hu, hv] at ub
        obtain ⟨u1, u2, u3, u4⟩ := ub
        obtain ⟨p1, p2⟩ := prod_bd (a := u) (b := y) (A := 25005000) (B := 25010001) u1 u2 (by omega) x4
        obtain ⟨p3, p4⟩ := prod_bd (a := x) (b := v) (A := 25005000) (B := 25010001) x1 x2 (by omega) u4
        have HU := Lib.hid (And.intro hu hv)
        have HS := Lib.hid hsp
        clear hu hv hsp
        by_cases t1 : u * y < x * v
        · have HN := Lib.hid (ev_step_yes hst.out.1 hst.out.2.1 hst.out.2.2 HU.out.1 HU.out.2 t1)
          go_wp2_with (go_at_call 93; refine HS.out.mono ?_; rintro e w3 ⟨rfl, hb3⟩; have HB3 := Lib.hid (hbw.out.step hb3); clear hb3)
          go_roundw
          case rel => exact ⟨j + 1, by omega, by congr 1; omega, _, u, v, by omega, by omega, rfl, rfl, rfl, Lib.hid ⟨HN.out, HU.out.1, HU.out.2⟩, HB3⟩
          case measure => simp [intOf]; omega
        · have HN := Lib.hid (ev_step_no hst.out.1 hst.out.2.1 hst.out.2.2 HU.out.1 HU.out.2 t1)
          go_wp2_with (go_at_call 93; refine HS.out.mono ?_; rintro e w3 ⟨rfl, hb3⟩; have HB3 := Lib.hid (hbw.out.step hb3); clear hb3)
          go_roundw
          case rel => exact ⟨j + 1, by omega, by congr 1; omega, b, x, y, hb1, hb2, rfl, rfl, rfl, Lib.hid ⟨HN.out, hst.out.2.1, hst.out.2.2⟩, HB3⟩
          case measure => simp [intOf]; omega
      · obtain rfl : j = J := by omega
        obtain rfl : b = r := by rw [← hst.out.1, HR.out]
        have f1 : ¬ l + ((j : Int) + 1) ≤ m := by have := HJ.out; omega
        go_wp2
        go_ret2
        exact ⟨rfl, hbw.out.1⟩
  · obtain rfl : r = 0 := by rw [← hr]; simp [evF, hq, h0]
    have H1 := Lib.hid h1
    cases hb : sidesB zs n with
    | false =>
      obtain rfl : q = 1 := by rw [← hq]; simp [evC, sidesC, hb]
      rw [hb] at h1
      have H2 := Lib.hid h1
      clear h1 H1 hr hq hb hl hc
      go_enter Tryd.func44, Tryd.ntmps44
      go_wp2_with (go_at_call 85; refine H2.out.mono ?_; rintro e w1 ⟨rfl, hb1⟩)
      go_ret2
      exact ⟨rfl, hb1⟩
    | true =>
      rw [hb] at h1
      have H2 := Lib.hid h1
      cases g1 : inB l 10 120 with
      | false =>
        obtain rfl : q = 2 := by rw [← hq]; simp [evC, sidesC, hb, g1]
        clear h1 H1 hr hq hb hl hc
        go_enter Tryd.func44, Tryd.ntmps44
        go_wp2_with (first | (go_at_call 85; refine H2.out.mono ?_; rintro e w1 ⟨rfl, hb1⟩; have HB1 := Lib.hid (Bel.of hb1); clear hb1) | (go_at_call 92; refine (l15Stitch_any _ _).mono ?_; rintro e w1 ⟨rfl, rfl⟩) | (go_at_call 86; refine (l00In_any _ _ _ _).mono ?_; rintro e w1 ⟨rfl, rfl⟩))
        go_ret2
        exact ⟨rfl, HB1.out.1⟩
      | true =>
        cases g2 : inB m l 120 with
        | true => exact absurd (by rw [← hq]; simp [evC, sidesC, hb, g1, g2]) h0
        | false =>
          obtain rfl : q = 2 := by rw [← hq]; simp [evC, sidesC, hb, g1, g2]
          clear h1 H1 hr hq hb hl hc
          go_enter Tryd.func44, Tryd.ntmps44
          go_wp2_with (first | (go_at_call 85; refine H2.out.mono ?_; rintro e w1 ⟨rfl, hb1⟩; have HB1 := Lib.hid (Bel.of hb1); clear hb1) | (go_at_call 92; refine (l15Stitch_any _ _).mono ?_; rintro e w1 ⟨rfl, rfl⟩) | (go_at_call 86; refine (l00In_any _ _ _ _).mono ?_; rintro e w1 ⟨rfl, rfl⟩))
          go_ret2
          exact ⟨rfl, HB1.out.1⟩
end Go.Proofs.YtfkojbkgpbpjhaaDoor
