/-
  The evenest stitch: the program's contract. No condition of its own.
-/
import Derived.Test.YtfkojbkgpbpjhaaDoorEven
import Derived.Deep.DeepCutAuto
namespace Go.Proofs.YtfkojbkgpbpjhaaDoor
open Go.ChangeShapes Go.WideShapes Go.ChangeAt Go.RowKit Go.Deep Go.Shelf

/-- A struct in a block of its own: a row of one element. -/
def BoxAt (W : World) (B g : Nat) (p q : Int) : Prop := W.ownsRow B 69 2 (.slice (some ⟨g, 0, none⟩) 1 1) 1 [.int .i64 p, .int .i64 q]
theorem box_new (W : World) (B : Nat) (p q : Int) (hB : B ≤ W.heap.size) : BoxAt (W.alloc (.cells #[.int .i64 p, .int .i64 q] 69)) B W.heap.size p q :=
  own_base (World.ownsRow_lit (base := W.heap.size) (size := 2) (e := 69) W #[.int .i64 p, .int .i64 q] 1 (Nat.le_refl _) (by unfold maxLen; omega) (by simp)) hB
theorem BoxAt.cells {W : World} {B g : Nat} {p q : Int} (h : BoxAt W B g p q) : W.cell? ⟨g, 0, none⟩ = some (.int .i64 p) ∧ W.cell? ⟨g, 1, none⟩ = some (.int .i64 q) ∧ W.frozen? ⟨g, 0, none⟩ = false ∧ W.frozen? ⟨g, 1, none⟩ = false ∧ B ≤ g ∧ g < W.heap.size := by
  unfold BoxAt at h
  exact ⟨by rw [h.cellAt 0 (by omega)]; rfl, by rw [h.cellAt 1 (by omega)]; rfl, h.frozenAt 0, h.frozenAt 1, own_block h rfl⟩
theorem BoxAt.set {W : World} {B g : Nat} {p q x y : Int} (h : BoxAt W B g p q) : BoxAt ((W.setCell ⟨g, 0, none⟩ (.int .i64 x)).setCell ⟨g, 1, none⟩ (.int .i64 y)) B g x y ∧ W.grownBy ((W.setCell ⟨g, 0, none⟩ (.int .i64 x)).setCell ⟨g, 1, none⟩ (.int .i64 y)) (some g) := by
  unfold BoxAt at h ⊢
  have s1 := h.stored 0 (.int .i64 x)
  have s2 := s1.1.stored 1 (.int .i64 y)
  exact ⟨s2.1, grown_trans_row s1.2 s2.2⟩
theorem BoxAt.below {W W' : World} {B g : Nat} {p q : Int} (h : BoxAt W B g p q) (hb : Below W.heap.size W W') : BoxAt W' B g p q := own_below h hb
theorem BoxAt.alloc {W : World} {B g : Nat} {p q : Int} (h : BoxAt W B g p q) (o : Obj) : BoxAt (W.alloc o) B g p q := h.below ((Below.refl _ _).alloc (Nat.le_refl _) _)
theorem BoxAt.grown {W W' : World} {B g r : Nat} {p q : Int} (h : BoxAt W B g p q) (hg : W.grownBy W' (some r)) (hr : r ≠ g) : BoxAt W' B g p q :=
  own_grown_ne h hg (fun b hb e => hr (by have h1 : g = b := (by simpa [Value.ownBlock] using hb); have h2 : r = b := (by simpa using e); omega))

theorem less_any (a b c d : Int) (w : World) (a1 : 0 ≤ a) (a2 : a ≤ 100000000) (b1 : 0 ≤ b) (b2 : b ≤ 100000000) (c1 : 0 ≤ c) (c2 : c ≤ 100000000) (d1 : 0 ≤ d) (d2 : d ≤ 100000000) :
    Calls Tryd.prog 90 #[.agg #[.int .i64 a, .int .i64 b], .agg #[.int .i64 c, .int .i64 d]] w fun e w' => e = .returned (.bool (decide (a * d < c * b))) ∧ Below w.heap.size w w' := by
  obtain ⟨p1, p2⟩ := prod_bd a1 a2 d1 d2
  obtain ⟨p3, p4⟩ := prod_bd c1 c2 b1 b2
  go_enter Tryd.func90, Tryd.ntmps90
  go_wp2
  go_ret
  exact ⟨rfl, (by repeat (first | exact Below.refl _ _ | assumption | refine Below.drew ?_ | refine below_drewN ?_ _ | refine Below.alloc ?_ (by simp; try omega) _ | refine Below.setCell ?_ (by simp; try omega) _))⟩
theorem lens_at (zs : List Int) (s : Int) {n : Nat} : ∀ {k : Nat}, k < n → (lensI zs s n).getD (k * 2) 0 = zs.getD k 0 / Int.gcd (zs.getD k 0) (cn zs s k) ∧ (lensI zs s n).getD (k * 2 + 1) 0 = cn zs s k / Int.gcd (zs.getD k 0) (cn zs s k) := by
  induction n with
  | zero => intro k hk; omega
  | succ n ih =>
    intro k hk
    have hl := length_lensI zs s n
    simp only [lensI, lowI]
    by_cases e : k = n
    · subst e
      constructor
      · simp [hl, cn]
      · simp [hl, cn]
    · have h1 := ih (k := k) (by omega)
      constructor
      · rw [← h1.1]; simp [List.getElem?_append_left (show k * 2 < (lensI zs s n).length by omega)]
      · rw [← h1.2]; simp [List.getElem?_append_left (show k * 2 + 1 < (lensI zs s n).length by omega)]
theorem rel_bd {p q z c : Int} (h : Rel p q z c) (z0 : 0 ≤ z) (c1 : 1 ≤ c) : 0 ≤ p ∧ p ≤ z ∧ 1 ≤ q ∧ q ≤ c := by
  obtain ⟨g, h1, rfl, rfl⟩ := h
  have hp : 0 ≤ p := by
    by_cases e : 0 ≤ p
    · exact e
    · have := Int.mul_neg_of_pos_of_neg (show 0 < g by omega) (show p < 0 by omega)
      omega
  have hq : 1 ≤ q := by
    by_cases e : 1 ≤ q
    · exact e
    · have := Int.mul_nonpos_of_nonneg_of_nonpos (show 0 ≤ g by omega) (show q ≤ 0 by omega)
      omega
  have e1 := Int.mul_le_mul_of_nonneg_right h1 hp
  have e2 := Int.mul_le_mul_of_nonneg_right h1 (show 0 ≤ q by omega)
  omega
/-- How far the search for the evenest is. -/
def EvSt (zs : List Int) (n : Nat) (l : Int) (j : Nat) (b p q : Int) : Prop :=
  (j = 0 ∧ b = 0 ∧ p = 0 ∧ q = 0) ∨ ∃ i, j = i + 1 ∧ evJ zs n l i = b ∧ Rel p q (spN zs n b) (spD zs n b)

set_option maxRecDepth 100000 in
set_option maxHeartbeats 12800000 in
theorem impl_EvenestStitch (w : World) (a : Option Addr) (n c : Nat) (zs : List Int) (hl : zs.length = n) (hn : n ≤ 1048576) (hc : CellsAt w a (zs.map (Value.int .i64))) (_ : ∀ z ∈ zs, (Lit.int .i64 z).wf = true) (l : Int) (_ : (Lit.int .i64 l).wf = true) (m : Int) (_ : (Lit.int .i64 m).wf = true) :
    Calls Tryd.prog 43 #[.slice a n c, .int .i64 l, .int .i64 m] w fun e w' => e = .returned (.tuple #[.int .i64 (evF zs n l m), .int .i64 (evC zs n l m)]) ∧ Below w.heap.size w w' := by
  have h1 := sidesCode_any a n c zs l w hl (by omega) hc
  obtain ⟨r, hr⟩ : ∃ r, evF zs n l m = r := ⟨_, rfl⟩
  obtain ⟨q, hq⟩ : ∃ q, evC zs n l m = q := ⟨_, rfl⟩
  rw [hr, hq]
  by_cases h0 : q = 0
  · subst h0
    obtain ⟨hb, l1, lm, m1⟩ := ev_ok hq
    have hs0 : sidesC zs n l = 0 := by
      by_cases e : sidesC zs n l = 0
      · exact e
      · simp [evC, e] at hq
    rw [hs0] at h1
    obtain ⟨J, hJ⟩ : ∃ J : Nat, (J : Int) = m - l := ⟨(m - l).toNat, by omega⟩
    have hr' : evJ zs n l J = r := by
      rw [← hr]
      simp only [evF, hq, if_true]
      rw [show (m - l).toNat = J by omega]
    obtain ⟨n1, n2⟩ := sides_n hb
    have HLen := Lib.hid (fun W (e : Below w.heap.size w W) s (s1 : 10 ≤ s) (s2 : s ≤ 120) => lengths_any W a n c zs s hl (hc.below e) hb s1 s2)
    have HBd := Lib.hid (fun s (s1 : 10 ≤ s) => sp_bd hb hl s1)
    have HCn := Lib.hid (fun s (s1 : 10 ≤ s) k (hk : k < n) => cn_bd hb hl s1 hk)
    have H1 := Lib.hid h1
    have HR := Lib.hid hr'
    have HJ := Lib.hid hJ
    have g2 : inB m l 120 = true := inB_true.2 (by omega)
    have J1 : (J : Int) ≤ 110 := by omega
    clear h1 hr hr' hq hb hl hc hJ hs0
    go_enter Tryd.func43, Tryd.ntmps43
    go_wp2_with (first | (go_at_call 73; refine H1.out.mono ?_; rintro e w1 ⟨rfl, hb1⟩; have HB1 := Lib.hid (Bel.of hb1); clear hb1) | (go_at_call 63; refine (within_any _ _ _ _).mono ?_; rintro e w1 ⟨rfl, rfl⟩))
    clear g2
    obtain ⟨bo, hbo⟩ : ∃ g, w1.heap.size = g := ⟨_, rfl⟩
    have HO0 := Lib.hid (show BoxAt (w1.alloc (.cells #[.int .i64 0, .int .i64 0] 69)) w.heap.size bo 0 0 by rw [← hbo]; exact box_new w1 w.heap.size 0 0 HB1.out.2)
    rw [hbo]
    clear hbo
    go_loopw [9, 11] (fun t9 t11 wr => ∃ j : Nat, j ≤ J + 1 ∧ t11 = .int .i64 (l + (j : Int)) ∧ ∃ b p q : Int, t9 = .int .i64 b ∧ 0 ≤ b ∧ b ≤ 120 ∧ 0 ≤ p ∧ p ≤ 25005000 ∧ 0 ≤ q ∧ q ≤ 25010001 ∧ Hid (EvSt zs n l j b p q) ∧ Hid (BoxAt wr w.heap.size bo p q) ∧ Hid (Bel w.heap.size w wr)) (fun _ t11 _ => (m + 1 - intOf t11).toNat)
    case atStart => exact ⟨0, by omega, by simp, 0, 0, 0, rfl, by omega, by omega, by omega, by omega, by omega, by omega, Lib.hid (.inl ⟨rfl, rfl, rfl, rfl⟩), HO0, Lib.hid (HB1.out.alloc _)⟩
    case round =>
      obtain ⟨j, hj, rfl, b, p, q, rfl, b1, b2, p1, p2, q1, q2, hst, hoff, hbw⟩ := hrel
      by_cases hlt : j ≤ J
      · have f1 : l + (j : Int) ≤ m := by have := HJ.out; omega
        obtain ⟨s, hs⟩ : ∃ s, l + (j : Int) = s := ⟨_, rfl⟩
        have hs1 : 10 ≤ s := by omega
        have hs2 : s ≤ 120 := by omega
        have HSs := Lib.hid hs
        rw [hs]
        have f1' : s ≤ m := by omega
        clear hs f1
        go_wp2_with fail
        refine (HLen.out wr hbw.out.1 s hs1 hs2).mono ?_
        rintro e w2 ⟨aL, cL, rfl, hlo, hb2⟩
        rcases own_form hlo with h0 | ⟨gL, rfl⟩
        · omega
        have hgL := own_block hlo rfl
        have HL2 := Lib.hid (own_base hlo hbw.out.2)
        have HO2 := Lib.hid (hoff.out.below hb2)
        have HB2 := Lib.hid (hbw.out.step hb2)
        obtain ⟨r1, r2⟩ := hgL
        have hbo2 := hoff.out.cells.2.2.2.2.2
        have hpq := fun k (hk : k < n) => lens_at zs s hk
        have hrel := fun k (hk : k < n) => rel_low (z := zs.getD k 0) (c := cn zs s k) (by have := HCn.out s hs1 k hk; omega)
        have hcell := fun (W : World) (h : W.ownsRow w.heap.size 69 2 (.slice (some ⟨gL, 0, none⟩) n cL) n ((lensI zs s n).map (Value.int .i64))) k (hk : k < n) => (show W.cell? ⟨gL, k * 2, none⟩ = some (.int .i64 (zs.getD k 0 / Int.gcd (zs.getD k 0) (cn zs s k))) ∧ W.cell? ⟨gL, k * 2 + 1, none⟩ = some (.int .i64 (cn zs s k / Int.gcd (zs.getD k 0) (cn zs s k))) by
          have h1 := hpq k hk
          have h2 := length_lensI zs s n
          constructor
          · rw [h.cellAt (k * 2) (by omega), List.getElem?_map, ← h1.1]
            simp [List.getElem?_eq_getElem (show k * 2 < (lensI zs s n).length by omega)]
          · rw [h.cellAt (k * 2 + 1) (by omega), List.getElem?_map, ← h1.2]
            simp [List.getElem?_eq_getElem (show k * 2 + 1 < (lensI zs s n).length by omega)])
        obtain ⟨P, hP⟩ : ∃ P : Nat → Int, ∀ k, P k = zs.getD k 0 / Int.gcd (zs.getD k 0) (cn zs s k) := ⟨_, fun _ => rfl⟩
        obtain ⟨Q, hQ⟩ : ∃ Q : Nat → Int, ∀ k, Q k = cn zs s k / Int.gcd (zs.getD k 0) (cn zs s k) := ⟨_, fun _ => rfl⟩
        simp only [← hP, ← hQ] at hrel hcell
        have HRl := Lib.hid hrel
        have HCe := Lib.hid hcell
        have HPQ := Lib.hid (fun k (hk : k < n) => (show 0 ≤ P k ∧ P k ≤ 5000 ∧ 1 ≤ Q k ∧ Q k ≤ 5001 by
          have h1 := HCn.out s hs1 k hk
          have h2 := rel_bd (hrel k hk) (by omega) (by omega)
          omega))
        clear hlo hb2 hpq hrel hcell hP hQ
        obtain ⟨k0, k1⟩ := HCe.out w2 HL2.out 0 (by omega)
        simp only [Nat.zero_mul, Nat.zero_add] at k0 k1
        obtain ⟨P0, hP0⟩ : ∃ x, P 0 = x := ⟨_, rfl⟩
        obtain ⟨Q0, hQ0⟩ : ∃ x, Q 0 = x := ⟨_, rfl⟩
        rw [hP0] at k0
        rw [hQ0] at k1
        have HPQ0 := Lib.hid (And.intro hP0 hQ0)
        have hn0 : (0 : Int) < (n : Int) := by omega
        clear hP0 hQ0
        have hn0' : 0 < n := n1
        have HX := Lib.hid (show (∀ x y, x ≠ y → (x = w2.heap.size ∧ y = w2.heap.size + 1) ∨ (x = w2.heap.size + 1 ∧ y = w2.heap.size) → (BoxAt ((w2.alloc (.cells #[.int .i64 P0, .int .i64 Q0] 69)).alloc (.cells #[.int .i64 P0, .int .i64 Q0] 69)) w.heap.size x P0 Q0 ∧ BoxAt ((w2.alloc (.cells #[.int .i64 P0, .int .i64 Q0] 69)).alloc (.cells #[.int .i64 P0, .int .i64 Q0] 69)) w.heap.size y P0 Q0)) ∧
            BoxAt ((w2.alloc (.cells #[.int .i64 P0, .int .i64 Q0] 69)).alloc (.cells #[.int .i64 P0, .int .i64 Q0] 69)) w.heap.size bo p q ∧ ((w2.alloc (.cells #[.int .i64 P0, .int .i64 Q0] 69)).alloc (.cells #[.int .i64 P0, .int .i64 Q0] 69)).ownsRow w.heap.size 69 2 (.slice (some ⟨gL, 0, none⟩) n cL) n ((lensI zs s n).map (Value.int .i64)) ∧
            Bel w.heap.size w ((w2.alloc (.cells #[.int .i64 P0, .int .i64 Q0] 69)).alloc (.cells #[.int .i64 P0, .int .i64 Q0] 69)) by
          have e1 := (box_new w2 w.heap.size P0 Q0 HB2.out.2).alloc (.cells #[.int .i64 P0, .int .i64 Q0] 69)
          have e2 := box_new (w2.alloc (.cells #[.int .i64 P0, .int .i64 Q0] 69)) w.heap.size P0 Q0 (HB2.out.alloc _).2
          simp only [World.size_alloc] at e2
          refine ⟨fun x y _ h => ?_, (HO2.out.alloc _).alloc _, (HL2.out.alloc _).alloc _, (HB2.out.alloc _).alloc _⟩
          rcases h with ⟨rfl, rfl⟩ | ⟨rfl, rfl⟩
          · exact ⟨e1, e2⟩
          · exact ⟨e2, e1⟩)
        have hg2 : gL < w2.heap.size := r2
        have hbo3 : bo < w2.heap.size := by omega
        clear hbo2 r1 r2
        go_upto_region 11 with fail
        go_cut [13, 14] (fun t13 t14 W => ∃ x y : Nat, t13 = .pointer (some ⟨x, 0, none⟩) ∧ t14 = .pointer (some ⟨y, 0, none⟩) ∧ x ≠ y ∧ gL < x ∧ gL < y ∧ bo < x ∧ bo < y ∧ Hid (BoxAt W w.heap.size x P0 Q0) ∧ Hid (BoxAt W w.heap.size y P0 Q0) ∧ Hid (BoxAt W w.heap.size bo p q) ∧ Hid (W.ownsRow w.heap.size 69 2 (.slice (some ⟨gL, 0, none⟩) n cL) n ((lensI zs s n).map (Value.int .i64))) ∧ Hid (Bel w.heap.size w W))
        case first =>
          go_region_held3 (fun W => W.cell? ⟨gL, 0, none⟩ = some (.int .i64 P0) ∧ W.cell? ⟨gL, 1, none⟩ = some (.int .i64 Q0)) (go_keep) (fail)
          all_goals (go_wp2_with fail; go_meet)
          all_goals first
            | exact ⟨_, _, rfl, rfl, by omega, by omega, by omega, by omega, by omega, Lib.hid (HX.out.1 _ _ (by omega) (.inl ⟨rfl, rfl⟩)).1, Lib.hid (HX.out.1 _ _ (by omega) (.inl ⟨rfl, rfl⟩)).2, Lib.hid HX.out.2.1, Lib.hid HX.out.2.2.1, Lib.hid HX.out.2.2.2.drew⟩
            | exact ⟨_, _, rfl, rfl, by omega, by omega, by omega, by omega, by omega, Lib.hid (HX.out.1 _ _ (by omega) (.inr ⟨rfl, rfl⟩)).1, Lib.hid (HX.out.1 _ _ (by omega) (.inr ⟨rfl, rfl⟩)).2, Lib.hid HX.out.2.1, Lib.hid HX.out.2.2.1, Lib.hid HX.out.2.2.2.drew⟩
        case rest =>
          obtain ⟨x, y, rfl, rfl, hxy, hLx, hLy, hox, hoy, hx, hy, hoff, hlist, hbw⟩ := hcut
          clear k0 k1 HX
          go_wp2_with fail
          go_loopw [50] (fun t50 wr => ∃ i : Nat, i ≤ n ∧ t50 = .int .i64 i ∧ ∃ lo hi : Nat, lo < n ∧ hi < n ∧ Hid (loJ zs s i = lo ∧ hiJ zs s i = hi) ∧ Hid (BoxAt wr w.heap.size x (P lo) (Q lo)) ∧ Hid (BoxAt wr w.heap.size y (P hi) (Q hi)) ∧ Hid (BoxAt wr w.heap.size bo p q) ∧ Hid (wr.ownsRow w.heap.size 69 2 (.slice (some ⟨gL, 0, none⟩) n cL) n ((lensI zs s n).map (Value.int .i64))) ∧ Hid (Bel w.heap.size w wr)) (fun t50 _ => n - (intOf t50).toNat)
          case atStart => exact ⟨0, Nat.zero_le _, rfl, 0, 0, hn0', hn0', Lib.hid ⟨rfl, rfl⟩, by rw [HPQ0.out.1, HPQ0.out.2]; exact hx, by rw [HPQ0.out.1, HPQ0.out.2]; exact hy, hoff, hlist, hbw⟩
          case round =>
            obtain ⟨i, hi2, rfl, lo, hi, hlo, hhi, hlh, hx, hy, hoff, hlist, hbw⟩ := hrel
            by_cases hlt2 : i < n
            · obtain ⟨k0, k1⟩ := HCe.out wr hlist.out i hlt2
              obtain ⟨pi, hpi⟩ : ∃ v, P i = v := ⟨_, rfl⟩
              obtain ⟨qi, hqi⟩ : ∃ v, Q i = v := ⟨_, rfl⟩
              obtain ⟨pl, hpl⟩ : ∃ v, P lo = v := ⟨_, rfl⟩
              obtain ⟨ql, hql⟩ : ∃ v, Q lo = v := ⟨_, rfl⟩
              obtain ⟨ph, hph⟩ : ∃ v, P hi = v := ⟨_, rfl⟩
              obtain ⟨qh, hqh⟩ : ∃ v, Q hi = v := ⟨_, rfl⟩
              have bi := HPQ.out i hlt2
              have bl := HPQ.out lo hlo
              have bh := HPQ.out hi hhi
              have ri := HRl.out i hlt2
              have rl := HRl.out lo hlo
              have rh := HRl.out hi hhi
              rw [hpi, hqi] at bi ri
              rw [hpl, hql] at bl rl
              rw [hph, hqh] at bh rh
              rw [hpi] at k0
              rw [hqi] at k1
              rw [hpl, hql] at hx
              rw [hph, hqh] at hy
              have cmp1 := rel_cmp ri rl
              have cmp2 := rel_cmp rh ri
              have hlo' := lo_step (c := cn zs s i) (lc := cn zs s lo) hlh.out.1 rfl rfl rfl rfl
              have hhi' := hi_step (c := cn zs s i) (lc := cn zs s hi) hlh.out.2 rfl rfl rfl rfl
              have C1 := Lib.hid (fun W => less_any pi qi pl ql W (by omega) (by omega) (by omega) (by omega) (by omega) (by omega) (by omega) (by omega))
              have C2 := Lib.hid (fun W => less_any ph qh pi qi W (by omega) (by omega) (by omega) (by omega) (by omega) (by omega) (by omega) (by omega))
              obtain ⟨xc0, xc1, _, _, _, xsz⟩ := hx.out.cells
              obtain ⟨yc0, yc1, _, _, _, ysz⟩ := hy.out.cells
              obtain ⟨fb, hfb⟩ : ∃ v, wr.heap.size = v := ⟨_, rfl⟩
              have HF := Lib.hid (show BoxAt (wr.alloc (.cells #[.int .i64 pi, .int .i64 qi] 69)) w.heap.size fb pi qi by rw [← hfb]; exact box_new wr w.heap.size pi qi hbw.out.2)
              have hxf : x ≠ fb := by omega
              have hyf : y ≠ fb := by omega
              have hlt3 : (i : Int) < (n : Int) := by omega
              have HI := Lib.hid (And.intro hpi hqi)
              have HLo := Lib.hid (And.intro hpl hql)
              have HHi := Lib.hid (And.intro hph hqh)
              have HFb := Lib.hid hfb
              clear hpi hqi hpl hql hph hqh hfb
              by_cases t1 : zs.getD i 0 * cn zs s lo < zs.getD lo 0 * cn zs s i
              · rw [if_pos t1] at hlo'
                have t1' : decide (pi * ql < pl * qi) = true := decide_eq_true (cmp1.1 t1)
                by_cases t2 : zs.getD hi 0 * cn zs s i < zs.getD i 0 * cn zs s hi
                · rw [if_pos t2] at hhi'
                  have t2' : decide (ph * qi < pi * qh) = true := decide_eq_true (cmp2.1 t2)
                  have HN := Lib.hid (And.intro hlo' hhi')
                  clear t1 t2 cmp1 cmp2 hlo' hhi' ri rl rh bi bl bh
                  go_wp2_with fail
                  refine (C1.out _).mono ?_
                  rintro e w3 ⟨rfl, hb3⟩
                  have F3 := Lib.hid (HF.out.below hb3)
                  have X3 := Lib.hid ((hx.out.alloc _).below hb3)
                  have Y3 := Lib.hid ((hy.out.alloc _).below hb3)
                  have O3 := Lib.hid ((hoff.out.alloc _).below hb3)
                  have L3 := Lib.hid (own_below (hlist.out.alloc _) hb3)
                  have B3 := Lib.hid ((hbw.out.alloc _).step hb3)
                  clear hb3 xc0 xc1 xsz yc0 yc1 ysz k0 k1
                  rw [HFb.out]
                  obtain ⟨fc0, fc1, _, _, _, fsz⟩ := F3.out.cells
                  obtain ⟨yc0, yc1, yf0, yf1, _, ysz⟩ := Y3.out.cells
                  obtain ⟨xc0, xc1, xf0, xf1, _, xsz⟩ := X3.out.cells
                  have st := X3.out.set (x := pi) (y := qi)
                  have X4 := Lib.hid st.1
                  have Y4 := Lib.hid (Y3.out.grown st.2 hxy)
                  have O4 := Lib.hid (O3.out.grown st.2 (show x ≠ bo by omega))
                  have F4 := Lib.hid (F3.out.grown st.2 hxf)
                  have L4 := Lib.hid (own_grown_ne L3.out st.2 (fun b hb e => by have h1 : gL = b := (by simpa [Value.ownBlock] using hb); have h2 : x = b := (by simpa using e); omega))
                  have B4 := Lib.hid (B3.out.grown st.2 (fun k h => by cases h; exact X3.out.cells.2.2.2.2.1))
                  clear st
                  go_wp2_with fail
                  clear fc0 fc1 fsz yc0 yc1 yf0 yf1 ysz xc0 xc1 xf0 xf1 xsz
                  refine (C2.out _).mono ?_
                  rintro e w5 ⟨rfl, hb5⟩
                  have F5 := Lib.hid (F4.out.below hb5)
                  have X5 := Lib.hid (X4.out.below hb5)
                  have Y5 := Lib.hid (Y4.out.below hb5)
                  have O5 := Lib.hid (O4.out.below hb5)
                  have L5 := Lib.hid (own_below L4.out hb5)
                  have B5 := Lib.hid (B4.out.step hb5)
                  obtain ⟨fc0, fc1, _, _, _, fsz⟩ := F5.out.cells
                  obtain ⟨yc0, yc1, yf0, yf1, _, ysz⟩ := Y5.out.cells
                  clear hb5
                  have st := Y5.out.set (x := pi) (y := qi)
                  have Y6 := Lib.hid st.1
                  have X6 := Lib.hid (X5.out.grown st.2 (Ne.symm hxy))
                  have O6 := Lib.hid (O5.out.grown st.2 (show y ≠ bo by omega))
                  have L6 := Lib.hid (own_grown_ne L5.out st.2 (fun b hb e => by have h1 : gL = b := (by simpa [Value.ownBlock] using hb); have h2 : y = b := (by simpa using e); omega))
                  have B6 := Lib.hid (B5.out.grown st.2 (fun k h => by cases h; exact Y5.out.cells.2.2.2.2.1))
                  clear st
                  go_wp2_with fail
                  go_roundw
                  case rel => exact ⟨i + 1, by omega, by go_num, i, i, hlt2, hlt2, HN, (by rw [HI.out.1, HI.out.2]; exact X6), (by rw [HI.out.1, HI.out.2]; exact Y6), O6, L6, B6⟩
                  case measure => simp [intOf]; omega
                · rw [if_neg t2] at hhi'
                  have t2' : decide (ph * qi < pi * qh) = false := decide_eq_false (fun h => t2 (cmp2.2 h))
                  have HN := Lib.hid (And.intro hlo' hhi')
                  clear t1 t2 cmp1 cmp2 hlo' hhi' ri rl rh bi bl bh
                  go_wp2_with fail
                  refine (C1.out _).mono ?_
                  rintro e w3 ⟨rfl, hb3⟩
                  have F3 := Lib.hid (HF.out.below hb3)
                  have X3 := Lib.hid ((hx.out.alloc _).below hb3)
                  have Y3 := Lib.hid ((hy.out.alloc _).below hb3)
                  have O3 := Lib.hid ((hoff.out.alloc _).below hb3)
                  have L3 := Lib.hid (own_below (hlist.out.alloc _) hb3)
                  have B3 := Lib.hid ((hbw.out.alloc _).step hb3)
                  clear hb3 xc0 xc1 xsz yc0 yc1 ysz k0 k1
                  rw [HFb.out]
                  obtain ⟨fc0, fc1, _, _, _, fsz⟩ := F3.out.cells
                  obtain ⟨yc0, yc1, yf0, yf1, _, ysz⟩ := Y3.out.cells
                  obtain ⟨xc0, xc1, xf0, xf1, _, xsz⟩ := X3.out.cells
                  have st := X3.out.set (x := pi) (y := qi)
                  have X4 := Lib.hid st.1
                  have Y4 := Lib.hid (Y3.out.grown st.2 hxy)
                  have O4 := Lib.hid (O3.out.grown st.2 (show x ≠ bo by omega))
                  have F4 := Lib.hid (F3.out.grown st.2 hxf)
                  have L4 := Lib.hid (own_grown_ne L3.out st.2 (fun b hb e => by have h1 : gL = b := (by simpa [Value.ownBlock] using hb); have h2 : x = b := (by simpa using e); omega))
                  have B4 := Lib.hid (B3.out.grown st.2 (fun k h => by cases h; exact X3.out.cells.2.2.2.2.1))
                  clear st
                  go_wp2_with fail
                  clear fc0 fc1 fsz yc0 yc1 yf0 yf1 ysz xc0 xc1 xf0 xf1 xsz
                  refine (C2.out _).mono ?_
                  rintro e w5 ⟨rfl, hb5⟩
                  have F5 := Lib.hid (F4.out.below hb5)
                  have X5 := Lib.hid (X4.out.below hb5)
                  have Y5 := Lib.hid (Y4.out.below hb5)
                  have O5 := Lib.hid (O4.out.below hb5)
                  have L5 := Lib.hid (own_below L4.out hb5)
                  have B5 := Lib.hid (B4.out.step hb5)
                  obtain ⟨fc0, fc1, _, _, _, fsz⟩ := F5.out.cells
                  obtain ⟨yc0, yc1, yf0, yf1, _, ysz⟩ := Y5.out.cells
                  clear hb5
                  have X6 := X5
                  have Y6 := Y5
                  have O6 := O5
                  have L6 := L5
                  have B6 := B5
                  go_wp2_with fail
                  go_roundw
                  case rel => exact ⟨i + 1, by omega, by go_num, i, hi, hlt2, hhi, HN, (by rw [HI.out.1, HI.out.2]; exact X6), (by rw [HHi.out.1, HHi.out.2]; exact Y6), O6, L6, B6⟩
                  case measure => simp [intOf]; omega
              · rw [if_neg t1] at hlo'
                have t1' : decide (pi * ql < pl * qi) = false := decide_eq_false (fun h => t1 (cmp1.2 h))
                by_cases t2 : zs.getD hi 0 * cn zs s i < zs.getD i 0 * cn zs s hi
                · rw [if_pos t2] at hhi'
                  have t2' : decide (ph * qi < pi * qh) = true := decide_eq_true (cmp2.1 t2)
                  have HN := Lib.hid (And.intro hlo' hhi')
                  clear t1 t2 cmp1 cmp2 hlo' hhi' ri rl rh bi bl bh
                  go_wp2_with fail
                  refine (C1.out _).mono ?_
                  rintro e w3 ⟨rfl, hb3⟩
                  have F3 := Lib.hid (HF.out.below hb3)
                  have X3 := Lib.hid ((hx.out.alloc _).below hb3)
                  have Y3 := Lib.hid ((hy.out.alloc _).below hb3)
                  have O3 := Lib.hid ((hoff.out.alloc _).below hb3)
                  have L3 := Lib.hid (own_below (hlist.out.alloc _) hb3)
                  have B3 := Lib.hid ((hbw.out.alloc _).step hb3)
                  clear hb3 xc0 xc1 xsz yc0 yc1 ysz k0 k1
                  rw [HFb.out]
                  obtain ⟨fc0, fc1, _, _, _, fsz⟩ := F3.out.cells
                  obtain ⟨yc0, yc1, yf0, yf1, _, ysz⟩ := Y3.out.cells
                  obtain ⟨xc0, xc1, xf0, xf1, _, xsz⟩ := X3.out.cells
                  have X4 := X3
                  have Y4 := Y3
                  have O4 := O3
                  have F4 := F3
                  have L4 := L3
                  have B4 := B3
                  go_wp2_with fail
                  clear fc0 fc1 fsz yc0 yc1 yf0 yf1 ysz xc0 xc1 xf0 xf1 xsz
                  refine (C2.out _).mono ?_
                  rintro e w5 ⟨rfl, hb5⟩
                  have F5 := Lib.hid (F4.out.below hb5)
                  have X5 := Lib.hid (X4.out.below hb5)
                  have Y5 := Lib.hid (Y4.out.below hb5)
                  have O5 := Lib.hid (O4.out.below hb5)
                  have L5 := Lib.hid (own_below L4.out hb5)
                  have B5 := Lib.hid (B4.out.step hb5)
                  obtain ⟨fc0, fc1, _, _, _, fsz⟩ := F5.out.cells
                  obtain ⟨yc0, yc1, yf0, yf1, _, ysz⟩ := Y5.out.cells
                  clear hb5
                  have st := Y5.out.set (x := pi) (y := qi)
                  have Y6 := Lib.hid st.1
                  have X6 := Lib.hid (X5.out.grown st.2 (Ne.symm hxy))
                  have O6 := Lib.hid (O5.out.grown st.2 (show y ≠ bo by omega))
                  have L6 := Lib.hid (own_grown_ne L5.out st.2 (fun b hb e => by have h1 : gL = b := (by simpa [Value.ownBlock] using hb); have h2 : y = b := (by simpa using e); omega))
                  have B6 := Lib.hid (B5.out.grown st.2 (fun k h => by cases h; exact Y5.out.cells.2.2.2.2.1))
                  clear st
                  go_wp2_with fail
                  go_roundw
                  case rel => exact ⟨i + 1, by omega, by go_num, lo, i, hlo, hlt2, HN, (by rw [HLo.out.1, HLo.out.2]; exact X6), (by rw [HI.out.1, HI.out.2]; exact Y6), O6, L6, B6⟩
                  case measure => simp [intOf]; omega
                · rw [if_neg t2] at hhi'
                  have t2' : decide (ph * qi < pi * qh) = false := decide_eq_false (fun h => t2 (cmp2.2 h))
                  have HN := Lib.hid (And.intro hlo' hhi')
                  clear t1 t2 cmp1 cmp2 hlo' hhi' ri rl rh bi bl bh
                  go_wp2_with fail
                  refine (C1.out _).mono ?_
                  rintro e w3 ⟨rfl, hb3⟩
                  have F3 := Lib.hid (HF.out.below hb3)
                  have X3 := Lib.hid ((hx.out.alloc _).below hb3)
                  have Y3 := Lib.hid ((hy.out.alloc _).below hb3)
                  have O3 := Lib.hid ((hoff.out.alloc _).below hb3)
                  have L3 := Lib.hid (own_below (hlist.out.alloc _) hb3)
                  have B3 := Lib.hid ((hbw.out.alloc _).step hb3)
                  clear hb3 xc0 xc1 xsz yc0 yc1 ysz k0 k1
                  rw [HFb.out]
                  obtain ⟨fc0, fc1, _, _, _, fsz⟩ := F3.out.cells
                  obtain ⟨yc0, yc1, yf0, yf1, _, ysz⟩ := Y3.out.cells
                  obtain ⟨xc0, xc1, xf0, xf1, _, xsz⟩ := X3.out.cells
                  have X4 := X3
                  have Y4 := Y3
                  have O4 := O3
                  have F4 := F3
                  have L4 := L3
                  have B4 := B3
                  go_wp2_with fail
                  clear fc0 fc1 fsz yc0 yc1 yf0 yf1 ysz xc0 xc1 xf0 xf1 xsz
                  refine (C2.out _).mono ?_
                  rintro e w5 ⟨rfl, hb5⟩
                  have F5 := Lib.hid (F4.out.below hb5)
                  have X5 := Lib.hid (X4.out.below hb5)
                  have Y5 := Lib.hid (Y4.out.below hb5)
                  have O5 := Lib.hid (O4.out.below hb5)
                  have L5 := Lib.hid (own_below L4.out hb5)
                  have B5 := Lib.hid (B4.out.step hb5)
                  obtain ⟨fc0, fc1, _, _, _, fsz⟩ := F5.out.cells
                  obtain ⟨yc0, yc1, yf0, yf1, _, ysz⟩ := Y5.out.cells
                  clear hb5
                  have X6 := X5
                  have Y6 := Y5
                  have O6 := O5
                  have L6 := L5
                  have B6 := B5
                  go_wp2_with fail
                  go_roundw
                  case rel => exact ⟨i + 1, by omega, by go_num, lo, hi, hlo, hhi, HN, (by rw [HLo.out.1, HLo.out.2]; exact X6), (by rw [HHi.out.1, HHi.out.2]; exact Y6), O6, L6, B6⟩
                  case measure => simp [intOf]; omega
            · obtain rfl : i = n := by omega
              obtain ⟨pl, hpl⟩ : ∃ v, P lo = v := ⟨_, rfl⟩
              obtain ⟨ql, hql⟩ : ∃ v, Q lo = v := ⟨_, rfl⟩
              obtain ⟨ph, hph⟩ : ∃ v, P hi = v := ⟨_, rfl⟩
              obtain ⟨qh, hqh⟩ : ∃ v, Q hi = v := ⟨_, rfl⟩
              have bl := HPQ.out lo hlo
              have bh := HPQ.out hi hhi
              have rl := HRl.out lo hlo
              have rh := HRl.out hi hhi
              rw [hpl, hql] at bl rl
              rw [hph, hqh] at bh rh
              rw [hpl, hql] at hx
              rw [hph, hqh] at hy
              have hd := rel_diff rh rl
              have eN : spN zs i s = zs.getD hi 0 * cn zs s lo - zs.getD lo 0 * cn zs s hi := by rw [spN, hlh.out.1, hlh.out.2]
              have eD : spD zs i s = cn zs s hi * cn zs s lo := by rw [spD, hlh.out.1, hlh.out.2]
              rw [← eN, ← eD] at hd
              have sb := HBd.out s hs1
              have ab := rel_bd hd (by omega) (by omega)
              obtain ⟨g1, g2⟩ := prod_bd (a := ph) (b := ql) (A := 5000) (B := 5001) (by omega) (by omega) (by omega) (by omega)
              obtain ⟨g3, g4⟩ := prod_bd (a := pl) (b := qh) (A := 5000) (B := 5001) (by omega) (by omega) (by omega) (by omega)
              obtain ⟨g5, g6⟩ := prod_bd (a := qh) (b := ql) (A := 5001) (B := 5001) (by omega) (by omega) (by omega) (by omega)
              have hlow := fun W => lowest_any (ph * ql - pl * qh) (qh * ql) W (by omega) (by omega) (by omega) (by omega)
              have hrel := rel_trans (rel_low (z := ph * ql - pl * qh) (c := qh * ql) (by omega)) hd
              obtain ⟨u, hu⟩ : ∃ u, (ph * ql - pl * qh) / Int.gcd (ph * ql - pl * qh) (qh * ql) = u := ⟨_, rfl⟩
              obtain ⟨v, hv⟩ : ∃ v, (qh * ql) / Int.gcd (ph * ql - pl * qh) (qh * ql) = v := ⟨_, rfl⟩
              simp only [hu, hv] at hlow
              rw [hu, hv] at hrel
              have ub := rel_bd hrel (by omega) (by omega)
              obtain ⟨sb1, sb2, sb3, sb4⟩ := sb
              obtain ⟨ub1, ub2, ub3, ub4⟩ := ub
              have CL := Lib.hid hlow
              have HRel := Lib.hid hrel
              obtain ⟨xc0, xc1, _, _, _, xsz⟩ := hx.out.cells
              obtain ⟨yc0, yc1, _, _, _, ysz⟩ := hy.out.cells
              clear hpl hql hph hqh rl rh hd eN eD hlow hrel hu hv ab
              go_wp2_with fail
              refine (CL.out _).mono ?_
              rintro e w3 ⟨rfl, hb3⟩
              have O3 := Lib.hid (hoff.out.below hb3)
              have B3 := Lib.hid (hbw.out.step hb3)
              have hsz3 := hb3.size
              obtain ⟨fb, hfb⟩ : ∃ v, w3.heap.size = v := ⟨_, rfl⟩
              have F4 := Lib.hid (show BoxAt (w3.alloc (.cells #[.int .i64 u, .int .i64 v] 69)) w.heap.size fb u v by rw [← hfb]; exact box_new w3 w.heap.size u v B3.out.2)
              have O4 := Lib.hid (O3.out.alloc (.cells #[.int .i64 u, .int .i64 v] 69))
              have B4 := Lib.hid (B3.out.alloc (.cells #[.int .i64 u, .int .i64 v] 69))
              have hbf : bo ≠ fb := by have := O3.out.cells.2.2.2.2.2; omega
              have HFb := Lib.hid hfb
              clear hb3 hfb xc0 xc1 xsz yc0 yc1 ysz
              by_cases hj0 : j = 0
              · have hE : Hid (EvSt zs i l (j + 1) s u v) := Lib.hid (.inr ⟨j, rfl, by rw [hj0]; have := HSs.out; simp only [evJ]; omega, HRel.out⟩)
                obtain rfl : b = 0 := by
                  rcases hst.out with ⟨_, h, _⟩ | ⟨i0, h, _⟩
                  · exact h
                  · omega
                clear hj0
                go_wp2_with fail
                rw [HFb.out]
                generalize hw4 : w3.alloc _ = w4
                rw [hw4] at F4 O4 B4
                clear hw4
                have hw2 : w4.cell? ⟨fb, 0, none⟩ = some (.int .i64 u) ∧ w4.cell? ⟨fb, 1, none⟩ = some (.int .i64 v) := ⟨F4.out.cells.1, F4.out.cells.2.1⟩
                obtain ⟨fc0, fc1⟩ := hw2
                obtain ⟨oc0, oc1, of0, of1, _, osz⟩ := O4.out.cells
                have st := (show BoxAt w4.drew w.heap.size bo p q from O4.out).set (x := u) (y := v)
                have O5 := Lib.hid st.1
                have B5 := Lib.hid (B4.out.drew.grown st.2 (fun k h => by cases h; exact O4.out.cells.2.2.2.2.1))
                clear st
                go_wp2_with fail
                go_region_held3 (fun W => W.cell? ⟨fb, 0, none⟩ = some (.int .i64 u) ∧ W.cell? ⟨fb, 1, none⟩ = some (.int .i64 v)) (first | go_keep | trivial) (fail)
                go_wp2_with fail
                go_roundw
                case rel => exact ⟨j + 1, by omega, by congr 1; have := HSs.out; omega, s, u, v, rfl, by omega, by omega, by omega, by omega, by omega, by omega, hE, O5, B5⟩
                case measure => simp [intOf]; omega
              · obtain ⟨i0, hi0⟩ : ∃ i0, j = i0 + 1 := ⟨j - 1, by omega⟩
                have hst2 : evJ zs i l i0 = b ∧ Rel p q (spN zs i b) (spD zs i b) := by
                  rcases hst.out with ⟨h, _⟩ | ⟨i1, h, h2, h3⟩
                  · omega
                  · obtain rfl : i1 = i0 := by omega
                    exact ⟨h2, h3⟩
                have bb := evJ_bd zs i l i0
                rw [hst2.1] at bb
                have hb0 : (b == 0) = false := by simp; omega
                have hss : s = l + ((i0 : Int) + 1) := by have := HSs.out; omega
                have cmp := rel_cmp HRel.out hst2.2
                have hstep : evJ zs i l (i0 + 1) = if spN zs i s * spD zs i b < spN zs i b * spD zs i s then s else b := by
                  simp only [evJ, hst2.1, hss]
                have C2 := Lib.hid (fun W => less_any u v p q W (by omega) (by omega) (by omega) (by omega) (by omega) (by omega) (by omega) (by omega))
                have HS2 := Lib.hid hst2
                obtain ⟨oc0, oc1, _, _, _, osz⟩ := O3.out.cells
                by_cases t : spN zs i s * spD zs i b < spN zs i b * spD zs i s
                · rw [if_pos t] at hstep
                  have t' : decide (u * q < p * v) = true := decide_eq_true (cmp.1 t)
                  have hE : Hid (EvSt zs i l (j + 1) s u v) := Lib.hid (.inr ⟨i0 + 1, by omega, hstep, HRel.out⟩)
                  clear t cmp hstep hst2 hss hi0
                  go_wp2_with fail
                  refine (C2.out _).mono ?_
                  rintro e w4 ⟨rfl, hb4⟩
                  rw [HFb.out]
                  replace F4 := Lib.hid (F4.out.below hb4)
                  replace O4 := Lib.hid (O4.out.below hb4)
                  replace B4 := Lib.hid (B4.out.step hb4)
                  clear hb4 oc0 oc1 osz
                  go_wp2_with fail
                  have hw2 : w4.cell? ⟨fb, 0, none⟩ = some (.int .i64 u) ∧ w4.cell? ⟨fb, 1, none⟩ = some (.int .i64 v) := ⟨F4.out.cells.1, F4.out.cells.2.1⟩
                  obtain ⟨fc0, fc1⟩ := hw2
                  obtain ⟨oc0, oc1, of0, of1, _, osz⟩ := O4.out.cells
                  have st := (show BoxAt w4.drew w.heap.size bo p q from O4.out).set (x := u) (y := v)
                  have O5 := Lib.hid st.1
                  have B5 := Lib.hid (B4.out.drew.grown st.2 (fun k h => by cases h; exact O4.out.cells.2.2.2.2.1))
                  clear st
                  go_wp2_with fail
                  go_region_held3 (fun W => W.cell? ⟨fb, 0, none⟩ = some (.int .i64 u) ∧ W.cell? ⟨fb, 1, none⟩ = some (.int .i64 v)) (first | go_keep | trivial) (fail)
                  go_wp2_with fail
                  go_roundw
                  case rel => exact ⟨j + 1, by omega, by congr 1; have := HSs.out; omega, s, u, v, rfl, by omega, by omega, by omega, by omega, by omega, by omega, hE, O5, B5⟩
                  case measure => simp [intOf]; omega
                · rw [if_neg t] at hstep
                  have t' : decide (u * q < p * v) = false := decide_eq_false (fun h => t (cmp.2 h))
                  have hE : Hid (EvSt zs i l (j + 1) b p q) := Lib.hid (.inr ⟨i0 + 1, by omega, hstep, hst2.2⟩)
                  clear t cmp hstep hst2 hss hi0
                  go_wp2_with fail
                  refine (C2.out _).mono ?_
                  rintro e w4 ⟨rfl, hb4⟩
                  replace O4 := Lib.hid (O4.out.below hb4)
                  replace B4 := Lib.hid (B4.out.step hb4)
                  clear hb4 oc0 oc1 osz
                  go_wp2_with fail
                  go_roundw
                  case rel => exact ⟨j + 1, by omega, by congr 1; have := HSs.out; omega, b, p, q, rfl, b1, b2, p1, p2, q1, q2, hE, O4, B4⟩
                  case measure => simp [intOf]; omega
      · obtain rfl : j = J + 1 := by omega
        have f1 : ¬ l + ((J + 1 : Nat) : Int) ≤ m := by have := HJ.out; omega
        obtain rfl : b = r := by
          rcases hst.out with ⟨h, _⟩ | ⟨i1, h, h2, h3⟩
          · omega
          · obtain rfl : i1 = J := by omega
            rw [← h2, HR.out]
        go_wp2
        go_ret2
        exact ⟨rfl, hbw.out.1⟩
  · obtain rfl : r = 0 := by rw [← hr]; simp [evF, hq, h0]
    have h0' : (q != 0) = true := by simpa using h0
    by_cases hs0 : sidesC zs n l = 0
    · rw [hs0] at h1
      have H1 := Lib.hid h1
      cases g2 : inB m l 120 with
      | true => exact absurd (by rw [← hq]; simp [evC, hs0, g2]) h0
      | false =>
        obtain rfl : q = 2 := by rw [← hq]; simp [evC, hs0, g2]
        clear h1 hr hq h0 h0' hs0 hl hc
        go_enter Tryd.func43, Tryd.ntmps43
        go_wp2_with (first | (go_at_call 73; refine H1.out.mono ?_; rintro e w1 ⟨rfl, hb1⟩; have HB1 := Lib.hid (Bel.of hb1); clear hb1) | (go_at_call 63; refine (within_any _ _ _ _).mono ?_; rintro e w1 ⟨rfl, rfl⟩))
        go_ret2
        exact ⟨rfl, HB1.out.1⟩
    · obtain rfl : sidesC zs n l = q := by rw [← hq]; simp [evC, hs0]
      generalize sidesC zs n l = q at h1 h0 h0'
      have h0'' : (q == 0) = false := by simpa using h0
      have H1 := Lib.hid h1
      clear h1 h0 hs0 hl hc
      go_enter Tryd.func43, Tryd.ntmps43
      go_wp2_with (go_at_call 73; refine H1.out.mono ?_; rintro e w1 ⟨rfl, hb1⟩)
      go_ret2
      exact ⟨rfl, hb1⟩
end Go.Proofs.YtfkojbkgpbpjhaaDoor
