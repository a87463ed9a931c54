/-
  The first heel with a height: plain functions and both contracts. No condition of its own.
-/
import Derived.Test.YtlaapndncejlgaaHeights
import Derived.Test.YtlaapndncejlgaaStep
namespace Go.Proofs.Ytlaapndncejlgaa
open Go.ChangeShapes Go.WideShapes Go.ChangeAt Go.RowKit Go.Deep Go.Shelf

/-- A new slice of the call's own, with a block. -/
def OwnRowG (w : World) (E k n : Nat) (cs : List Value) (e : Ending) (w' : World) : Prop :=
  ∃ g cap, e = .returned (.slice (some ⟨g, 0, none⟩) n cap) ∧ w'.ownsRow w.heap.size E k (.slice (some ⟨g, 0, none⟩) n cap) n cs ∧ Below w.heap.size w w'
set_option maxHeartbeats 1600000 in
theorem cloneLiftG (g n c : Nat) (zs : List Int) (w : World) (hz : zs.length = n * 2) (hn : n ≤ 1073741824) (hc : CellsAt w (some ⟨g, 0, none⟩) (zs.map (Value.int .i64))) :
    Calls Try.prog 67 #[.slice (some ⟨g, 0, none⟩) n c] w (OwnRowG w 50 2 n (zs.map (Value.int .i64))) := by
  obtain ⟨i, hi, h0, h1, h2⟩ := info_parts infoLift
  have q := fun (w : World) (a : Option Addr) (n c n' c' : Nat) => Lib.run_eql_slice_nil w _ _ a n c n' c' Try.underlying28
  by_cases hn0 : n = 0
  · subst hn0
    have e : zs = [] := List.eq_nil_of_length_eq_zero (by simpa using hz)
    subst e
    clear hz hc
    go_enter Try.func67, Try.ntmps67
    go_wp2_with (at_builtin; refine wpList_append_fits_any _ rfl _ _ 28 rfl w.heap.size 50 i 2 Try.underlying28 hi h1 w.heap.size 0 0 [] rfl (own_none w 50 2) (some ⟨g, 0, none⟩) 0 c [] rfl (by simp) (by simp) (by simp) (by simp) (by omega) ?_; intro w1 ho hg)
    try simp only [Nat.zero_add, List.nil_append] at ho
    have Ho := Lib.hid ho
    have Hg := Lib.hid hg
    clear ho hg
    go_wp2
    go_ret
    exact ⟨_, _, rfl, Ho.out, (((Bel.refl w).alloc _).grown Hg.out (fun k h => by cases h; exact Nat.le_refl _)).1⟩
  · obtain ⟨b, o, he, hb, hcell⟩ := hc.at_ (by simp; omega)
    obtain ⟨rfl, rfl⟩ : g = b ∧ 0 = o := by simpa using he
    have Hz := Lib.hid hz
    have Hc := Lib.hid hcell
    clear hz hc hcell he
    go_enter Try.func67, Try.ntmps67
    go_wp2_with (at_builtin; refine wpList_append_lies _ (by rfl) _ _ 28 (by rfl) w.heap.size 50 i (.agg #[.int .i64 0, .int .i64 0]) 2 16 Try.underlying28 hi h0 h1 h2 (by rfl) (by omega) _ 0 [] (by rfl) (own_none w 50 2) ⟨g, 0, none⟩ n c (zs.map (Value.int .i64)) (by rfl) (by have := Hz.out; simp; omega) ?qc1 ?qc2 (by omega) (by unfold maxLen; omega) (by omega) (by simp) _ rfl ?_)
    case qc1 =>
      intro j u hj
      have hjl : j < (zs.map (Value.int .i64)).length := (List.getElem?_eq_some_iff.1 hj).1
      rw [Addr.add_lit]
      refine Lib.cell?_alloc_some _ ?_
      rw [Hc.out j hjl]
      exact hj
    case qc2 =>
      intro u hu
      obtain ⟨z, _, rfl⟩ := List.mem_map.1 hu
      rfl
    intro g' cap w1 ho hg _ _
    try simp only [Nat.zero_add, List.nil_append] at ho
    have Ho := Lib.hid ho
    have Hg := Lib.hid hg
    clear ho hg
    go_wp2
    go_ret
    exact ⟨_, _, rfl, Ho.out, (((Bel.refl w).alloc _).grown Hg.out (fun k h => by cases h; exact Nat.le_refl _)).1⟩



/-! ### The first of some numbers -/
def firstN (p : Nat → Bool) : Nat → Nat
  | 0 => 0
  | M + 1 => if firstN p M < M then firstN p M else if p M then M else M + 1
theorem firstN_spec {p : Nat → Bool} : ∀ {M : Nat}, (firstN p M < M → p (firstN p M) = true) ∧ (∀ a, a < firstN p M → p a = false) ∧ firstN p M ≤ M := by
  intro M
  induction M with
  | zero => exact ⟨fun h => absurd h (Nat.not_lt_zero _), fun a h => absurd h (Nat.not_lt_zero _), Nat.le_refl _⟩
  | succ M ih =>
    obtain ⟨h1, h2, h3⟩ := ih
    simp only [firstN]
    split
    · rename_i h
      exact ⟨fun _ => h1 h, h2, by omega⟩
    · have e : firstN p M = M := by omega
      rw [e] at h2
      split
      · rename_i hp
        exact ⟨fun _ => hp, h2, by omega⟩
      · rename_i hp
        refine ⟨fun h => by omega, fun a ha => ?_, Nat.le_refl _⟩
        by_cases ea : a = M
        · subst ea; simpa using hp
        · exact h2 a (by omega)
theorem firstN_lt {p : Nat → Bool} {c M : Nat} (hc : p c = true) (hlt : c < M) : firstN p M < M := by
  obtain ⟨_, h2, h3⟩ := firstN_spec (p := p) (M := M)
  refine Nat.lt_of_le_of_ne h3 (fun e => ?_)
  have := h2 c (by omega)
  rw [hc] at this
  cases this
/-- A count that gives the least number. -/
def pickP (f : Nat → Int) (T h : Nat) (v : Int) (c : Nat) : Bool := decide (0 ≤ f (h - c * T)) && decide (f (h - c * T) + (c : Int) = v)
theorem scan_hit {f : Nat → Int} {T h M : Nat} (hv : 0 ≤ scanZ f T h M) : ∃ c, c < M ∧ pickP f T h (scanZ f T h M) c = true := by
  induction M with
  | zero => simp [scanZ] at hv
  | succ M ih =>
    simp only [scanZ] at hv ⊢
    split
    · rename_i k
      exact ⟨M, by omega, by simp [pickP, k.1]⟩
    · rename_i k
      rw [if_neg k] at hv
      obtain ⟨c, h1, h2⟩ := ih hv
      exact ⟨c, by omega, h2⟩
def pickC (zs : List Int) (n : Nat) (t : Int) (k h : Nat) : Nat := firstN (pickP (fewT zs n t (k + 1)) (thN zs k) h (fewT zs n t k h)) (min (ctN zs t k) (h / thN zs k) + 1)
/-- What has been taken of the first k kinds, and what height is left. -/
def heelSt (zs : List Int) (n : Nat) (t : Int) (H : Nat) : Nat → List Int × Nat
  | 0 => ([], H)
  | k + 1 => ((heelSt zs n t H k).1 ++ [((pickC zs n t k (heelSt zs n t H k).2 : Nat) : Int)], (heelSt zs n t H k).2 - pickC zs n t k (heelSt zs n t H k).2 * thN zs k)
theorem heelSt_step {zs ds : List Int} {n k h c H : Nat} {t : Int} (hs : heelSt zs n t H k = (ds, h)) (hc : pickC zs n t k h = c) : heelSt zs n t H (k + 1) = (ds ++ [(c : Int)], h - c * thN zs k) := by
  simp only [heelSt, hs, hc]
theorem pick_facts {zs : List Int} {n k h T C : Nat} {t : Int} (hk : k < n) (hT : thN zs k = T) (hC : ctN zs t k = C) (hT1 : 1 ≤ T) (hv : 0 ≤ fewT zs n t k h) :
    ∃ c, pickC zs n t k h = c ∧ c ≤ C ∧ c * T ≤ h ∧ 0 ≤ fewT zs n t (k + 1) (h - c * T) ∧ fewT zs n t (k + 1) (h - c * T) + (c : Int) = fewT zs n t k h ∧
      ∀ a, a < c → ¬ (0 ≤ fewT zs n t (k + 1) (h - a * T) ∧ fewT zs n t (k + 1) (h - a * T) + (a : Int) = fewT zs n t k h) := by
  have hst := fewT_step (t := t) hk hT hC h
  have h1 := hv
  rw [hst] at h1
  obtain ⟨c0, hc0, hp0⟩ := scan_hit h1
  rw [← hst] at hp0
  have hlt := firstN_lt hp0 hc0
  obtain ⟨s1, s2, _⟩ := firstN_spec (p := pickP (fewT zs n t (k + 1)) T h (fewT zs n t k h)) (M := min C (h / T) + 1)
  have s1' := s1 hlt
  refine ⟨_, by rw [pickC, hT, hC], ((many_iff hT1).1 hlt).1, ((many_iff hT1).1 hlt).2, ?_⟩
  generalize firstN (pickP (fewT zs n t (k + 1)) T h (fewT zs n t k h)) (min C (h / T) + 1) = c at *
  simp only [pickP, Bool.and_eq_true, decide_eq_true_eq] at s1'
  refine ⟨s1'.1, s1'.2, fun a ha hh => ?_⟩
  have := s2 a ha
  simp only [pickP, hh.1, hh.2, decide_true, Bool.and_self] at this
  cases this
def heelF (zs : List Int) (n : Nat) (t : Int) (h : Int) : List Int := if canP zs n t h.toNat then (heelSt zs n t h.toNat n).1 else []
def heelC (zs : List Int) (n : Nat) (t : Int) (h : Int) : Int := if canP zs n t h.toNat then 0 else 3

set_option maxRecDepth 100000 in
set_option maxHeartbeats 6400000 in
theorem buildHeel_any (w : World) (g n c H : Nat) (zs : List Int) (hl : zs.length = n * 2) (hc : CellsAt w (some ⟨g, 0, none⟩) (zs.map (Value.int .i64))) (hok : stockB zs n = true) (hH : H ≤ 1200) :
    Calls Try.prog 75 #[.slice (some ⟨g, 0, none⟩) n c, .int .i64 (H : Int)] w (RowEnd w 2 1 (heelF zs n 1 H) (heelC zs n 1 H)) := by
  have h1 := fewest_any w g n c zs hl hc hok
  have n6 : n ≤ 6 := by
    simp only [stockB, Bool.and_eq_true, decide_eq_true_eq] at hok
    exact hok.2
  obtain ⟨v0, hv0⟩ : ∃ v, fewT zs n 1 0 H = v := ⟨_, rfl⟩
  have H1 := Lib.hid h1
  have f0 : (0 : Int) < (n : Int) + 1 := by omega
  have f1 : (H : Int) < 1201 := by omega
  by_cases hneg : v0 < 0
  · rw [show heelF zs n 1 H = [] by simp [heelF, canP, hv0]; omega, show heelC zs n 1 H = 3 by simp [heelC, canP, hv0]; omega]
    have HV := Lib.hid hv0
    clear h1 hv0 hl hc hok
    go_enter Try.func75, Try.ntmps75
    go_wp2_with fail
    refine H1.out.mono ?_
    rintro e w1 ⟨gO, S, rfl, htab, hb1⟩
    obtain ⟨gx, cx, k1, k2⟩ := htab.get (j := 0) (Nat.le_refl _) (by omega)
    have k3 := k2 H (by omega)
    rw [HV.out] at k3
    have HB1 := Lib.hid hb1
    clear k2 htab hb1
    go_wp2
    go_ret2
    exact rowEnd_bad HB1.out
  · rw [show heelC zs n 1 H = 0 by simp [heelC, canP, hv0]; omega]
    obtain ⟨r, hr⟩ : ∃ r, (heelSt zs n 1 H n).1 = r := ⟨_, rfl⟩
    rw [show heelF zs n 1 H = r by rw [← hr]; simp [heelF, canP, hv0]; omega]
    have HR := Lib.hid hr
    have HV := Lib.hid hv0
    have HAt := Lib.hid (fun k (hk : k < n) => stockB_at hok hk)
    have HBd := Lib.hid (fun k h => fewT_bd (t := 1) hok k h)
    have Hz := Lib.hid hl
    have HA := Lib.hid hc
    clear h1 hr hv0 hl hc hok
    go_enter Try.func75, Try.ntmps75
    go_wp2_with fail
    refine H1.out.mono ?_
    rintro e w1 ⟨gO, S0, rfl, htab0, hb1⟩
    obtain ⟨S, hS, htab⟩ := htab0.size
    obtain ⟨gx, cx, k1, k2⟩ := htab.get (j := 0) (Nat.le_refl _) (by omega)
    have k3 := k2 H (by omega)
    rw [HV.out] at k3
    have HT := Lib.hid htab
    have HS := Lib.hid hS
    have HB1 := Lib.hid (Bel.of hb1)
    clear k2 htab0 htab hb1 hS
    go_wp2
    clear k1 k3
    go_loopw [7, 1, 23] (fun v u x wr => ∃ k : Nat, k ≤ n ∧ x = .int .i64 k ∧ ∃ h : Nat, h ≤ 1200 ∧ u = .int .i64 h ∧ ∃ (ds : List Int) (ao : Option Addr) (co : Nat), v = .slice ao ds.length co ∧ Hid (ds.length = k ∧ heelSt zs n 1 H k = (ds, h) ∧ 0 ≤ fewT zs n 1 k h) ∧ Hid (∀ j, (Value.slice ao ds.length co).ownBlock = some j → S ≤ j) ∧ Hid (wr.ownsRow w.heap.size 2 1 (.slice ao ds.length co) ds.length (ds.map (Value.int .i64))) ∧ Hid (S ≤ wr.heap.size ∧ Tab wr w.heap.size S gO n 0 (fewT zs n 1)) ∧ Hid (Bel w.heap.size w wr)) (fun _ _ x _ => n - (intOf x).toNat)
    case atStart => exact ⟨0, Nat.zero_le _, rfl, H, hH, rfl, [], _, _, rfl, Lib.hid ⟨rfl, rfl, by have := HV.out; omega⟩, Lib.hid (fun k hk => by have h1 : w1.heap.size = k := (by simpa [Value.ownBlock] using hk); have := HS.out; omega), Lib.hid (own_none' w1 w.heap.size 2 1 HB1.out.2), Lib.hid ⟨by have := HS.out; simp; omega, HT.out.alloc _⟩, Lib.hid (HB1.out.alloc _)⟩
    case round =>
      obtain ⟨k, hk, rfl, h, hh, rfl, ds, ao, co, rfl, hst, hne, hown, htab, hbw⟩ := hrel
      have hdl : ds.length ≤ 6 := by have := hst.out.1; omega
      by_cases hlt : k < n
      · obtain ⟨T, hT⟩ : ∃ T : Nat, zs.getD (k * 2) 0 = (T : Int) := ⟨(zs.getD (k * 2) 0).toNat, by have := HAt.out k hlt; omega⟩
        obtain ⟨C, hC⟩ : ∃ C : Nat, zs.getD (k * 2 + 1) 0 = (C : Int) := ⟨(zs.getD (k * 2 + 1) 0).toNat, by have := HAt.out k hlt; omega⟩
        have hat := HAt.out k hlt
        rw [hT, hC] at hat
        obtain ⟨T1, T2, y1, y2⟩ := hat
        obtain ⟨c1, p1, p2, p3, p4, p5, p6⟩ := pick_facts (t := 1) (T := T) (C := C) hlt (by rw [thN, hT]; simp) (by rw [ctN, hC]; simp) (by omega) hst.out.2.2
        obtain ⟨hc1, hc2⟩ := cell_two Hz.out HA.out hbw.out.1 hlt hT hC
        obtain ⟨v, hv⟩ : ∃ v, fewT zs n 1 k h = v := ⟨_, rfl⟩
        have vb := HBd.out k h
        rw [hv] at vb p5 p6
        obtain ⟨vb1, vb2⟩ := vb
        have HTh := Lib.hid (show thN zs k = T by rw [thN, hT]; simp)
        have HP1 := Lib.hid p1
        have HP5 := Lib.hid p5
        have HP6 := Lib.hid p6
        have HV2 := Lib.hid hv
        obtain ⟨bl, hbl⟩ : ∃ bl, wr.heap.size = bl := ⟨_, rfl⟩
        have HX := Lib.hid (box_two hbl (T : Int) (C : Int) 50)
        have Hbl := Lib.hid hbl
        have Hfar := Lib.hid (show (Value.slice ao ds.length co).ownBlock ≠ some bl from fun e => by have := (own_block hown.out e).2; omega)
        have HSb := Lib.hid (show S ≤ bl by rw [← hbl]; exact htab.out.1)
        have c20 : c1 ≤ 20 := by omega
        have hlt' : (k : Int) < (n : Int) := by omega
        clear hT hC p1 p5 p6 hv hbl
        go_wp2
        rw [Hbl.out]
        clear hc1 hc2
        go_loopw [10] (fun u wj => ∃ a : Nat, a ≤ c1 ∧ u = .int .i64 a ∧ Hid (bl < wj.heap.size ∧ wj.cell? ⟨bl, 0, none⟩ = some (.int .i64 (T : Int)) ∧ wj.cell? ⟨bl, 1, none⟩ = some (.int .i64 (C : Int))) ∧ Hid (wj.ownsRow w.heap.size 2 1 (.slice ao ds.length co) ds.length (ds.map (Value.int .i64))) ∧ Hid (S ≤ wj.heap.size ∧ Tab wj w.heap.size S gO n 0 (fewT zs n 1)) ∧ Hid (Bel w.heap.size w wj)) (fun u _ => 21 - (intOf u).toNat)
        case atStart => exact ⟨0, Nat.zero_le _, rfl, HX, Lib.hid (hown.out.alloc _), Lib.hid ⟨by have := htab.out.1; simp; omega, htab.out.2.alloc _⟩, Lib.hid (hbw.out.alloc _)⟩
        case round =>
          obtain ⟨a, ha, rfl, hbox, hown, htab, hbw⟩ := hrel
          have hb0 := hbox.out.2.1
          have pT : (a : Int) * (T : Int) = ((a * T : Nat) : Int) := by simp
          have pB : a * T ≤ c1 * T := Nat.mul_le_mul ha (Nat.le_refl _)
          obtain ⟨P, hP⟩ : ∃ P, a * T = P := ⟨_, rfl⟩
          obtain ⟨m, hm⟩ : ∃ m, h - a * T = m := ⟨_, rfl⟩
          rw [hP] at pT pB hm
          obtain ⟨gx, cx, k1, k2⟩ := htab.out.2.get (j := k + 1) (by omega) (by omega)
          obtain ⟨gy, cy, k3, k4⟩ := htab.out.2.get (j := k) (by omega) (by omega)
          have k5 := k2 m (by omega)
          have k6 := k4 h (by omega)
          rw [HV2.out] at k6
          obtain ⟨x, hx⟩ : ∃ x, fewT zs n 1 (k + 1) m = x := ⟨_, rfl⟩
          have xb := HBd.out (k + 1) m
          rw [hx] at k5 xb
          obtain ⟨xb1, xb2⟩ := xb
          have HX := Lib.hid (show fewT zs n 1 (k + 1) (h - a * T) = x by rw [hP, hm, hx])
          have f3 : (0 : Int) ≤ (k : Int) + 1 := by omega
          have f4 : (k : Int) + 1 < (n : Int) + 1 := by omega
          have f5 : (m : Int) < 1201 := by omega
          have f6 : (k : Int) < (n : Int) + 1 := by omega
          have f7 : (h : Int) < 1201 := by omega
          have w1 : IntKind.i64.wrap (P : Int) = (P : Int) := IntWalk.i64_in _ (by omega)
          have w2 : IntKind.i64.wrap ((h : Int) - (P : Int)) = (m : Int) := by rw [IntWalk.i64_in _ (by omega)]; omega
          have w3 : IntKind.i64.wrap ((k : Int) + 1) = (k : Int) + 1 := IntWalk.i64_in _ (by omega)
          have w4 : ((k : Int) + 1).toNat = k + 1 := by omega
          have w5 : IntKind.i64.wrap ((a : Int) + x) = (a : Int) + x := IntWalk.i64_in _ (by omega)
          have HMM := Lib.hid (And.intro hP hm)
          clear k2 k4 hx hm hP
          by_cases hac : a < c1
          · have hno := HP6.out a hac
            rw [HX.out] at hno
            by_cases x0 : x < 0
            · have gg : decide (x < 0) = true := by simpa using x0
              clear hno x0
              go_wp2_with fail
              go_big_quiet (fail)
              go_wp2_with fail
              go_roundw
              case rel => exact ⟨a + 1, by omega, by go_num, hbox, Lib.hid (own_drewN hown.out _), Lib.hid ⟨htab.out.1, htab.out.2.drewN _⟩, Lib.hid (hbw.out.drewN _)⟩
              case measure => simp [intOf]; omega
            · have gg : decide (x < 0) = false := by simpa using x0
              have gg2 : ((a : Int) + x != v) = true := by simp; omega
              clear hno x0
              go_wp2_with fail
              go_big_quiet (fail)
              go_wp2_with fail
              go_roundw
              case rel => exact ⟨a + 1, by omega, by go_num, hbox, Lib.hid (own_drewN hown.out _), Lib.hid ⟨htab.out.1, htab.out.2.drewN _⟩, Lib.hid (hbw.out.drewN _)⟩
              case measure => simp [intOf]; omega
          · obtain rfl : a = c1 := by omega
            have hyes := HP5.out
            rw [HX.out] at hyes p4
            have gg : decide (x < 0) = false := by simp; omega
            have gg2 : ((a : Int) + x != v) = false := by simp; omega
            clear hyes p4
            go_wp2_with fail
            go_big_quiet (fail)
            generalize hwq : wr.drewN _ = wq
            have Ho4 := Lib.hid (show wq.ownsRow w.heap.size 2 1 (.slice ao ds.length co) ds.length (ds.map (Value.int .i64)) by rw [← hwq]; exact hown.out)
            have Ht4 := Lib.hid (show S ≤ wq.heap.size ∧ Tab wq w.heap.size S gO n 0 (fewT zs n 1) by rw [← hwq]; exact htab.out)
            have Hb4 := Lib.hid (show Bel w.heap.size w wq by rw [← hwq]; exact hbw.out.drewN _)
            have Hx4 := Lib.hid (show bl < wq.heap.size ∧ wq.cell? ⟨bl, 0, none⟩ = some (.int .i64 (T : Int)) ∧ wq.cell? ⟨bl, 1, none⟩ = some (.int .i64 (C : Int)) by rw [← hwq]; exact hbox.out)
            have hb4 := Hx4.out.2.1
            clear hwq hb0 k1 k3 k5 k6 w3 w4 w5 gg2
            have Hcell := Lib.hid (show ((wq.alloc (.cells #[.int .i64 (a : Int)] 2)).drew).cell? ⟨bl, 0, none⟩ = some (.int .i64 (T : Int)) from Lib.cell?_alloc_some _ hb4)
            go_wp2_with fail
            go_region_held3 (fun W => W.cell? ⟨bl, 0, none⟩ = some (.int .i64 (T : Int))) (first | go_keep | exact (hg5.cell_far ⟨bl, 0, none⟩ (by have := Hx4.out.1; simp; omega) (fun e => Hfar.out e.symm)).trans Hcell.out)
              ((refine stepI (by rfl) _ _ (by rfl) w.heap.size _ _ _ (by rfl) ((Ho4.out.alloc _).drew) [.int .i64 (a : Int)] (by rfl) (by simp [Value.oneCell']) 1 wq.heap.size (new_cells (w := wq) (cs := #[.int .i64 (a : Int)]) (t := 2) rfl rfl) (by rfl) (by omega) (Hb4.out.alloc _).drew ?_; intro g5 cap5 w5 ho5 hb5 hg5 hat5))
            have Ho5 := Lib.hid ho5
            have Hb5 := Lib.hid hb5
            have Ht5 := Lib.hid (And.intro (Nat.le_trans Ht4.out.1 (Nat.le_trans (by simp) hg5.size)) (((Ht4.out.2.alloc (.cells #[.int .i64 (a : Int)] 2)).drewN 1).grownO hg5 hne.out))
            have Hne5 := Lib.hid (show S ≤ g5 from by rcases hat5 with h | h; exact hne.out _ h; have := Ht4.out.1; simp at h; omega)
            have HN := Lib.hid (show (ds ++ [(a : Int)]).length = k + 1 ∧ heelSt zs n 1 H (k + 1) = (ds ++ [(a : Int)], m) ∧ 0 ≤ fewT zs n 1 (k + 1) m by
              have e1 := hst.out
              have e2 := HMM.out
              have e3 := HX.out
              refine ⟨by simp [e1.1], ?_, ?_⟩
              · rw [heelSt_step e1.2.1 HP1.out, HTh.out, e2.1, e2.2]
              · rw [e2.1, e2.2] at e3
                rw [e3]
                simpa using gg)
            clear ho5 hb5 hg5 hat5 hb4
            go_wp2
            go_roundw
            case rel => exact ⟨k + 1, by omega, by go_num, m, by omega, rfl, ds ++ [(a : Int)], some ⟨g5, 0, none⟩, cap5, by simp, HN, Lib.hid (fun j hj => by have h1 : g5 = j := (by simpa [Value.ownBlock] using hj); have := Hne5.out; omega), Lib.hid (by simpa using Ho5.out), Ht5, Hb5⟩
            case measure => simp [intOf]; omega
      · obtain rfl : k = n := by omega
        obtain rfl : ds = r := by rw [← HR.out, hst.out.2.1]
        go_wp2
        go_ret2
        exact ⟨ao, ds.length, co, rfl, by omega, by omega, hown.out, hbw.out.1⟩

/-- What the reference's first heel answers. -/
def FirstEnd (w : World) (ds : List Int) (b : Bool) (e : Ending) (w' : World) : Prop :=
  ∃ a n cap, e = .returned (.tuple #[.slice a n cap, .bool b]) ∧ ds.length = n ∧ n ≤ 6 ∧ w'.ownsRow w.heap.size 2 1 (.slice a n cap) n (ds.map (Value.int .i64)) ∧ Below w.heap.size w w'

set_option maxRecDepth 100000 in
set_option maxHeartbeats 6400000 in
theorem l18First_any (w : World) (g n c H : Nat) (zs : List Int) (t : Int) (hl : zs.length = n * 2) (hc : CellsAt w (some ⟨g, 0, none⟩) (zs.map (Value.int .i64))) (hok : stockB zs n = true) (hH : H ≤ 1200) (t1 : 1 ≤ t) (t2 : t ≤ 2) :
    Calls Try.prog 74 #[.slice (some ⟨g, 0, none⟩) n c, .int .i64 (H : Int), .int .i64 t] w (FirstEnd w (heelF zs n t H) (canP zs n t H)) := by
  have h1 := l18Few_any w g n c zs t hl hc hok t1 t2
  have n6 : n ≤ 6 := by
    simp only [stockB, Bool.and_eq_true, decide_eq_true_eq] at hok
    exact hok.2
  obtain ⟨v0, hv0⟩ : ∃ v, fewT zs n t 0 H = v := ⟨_, rfl⟩
  have H1 := Lib.hid h1
  have f0 : (0 : Int) < (n : Int) + 1 := by omega
  have f1 : (H : Int) < 1201 := by omega
  by_cases hneg : v0 < 0
  · rw [show heelF zs n t H = [] by simp [heelF, canP, hv0]; omega, show canP zs n t H = false by simp [canP, hv0]; omega]
    have HV := Lib.hid hv0
    clear h1 hv0 hl hc hok
    go_enter Try.func74, Try.ntmps74
    go_wp2_with fail
    refine H1.out.mono ?_
    rintro e w1 ⟨gO, S, rfl, htab, hb1⟩
    obtain ⟨gx, cx, k1, k2⟩ := htab.get (j := 0) (Nat.le_refl _) (by omega)
    have k3 := k2 H (by omega)
    rw [HV.out] at k3
    have HB1 := Lib.hid hb1
    clear k2 htab hb1
    go_wp2
    go_ret2
    exact ⟨none, 0, 0, rfl, rfl, by omega, World.ownsRow_nil _ _ _ _, HB1.out⟩
  · rw [show canP zs n t H = true by simp [canP, hv0]; omega]
    obtain ⟨r, hr⟩ : ∃ r, (heelSt zs n t H n).1 = r := ⟨_, rfl⟩
    rw [show heelF zs n t H = r by rw [← hr]; simp [heelF, canP, hv0]; omega]
    have HR := Lib.hid hr
    have HV := Lib.hid hv0
    have HAt := Lib.hid (fun k (hk : k < n) => stockB_at hok hk)
    have HBd := Lib.hid (fun k h => fewT_bd (t := t) hok k h)
    have Hz := Lib.hid hl
    have HA := Lib.hid hc
    clear h1 hr hv0 hl hc hok
    go_enter Try.func74, Try.ntmps74
    go_wp2_with fail
    refine H1.out.mono ?_
    rintro e w1 ⟨gO, S0, rfl, htab0, hb1⟩
    obtain ⟨S, hS, htab⟩ := htab0.size
    obtain ⟨gx, cx, k1, k2⟩ := htab.get (j := 0) (Nat.le_refl _) (by omega)
    have k3 := k2 H (by omega)
    rw [HV.out] at k3
    have HT := Lib.hid htab
    have HS := Lib.hid hS
    have HB1 := Lib.hid (Bel.of hb1)
    clear k2 htab0 htab hb1 hS
    go_wp2
    clear k1 k3
    go_loopw [9, 1, 10] (fun v u x wr => ∃ k : Nat, k ≤ n ∧ x = .int .i64 k ∧ ∃ h : Nat, h ≤ 1200 ∧ u = .int .i64 h ∧ ∃ (ds : List Int) (ao : Option Addr) (co : Nat), v = .slice ao ds.length co ∧ Hid (ds.length = k ∧ heelSt zs n t H k = (ds, h) ∧ 0 ≤ fewT zs n t k h) ∧ Hid (∀ j, (Value.slice ao ds.length co).ownBlock = some j → S ≤ j) ∧ Hid (wr.ownsRow w.heap.size 2 1 (.slice ao ds.length co) ds.length (ds.map (Value.int .i64))) ∧ Hid (S ≤ wr.heap.size ∧ Tab wr w.heap.size S gO n 0 (fewT zs n t)) ∧ Hid (Bel w.heap.size w wr)) (fun _ _ x _ => n - (intOf x).toNat)
    case atStart => exact ⟨0, Nat.zero_le _, rfl, H, hH, rfl, [], _, _, rfl, Lib.hid ⟨rfl, rfl, by have := HV.out; omega⟩, Lib.hid (fun k hk => by have h1 : w1.heap.size = k := (by simpa [Value.ownBlock] using hk); have := HS.out; omega), Lib.hid (own_none' w1 w.heap.size 2 1 HB1.out.2), Lib.hid ⟨by have := HS.out; simp; omega, HT.out.alloc _⟩, Lib.hid (HB1.out.alloc _)⟩
    case round =>
      obtain ⟨k, hk, rfl, h, hh, rfl, ds, ao, co, rfl, hst, hne, hown, htab, hbw⟩ := hrel
      have hdl : ds.length ≤ 6 := by have := hst.out.1; omega
      by_cases hlt : k < n
      · obtain ⟨T, hT⟩ : ∃ T : Nat, zs.getD (k * 2) 0 = (T : Int) := ⟨(zs.getD (k * 2) 0).toNat, by have := HAt.out k hlt; omega⟩
        obtain ⟨y, hy⟩ : ∃ y, zs.getD (k * 2 + 1) 0 = y := ⟨_, rfl⟩
        have hat := HAt.out k hlt
        rw [hT, hy] at hat
        obtain ⟨T1, T2, y1, y2⟩ := hat
        have yd := Int.ediv_nonneg y1 (show 0 ≤ t by omega)
        have ye : y / t ≤ y := Int.ediv_le_self _ y1
        obtain ⟨C, hC⟩ : ∃ C : Nat, y / t = (C : Int) := ⟨(y / t).toNat, by omega⟩
        obtain ⟨c1, p1, p2, p3, p4, p5, p6⟩ := pick_facts (t := t) (T := T) (C := C) hlt (by rw [thN, hT]; simp) (by rw [ctN, hy, hC]; simp) (by omega) hst.out.2.2
        have HCC := Lib.hid (fun W (e : Bel w.heap.size w W) => cell_two Hz.out HA.out e.1 hlt hT hy)
        obtain ⟨v, hv⟩ : ∃ v, fewT zs n t k h = v := ⟨_, rfl⟩
        have vb := HBd.out k h
        rw [hv] at vb p5 p6
        obtain ⟨vb1, vb2⟩ := vb
        have HTh := Lib.hid (show thN zs k = T by rw [thN, hT]; simp)
        have HP1 := Lib.hid p1
        have HP5 := Lib.hid p5
        have HP6 := Lib.hid p6
        have HV2 := Lib.hid hv
        have HC2 := Lib.hid hC
        have c20 : c1 ≤ 20 := by omega
        have hlt' : (k : Int) < (n : Int) := by omega
        have hdiv : t ≠ 0 := by omega
        clear hT hy hC p1 p5 p6 hv
        go_wp2
        go_loopw [9, 1, 11] (fun v9 v1 u wj => v9 = .slice ao ds.length co ∧ v1 = .int .i64 (h : Int) ∧ ∃ a : Nat, a ≤ c1 ∧ u = .int .i64 a ∧ Hid (wj.ownsRow w.heap.size 2 1 (.slice ao ds.length co) ds.length (ds.map (Value.int .i64))) ∧ Hid (S ≤ wj.heap.size ∧ Tab wj w.heap.size S gO n 0 (fewT zs n t)) ∧ Hid (Bel w.heap.size w wj)) (fun _ _ u _ => 21 - (intOf u).toNat)
        case atStart => exact ⟨rfl, rfl, 0, Nat.zero_le _, rfl, hown, htab, hbw⟩
        case round =>
          obtain ⟨rfl, rfl, a, ha, rfl, hown, htab, hbw⟩ := hrel
          obtain ⟨hc1, hc2⟩ := HCC.out _ hbw.out
          have hyt := HC2.out
          have pT : (a : Int) * (T : Int) = ((a * T : Nat) : Int) := by simp
          have pB : a * T ≤ c1 * T := Nat.mul_le_mul ha (Nat.le_refl _)
          obtain ⟨P, hP⟩ : ∃ P, a * T = P := ⟨_, rfl⟩
          obtain ⟨m, hm⟩ : ∃ m, h - a * T = m := ⟨_, rfl⟩
          rw [hP] at pT pB hm
          obtain ⟨gx, cx, k1, k2⟩ := htab.out.2.get (j := k + 1) (by omega) (by omega)
          obtain ⟨gy, cy, k3, k4⟩ := htab.out.2.get (j := k) (by omega) (by omega)
          have k5 := k2 m (by omega)
          have k6 := k4 h (by omega)
          rw [HV2.out] at k6
          obtain ⟨x, hx⟩ : ∃ x, fewT zs n t (k + 1) m = x := ⟨_, rfl⟩
          have xb := HBd.out (k + 1) m
          rw [hx] at k5 xb
          obtain ⟨xb1, xb2⟩ := xb
          have HX := Lib.hid (show fewT zs n t (k + 1) (h - a * T) = x by rw [hP, hm, hx])
          have f2 : (P : Int) ≤ (h : Int) := by omega
          have f9 : (a : Int) ≤ (C : Int) := by omega
          have f3 : (0 : Int) ≤ (k : Int) + 1 := by omega
          have f4 : (k : Int) + 1 < (n : Int) + 1 := by omega
          have f5 : (m : Int) < 1201 := by omega
          have f6 : (k : Int) < (n : Int) + 1 := by omega
          have f7 : (h : Int) < 1201 := by omega
          have w1 : IntKind.i64.wrap (P : Int) = (P : Int) := IntWalk.i64_in _ (by omega)
          have w2 : IntKind.i64.wrap ((h : Int) - (P : Int)) = (m : Int) := by rw [IntWalk.i64_in _ (by omega)]; omega
          have w3 : IntKind.i64.wrap ((k : Int) + 1) = (k : Int) + 1 := IntWalk.i64_in _ (by omega)
          have w4 : ((k : Int) + 1).toNat = k + 1 := by omega
          have HMM := Lib.hid (And.intro hP hm)
          clear k2 k4 hx hm hP
          by_cases hac : a < c1
          · have hno := HP6.out a hac
            rw [HX.out] at hno
            by_cases x0 : x < 0
            · clear hno
              go_wp2_with fail
              go_big_quiet (fail)
              go_wp2_with fail
              go_roundw
              case rel => exact ⟨rfl, rfl, a + 1, by omega, by go_num, Lib.hid (own_drewN hown.out _), Lib.hid ⟨htab.out.1, htab.out.2.drewN _⟩, Lib.hid (hbw.out.drewN _)⟩
              case measure => simp [intOf]; omega
            · have gg2 : (x + (a : Int) == v) = false := by simp; omega
              clear hno
              go_wp2_with fail
              go_big_quiet (fail)
              go_wp2_with fail
              go_roundw
              case rel => exact ⟨rfl, rfl, a + 1, by omega, by go_num, Lib.hid (own_drewN hown.out _), Lib.hid ⟨htab.out.1, htab.out.2.drewN _⟩, Lib.hid (hbw.out.drewN _)⟩
              case measure => simp [intOf]; omega
          · obtain rfl : a = c1 := by omega
            have hyes := HP5.out
            rw [HX.out] at hyes p4
            have gg2 : (x + (a : Int) == v) = true := by simp; omega
            clear hyes
            go_wp2_with fail
            go_big_quiet (fail)
            generalize hwq : wr.drewN _ = wq
            have Ho4 := Lib.hid (show wq.ownsRow w.heap.size 2 1 (.slice ao ds.length co) ds.length (ds.map (Value.int .i64)) by rw [← hwq]; exact hown.out)
            have Ht4 := Lib.hid (show S ≤ wq.heap.size ∧ Tab wq w.heap.size S gO n 0 (fewT zs n t) by rw [← hwq]; exact htab.out)
            have Hb4 := Lib.hid (show Bel w.heap.size w wq by rw [← hwq]; exact hbw.out.drewN _)
            have q3 : wq.cell? ⟨gO, k, none⟩ = some (.slice (some ⟨gy, 0, none⟩) 1201 cy) := by rw [← hwq]; exact k3
            have q6 : wq.cell? ⟨gy, h, none⟩ = some (.int .i64 v) := by rw [← hwq]; exact k6
            clear hwq k1 k3 k5 k6 w3 w4 w1 w2 hc1 hc2
            go_wp2_with (at_builtin; refine appJ (by rfl) _ _ (by rfl) w.heap.size _ _ _ (by rfl) Ho4.out _ 1 wq.heap.size (by simp) (by rfl) (by omega) Hb4.out ?_; intro g5 cap5 w5 ho5 hb5 hg5 hat5; obtain ⟨d1, d2⟩ := HCC.out _ hb5; have Ho5 := Lib.hid ho5; have Hb5 := Lib.hid hb5; have Ht5 := Lib.hid (And.intro (Nat.le_trans Ht4.out.1 hg5.size) (Ht4.out.2.grownO hg5 hne.out)); have Hne5 := Lib.hid (show S ≤ g5 from by rcases hat5 with h | h; exact hne.out _ h; have := Ht4.out.1; omega); clear ho5 hb5 hg5 hat5)
            have HN := Lib.hid (show (ds ++ [(a : Int)]).length = k + 1 ∧ heelSt zs n t H (k + 1) = (ds ++ [(a : Int)], m) ∧ 0 ≤ fewT zs n t (k + 1) m by
              have e1 := hst.out
              have e2 := HMM.out
              have e3 := HX.out
              refine ⟨by simp [e1.1], ?_, ?_⟩
              · rw [heelSt_step e1.2.1 HP1.out, HTh.out, e2.1, e2.2]
              · rw [e2.1, e2.2] at e3
                rw [e3]
                omega)
            go_roundw
            case rel => exact ⟨k + 1, by omega, by go_num, m, by omega, by congr 1; have := HMM.out.2; omega, ds ++ [(a : Int)], some ⟨g5, 0, none⟩, cap5, by simp, HN, Lib.hid (fun j hj => by have h1 : g5 = j := (by simpa [Value.ownBlock] using hj); have := Hne5.out; omega), Lib.hid (by simpa using Ho5.out), Ht5, Hb5⟩
            case measure => simp [intOf]; omega
      · obtain rfl : k = n := by omega
        obtain rfl : ds = r := by rw [← HR.out, hst.out.2.1]
        go_wp2
        go_ret2
        exact ⟨ao, ds.length, co, rfl, rfl, by omega, hown.out, hbw.out.1⟩
end Go.Proofs.Ytlaapndncejlgaa
