/-
  Contracts of the cutting of needs from spools, both sides. No condition of its own.
-/
import Derived.Test.YtoomkeicfdmdoaaSpoolPlan
import Derived.StillTailTactics
namespace Go.Proofs.Ytoomkeicfdmdoaa
open Go.ChangeShapes Go.WideShapes Go.ChangeAt Go.RowKit Go.Deep Go.Shelf

/-- What is left on the spools when i needs are cut; none: a need was too great. -/
def leftTo (zs ys ps : List Int) : Nat → Option (List Int)
  | 0 => some zs
  | i + 1 => (leftTo zs ys ps i).bind fun l => if l.getD (ps.getD i 0).toNat 0 < ys.getD i 0 then none else some (l.set (ps.getD i 0).toNat (l.getD (ps.getD i 0).toNat 0 - ys.getD i 0))
theorem leftTo_none {zs ys ps l : List Int} {i q : Nat} {y u : Int} (h : leftTo zs ys ps i = some l) (hq : ps.getD i 0 = (q : Int)) (hy : ys.getD i 0 = y) (hu : l.getD q 0 = u) (k : u < y) : leftTo zs ys ps (i + 1) = none := by
  simp only [leftTo, h, Option.bind_some, hq, Int.toNat_natCast, hy, hu, if_pos k]
theorem leftTo_some {zs ys ps l : List Int} {i q : Nat} {y u : Int} (h : leftTo zs ys ps i = some l) (hq : ps.getD i 0 = (q : Int)) (hy : ys.getD i 0 = y) (hu : l.getD q 0 = u) (k : ¬ u < y) : leftTo zs ys ps (i + 1) = some (l.set q (u - y)) := by
  simp only [leftTo, h, Option.bind_some, hq, Int.toNat_natCast, hy, hu, if_neg k]
def Low (l : List Int) : Prop := ∀ j, 0 ≤ l.getD j 0 ∧ l.getD j 0 ≤ 1000000
theorem low_of {zs : List Int} (h : outB zs 0 1000000 = false) : Low zs := fun j => by
  by_cases hj : j < zs.length
  · have := outB_false.1 h zs[j] (List.getElem_mem hj)
    simpa [List.getElem?_eq_getElem hj] using this
  · have : zs.getD j 0 = 0 := by simp [List.getElem?_eq_none (by omega : zs.length ≤ j)]
    rw [this]; omega
theorem Low.set {l : List Int} (h : Low l) {q : Nat} {v : Int} (h0 : 0 ≤ v) (h1 : v ≤ 1000000) : Low (l.set q v) := fun j => by
  have := h j
  by_cases e : q = j
  · subst e
    by_cases hq : q < l.length
    · simp [hq]; omega
    · simp [hq]
  · simp [e] at this ⊢
    exact this
theorem outB_at {ys : List Int} {lo hi : Int} {j : Nat} (h : outB ys lo hi = false) (hj : j < ys.length) : lo ≤ ys.getD j 0 ∧ ys.getD j 0 ≤ hi := by
  have := outB_false.1 h ys[j] (List.getElem_mem hj)
  simpa [List.getElem?_eq_getElem hj] using this
theorem planB_parts {zs ys ps : List Int} {n m p : Nat} (h : planB zs ys ps n m p = true) : outB zs 0 1000000 = false ∧ outB ys 1 1000000 = false ∧ n ≤ 6 ∧ m ≤ 8 ∧ p = m ∧ outB ps 0 ((n : Int) - 1) = false := by
  simp only [planB, spoolsB, Bool.and_eq_true, Bool.not_eq_true', decide_eq_true_eq] at h
  obtain ⟨⟨h1, h2, h3, h4⟩, h5, h6⟩ := h
  exact ⟨h1, h2, h3, h4, h5, h6⟩

/-- What the cutting answers. -/
def CutEnd (w : World) (zs ys ps : List Int) (n p : Nat) (e : Ending) (w' : World) : Prop :=
  (∃ l a cap, leftTo zs ys ps p = some l ∧ l.length = n ∧ e = .returned (.tuple #[.slice a n cap, .int .i64 (-1)]) ∧ w'.ownsRow w.heap.size 2 1 (.slice a n cap) n (l.map (Value.int .i64)) ∧ Below w.heap.size w w')
  ∨ (∃ (i : Nat) (l : List Int), i < p ∧ leftTo zs ys ps i = some l ∧ leftTo zs ys ps (i + 1) = none ∧ e = .returned (.tuple #[.slice none 0 0, .int .i64 (i : Int)]) ∧ Below w.heap.size w w')

set_option maxRecDepth 100000 in
set_option maxHeartbeats 3200000 in
theorem cutNeeds_any (g n c : Nat) (zs : List Int) (a' : Option Addr) (m d : Nat) (ys : List Int) (a2 : Option Addr) (p f : Nat) (ps : List Int) (w : World) (hz : zs.length = n) (hy : ys.length = m) (hp : ps.length = p)
    (ha : CellsAt w (some ⟨g, 0, none⟩) (zs.map (Value.int .i64))) (hb : CellsAt w a' (ys.map (Value.int .i64))) (hc : CellsAt w a2 (ps.map (Value.int .i64))) (hpl : planB zs ys ps n m p = true) :
    Calls Try.prog 51 #[.slice (some ⟨g, 0, none⟩) n c, .slice a' m d, .slice a2 p f] w (CutEnd w zs ys ps n p) := by
  obtain ⟨o1, o2, n6, m8, rfl, o3⟩ := planB_parts hpl
  have hcl := cloneI_any g n c zs w hz (by omega) ha
  have HCl := Lib.hid hcl
  have Hz := Lib.hid hz
  have Hy := Lib.hid hy
  have Hp := Lib.hid hp
  have HB := Lib.hid hb
  have HP := Lib.hid hc
  have O1 := Lib.hid o1
  have O2 := Lib.hid o2
  have O3 := Lib.hid o3
  clear hcl hz hy hp ha hb hc hpl o1 o2 o3
  go_enter Try.func51, Try.ntmps51
  go_wp2_with (go_at_call 55; refine HCl.out.mono ?_; rintro e w1 ⟨aL, capL, rfl, ho, hb1⟩)
  have Ho := Lib.hid ho
  have HB1 := Lib.hid (Bel.of hb1)
  clear ho hb1
  go_loopw [15] (fun s wr => ∃ i : Nat, i ≤ p ∧ s = .int .i64 i ∧ ∃ l : List Int, Hid (leftTo zs ys ps i = some l ∧ l.length = n ∧ Low l) ∧ Hid (wr.ownsRow w.heap.size 2 1 (.slice aL n capL) n (l.map (Value.int .i64))) ∧ Hid (Bel w.heap.size w wr)) (fun s _ => p - (intOf s).toNat)
  case atStart => exact ⟨0, Nat.zero_le _, rfl, zs, Lib.hid ⟨rfl, Hz.out, low_of O1.out⟩, Ho, HB1⟩
  case round =>
    obtain ⟨i, hi, rfl, l, hl, hown, hbw⟩ := hrel
    by_cases hlt : i < p
    · obtain ⟨b1, off1, rfl, hb1, hc1⟩ := HB.out.at_ (by have := Hy.out; simp; omega)
      obtain ⟨b2, off2, rfl, hb2, hc2⟩ := HP.out.at_ (by have := Hp.out; simp; omega)
      obtain ⟨y, hy⟩ : ∃ z, ys.getD i 0 = z := ⟨_, rfl⟩
      obtain ⟨x, hx⟩ : ∃ z, ps.getD i 0 = z := ⟨_, rfl⟩
      have hcy := cell_int hb1 hbw.out.1 hc1 (by rw [Hy.out]; exact hlt) hy
      have hcx := cell_int hb2 hbw.out.1 hc2 (by rw [Hp.out]; exact hlt) hx
      have hyb := outB_at O2.out (j := i) (by rw [Hy.out]; exact hlt)
      have hxb := outB_at O3.out (j := i) (by rw [Hp.out]; exact hlt)
      rw [hy] at hyb
      rw [hx] at hxb
      obtain ⟨q, rfl⟩ : ∃ q : Nat, x = (q : Int) := ⟨x.toNat, by omega⟩
      have hqn : q < n := by omega
      obtain ⟨hyb1, hyb2⟩ := hyb
      have Hy2 := Lib.hid hy
      have Hx2 := Lib.hid hx
      clear hc1 hc2 hxb hx hy
      rcases own_form hown.out with h0 | ⟨gL, rfl⟩
      · omega
      obtain ⟨u, hu⟩ : ∃ z, l.getD q 0 = z := ⟨_, rfl⟩
      have hub := hl.out.2.2 q
      rw [hu] at hub
      obtain ⟨hu0, hu1⟩ := hub
      have hcl : wr.cell? ⟨gL, q, none⟩ = some (.int .i64 u) := by
        rw [hown.out.cellAt q (by omega), ← hu]
        simp [List.getElem?_eq_getElem (show q < l.length by rw [hl.out.2.1]; exact hqn)]
      have hfz := hown.out.frozenAt q
      have hst := World.ownsRow.stored (w := wr.drew) hown.out q (.int .i64 (u - y))
      have hrd : (wr.drew.setCell ⟨gL, q, none⟩ (.int .i64 (u - y))).cell? ⟨gL, q, none⟩ = some (.int .i64 (u - y)) := by
        rw [hst.1.cellAt q (by omega)]
        simp [hl.out.2.1, hqn]
      have Hst := Lib.hid hst
      have Hu := Lib.hid hu
      have hqn' : (q : Int) < (n : Int) := by omega
      have hlt' : (i : Int) < (p : Int) := by omega
      have hgB : ∀ k, some gL = some k → w.heap.size ≤ k := fun k h => by cases h; exact (own_block hown.out rfl).1
      have HgB := Lib.hid hgB
      clear hst hu hgB
      by_cases hneg : u < y
      · go_wp2_with fail
        go_still_tail 10, (by kernel_rfl)
        go_wp2
        go_ret2
        exact .inr ⟨i, l, hlt, hl.out.1, leftTo_none hl.out.1 Hx2.out Hy2.out Hu.out hneg, rfl, (hbw.out.drew.grown Hst.out.2 HgB.out).1⟩
      · go_wp2_with fail
        go_still_tail 10, (by kernel_rfl)
        go_wp2
        go_roundw
        case rel =>
          refine ⟨i + 1, by omega, by go_num, l.set q (u - y), Lib.hid ⟨leftTo_some hl.out.1 Hx2.out Hy2.out Hu.out (by omega), by simp [hl.out.2.1], hl.out.2.2.set (by omega) (by omega)⟩, Lib.hid ?_, Lib.hid (hbw.out.drew.grown Hst.out.2 HgB.out)⟩
          have h := Hst.out.1
          rw [List.map_set]
          exact h
        case measure => simp [intOf]; omega
    · go_wp2
      go_ret2
      obtain rfl : i = p := by omega
      exact .inl ⟨l, aL, capL, hl.out.1, hl.out.2.1, rfl, hown.out, hbw.out.1⟩
set_option maxRecDepth 100000 in
set_option maxHeartbeats 3200000 in
theorem l16Left_any (g n c : Nat) (zs : List Int) (a' : Option Addr) (m d : Nat) (ys : List Int) (a2 : Option Addr) (p f : Nat) (ps : List Int) (w : World) (hz : zs.length = n) (hy : ys.length = m) (hp : ps.length = p)
    (ha : CellsAt w (some ⟨g, 0, none⟩) (zs.map (Value.int .i64))) (hb : CellsAt w a' (ys.map (Value.int .i64))) (hc : CellsAt w a2 (ps.map (Value.int .i64))) (hpl : planB zs ys ps n m p = true) :
    Calls Try.prog 49 #[.slice (some ⟨g, 0, none⟩) n c, .slice a' m d, .slice a2 p f] w (CutEnd w zs ys ps n p) := by
  obtain ⟨o1, o2, n6, m8, rfl, o3⟩ := planB_parts hpl
  have hcl := l00Own_any g n c zs w hz (by omega) ha
  have HCl := Lib.hid hcl
  have Hz := Lib.hid hz
  have Hy := Lib.hid hy
  have Hp := Lib.hid hp
  have HB := Lib.hid hb
  have HP := Lib.hid hc
  have O1 := Lib.hid o1
  have O2 := Lib.hid o2
  have O3 := Lib.hid o3
  clear hcl hz hy hp ha hb hc hpl o1 o2 o3
  go_enter Try.func49, Try.ntmps49
  go_wp2_with (go_at_call 53; refine HCl.out.mono ?_; rintro e w1 ⟨aL, capL, rfl, ho, hb1⟩)
  have Ho := Lib.hid ho
  have HB1 := Lib.hid (Bel.of hb1)
  clear ho hb1
  go_loopw [9] (fun s wr => ∃ i : Nat, i ≤ p ∧ s = .int .i64 i ∧ ∃ l : List Int, Hid (leftTo zs ys ps i = some l ∧ l.length = n ∧ Low l) ∧ Hid (wr.ownsRow w.heap.size 2 1 (.slice aL n capL) n (l.map (Value.int .i64))) ∧ Hid (Bel w.heap.size w wr)) (fun s _ => p - (intOf s).toNat)
  case atStart => exact ⟨0, Nat.zero_le _, rfl, zs, Lib.hid ⟨rfl, Hz.out, low_of O1.out⟩, Ho, HB1⟩
  case round =>
    obtain ⟨i, hi, rfl, l, hl, hown, hbw⟩ := hrel
    by_cases hlt : i < p
    · obtain ⟨b1, off1, rfl, hb1, hc1⟩ := HB.out.at_ (by have := Hy.out; simp; omega)
      obtain ⟨b2, off2, rfl, hb2, hc2⟩ := HP.out.at_ (by have := Hp.out; simp; omega)
      obtain ⟨y, hy⟩ : ∃ z, ys.getD i 0 = z := ⟨_, rfl⟩
      obtain ⟨x, hx⟩ : ∃ z, ps.getD i 0 = z := ⟨_, rfl⟩
      have hcy := cell_int hb1 hbw.out.1 hc1 (by rw [Hy.out]; exact hlt) hy
      have hcx := cell_int hb2 hbw.out.1 hc2 (by rw [Hp.out]; exact hlt) hx
      have hyb := outB_at O2.out (j := i) (by rw [Hy.out]; exact hlt)
      have hxb := outB_at O3.out (j := i) (by rw [Hp.out]; exact hlt)
      rw [hy] at hyb
      rw [hx] at hxb
      obtain ⟨q, rfl⟩ : ∃ q : Nat, x = (q : Int) := ⟨x.toNat, by omega⟩
      have hqn : q < n := by omega
      obtain ⟨hyb1, hyb2⟩ := hyb
      have Hy2 := Lib.hid hy
      have Hx2 := Lib.hid hx
      clear hc1 hc2 hxb hx hy
      rcases own_form hown.out with h0 | ⟨gL, rfl⟩
      · omega
      obtain ⟨u, hu⟩ : ∃ z, l.getD q 0 = z := ⟨_, rfl⟩
      have hub := hl.out.2.2 q
      rw [hu] at hub
      obtain ⟨hu0, hu1⟩ := hub
      have hcl : wr.cell? ⟨gL, q, none⟩ = some (.int .i64 u) := by
        rw [hown.out.cellAt q (by omega), ← hu]
        simp [List.getElem?_eq_getElem (show q < l.length by rw [hl.out.2.1]; exact hqn)]
      have hfz := hown.out.frozenAt q
      have Hu := Lib.hid hu
      have hqn' : (q : Int) < (n : Int) := by omega
      have hlt' : (i : Int) < (p : Int) := by omega
      have hgB : ∀ k, some gL = some k → w.heap.size ≤ k := fun k h => by cases h; exact (own_block hown.out rfl).1
      have HgB := Lib.hid hgB
      clear hu hgB
      by_cases hneg : u < y
      · go_wp2_with fail
        go_big_quiet (fail)
        go_wp2_with fail
        go_ret2
        exact .inr ⟨i, l, hlt, hl.out.1, leftTo_none hl.out.1 Hx2.out Hy2.out Hu.out hneg, rfl, (hbw.out.drewN _).1⟩
      · have g1 : decide (u < y) = false := by simpa using hneg
        go_wp2_with fail
        go_big_quiet (fail)
        go_wp2_with fail
        generalize hwq : wr.drewN _ = wq
        have kcx : wq.cell? ⟨b2, off2 + i, none⟩ = some (.int .i64 (q : Int)) := by rw [← hwq]; exact hcx
        have kcy : wq.cell? ⟨b1, off1 + i, none⟩ = some (.int .i64 y) := by rw [← hwq]; exact hcy
        have kcl : wq.cell? ⟨gL, q, none⟩ = some (.int .i64 u) := by rw [← hwq]; exact hcl
        have kfz : wq.frozen? ⟨gL, q, none⟩ = false := by rw [← hwq]; exact hfz
        have kown : wq.ownsRow w.heap.size 2 1 (.slice (some ⟨gL, 0, none⟩) n capL) n (l.map (Value.int .i64)) := by rw [← hwq]; exact hown.out
        have kbw : Bel w.heap.size w wq := by rw [← hwq]; exact hbw.out.drewN _
        have Hst := Lib.hid (World.ownsRow.stored (w := wq.drew) kown q (.int .i64 (u - y)))
        have Kbw := Lib.hid kbw
        clear hwq kown kbw hcx hcy hcl hfz
        go_still_tail 13, (by kernel_rfl)
        go_wp2
        go_roundw
        case rel =>
          refine ⟨i + 1, by omega, by go_num, l.set q (u - y), Lib.hid ⟨leftTo_some hl.out.1 Hx2.out Hy2.out Hu.out (by omega), by simp [hl.out.2.1], hl.out.2.2.set (by omega) (by omega)⟩, Lib.hid ?_, Lib.hid (Kbw.out.drew.grown Hst.out.2 HgB.out)⟩
          have h := Hst.out.1
          rw [List.map_set]
          exact h
        case measure => simp [intOf]; omega
    · go_wp2
      go_ret2
      obtain rfl : i = p := by omega
      exact .inl ⟨l, aL, capL, hl.out.1, hl.out.2.1, rfl, hown.out, hbw.out.1⟩
end Go.Proofs.Ytoomkeicfdmdoaa
