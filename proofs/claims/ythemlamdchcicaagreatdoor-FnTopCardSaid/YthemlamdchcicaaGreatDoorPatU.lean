/-
  The reference's small functions on patterns. No condition of its own.
-/
import Derived.Test.YthemlamdchcicaaGreatDoorGPat
import Derived.Deep.LoopGhost
namespace Go.Proofs.YthemlamdchcicaaGreatDoor
open Go.ChangeShapes Go.WideShapes Go.ChangeAt Go.RowKit Go.Deep Go.Shelf Go.ChangeMaps

def Pat.timesTo (p : Pat) : Nat → Ed → Nat
  | 0, _ => 0
  | k + 1, e => Pat.timesTo p k e + (if p.a k = e then 1 else 0) + (if p.b k = e then 1 else 0)
def Pat.times (p : Pat) (e : Ed) : Nat := p.timesTo p.m e
theorem Pat.timesTo_le (p : Pat) (e : Ed) : ∀ k, p.timesTo k e ≤ 2 * k
  | 0 => Nat.le_refl _
  | k + 1 => by
    have h := Pat.timesTo_le p e k
    unfold Pat.timesTo
    split <;> split <;> omega
theorem Pat.timesTo_zero (p : Pat) (e : Ed) : ∀ k, p.timesTo k e = 0 ↔ p.mateTo k e = none
  | 0 => by simp [Pat.timesTo, Pat.mateTo]
  | k + 1 => by
    have h := Pat.timesTo_zero p e k
    unfold Pat.timesTo Pat.mateTo
    by_cases h1 : e = p.b k
    · rw [if_pos h1, if_pos (show p.b k = e from h1.symm)]
      simp
    · rw [if_neg h1, if_neg (show ¬ p.b k = e from fun x => h1 x.symm)]
      by_cases h2 : e = p.a k
      · rw [if_pos h2, if_pos (show p.a k = e from h2.symm)]
        simp
      · rw [if_neg h2, if_neg (show ¬ p.a k = e from fun x => h2 x.symm)]
        simpa using h
theorem Pat.times_zero (p : Pat) (e : Ed) : p.times e = 0 ↔ p.mate e = none := p.timesTo_zero e p.m
theorem ed_eq_int {a : Ed} {x y : Nat} : (a = (x, y)) ↔ ((a.1 : Int) = (x : Int) ∧ (a.2 : Int) = (y : Int)) := by
  obtain ⟨u, v⟩ := a
  simp only [Prod.mk.injEq]
  omega
set_option maxHeartbeats 1600000 in
theorem l08Next_any (p : Pat) (aP aS : Option Addr) (cP cS : Nat) (op : Int) (x y q : Nat) (hx : x < p.n) (hy : y < p.len x) (hl : p.len x ≤ 8) (w : World) (hq : PBox w q aP p.n cP aS p.m cS op) (h : PcsAt w p aP) :
    Calls Tryz.prog 121 #[.pointer (some ⟨q, 0, none⟩), .int .i64 (x : Int), .int .i64 (y : Int)] w fun r w' => r = .returned (.int .i64 (((y + 1) % p.len x : Nat) : Int)) ∧ Below w.heap.size w w' := by
  obtain ⟨b, o, rfl, h1, h2⟩ := h
  obtain ⟨h3, g, qq, c, h4, h5, h6, h7⟩ := h2 x hx
  obtain ⟨p0, p1, p2, p3⟩ := hq
  generalize p.n = n at hx p0 ⊢
  generalize p.len x = L at hy hl h4 h5 ⊢
  rw [show (((y + 1) % L : Nat) : Int) = ((y : Int) + 1) % (L : Int) from by simp]
  have hx2 : (x : Int) < (n : Int) := by omega
  have hL : (L : Int) ≠ 0 := by omega
  clear h2 h7 h3
  go_enter Tryz.func121, Tryz.ntmps121
  go_wp2_with fail
  go_ret
  exact ⟨rfl, (by repeat (first | exact Below.refl _ _ | assumption | refine Below.drew ?_ | refine below_drewN ?_ _ | refine Below.alloc ?_ (by simp; try omega) _ | refine Below.setCell ?_ (by simp; try omega) _))⟩
set_option maxRecDepth 100000 in
set_option maxHeartbeats 3200000 in
theorem l08Times_any (p : Pat) (hm8 : p.m ≤ 8) (aP aS : Option Addr) (cP cS : Nat) (op : Int) (x y q : Nat) (w : World) (hq : PBox w q aP p.n cP aS p.m cS op) (h : SmsAt w p aS) :
    Calls Tryz.prog 97 #[.pointer (some ⟨q, 0, none⟩), .int .i64 (x : Int), .int .i64 (y : Int)] w fun r w' => r = .returned (.int .i64 (p.times (x, y) : Int)) ∧ Below w.heap.size w w' := by
  have HSm := Lib.hid h
  have HQ := Lib.hid hq
  obtain ⟨m, hmm⟩ : ∃ m, p.m = m := ⟨_, rfl⟩
  have HM := Lib.hid hmm
  rw [hmm] at HQ hm8
  have HT := Lib.hid (show p.times (x, y) = p.timesTo m (x, y) by rw [← hmm]; rfl)
  clear h hq hmm
  go_enter Tryz.func97, Tryz.ntmps97
  go_wp2_with fail
  go_loopw [7, 8] (fun t i wr => ∃ k : Nat, k ≤ m ∧ i = .int .i64 k ∧ ∃ c : Nat, t = .int .i64 (c : Int) ∧ c ≤ 2 * k ∧ Hid (c = p.timesTo k (x, y)) ∧ Hid (Below w.heap.size w wr)) (fun _ i _ => m - (intOf i).toNat)
  case atStart => exact ⟨0, Nat.zero_le _, rfl, 0, rfl, Nat.zero_le _, Lib.hid rfl, Lib.hid (Below.refl _ _)⟩
  case round =>
    obtain ⟨k, hk, rfl, c, rfl, hc2, hc, hbw⟩ := hrel
    obtain ⟨p0, p1, p2, p3⟩ := HQ.out.below hbw.out
    by_cases hlt : k < m
    · rcases HSm.out with h0 | ⟨b, off, rfl, hb, hcell⟩
      · exact absurd HM.out (by omega)
      · obtain ⟨c0, c1, c2, c3⟩ := hcell k (by rw [HM.out]; exact hlt)
        have d0 := (hbw.out.cell (p := ⟨b, off + k * 4, none⟩) hb).trans c0
        have d1 := (hbw.out.cell (p := ⟨b, off + k * 4 + 1, none⟩) hb).trans c1
        have d2 := (hbw.out.cell (p := ⟨b, off + k * 4 + 2, none⟩) hb).trans c2
        have d3 := (hbw.out.cell (p := ⟨b, off + k * 4 + 3, none⟩) hb).trans c3
        have HC1 := Lib.hid (show p.timesTo (k + 1) (x, y) = c + (if ((p.a k).1 : Int) = (x : Int) ∧ ((p.a k).2 : Int) = (y : Int) then 1 else 0) + (if ((p.b k).1 : Int) = (x : Int) ∧ ((p.b k).2 : Int) = (y : Int) then 1 else 0) by
          rw [hc.out]
          show _ + (if p.a k = (x, y) then 1 else 0) + (if p.b k = (x, y) then 1 else 0) = _
          simp only [ed_eq_int])
        clear c0 c1 c2 c3 hcell
        generalize ((p.a k).1 : Int) = xa at d0 HC1
        generalize ((p.a k).2 : Int) = ya at d1 HC1
        generalize ((p.b k).1 : Int) = xb at d2 HC1
        generalize ((p.b k).2 : Int) = yb at d3 HC1
        have hlt' : (k : Int) < (m : Int) := by omega
        go_wp2_with fail
        all_goals
          go_roundw
          case rel => exact ⟨k + 1, by omega, by go_num, p.timesTo (k + 1) (x, y), by have e := HC1.out; congr 1; (try simp only [beq_iff_eq, beq_eq_false_iff_ne, ne_eq] at *); split at e <;> split at e <;> omega, by have := p.timesTo_le (x, y) (k + 1); omega, Lib.hid rfl, Lib.hid (Below.trans hbw.out (show Below w.heap.size wr _ from (by repeat (first | exact Below.refl _ _ | refine Below.drew ?_ | refine Below.alloc ?_ (by have := hbw.out.size; simp; try omega) _)))) ⟩
          case measure => simp [intOf]; omega
    · go_wp2_with fail
      go_ret
      have e : k = m := by omega
      subst e
      exact ⟨by rw [HT.out, ← hc.out]; rfl, hbw.out⟩
set_option maxRecDepth 100000 in
set_option maxHeartbeats 3200000 in
theorem l08Mate_any (p : Pat) (hp : p.Ok) (aP aS : Option Addr) (cP cS : Nat) (op : Int) (x y q : Nat) (o : Ed) (ho : p.mate (x, y) = some o) (w : World) (hq : PBox w q aP p.n cP aS p.m cS op) (h : SmsAt w p aS) :
    Calls Tryz.prog 122 #[.pointer (some ⟨q, 0, none⟩), .int .i64 (x : Int), .int .i64 (y : Int)] w fun r w' => r = .returned (.tuple #[.int .i64 (o.1 : Int), .int .i64 (o.2 : Int)]) ∧ Below w.heap.size w w' := by
  have HSm := Lib.hid h
  have HQ := Lib.hid hq
  have HOk := Lib.hid hp
  have hm8 := hp.m
  have HMt := Lib.hid ho
  obtain ⟨m, hmm⟩ : ∃ m, p.m = m := ⟨_, rfl⟩
  have HM := Lib.hid hmm
  rw [hmm] at HQ hm8
  clear h hq hmm hp ho
  go_enter Tryz.func122, Tryz.ntmps122
  go_wp2_with fail
  go_loopw [8] (fun i wr => ∃ k : Nat, k ≤ m ∧ i = .int .i64 k ∧ Hid (∀ j, j < k → p.a j ≠ (x, y) ∧ p.b j ≠ (x, y)) ∧ Hid (Below w.heap.size w wr)) (fun i _ => m - (intOf i).toNat)
  case atStart => exact ⟨0, Nat.zero_le _, rfl, Lib.hid (fun j hj => absurd hj (Nat.not_lt_zero _)), Lib.hid (Below.refl _ _)⟩
  case round =>
    obtain ⟨k, hk, rfl, hno, hbw⟩ := hrel
    obtain ⟨p0, p1, p2, p3⟩ := HQ.out.below hbw.out
    by_cases hlt : k < m
    · rcases HSm.out with h0 | ⟨b, off, rfl, hb, hcell⟩
      · exact absurd HM.out (by omega)
      · obtain ⟨c0, c1, c2, c3⟩ := hcell k (by rw [HM.out]; exact hlt)
        have d0 := (hbw.out.cell (p := ⟨b, off + k * 4, none⟩) hb).trans c0
        have d1 := (hbw.out.cell (p := ⟨b, off + k * 4 + 1, none⟩) hb).trans c1
        have d2 := (hbw.out.cell (p := ⟨b, off + k * 4 + 2, none⟩) hb).trans c2
        have d3 := (hbw.out.cell (p := ⟨b, off + k * 4 + 3, none⟩) hb).trans c3
        have hmk := HOk.out.mate_a (k := k) (by rw [HM.out]; exact hlt)
        clear c0 c1 c2 c3 hcell
        have hlt' : (k : Int) < (m : Int) := by omega
        by_cases hA : p.a k = (x, y)
        · have hoB : p.b k = o := by
            have h1 := hmk.1
            rw [hA, HMt.out] at h1
            exact (Option.some.inj h1).symm
          rw [hA] at d0 d1
          rw [hoB] at d2 d3
          have HB1 := Lib.hid (show Below w.heap.size w (wr.alloc (.cells #[.int .i64 (x : Int), .int .i64 (y : Int), .int .i64 (o.1 : Int), .int .i64 (o.2 : Int)] 110)) from hbw.out.alloc hbw.out.size _)
          clear hA hoB hmk
          go_wp2_with fail
          go_big_quiet (fail)
          go_wp2_with fail
          go_ret2
          exact ⟨rfl, below_drewN HB1.out _⟩
        · by_cases hB : p.b k = (x, y)
          · have hoA : p.a k = o := by
              have h1 := hmk.2
              rw [hB, HMt.out] at h1
              exact (Option.some.inj h1).symm
            rw [hB] at d2 d3
            rw [hoA] at d0 d1 hA
            have hA1 : ¬ ((o.1 : Int) = (x : Int) ∧ (o.2 : Int) = (y : Int)) := fun h => hA (ed_eq_int.2 h)
            have HB1 := Lib.hid (show Below w.heap.size w (wr.alloc (.cells #[.int .i64 (o.1 : Int), .int .i64 (o.2 : Int), .int .i64 (x : Int), .int .i64 (y : Int)] 110)) from hbw.out.alloc hbw.out.size _)
            clear hA hB hoA hmk
            by_cases hx : (o.1 : Int) = (x : Int)
            · have hy : ¬ (o.2 : Int) = (y : Int) := fun h => hA1 ⟨hx, h⟩
              have hyb : ((o.2 : Int) == (y : Int)) = false := by simpa using hy
              have hxb : ((o.1 : Int) == (x : Int)) = true := by simpa using hx
              clear hA1 hx hy
              go_wp2_with fail
              go_big_quiet (fail)
              go_wp2_with fail
              go_ret2
              exact ⟨rfl, below_drewN HB1.out _⟩
            · have hxb : ((o.1 : Int) == (x : Int)) = false := by simpa using hx
              clear hA1 hx
              go_wp2_with fail
              go_big_quiet (fail)
              go_wp2_with fail
              go_ret2
              exact ⟨rfl, below_drewN HB1.out _⟩
          · have hA1 : ¬ (((p.a k).1 : Int) = (x : Int) ∧ ((p.a k).2 : Int) = (y : Int)) := fun h => hA (ed_eq_int.2 h)
            have hB1 : ¬ (((p.b k).1 : Int) = (x : Int) ∧ ((p.b k).2 : Int) = (y : Int)) := fun h => hB (ed_eq_int.2 h)
            have HNo := Lib.hid (show ∀ j, j < k + 1 → p.a j ≠ (x, y) ∧ p.b j ≠ (x, y) from fun j hj => by
              by_cases e : j = k
              · subst e; exact ⟨hA, hB⟩
              · exact hno.out j (by omega))
            have HAB := Lib.hid (And.intro hA1 hB1)
            clear hA hB hmk hA1 hB1
            generalize ((p.a k).1 : Int) = xa at d0 HAB
            generalize ((p.a k).2 : Int) = ya at d1 HAB
            generalize ((p.b k).1 : Int) = xb at d2 HAB
            generalize ((p.b k).2 : Int) = yb at d3 HAB
            go_wp2_with fail
            all_goals
              first
                | (exfalso; have hh := HAB.out; (try simp only [beq_iff_eq, beq_eq_false_iff_ne, ne_eq] at *); omega)
                | skip
            all_goals
              go_roundw
              case rel => exact ⟨k + 1, by omega, by go_num, HNo, Lib.hid (hbw.out.alloc hbw.out.size _)⟩
              case measure => simp [intOf]; omega
    · exfalso
      obtain ⟨j, hj, h1 | h1⟩ := Pat.mateTo_some HMt.out
      · exact (hno.out j (by rw [HM.out] at hj; omega)).1 h1.1.symm
      · exact (hno.out j (by rw [HM.out] at hj; omega)).2 h1.1.symm
end Go.Proofs.YthemlamdchcicaaGreatDoor
