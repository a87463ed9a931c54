/-
  The program's test of pieces; the map of mates. The map of mates is made. No condition of its own.
-/
import Derived.Test.YthemlamdchcicaaGreatDoorGPat
import Derived.Carry

namespace Go.Proofs.YthemlamdchcicaaGreatDoor
open Go.ChangeShapes Go.WideShapes Go.ChangeAt Go.RowKit Go.Deep Go.Shelf Go.ChangeMaps

/-- One piece lies at its place. -/
def PieceAt (w : World) (p : Pat) (i : Nat) (a : Option Addr) : Prop := CellsAt w a (((List.range (p.len i)).map (p.val i)).map (Value.int .i64))
theorem PcsAt.piece {w : World} {p : Pat} {b o i : Nat} (h : PcsAt w p (some ⟨b, o, none⟩)) (hi : i < p.n) : w.cell? ⟨b, o + i * 2, none⟩ = some (.string (p.name i)) ∧ ∃ a c, w.cell? ⟨b, o + i * 2 + 1, none⟩ = some (.slice a (p.len i) c) ∧ PieceAt w p i a := by
  obtain ⟨b', o', e, h1, h2⟩ := h
  cases e
  obtain ⟨h3, g, q, c, h4, h5, h6, h7⟩ := h2 i hi
  refine ⟨h3, _, c, h4, .inr ⟨g, q, rfl, h6, fun j hj => ?_⟩⟩
  have hj : j < p.len i := by simpa using hj
  rw [h7 j hj]
  simp [hj]
set_option maxHeartbeats 1600000 in
theorem isPiece_ok (p : Pat) (hp : p.Ok) (i : Nat) (hi : i < p.n) (a : Option Addr) (c : Nat) (w : World) (h : PieceAt w p i a) :
    Calls Tryz.prog 69 #[.agg #[.string (p.name i), .slice a (p.len i) c]] w fun r w' => r = .returned (.bool true) ∧ Below w.heap.size w w' := by
  obtain ⟨n1, n2⟩ := hp.name i hi
  have hl := hp.len i hi
  have hN := fun W => isName_any (p.name i) W (by unfold maxLen; omega)
  rw [n1] at hN
  have hO := fun W (hb : Below w.heap.size w W) => outside_any a (p.len i) c ((List.range (p.len i)).map (p.val i)) 1 10000 W (by simp) (by omega) (h.below hb)
  rw [outB_false.2 (fun z hz => by
    obtain ⟨j, hj, rfl⟩ := List.mem_map.1 hz
    exact hp.val i j hi (List.mem_range.1 hj))] at hO
  have i1 : inB (p.len i : Int) 3 8 = true := inB_true.2 ⟨by omega, by omega⟩
  generalize p.len i = L at hl hO i1 ⊢
  generalize p.name i = s at hN ⊢
  have HN := Lib.hid hN
  have HO := Lib.hid hO
  have HI := Lib.hid (fun W => within_any (L : Int) 3 8 W)
  rw [i1] at HI
  clear h hN hO i1 n1 n2 hp
  go_enter Tryz.func69, Tryz.ntmps69
  go_wp2_with (first | (go_at_call 57; refine (HN.out _).mono ?_; rintro e w1 ⟨rfl, rfl⟩) | (go_at_call 53; refine (HI.out _).mono ?_; rintro e w1 ⟨rfl, rfl⟩) | (go_at_call 51; refine (HO.out _ (by repeat (first | exact Below.refl _ _ | assumption | refine Below.drew ?_ | refine below_drewN ?_ _ | refine Below.alloc ?_ (by simp; try omega) _ | refine Below.setCell ?_ (by simp; try omega) _))).mono ?_; rintro e w1 ⟨rfl, hb1⟩))
  have HB := Lib.hid (show Below w.heap.size w w1 from Below.trans (show Below w.heap.size w _ from (by repeat (first | exact Below.refl _ _ | assumption | refine Below.drew ?_ | refine below_drewN ?_ _ | refine Below.alloc ?_ (by simp; try omega) _ | refine Below.setCell ?_ (by simp; try omega) _))) (hb1.mono (by simp)))
  go_ret
  exact ⟨rfl, HB.out⟩
set_option maxHeartbeats 1600000 in
theorem vp1_ok (p : Pat) (hp : p.Ok) (i : Nat) (hi : i < p.n) (a : Option Addr) (c : Nat) (w : World) (h : PieceAt w p i a) :
    Calls Tryz.prog 68 #[.agg #[.string (p.name i), .slice a (p.len i) c]] w fun r w' => r = .returned (.bool false) ∧ Below w.heap.size w w' := by
  have HA := Lib.hid (fun W (hb : Below w.heap.size w W) => isPiece_ok p hp i hi a c W (CellsAt.below h hb))
  generalize p.len i = L at HA ⊢
  generalize p.name i = s at HA ⊢
  clear h hi hp
  go_enter Tryz.func68, Tryz.ntmps68
  go_wp2_with fail
  refine (HA.out _ (by repeat (first | exact Below.refl _ _ | assumption | refine Below.drew ?_ | refine below_drewN ?_ _ | refine Below.alloc ?_ (by simp; try omega) _ | refine Below.setCell ?_ (by simp; try omega) _))).mono ?_
  rintro e w2 ⟨rfl, hb2⟩
  have HB := Lib.hid (show Below w.heap.size w w2 from Below.trans (show Below w.heap.size w _ from (by repeat (first | exact Below.refl _ _ | assumption | refine Below.drew ?_ | refine below_drewN ?_ _ | refine Below.alloc ?_ (by simp; try omega) _ | refine Below.setCell ?_ (by simp; try omega) _))) (hb2.mono (by simp)))
  clear hb2
  go_wp2_with fail
  go_ret
  exact ⟨rfl, HB.out⟩
set_option maxHeartbeats 1600000 in
/-- No piece is found. -/
theorem indexPiece_none (p : Pat) (hok : p.Ok) (aP : Option Addr) (cP : Nat) (w : World) (hc : PcsAt w p aP) :
    Calls Tryz.prog 101 #[.slice aP p.n cP, .func (.func 68) #[] #[]] w fun e w' => e = .returned (.int .i64 (-1)) ∧ Below w.heap.size w w' := by
  have eg : ∀ args w, (callFunc 68 args).run Tryz.prog w = .ok (.enter 68 args) w := enters_of Tryz.func68 (by kernel_rfl) rfl
  have hn := hok.n2
  have HC := Lib.hid hc
  obtain ⟨b, off, rfl, hb, _⟩ := hc
  have Hp := Lib.hid (fun (k : Nat) (hk : k < p.n) (a : Option Addr) (c : Nat) (W : World) (h : PieceAt W p k a) => vp1_ok p hok k hk a c W h)
  obtain ⟨n, hnn⟩ : ∃ n, p.n = n := ⟨_, rfl⟩
  have HN := Lib.hid hnn
  rw [hnn] at hn Hp ⊢
  clear hnn hok
  go_enter Tryz.func101, Tryz.ntmps101
  go_wp2
  go_loopw [5, 8] (fun _ i wr => ∃ k : Nat, k ≤ n ∧ i = .int .i64 k ∧ Hid (Below w.heap.size w wr)) (fun _ i _ => n - (intOf i).toNat)
  case atStart => exact ⟨0, Nat.zero_le _, rfl, Lib.hid (Below.refl _ _)⟩
  case round =>
    obtain ⟨k, hk, rfl, hbw⟩ := hrel
    by_cases hlt : k < n
    · obtain ⟨c0, a, c, c1, hA⟩ := (HC.out.below hbw.out).piece (i := k) (by rw [HN.out]; exact hlt)
      have hcall := Hp.out k hlt a c wr hA
      generalize p.len k = L at hcall c1
      generalize p.name k = s at hcall c0
      have hlt' : (k : Int) < (n : Int) := by omega
      clear hA
      go_wp2_with (go_at_fn 68; refine hcall.mono ?_; rintro e w' ⟨rfl, hb'⟩)
      go_roundw
      case rel => exact ⟨k + 1, by omega, by go_num, Lib.hid (hbw.out.trans (hb'.mono hbw.out.size))⟩
      case measure => simp [intOf]; omega
    · go_wp2
      go_ret
      exact ⟨rfl, hbw.out⟩
theorem containsPiece_none (p : Pat) (hok : p.Ok) (aP : Option Addr) (cP : Nat) (w : World) (hc : PcsAt w p aP) :
    Calls Tryz.prog 67 #[.slice aP p.n cP, .func (.func 68) #[] #[]] w fun e w' => e = .returned (.bool false) ∧ Below w.heap.size w w' := by
  have hcon := indexPiece_none p hok aP cP w hc
  clear hc hok
  go_enter Tryz.func67, Tryz.ntmps67
  go_wp2_with (go_at_call 101; refine hcon.mono ?_; rintro e w' ⟨rfl, hb'⟩)
  go_ret
  exact ⟨rfl, hb'⟩
end Go.Proofs.YthemlamdchcicaaGreatDoor

namespace Go.Proofs.YthemlamdchcicaaGreatDoor
open Go.ChangeShapes Go.WideShapes Go.ChangeAt Go.RowKit Go.Deep Go.Shelf Go.ChangeMaps

set_option maxHeartbeats 3200000 in
theorem joined_any (p : Pat) (hp : p.Ok) (aP aS : Option Addr) (cP cS : Nat) (op : Int) (w : World) (h : SmsAt w p aS) :
    Calls Tryz.prog 73 #[.agg #[.slice aP p.n cP, .slice aS p.m cS, .int .i64 op]] w fun r w' => r = .returned (.map (some (w.heap.size + 1))) ∧ PairsAt w' (w.heap.size + 1) p p.m ∧ Below w.heap.size w w' := by
  have HP := Lib.hid (PBox.new w aP p.n cP aS p.m cS op)
  have HSm := Lib.hid h
  have HOk := Lib.hid hp
  have hm8 := hp.m
  obtain ⟨m, hmm⟩ : ∃ m, p.m = m := ⟨_, rfl⟩
  have HM := Lib.hid hmm
  rw [hmm] at HP hm8 ⊢
  obtain ⟨p0, p1, p2, p3⟩ := HP.out
  have hmk := @run_makeMap Tryz.prog
  clear h hp hmm
  go_enter Tryz.func73, Tryz.ntmps73
  go_wp2_with fail
  go_loopw [12] (fun i wr => ∃ k : Nat, k ≤ m ∧ i = .int .i64 k ∧ Hid (PairsAt wr (w.heap.size + 1) p k) ∧ Hid (Below w.heap.size w wr)) (fun i _ => m - (intOf i).toNat)
  case atStart => exact ⟨0, Nat.zero_le _, rfl, Lib.hid (by simpa using PairsAt.made (w.alloc (.cells #[.slice aP p.n cP, .slice aS m cS, .int .i64 op] 41)) p), Lib.hid (by repeat (first | exact Below.refl _ _ | assumption | refine Below.drew ?_ | refine below_drewN ?_ _ | refine Below.alloc ?_ (by simp; try omega) _ | refine Below.setCell ?_ (by simp; try omega) _))⟩
  case round =>
    clear p0 p1 p2 p3 hmk
    obtain ⟨k, hk, rfl, hpr, hbw⟩ := hrel
    by_cases hlt : k < m
    · rcases HSm.out with h0 | ⟨b, off, rfl, hb, hcell⟩
      · exact absurd HM.out (by omega)
      · obtain ⟨c0, c1, c2, c3⟩ := hcell k (by rw [HM.out]; exact hlt)
        have d0 := (hbw.out.cell (p := ⟨b, off + k * 4, none⟩) hb).trans c0
        have d1 := (hbw.out.cell (p := ⟨b, off + k * 4 + 1, none⟩) hb).trans c1
        have d2 := (hbw.out.cell (p := ⟨b, off + k * 4 + 2, none⟩) hb).trans c2
        have d3 := (hbw.out.cell (p := ⟨b, off + k * 4 + 3, none⟩) hb).trans c3
        clear c0 c1 c2 c3 hcell
        have hlt' : (k : Int) < (m : Int) := by omega
        have hsm := HOk.out.on k (by rw [HM.out]; exact hlt)
        obtain ⟨ps, hps, hn1, hn2, hps2⟩ := hpr.out.more HOk.out (by rw [HM.out]; exact hlt)
        have HPs := Lib.hid hps
        have HN := Lib.hid (And.intro hn1 (And.intro hn2 hps2))
        have HSs := Lib.hid (And.intro (HOk.out.small hsm.1) (HOk.out.small hsm.2))
        clear hps hn1 hn2 hps2 hsm hpr
        obtain ⟨eA, heA⟩ : ∃ e, p.a k = e := ⟨_, rfl⟩
        obtain ⟨eB, heB⟩ : ∃ e, p.b k = e := ⟨_, rfl⟩
        rw [heA] at d0 d1 HN HSs
        rw [heB] at d2 d3 HN HSs
        clear heA heB
        have hs1 : w.heap.size + 1 < wr.heap.size := HPs.out.lt
        go_wp2_with fail
        refine (sides_any _ _ _ _ _).mono ?_
        rintro e w2 ⟨rfl, hb2⟩
        have HB2 := Lib.hid (Bel.step (B := wr.heap.size) (a := wr) (show Bel wr.heap.size wr _ from (by repeat (first | assumption | exact Bel.refl _ | refine Bel.drew ?_ | refine Bel.drewN ?_ _ | refine Bel.alloc ?_ _ | refine Bel.setCell ?_ (by simp; try omega) _))) hb2)
        clear hb2 d0 d1 d2 d3
        go_upto_region 6 with fail
        obtain ⟨W6, hW6⟩ : ∃ W, (w2.alloc (.cells #[.int .i64 (eA.1 : Int), .int .i64 (eA.2 : Int)] 126)).alloc (.cells #[.int .i64 (eB.1 : Int), .int .i64 (eB.2 : Int)] 126) = W := ⟨_, rfl⟩
        have hB6 : Bel wr.heap.size wr W6 := by rw [← hW6]; exact (HB2.out.alloc _).alloc _
        have x0 : W6.cell? ⟨w2.heap.size, 0, none⟩ = some (.int .i64 (eA.1 : Int)) := by rw [← hW6]; simp [go_sem]
        have x1 : W6.cell? ⟨w2.heap.size, 1, none⟩ = some (.int .i64 (eA.2 : Int)) := by rw [← hW6]; simp [go_sem]
        have x2 : W6.cell? ⟨w2.heap.size + 1, 0, none⟩ = some (.int .i64 (eB.1 : Int)) := by rw [← hW6]; simp [go_sem]
        have x3 : W6.cell? ⟨w2.heap.size + 1, 1, none⟩ = some (.int .i64 (eB.2 : Int)) := by rw [← hW6]; simp [go_sem]
        have x4 : w2.heap.size + 1 < W6.heap.size := by rw [← hW6]; simp
        have x5 : w2.heap.size < W6.heap.size := by omega
        rw [hW6]
        have hw2 := HB2.out.2
        obtain ⟨wA, hrA, hmA, hgA⟩ := MapRow.store (w := W6.drew) (show MapRow W6.drew (w.heap.size + 1) ps from HPs.out.below hB6.drew.1) (t := 120) Tryz.underlying120 HSs.out.1 HN.out.1 (edV eB)
        obtain ⟨wB, hrB, hmB, hgB⟩ := MapRow.store (w := wA) hmA (t := 120) Tryz.underlying120 HSs.out.2 HN.out.2.1 (edV eA)
        have y0 : wA.cell? ⟨w2.heap.size, 0, none⟩ = some (.int .i64 (eA.1 : Int)) := (hgA.cell_far ⟨w2.heap.size, 0, none⟩ x5 (fun e => by have h1 : w2.heap.size = w.heap.size + 1 := (by simpa using e); omega)).trans x0
        have y1 : wA.cell? ⟨w2.heap.size, 1, none⟩ = some (.int .i64 (eA.2 : Int)) := (hgA.cell_far ⟨w2.heap.size, 1, none⟩ x5 (fun e => by have h1 : w2.heap.size = w.heap.size + 1 := (by simpa using e); omega)).trans x1
        have y2 : wA.cell? ⟨w2.heap.size + 1, 0, none⟩ = some (.int .i64 (eB.1 : Int)) := (hgA.cell_far ⟨w2.heap.size + 1, 0, none⟩ x4 (fun e => by have h1 : w2.heap.size + 1 = w.heap.size + 1 := (by simpa using e); omega)).trans x2
        have y3 : wA.cell? ⟨w2.heap.size + 1, 1, none⟩ = some (.int .i64 (eB.2 : Int)) := (hgA.cell_far ⟨w2.heap.size + 1, 1, none⟩ x4 (fun e => by have h1 : w2.heap.size + 1 = w.heap.size + 1 := (by simpa using e); omega)).trans x3
        have HE := Lib.hid (And.intro (HN.out.2.2 wB hmB) (show Below w.heap.size w wB from ((((Bel.of hbw.out).step hB6.1).drew.grown hgA (fun k hk => by cases hk; omega)).grown hgB (fun k hk => by cases hk; omega)).1))
        unfold edV at hrA hrB
        clear hmA hmB hgA hgB hB6 hW6
        go_big_region
        clear x0 x1 x2 x3 y0 y1 y2 y3 hrA hrB
        go_wp2_with fail
        go_roundw
        case rel => exact ⟨k + 1, by omega, by go_num, Lib.hid HE.out.1, Lib.hid HE.out.2⟩
        case measure => simp [intOf]; omega
    · go_wp2
      go_ret
      have e : k = m := by omega
      subst e
      exact ⟨rfl, hpr.out, hbw.out⟩
end Go.Proofs.YthemlamdchcicaaGreatDoor
