/-
  The reference's way along an opening; its open edges. No condition of its own.
-/
import Derived.Test.YthemlamdchcicaaGreatDoorGPatH
import Derived.Test.YthemlamdchcicaaGreatDoorGBox
import Derived.Test.YthemlamdchcicaaGreatDoorPatU
namespace Go.Proofs.YthemlamdchcicaaGreatDoor
open Go.ChangeShapes Go.WideShapes Go.ChangeAt Go.RowKit Go.Deep Go.Shelf Go.ChangeMaps

set_option maxRecDepth 100000 in
set_option maxHeartbeats 3200000 in
theorem l08Follow_any (p : Pat) (hp : p.Ok) (aP aS : Option Addr) (cP cS : Nat) (op : Int) (x y q : Nat) (hon : p.on (x, y)) (hmt : p.mate (x, y) = none) (w : World) (hq : PBox w q aP p.n cP aS p.m cS op) (h : PatAt w p aP aS) :
    Calls Tryz.prog 100 #[.pointer (some ⟨q, 0, none⟩), .int .i64 (x : Int), .int .i64 (y : Int)] w fun r w' => r = .returned (.tuple #[.int .i64 ((p.turn (x, y)).1 : Int), .int .i64 ((p.turn (x, y)).2 : Int)]) ∧ Below w.heap.size w w' := by
  have HOk := Lib.hid hp
  have HQ := Lib.hid hq
  have HPa := Lib.hid h
  have HEnd := Lib.hid (show p.mate (p.turn (x, y)) = none from hp.fol_ends hon hmt)
  obtain ⟨E, hE⟩ : ∃ E, p.turn (x, y) = E := ⟨_, rfl⟩
  have HN := Lib.hid (fun (e : Ed) (he : p.on e) (X : World) (hX : Below w.heap.size w X) => l08Next_any p aP aS cP cS op e.1 e.2 q he.1 he.2 (hp.len _ he.1).2 X (hq.below hX) (h.1.below hX))
  have HT := Lib.hid (fun (e : Ed) (X : World) (hX : Below w.heap.size w X) => l08Times_any p hp.m aP aS cP cS op e.1 e.2 q X (hq.below hX) (h.2.below hX))
  have HM := Lib.hid (fun (e o : Ed) (ho : p.mate e = some o) (X : World) (hX : Below w.heap.size w X) => l08Mate_any p hp aP aS cP cS op e.1 e.2 q o ho X (hq.below hX) (h.2.below hX))
  have HF0 := Lib.hid (show p.fol 80 (p.nxt (x, y)) = E from hE)
  have HO0 := Lib.hid (Pat.nxt_on hon)
  have HN0 := Lib.hid (HN.out (x, y) hon w (Below.refl _ _))
  obtain ⟨z, hz⟩ : ∃ z : Nat, (y + 1) % p.len x = z := ⟨_, rfl⟩
  have hnx : p.nxt (x, y) = (x, z) := by rw [← hz]; rfl
  have HN0 := Lib.hid (show Calls Tryz.prog 121 #[.pointer (some ⟨q, 0, none⟩), .int .i64 (x : Int), .int .i64 (y : Int)] w fun r w' => r = .returned (.int .i64 (z : Int)) ∧ Below w.heap.size w w' by rw [← hz]; exact HN0.out)
  rw [hnx] at HF0 HO0
  rw [hE] at HEnd ⊢
  clear hq h hp hon hmt hE hz hnx
  go_enter Tryz.func100, Tryz.ntmps100
  go_wp2_with fail
  refine HN0.out.mono ?_
  rintro e w1 ⟨rfl, hb1⟩
  have HB1 := Lib.hid hb1
  clear hb1
  go_wp2_with fail
  go_loopg [1, 2] 80 (fun f t1 t2 wr => ∃ e : Ed, t1 = .int .i64 (e.1 : Int) ∧ t2 = .int .i64 (e.2 : Int) ∧ Hid (p.on e) ∧ Hid (p.fol f e = E) ∧ Hid (Below w.heap.size w wr))
  case atStart => exact ⟨(x, z), rfl, rfl, HO0, HF0, HB1⟩
  case round =>
    obtain ⟨e, rfl, rfl, hon, hf, hbw⟩ := hrel
    have HT1 := Lib.hid (HT.out e wr hbw.out)
    cases hm : p.mate e with
    | none =>
      have h0 : p.times e = 0 := (p.times_zero e).2 hm
      have HT2 := Lib.hid (show Calls Tryz.prog 97 #[.pointer (some ⟨q, 0, none⟩), .int .i64 (e.1 : Int), .int .i64 (e.2 : Int)] wr fun r w' => r = .returned (.int .i64 0) ∧ Below wr.heap.size wr w' by
        have h1 := HT1.out
        rw [show p.times (e.1, e.2) = 0 from h0] at h1
        exact h1)
      have HEq := Lib.hid (show e = E by rw [← hf.out, Pat.fol_open hm])
      clear hm h0 HT1
      go_wp2_with fail
      refine HT2.out.mono ?_
      rintro e' w2 ⟨rfl, hb2⟩
      have HB2 := Lib.hid (hbw.out.trans (hb2.mono hbw.out.size))
      clear hb2
      go_wp2_with fail
      go_ret2
      exact ⟨by rw [← HEq.out]; rfl, HB2.out⟩
    | some o =>
      have hm1 := hm
      cases gk with
      | zero =>
        exfalso
        have h1 : e = E := hf.out
        rw [h1, HEnd.out] at hm
        cases hm
      | succ f =>
        have hoo := (HOk.out.mate_on hm).2
        have h0 : p.times e ≠ 0 := fun h => by rw [(p.times_zero e).1 h] at hm; cases hm
        obtain ⟨t, ht⟩ : ∃ t, p.times e = t + 1 := ⟨p.times e - 1, by omega⟩
        have HT2 := Lib.hid (show Calls Tryz.prog 97 #[.pointer (some ⟨q, 0, none⟩), .int .i64 (e.1 : Int), .int .i64 (e.2 : Int)] wr fun r w' => r = .returned (.int .i64 ((t : Int) + 1)) ∧ Below wr.heap.size wr w' by
          have h1 := HT1.out
          rw [show p.times (e.1, e.2) = t + 1 from ht] at h1
          exact h1)
        have hpos : (0 : Int) < (t : Int) + 1 := by omega
        have HM2 := Lib.hid (fun X hX => HM.out e o hm1 X hX)
        have HN2 := Lib.hid (fun X hX => HN.out o hoo X hX)
        have HF2 := Lib.hid (show p.fol f (p.nxt o) = E by rw [← hf.out, Pat.fol_step hm1])
        have HO2 := Lib.hid (Pat.nxt_on hoo)
        obtain ⟨z2, hz2⟩ : ∃ z : Nat, (o.2 + 1) % p.len o.1 = z := ⟨_, rfl⟩
        have hnx2 : p.nxt o = (o.1, z2) := by rw [← hz2]; rfl
        rw [hz2] at HN2
        rw [hnx2] at HF2 HO2
        clear hm hm1 h0 ht HT1 hoo hz2 hnx2
        go_wp2_with fail
        refine HT2.out.mono ?_
        rintro e' w2 ⟨rfl, hb2⟩
        have HB2 := Lib.hid (hbw.out.trans (hb2.mono hbw.out.size))
        clear hb2
        go_wp2_with fail
        refine (HM2.out w2 HB2.out).mono ?_
        rintro e' w3 ⟨rfl, hb3⟩
        have HB3 := Lib.hid (HB2.out.trans (hb3.mono HB2.out.size))
        clear hb3
        go_wp2_with fail
        refine (HN2.out w3 HB3.out).mono ?_
        rintro e' w4 ⟨rfl, hb4⟩
        have HB4 := Lib.hid (HB3.out.trans (hb4.mono HB3.out.size))
        clear hb4
        go_wp2_with fail
        go_roundg f
        case measure => omega
        case rel => exact ⟨(o.1, z2), rfl, rfl, HO2, HF2, HB4⟩
end Go.Proofs.YthemlamdchcicaaGreatDoor
