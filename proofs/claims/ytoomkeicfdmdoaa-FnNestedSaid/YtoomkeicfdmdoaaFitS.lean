/-
  Contracts of the reference's first rows: l11First, FirstRows. No condition of its own.
-/
import Derived.Test.YtoomkeicfdmdoaaFitO
namespace Go.Proofs.Ytoomkeicfdmdoaa
open Go.ChangeShapes Go.WideShapes Go.ChangeAt Go.RowKit Go.Deep Go.Shelf

set_option maxRecDepth 100000 in
set_option maxHeartbeats 6400000 in
theorem l11First_any (w : World) (a : Option Addr) (n c : Nat) (zs : List Int) (roll : Int) (ao : Option Addr) (co : Nat) (os : List Nat) (hl : zs.length = n * 2) (ha : CellsAt w a (zs.map (Value.int .i64))) (hok : blocksB zs roll n = true)
    (hp : os.Perm (List.range n)) (hao : CellsAt w ao (nats os)) : Calls Try.prog 72 #[.slice a n c, .int .i64 roll, .slice ao n co] w (FitEnd w n (nints (firstFit zs roll os (List.replicate 9 0) (List.replicate n 0)))) := by
  obtain ⟨⟨r0, r1⟩, n9, hall⟩ := blocksB_parts hok
  have hz := blocks_between hl r1 hall
  have hlen : os.length = n := by simpa using hp.length_eq
  have hnd : os.Nodup := hp.nodup_iff.2 List.nodup_range
  have hlt : ∀ k, k < n → os.getD k 0 < n := fun k hk => by
    have h : os[k]'(by omega) ∈ os := List.getElem_mem _
    have := hp.mem_iff.1 h
    simp [List.getElem?_eq_getElem (show k < os.length by omega)]
    simpa using this
  have hwid : ∀ i, i < n → 0 ≤ zs.getD (i * 2) 0 ∧ zs.getD (i * 2) 0 ≤ roll := fun i hi => by
    have := hall i hi
    simp only [blockAt, Bool.and_eq_true, inB_true] at this
    omega
  have hstep : ∀ k W out i x, k < n → os.getD k 0 = i → zs.getD (i * 2) 0 = x → FitAt zs roll n (os.take k) W out → ∃ r : Nat, r < 9 ∧ W.getD r 0 + x ≤ roll ∧ (∀ j, j < r → roll < W.getD j 0 + x) ∧ FitAt zs roll n (os.take (k + 1)) (W.set r (W.getD r 0 + x)) (out.set i (r : Int)) ∧
      firstFit zs roll (os.drop k) W out = firstFit zs roll (os.drop (k + 1)) (W.set r (W.getD r 0 + x)) (out.set i (r : Int)) := by
    intro k W out i x hk hi hx h
    have hkl : k < os.length := by omega
    have hi2 : os[k] = i := by rw [← hi]; simp [List.getElem?_eq_getElem hkl]
    have hin := hlt k hk
    rw [hi] at hin
    have hw := hwid i hin
    obtain ⟨r, e1, _, e3, e4, e5, e6⟩ := h.step (i := i) hin n9 (by simp; omega) (fun hm => by
      obtain ⟨j, hj, hje⟩ := List.getElem_of_mem hm
      rw [List.getElem_take] at hje
      simp at hj
      rw [← hi2] at hje
      have := (List.getElem_inj hnd).1 hje
      omega) hw.1 hw.2
    rw [hx] at e1 e4 e6 e5
    refine ⟨r, e3, e4, fun j hj => by have := e5 j hj; omega, ?_, ?_⟩
    · rw [List.take_add_one, List.getElem?_eq_getElem hkl, hi2]
      exact e6
    · rw [List.drop_eq_getElem_cons hkl, hi2]
      simp only [firstFit, hx, e1, Int.toNat_natCast]
  have hmk9 : ∀ W : World, (Instr.makeSlice 22 (.int .i64 9) (.int .i64 9)).run Try.prog W = .ok (.slice (some ⟨W.heap.size, 0, none⟩) 9 9) (W.alloc (.cells (madeCells #[Value.int .i64 0] 9) 2)) := run_make_row' (P := Try.prog) 22 2 (.int .i64 0) 8 Try.underlying22 infoI rfl .i64 .i64 9 (by omega) (by omega)
  have hmkn := run_make_row' (P := Try.prog) 22 2 (.int .i64 0) 8 Try.underlying22 infoI rfl .i64 .i64 n (by omega) (by omega)
  obtain ⟨x, hx⟩ : ∃ q, w.heap.size = q := ⟨_, rfl⟩
  obtain ⟨y, hy⟩ : ∃ q, w.heap.size + 1 = q := ⟨_, rfl⟩
  have h6 := Lib.hid (show ((w.alloc (.cells (madeCells #[Value.int .i64 0] n) 2)).alloc (.cells (madeCells #[Value.int .i64 0] 9) 2)).ownsRow w.heap.size 2 1 (.slice (some ⟨x, 0, none⟩) n n) n (nints (List.replicate n 0)) from (nown_made w n x w.heap.size (by omega) hx.symm (Nat.le_refl _)).alloc _)
  have h7 := Lib.hid (show ((w.alloc (.cells (madeCells #[Value.int .i64 0] n) 2)).alloc (.cells (madeCells #[Value.int .i64 0] 9) 2)).ownsRow w.heap.size 2 1 (.slice (some ⟨y, 0, none⟩) 9 9) 9 (nints (List.replicate 9 0)) from nown_made _ 9 y w.heap.size (by omega) (by rw [← hy]; simp) (by simp))
  have hbw := Lib.hid (((Bel.refl w).alloc (.cells (madeCells #[Value.int .i64 0] n) 2)).alloc (.cells (madeCells #[Value.int .i64 0] 9) 2))
  have hxy : x ≠ y := by omega
  obtain ⟨R, hR⟩ : ∃ q, firstFit zs roll os (List.replicate 9 0) (List.replicate n 0) = q := ⟨_, rfl⟩
  rw [hR]
  have HF0 := Lib.hid (FitAt.begin zs n (roll := roll) (by omega))
  have HR := Lib.hid hR
  have HA := Lib.hid ha
  have HO := Lib.hid hao
  have Hl := Lib.hid hl
  have HLen := Lib.hid hlen
  have HLt := Lib.hid hlt
  have HZ := Lib.hid hz
  have HStep := Lib.hid hstep
  have HX := Lib.hid hx
  have HY := Lib.hid hy
  clear hl ha hok hp hao hlen hnd hall hlt hwid hstep hz hR hx hy
  go_enter Try.func72, Try.ntmps72
  go_wp2_with fail
  rw [HY.out, HX.out]
  go_loopw [9, 10, 11] (fun u _ _ wr => ∃ k : Nat, k ≤ n ∧ u = .int .i64 k ∧ ∃ W out : List Int, Hid (FitAt zs roll n (os.take k) W out) ∧ Hid (firstFit zs roll (os.drop k) W out = R) ∧ Hid (wr.ownsRow w.heap.size 2 1 (.slice (some ⟨x, 0, none⟩) n n) n (nints out)) ∧ Hid (wr.ownsRow w.heap.size 2 1 (.slice (some ⟨y, 0, none⟩) 9 9) 9 (nints W)) ∧ Hid (Bel w.heap.size w wr)) (fun u _ _ _ => n - (intOf u).toNat)
  case atStart => exact ⟨0, Nat.zero_le _, rfl, _, _, Lib.hid (by simpa using HF0.out), Lib.hid (by simpa using HR.out), h6, h7, hbw⟩
  case round =>
    clear h6 h7 hbw hmk9 hmkn
    obtain ⟨k, hk, rfl, W, out, hF, hE, h6, h7, hbw⟩ := hrel
    by_cases hlt : k < n
    · obtain ⟨i, hi⟩ : ∃ v, os.getD k 0 = v := ⟨_, rfl⟩
      obtain ⟨x1, hx1⟩ : ∃ v, zs.getD (i * 2) 0 = v := ⟨_, rfl⟩
      obtain ⟨y1, hy1⟩ : ∃ v, zs.getD (i * 2 + 1) 0 = v := ⟨_, rfl⟩
      have hin := HLt.out k hlt
      rw [hi] at hin
      obtain ⟨r, hr9, e3, e5, hF', hE'⟩ := HStep.out k W out i x1 hlt hi hx1 hF.out
      obtain ⟨bz, oz, rfl, hbz, hcz⟩ := HA.out.at_ (by have := Hl.out; simp; omega)
      obtain ⟨bo, oo, rfl, hbo, hco⟩ := HO.out.at_ (by have := HLen.out; simp [nats]; omega)
      obtain ⟨u, hu⟩ : ∃ v, W.getD r 0 = v := ⟨_, rfl⟩
      have lW := hF.out.lenW
      have lO := hF.out.lenO
      have hxb := HZ.out (i * 2)
      rw [hx1] at hxb
      have HWb := Lib.hid (fun j => (show 0 ≤ W.getD j 0 ∧ W.getD j 0 ≤ roll from ⟨hF.out.nn j, hF.out.fit j⟩))
      have hub : 0 ≤ u ∧ u ≤ roll := by rw [← hu]; exact HWb.out r
      rw [hu] at hF' hE'
      have HCo := Lib.hid (fun Q (h : Bel w.heap.size w Q) => nat_cell hbo h.1 hco (by rw [HLen.out]; exact hlt) hi)
      have co1 := HCo.out wr hbw.out
      have cz := cell_int hbz hbw.out.1 hcz (j := i * 2) (by rw [Hl.out]; omega) hx1
      have cz2 := cell_int hbz hbw.out.1 hcz (j := i * 2 + 1) (by rw [Hl.out]; omega) hy1
      rw [← Nat.add_assoc] at cz2
      obtain ⟨wi, hwi⟩ : ∃ q, wr.alloc (.cells #[.int .i64 x1, .int .i64 y1] 72) = q := ⟨_, rfl⟩
      obtain ⟨q, hq⟩ : ∃ q, wr.heap.size = q := ⟨_, rfl⟩
      have HQ := Lib.hid (show wi.ownsRow w.heap.size 72 2 (.slice (some ⟨q, 0, none⟩) 1 1) 1 [.int .i64 x1, .int .i64 y1] by rw [← hwi]; exact box2 _ _ _ _ _ _ hbw.out.2 hq.symm)
      have HI6 := Lib.hid (show wi.ownsRow w.heap.size 2 1 (.slice (some ⟨x, 0, none⟩) n n) n (nints out) by rw [← hwi]; exact h6.out.alloc _)
      have HI7 := Lib.hid (show wi.ownsRow w.heap.size 2 1 (.slice (some ⟨y, 0, none⟩) 9 9) 9 (nints W) by rw [← hwi]; exact h7.out.alloc _)
      have HBi := Lib.hid (show Bel w.heap.size w wi by rw [← hwi]; exact hbw.out.alloc _)
      have hxq : x < q := by rw [← hq]; exact (own_block h6.out rfl).2
      have hyq : y < q := by rw [← hq]; exact (own_block h7.out rfl).2
      have HWi := Lib.hid hwi
      have Hq := Lib.hid hq
      have HF := Lib.hid hF'
      have HE := Lib.hid (hE'.symm.trans hE.out)
      have HL := Lib.hid (And.intro lW (And.intro lO hu))
      have HE3 := Lib.hid e3
      have HE5 := Lib.hid e5
      have hin' : (i : Int) < (n : Int) := by omega
      have hlt' : (k : Int) < (n : Int) := by omega
      clear hi hx1 hy1 e3 e5 hF' hE' hcz hco hwi lW lO hF hE hq hu
      go_wp2_with fail
      rw [HWi.out, Hq.out]
      go_loopw [11] (fun v wz => ∃ j : Nat, j ≤ r ∧ v = .int .i64 j ∧ Hid (wz.ownsRow w.heap.size 72 2 (.slice (some ⟨q, 0, none⟩) 1 1) 1 [.int .i64 x1, .int .i64 y1]) ∧ Hid (wz.ownsRow w.heap.size 2 1 (.slice (some ⟨x, 0, none⟩) n n) n (nints out)) ∧ Hid (wz.ownsRow w.heap.size 2 1 (.slice (some ⟨y, 0, none⟩) 9 9) 9 (nints W)) ∧ Hid (Bel w.heap.size w wz)) (fun v _ => r - (intOf v).toNat)
      case atStart => exact ⟨0, Nat.zero_le _, rfl, HQ, HI6, HI7, HBi⟩
      case round =>
        clear HQ HI6 HI7 HBi h6 h7 hbw co1 cz cz2 HWi
        obtain ⟨j, hj, rfl, hQ, h6, h7, hbw⟩ := hrel
        obtain ⟨v, hv⟩ : ∃ v, W.getD j 0 = v := ⟨_, rfl⟩
        have hvb := HWb.out j
        rw [hv] at hvb
        have kv := own_cell h7.out (k := j) (by rw [HL.out.1]; omega) hv
        obtain ⟨q0, q1⟩ := box2_at hQ.out
        have hj9 : (j : Int) < 9 := by omega
        have w1 : IntKind.i64.wrap (v + x1) = v + x1 := IntWalk.i64_in _ (by omega)
        by_cases hjr : j < r
        · have hgt := HE5.out j hjr
          rw [hv] at hgt
          clear hv
          go_wp2_with fail
          go_big_quiet (fail)
          go_wp2_with fail
          go_roundw
          case rel => exact ⟨j + 1, by omega, by go_num, Lib.hid hQ.out, Lib.hid h6.out, Lib.hid h7.out, Lib.hid (hbw.out.drewN _)⟩
          case measure => simp [intOf]; omega
        · obtain rfl : j = r := by omega
          obtain rfl : v = u := by rw [← hv, HL.out.2.2]
          have hle : ¬ roll < v + x1 := by have := HE3.out; rw [HL.out.2.2] at this; omega
          clear hv
          go_wp2_with fail
          go_big_quiet (fail)
          generalize hw3 : wr.drewN _ = w3
          have HQ3 := Lib.hid (show w3.ownsRow w.heap.size 72 2 (.slice (some ⟨q, 0, none⟩) 1 1) 1 [.int .i64 x1, .int .i64 y1] by rw [← hw3]; exact hQ.out)
          have H36 := Lib.hid (show w3.ownsRow w.heap.size 2 1 (.slice (some ⟨x, 0, none⟩) n n) n (nints out) by rw [← hw3]; exact h6.out)
          have H37 := Lib.hid (show w3.ownsRow w.heap.size 2 1 (.slice (some ⟨y, 0, none⟩) 9 9) 9 (nints W) by rw [← hw3]; exact h7.out)
          have HB3 := Lib.hid (show Bel w.heap.size w w3 by rw [← hw3]; exact hbw.out.drewN _)
          clear hw3 kv q0 q1 hQ h6 h7 hbw
          have kv := own_cell H37.out (k := j) (by rw [HL.out.1]; omega) HL.out.2.2
          obtain ⟨q0, q1⟩ := box2_at HQ3.out
          have f7 := H37.out.frozenAt j
          have hst := H37.out.stored j (.int .i64 (v + x1))
          rw [nints_set] at hst
          have H47 := Lib.hid (show (w3.setCell ⟨y, j, none⟩ (.int .i64 (v + x1))).drew.ownsRow w.heap.size 2 1 (.slice (some ⟨y, 0, none⟩) 9 9) 9 (nints (W.set j (v + x1))) from hst.1)
          have h46 := own_grown_ne H36.out hst.2 (fun j hj e => by have h1 : x = j := (by simpa [Value.ownBlock] using hj); have h2 : y = j := (by simpa [Value.ownBlock] using e); omega)
          have H46 := Lib.hid (show (w3.setCell ⟨y, j, none⟩ (.int .i64 (v + x1))).drew.ownsRow w.heap.size 2 1 (.slice (some ⟨x, 0, none⟩) n n) n (nints out) from h46)
          have HB4 := Lib.hid ((HB3.out.grown hst.2 (fun j hj => (own_block H37.out hj).1)).drew)
          clear hst h46
          go_wp2_with fail
          go_still_tail 8, (by kernel_rfl)
          go_upto_region 11 with fail
          generalize (w3.setCell _ _).drew = w4 at H47 H46 HB4 ⊢
          clear kv q0 q1 f7 HQ3 H36 H37 HB3
          have co1 := HCo.out w4 HB4.out
          have fx := H46.out.frozenAt i
          have hox : ∃ v, w4.cell? ⟨x, i, none⟩ = some v := by
            rw [H46.out.cellAt i (by omega)]
            exact ⟨_, List.getElem?_eq_getElem (by simp [nints, HL.out.2.1]; exact hin)⟩
          obtain ⟨vx, kx⟩ := hox
          have hst := H46.out.stored i (.int .i64 (j : Int))
          rw [nints_set] at hst
          have H56 := Lib.hid hst.1
          have H57 := Lib.hid (own_grown_ne H47.out hst.2 (fun j hj e => by have h1 : y = j := (by simpa [Value.ownBlock] using hj); have h2 : x = j := (by simpa [Value.ownBlock] using e); omega))
          have HB5 := Lib.hid (HB4.out.grown hst.2 (fun j hj => (own_block H46.out hj).1))
          clear hst
          go_wp2_with fail
          go_roundw
          case rel => exact ⟨k + 1, by omega, by go_num, _, _, HF, HE, H56, H57, HB5⟩
          case measure => simp [intOf]; omega
    · obtain rfl : k = n := by omega
      have e := hE.out
      rw [List.drop_of_length_le (by rw [HLen.out]; omega)] at e
      obtain rfl : out = R := e
      go_wp2_with fail
      go_ret
      exact ⟨x, rfl, h6.out, hbw.out.1⟩
end Go.Proofs.Ytoomkeicfdmdoaa
