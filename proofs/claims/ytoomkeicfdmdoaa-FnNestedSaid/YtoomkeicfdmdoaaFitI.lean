/-
  Contracts of the program's first rows: firstRows at any order. No condition of its own.
-/
import Derived.Test.YtoomkeicfdmdoaaRowsI
namespace Go.Proofs.Ytoomkeicfdmdoaa
open Go.ChangeShapes Go.WideShapes Go.ChangeAt Go.RowKit Go.Deep Go.Shelf

/-- Numbers of places as cells. -/
def nats (L : List Nat) : List Value := L.map fun i : Nat => Value.int .i64 (i : Int)
theorem nats_int (L : List Nat) : nats L = (L.map fun i : Nat => (i : Int)).map (Value.int .i64) := by simp [nats]
theorem nat_cell {w W : World} {b o j k : Nat} {L : List Nat} (hb : b < w.heap.size) (hbw : Below w.heap.size w W) (hc : ∀ i, i < (nats L).length → w.cell? ⟨b, o + i, none⟩ = (nats L)[i]?) (hk : k < L.length) (hj : L.getD k 0 = j) :
    W.cell? ⟨b, o + k, none⟩ = some (.int .i64 (j : Int)) := by
  rw [(hbw.cell (p := ⟨b, o + k, none⟩) hb).trans (hc k (by simpa [nats] using hk)), ← hj]
  simp [nats, List.getElem?_eq_getElem hk]
/-- A row of numbers of the call's own. -/
def FitEnd (w : World) (n : Nat) (cs : List Value) (e : Ending) (w' : World) : Prop :=
  ∃ g, e = .returned (.slice (some ⟨g, 0, none⟩) n n) ∧ w'.ownsRow w.heap.size 2 1 (.slice (some ⟨g, 0, none⟩) n n) n cs ∧ Below w.heap.size w w'

set_option maxHeartbeats 1600000 in
theorem fitClosure (z bw roll : Int) (i n c b o p1 p2 p3 : Nat) (W : World) (hi : i < n) (h1 : W.cell? ⟨p1, 0, none⟩ = some (.slice (some ⟨b, o, none⟩) n c)) (h2 : W.cell? ⟨p2, 0, none⟩ = some (.int .i64 (i : Int))) (h3 : W.cell? ⟨p3, 0, none⟩ = some (.int .i64 roll))
    (h4 : W.cell? ⟨b, o + i * 2, none⟩ = some (.int .i64 bw)) (hz : 0 ≤ z ∧ z ≤ 100000) (hb : 0 ≤ bw ∧ bw ≤ 100000) :
    Calls Try.prog 89 (#[.int .i64 z] ++ #[.pointer (some ⟨p1, 0, none⟩), .pointer (some ⟨p2, 0, none⟩), .pointer (some ⟨p3, 0, none⟩)]) W fun e w' => e = .returned (.bool (decide (z + bw ≤ roll))) ∧ Below W.heap.size W w' := by
  have hi' : (i : Int) < (n : Int) := by omega
  have w1 : IntKind.i64.wrap (z + bw) = z + bw := IntWalk.i64_in _ (by omega)
  go_enter Try.func89, Try.ntmps89
  go_wp2_with fail
  go_big_quiet (fail)
  go_wp2_with fail
  go_ret
  exact ⟨rfl, below_drewN (Below.refl _ _) _⟩

set_option maxRecDepth 100000 in
set_option maxHeartbeats 6400000 in
theorem firstRowsI_any (w : World) (a : Option Addr) (n c : Nat) (zs : List Int) (roll : Int) (ao : Option Addr) (co : Nat) (os : List Nat) (hl : zs.length = n * 2) (ha : CellsAt w a (zs.map (Value.int .i64))) (hok : blocksB zs roll n = true)
    (hp : os.Perm (List.range n)) (hao : CellsAt w ao (nats os)) : Calls Try.prog 70 #[.slice a n c, .int .i64 roll, .slice ao n co] w (FitEnd w n (nints (firstFit zs roll os (List.replicate 9 0) (List.replicate n 0)))) := by
  obtain ⟨⟨r0, r1⟩, n9, hall⟩ := blocksB_parts hok
  have hz := blocks_between hl r1 hall
  have hlen : os.length = n := by simpa using hp.length_eq
  have hnd : os.Nodup := hp.nodup_iff.2 List.nodup_range
  have hlt : ∀ k, k < n → os.getD k 0 < n := fun k hk => by
    have h : os[k]'(by omega) ∈ os := List.getElem_mem _
    have := hp.mem_iff.1 h
    simp [List.getElem?_eq_getElem (show k < os.length by omega)]
    simpa using this
  have hwid : ∀ i, i < n → 0 ≤ zs.getD (i * 2) 0 ∧ zs.getD (i * 2) 0 ≤ roll := fun i hi => by
    have := hall i hi
    simp only [blockAt, Bool.and_eq_true, inB_true] at this
    omega
  have hstep : ∀ k W out i x, k < n → os.getD k 0 = i → zs.getD (i * 2) 0 = x → FitAt zs roll n (os.take k) W out → ∃ r : Nat, roomAt W roll x = (r : Int) ∧ r < 9 ∧ W.getD r 0 + x ≤ roll ∧ FitAt zs roll n (os.take (k + 1)) (W.set r (W.getD r 0 + x)) (out.set i (r : Int)) ∧
      firstFit zs roll (os.drop k) W out = firstFit zs roll (os.drop (k + 1)) (W.set r (W.getD r 0 + x)) (out.set i (r : Int)) := by
    intro k W out i x hk hi hx h
    have hkl : k < os.length := by omega
    have hi2 : os[k] = i := by rw [← hi]; simp [List.getElem?_eq_getElem hkl]
    have hin := hlt k hk
    rw [hi] at hin
    have hw := hwid i hin
    obtain ⟨r, e1, _, e3, e4, _, e6⟩ := h.step (i := i) hin n9 (by simp; omega) (fun hm => by
      obtain ⟨j, hj, hje⟩ := List.getElem_of_mem hm
      rw [List.getElem_take] at hje
      simp at hj
      rw [← hi2] at hje
      have := (List.getElem_inj hnd).1 hje
      omega) hw.1 hw.2
    rw [hx] at e1 e4 e6
    refine ⟨r, e1, e3, e4, ?_, ?_⟩
    · rw [List.take_add_one, List.getElem?_eq_getElem hkl, hi2]
      exact e6
    · rw [List.drop_eq_getElem_cons hkl, hi2]
      simp only [firstFit, hx, e1, Int.toNat_natCast]
  have eg : ∀ args w, (callFunc 89 args).run Try.prog w = .ok (.enter 89 args) w := enters_of Try.func89 (by kernel_rfl) rfl
  have hmk9 : ∀ W : World, (Instr.makeSlice 22 (.int .i64 9) (.int .i64 9)).run Try.prog W = .ok (.slice (some ⟨W.heap.size, 0, none⟩) 9 9) (W.alloc (.cells (madeCells #[Value.int .i64 0] 9) 2)) := run_make_row' (P := Try.prog) 22 2 (.int .i64 0) 8 Try.underlying22 infoI rfl .i64 .i64 9 (by omega) (by omega)
  have hmkn := run_make_row' (P := Try.prog) 22 2 (.int .i64 0) 8 Try.underlying22 infoI rfl .i64 .i64 n (by omega) (by omega)
  obtain ⟨wb, hwb⟩ : ∃ q, (w.alloc (.cells #[.slice a n c] 43)).alloc (.cells #[.int .i64 roll] 2) = q := ⟨_, rfl⟩
  have hB0 : Bel w.heap.size w wb := by rw [← hwb]; exact ((Bel.refl w).alloc _).alloc _
  have c1 : wb.cell? ⟨w.heap.size, 0, none⟩ = some (.slice a n c) := by rw [← hwb]; simp
  have c2 : wb.cell? ⟨w.heap.size + 1, 0, none⟩ = some (.int .i64 roll) := by rw [← hwb]; simp
  have s2 : w.heap.size + 1 < wb.heap.size := by rw [← hwb]; simp
  have HM1 := Lib.hid (show ((wb.alloc (.cells (madeCells #[Value.int .i64 0] n) 2)).alloc (.cells (madeCells #[Value.int .i64 0] 9) 2)).drew.ownsRow wb.heap.size 2 1 (.slice (some ⟨wb.heap.size, 0, none⟩) n n) n (nints (List.replicate n 0)) ∧ ((wb.alloc (.cells (madeCells #[Value.int .i64 0] n) 2)).alloc (.cells (madeCells #[Value.int .i64 0] 9) 2)).drew.ownsRow wb.heap.size 2 1 (.slice (some ⟨wb.heap.size + 1, 0, none⟩) 9 9) 9 (nints (List.replicate 9 0)) ∧ Bel wb.heap.size wb ((wb.alloc (.cells (madeCells #[Value.int .i64 0] n) 2)).alloc (.cells (madeCells #[Value.int .i64 0] 9) 2)).drew from
    ⟨(nown_made wb n wb.heap.size wb.heap.size (by omega) rfl (Nat.le_refl _)).alloc _, nown_made _ 9 (wb.heap.size + 1) wb.heap.size (by omega) (by simp) (by simp), (((Bel.refl wb).alloc _).alloc _).drew⟩)
  have HM2 := Lib.hid (show ((wb.alloc (.cells (madeCells #[Value.int .i64 0] 9) 2)).alloc (.cells (madeCells #[Value.int .i64 0] n) 2)).drew.ownsRow wb.heap.size 2 1 (.slice (some ⟨wb.heap.size + 1, 0, none⟩) n n) n (nints (List.replicate n 0)) ∧ ((wb.alloc (.cells (madeCells #[Value.int .i64 0] 9) 2)).alloc (.cells (madeCells #[Value.int .i64 0] n) 2)).drew.ownsRow wb.heap.size 2 1 (.slice (some ⟨wb.heap.size, 0, none⟩) 9 9) 9 (nints (List.replicate 9 0)) ∧ Bel wb.heap.size wb ((wb.alloc (.cells (madeCells #[Value.int .i64 0] 9) 2)).alloc (.cells (madeCells #[Value.int .i64 0] n) 2)).drew from
    ⟨nown_made _ n (wb.heap.size + 1) wb.heap.size (by omega) (by simp) (by simp), (nown_made wb 9 wb.heap.size wb.heap.size (by omega) rfl (Nat.le_refl _)).alloc _, (((Bel.refl wb).alloc _).alloc _).drew⟩)
  obtain ⟨R, hR⟩ : ∃ q, firstFit zs roll os (List.replicate 9 0) (List.replicate n 0) = q := ⟨_, rfl⟩
  rw [hR]
  have HF0 := Lib.hid (FitAt.begin zs n (roll := roll) (by omega))
  have HR := Lib.hid hR
  have HW := Lib.hid hwb
  have HB0 := Lib.hid hB0
  have HA := Lib.hid (ha.below hB0.1)
  have HO := Lib.hid (hao.below hB0.1)
  have Hl := Lib.hid hl
  have HLen := Lib.hid hlen
  have HLt := Lib.hid hlt
  have HZ := Lib.hid hz
  have HStep := Lib.hid hstep
  have HEg := Lib.hid eg
  clear hl ha hok hp hao hlen hnd hall hlt hwid hstep hz eg hR hwb hB0
  go_enter Try.func70, Try.ntmps70
  go_upto_region 1 with fail
  rw [HW.out]
  go_cut [7, 8] (fun t7 t8 W => ∃ x y : Nat, t7 = .slice (some ⟨x, 0, none⟩) n n ∧ t8 = .slice (some ⟨y, 0, none⟩) 9 9 ∧ x ≠ y ∧ Hid (W.ownsRow wb.heap.size 2 1 (.slice (some ⟨x, 0, none⟩) n n) n (nints (List.replicate n 0))) ∧ Hid (W.ownsRow wb.heap.size 2 1 (.slice (some ⟨y, 0, none⟩) 9 9) 9 (nints (List.replicate 9 0))) ∧ Hid (Bel wb.heap.size wb W))
  case first =>
    go_region_held3 (fun W => W.cell? ⟨w.heap.size, 0, none⟩ = some (.slice a n c)) (first | go_keep | trivial) (fail)
    all_goals (go_wp2_with fail; go_meet)
    all_goals first
      | exact ⟨_, _, rfl, rfl, by omega, Lib.hid HM1.out.1, Lib.hid HM1.out.2.1, Lib.hid HM1.out.2.2⟩
      | exact ⟨_, _, rfl, rfl, by omega, Lib.hid HM2.out.1, Lib.hid HM2.out.2.1, Lib.hid HM2.out.2.2⟩
  case rest =>
    obtain ⟨x, y, rfl, rfl, hxy, h6, h7, hbw⟩ := hcut
    clear hmk9 hmkn HM1 HM2
    go_wp2_with fail
    go_loopw [10, 11, 18] (fun _ _ u wr => ∃ k : Nat, k ≤ n ∧ u = .int .i64 k ∧ ∃ W out : List Int, Hid (FitAt zs roll n (os.take k) W out) ∧ Hid (firstFit zs roll (os.drop k) W out = R) ∧ Hid (wr.ownsRow wb.heap.size 2 1 (.slice (some ⟨x, 0, none⟩) n n) n (nints out)) ∧ Hid (wr.ownsRow wb.heap.size 2 1 (.slice (some ⟨y, 0, none⟩) 9 9) 9 (nints W)) ∧ Hid (Bel wb.heap.size wb wr)) (fun _ _ u _ => n - (intOf u).toNat)
    case atStart => exact ⟨0, Nat.zero_le _, rfl, _, _, Lib.hid (by simpa using HF0.out), Lib.hid (by simpa using HR.out), h6, h7, hbw⟩
    case round =>
      clear h6 h7 hbw
      obtain ⟨k, hk, rfl, W, out, hF, hE, h6, h7, hbw⟩ := hrel
      by_cases hlt : k < n
      · obtain ⟨i, hi⟩ : ∃ v, os.getD k 0 = v := ⟨_, rfl⟩
        obtain ⟨x1, hx1⟩ : ∃ v, zs.getD (i * 2) 0 = v := ⟨_, rfl⟩
        have hin := HLt.out k hlt
        rw [hi] at hin
        obtain ⟨r, e1, hr9, e3, hF', hE'⟩ := HStep.out k W out i x1 hlt hi hx1 hF.out
        obtain ⟨bz, oz, rfl, hbz, hcz⟩ := HA.out.at_ (by have := Hl.out; simp; omega)
        obtain ⟨bo, oo, rfl, hbo, hco⟩ := HO.out.at_ (by have := HLen.out; simp [nats]; omega)
        obtain ⟨u, hu⟩ : ∃ v, W.getD r 0 = v := ⟨_, rfl⟩
        have lW := hF.out.lenW
        have lO := hF.out.lenO
        have hxb := HZ.out (i * 2)
        rw [hx1] at hxb
        have hub : 0 ≤ u ∧ u ≤ roll := by rw [← hu]; exact ⟨hF.out.nn r, hF.out.fit r⟩
        rw [hu] at hF' hE'
        have co1 := nat_cell hbo hbw.out.1 hco (by rw [HLen.out]; exact hlt) hi
        have HCz := Lib.hid (fun Q (h : Bel wb.heap.size wb Q) => cell_int hbz h.1 hcz (by rw [Hl.out]; omega) hx1)
        have HC1 := Lib.hid (fun Q (h : Bel wb.heap.size wb Q) => (h.1.cell (p := ⟨w.heap.size, 0, none⟩) (by show w.heap.size < wb.heap.size; omega)).trans c1)
        have HC2 := Lib.hid (fun Q (h : Bel wb.heap.size wb Q) => (h.1.cell (p := ⟨w.heap.size + 1, 0, none⟩) s2).trans c2)
        have HNW := Lib.hid (fun z (h : z ∈ W) => (show 0 ≤ z ∧ z ≤ 100000 by
          obtain ⟨j, rfl⟩ := mem_getD h
          have a1 := hF.out.nn j
          have a2 := hF.out.fit j
          omega))
        obtain ⟨wi, hwi⟩ : ∃ q, wr.alloc (.cells #[.int .i64 (i : Int)] 3) = q := ⟨_, rfl⟩
        obtain ⟨q, hq⟩ : ∃ q, wr.heap.size = q := ⟨_, rfl⟩
        have hBi : Bel wb.heap.size wb wi := by rw [← hwi]; exact hbw.out.alloc _
        have ci : wi.cell? ⟨q, 0, none⟩ = some (.int .i64 (i : Int)) := by rw [← hwi, ← hq]; simp
        have si : q < wi.heap.size := by rw [← hwi, ← hq]; simp
        have HI6 := Lib.hid (show wi.ownsRow wb.heap.size 2 1 (.slice (some ⟨x, 0, none⟩) n n) n (nints out) by rw [← hwi]; exact h6.out.alloc _)
        have HI7 := Lib.hid (show wi.ownsRow wb.heap.size 2 1 (.slice (some ⟨y, 0, none⟩) 9 9) 9 (nints W) by rw [← hwi]; exact h7.out.alloc _)
        have hwbs := hbw.out.2
        have hxq : x < q := by rw [← hq]; exact (own_block h6.out rfl).2
        have hyq : y < q := by rw [← hq]; exact (own_block h7.out rfl).2
        have hidx := indexFunc_any (some ⟨y, 0, none⟩) 9 9 W (fun z => decide (z + x1 ≤ roll)) 89 #[.pointer (some ⟨w.heap.size, 0, none⟩), .pointer (some ⟨q, 0, none⟩), .pointer (some ⟨w.heap.size + 1, 0, none⟩)] wi HEg.out lW (by omega) (CellsAt.of_own HI7.out)
          (fun z Q hQ hz => fitClosure z x1 roll i n c bz oz w.heap.size q (w.heap.size + 1) Q hin (HC1.out Q (hBi.step hQ)) ((hQ.cell (p := ⟨q, 0, none⟩) si).trans ci) (HC2.out Q (hBi.step hQ)) (HCz.out Q (hBi.step hQ)) (HNW.out z hz) (by omega))
        rw [show idxI (fun z => decide (z + x1 ≤ roll)) W = (r : Int) from e1] at hidx
        have HIdx := Lib.hid hidx
        have HBi := Lib.hid hBi
        have HWi := Lib.hid hwi
        have HF := Lib.hid hF'
        have HE := Lib.hid (hE'.symm.trans hE.out)
        have hr9' : (r : Int) < 9 := by omega
        have hin' : (i : Int) < (n : Int) := by omega
        have hlt' : (k : Int) < (n : Int) := by omega
        have hw1 : IntKind.i64.wrap (u + x1) = u + x1 := IntWalk.i64_in _ (by omega)
        have HL := Lib.hid (And.intro lW (And.intro lO hu))
        clear hi hx1 e1 e3 hF' hE' hcz hco hu hidx hBi hwi lW lO hF hE
        go_wp2_with fail
        rw [HWi.out]
        refine HIdx.out.mono ?_
        rintro e w3 ⟨rfl, hb3⟩
        have H36 := Lib.hid (own_below HI6.out hb3)
        have H37 := Lib.hid (own_below HI7.out hb3)
        have HB3 := Lib.hid (HBi.out.step hb3)
        have k1 := HC1.out w3 HB3.out
        have kz := HCz.out w3 HB3.out
        have ki := (hb3.cell (p := ⟨q, 0, none⟩) si).trans ci
        have hs3 := Nat.lt_of_lt_of_le si hb3.size
        have ku := own_cell H37.out (k := r) (by rw [HL.out.1]; exact hr9) HL.out.2.2
        have fu := H37.out.frozenAt r
        have hst := H37.out.stored r (.int .i64 (u + x1))
        rw [nints_set] at hst
        have H47 := Lib.hid (show (w3.setCell ⟨y, r, none⟩ (.int .i64 (u + x1))).drew.ownsRow wb.heap.size 2 1 (.slice (some ⟨y, 0, none⟩) 9 9) 9 (nints (W.set r (u + x1))) from hst.1)
        have h46 := own_grown_ne H36.out hst.2 (fun j hj e => by have h1 : x = j := (by simpa [Value.ownBlock] using hj); have h2 : y = j := (by simpa [Value.ownBlock] using e); omega)
        have H46 := Lib.hid (show (w3.setCell ⟨y, r, none⟩ (.int .i64 (u + x1))).drew.ownsRow wb.heap.size 2 1 (.slice (some ⟨x, 0, none⟩) n n) n (nints out) from h46)
        have HB4 := Lib.hid ((HB3.out.grown hst.2 (fun j hj => (own_block H37.out hj).1)).drew)
        have HQ4 := Lib.hid ((hst.2.cell_far ⟨q, 0, none⟩ hs3 (fun e => by have h1 : q = y := (by simpa [Value.ownBlock] using e); omega)).trans ki)
        clear hb3 ci si hst h46
        go_wp2_with fail
        go_still_tail 11, (by kernel_rfl)
        go_upto_region 7 with fail
        have hs4 : q < (w3.setCell ⟨y, r, none⟩ (.int .i64 (u + x1))).heap.size := by simpa [World.setCell] using hs3
        have HS4 := Lib.hid (show q < ((w3.setCell ⟨y, r, none⟩ (.int .i64 (u + x1))).drew).heap.size from hs4)
        clear hs4
        have HQ4 := Lib.hid (show ((w3.setCell ⟨y, r, none⟩ (.int .i64 (u + x1))).drew).cell? ⟨q, 0, none⟩ = some (.int .i64 (i : Int)) from HQ4.out)
        generalize (w3.setCell _ _).drew = w4 at H47 H46 HB4 HS4 HQ4 ⊢
        clear k1 kz ki ku fu
        have ki := HQ4.out
        have hs4 := HS4.out
        have fx := H46.out.frozenAt i
        have hox : ∃ v, w4.cell? ⟨x, i, none⟩ = some v := by
          rw [H46.out.cellAt i (by omega)]
          exact ⟨_, List.getElem?_eq_getElem (by simp [nints, HL.out.2.1]; exact hin)⟩
        obtain ⟨vx, kx⟩ := hox
        have hst := H46.out.stored i (.int .i64 (r : Int))
        rw [nints_set] at hst
        have H56 := Lib.hid hst.1
        have H57 := Lib.hid (own_grown_ne H47.out hst.2 (fun j hj e => by have h1 : y = j := (by simpa [Value.ownBlock] using hj); have h2 : x = j := (by simpa [Value.ownBlock] using e); omega))
        have HB5 := Lib.hid (HB4.out.grown hst.2 (fun j hj => (own_block H46.out hj).1))
        clear hst
        go_wp2_with fail
        go_roundw
        case rel => exact ⟨k + 1, by omega, by go_num, _, _, HF, HE, H56, H57, HB5⟩
        case measure => simp [intOf]; omega
      · obtain rfl : k = n := by omega
        have e := hE.out
        rw [List.drop_of_length_le (by rw [HLen.out]; omega)] at e
        obtain rfl : out = R := e
        go_wp2_with fail
        go_ret
        exact ⟨x, rfl, own_base h6.out HB0.out.2, (HB0.out.step hbw.out.1).1⟩
end Go.Proofs.Ytoomkeicfdmdoaa
