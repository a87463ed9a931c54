/-
  The reference's openings: they end, and they are few. No condition of its own.
-/
import Derived.Test.YthemlamdchcicaaGreatDoorPatW
namespace Go.Proofs.YthemlamdchcicaaGreatDoor
open Go.ChangeShapes Go.WideShapes Go.ChangeAt Go.RowKit Go.Deep Go.Shelf Go.ChangeMaps

theorem infoBo : (Tryz.prog.info? 4).map (fun i => (i.zero, i.size, i.bytes)) = some (some (.bool false), 1, 1) := by kernel_rfl
def boC (bs : List Bool) : List Value := bs.map Value.bool
theorem own_bools (W : World) (n B : Nat) (hn : n ≤ 1048576) (hB : B ≤ W.heap.size) : (W.alloc (.cells (madeCells #[Value.bool false] n) 4)).ownsRow B 4 1 (.slice (some ⟨W.heap.size, 0, none⟩) n n) n (boC (List.replicate n false)) := by
  have := World.ownsRow_lit (size := 1) (e := 4) W (madeCells #[Value.bool false] n) n (Nat.le_refl _) (by unfold maxLen; omega) (by rw [size_madeCells]; omega)
  rw [toList_madeCells_one] at this
  rw [show boC (List.replicate n false) = List.replicate n (Value.bool false) from by simp [boC]]
  exact own_base this hB
theorem boC_set (bs : List Bool) (i : Nat) (b : Bool) : (boC bs).set i (.bool b) = boC (bs.set i b) := by simp [boC, List.map_set]
theorem count_set : ∀ (bs : List Bool) (i : Nat), bs[i]? = some false → (bs.set i true).count false + 1 = bs.count false
  | [], i, h => by simp at h
  | b :: bs, 0, h => by
    simp at h
    subst h
    simp
  | b :: bs, i + 1, h => by
    have h1 := count_set bs i (by simpa using h)
    simp only [List.set_cons_succ, List.count_cons]
    omega
/-- The memory of the reference's search for openings. -/
structure RMem (w wr : World) (p : Pat) (q : Nat) (aP : Option Addr) (n cP : Nat) (aS : Option Addr) (m cS : Nat) (op : Int) (g cg : Nat) (rows : List (Nat × Ed)) (s : Nat) (bs : List Bool) : Prop where
  bel : Bel w.heap.size w wr
  box : PBox wr q aP n cP aS m cS op
  row : wr.ownsRow w.heap.size 29 1 (.slice (some ⟨g, 0, none⟩) rows.length cg) rows.length (opC rows)
  rws : OpRows wr p g rows
  seen : wr.ownsRow w.heap.size 4 1 (.slice (some ⟨s, 0, none⟩) rows.length rows.length) rows.length (boC bs)
  ne : s ≠ g ∧ s ≠ q ∧ ∀ r ∈ rows, s ≠ r.1
section
variable {w wr wr' : World} {p : Pat} {q : Nat} {aP aS : Option Addr} {n cP m cS : Nat} {op : Int} {g cg s : Nat} {rows : List (Nat × Ed)} {bs : List Bool}
theorem RMem.below (h : RMem w wr p q aP n cP aS m cS op g cg rows s bs) (hb : Below wr.heap.size wr wr') : RMem w wr' p q aP n cP aS m cS op g cg rows s bs :=
  ⟨h.bel.step hb, h.box.below hb, own_below h.row hb, h.rws.below hb, own_below h.seen hb, h.ne⟩
theorem RMem.drewN (h : RMem w wr p q aP n cP aS m cS op g cg rows s bs) (k : Nat) : RMem w (wr.drewN k) p q aP n cP aS m cS op g cg rows s bs := h.below (below_drewN (Below.refl _ _) k)
theorem RMem.set (h : RMem w wr p q aP n cP aS m cS op g cg rows s bs) (k : Nat) : RMem w (wr.setCell ⟨s, k, none⟩ (.bool true)) p q aP n cP aS m cS op g cg rows s (bs.set k true) := by
  have h1 := h.seen.stored k (.bool true)
  rw [boC_set] at h1
  have hs := (own_block (b := s) h.seen rfl).1
  have hg : wr.grownBy (wr.setCell ⟨s, k, none⟩ (.bool true)) (some s) := setCell_grown wr s k _
  refine ⟨h.bel.setCell (p := ⟨s, k, none⟩) hs _, ?_, own_grown_ne h.row hg (fun b hb e => ?_), fun r hr => ?_, h1.1, h.ne⟩
  · have hf : ∀ o, (wr.setCell ⟨s, k, none⟩ (.bool true)).cell? ⟨q, o, none⟩ = wr.cell? ⟨q, o, none⟩ := fun o => World.cell?_setCell_far _ _ _ _ (show s ≠ q from h.ne.2.1)
    exact ⟨(hf 0).trans h.box.1, (hf 1).trans h.box.2.1, (hf 2).trans h.box.2.2.1, by simpa [World.setCell] using h.box.2.2.2⟩
  · have h2 : g = b := by simpa [Value.ownBlock] using hb
    have h3 : s = b := by simpa using e
    exact h.ne.1 (by omega)
  · obtain ⟨r1, r2, r3, r4, r5⟩ := h.rws r hr
    have hne := h.ne.2.2 r hr
    exact ⟨by simpa [World.setCell] using r1, r2, (World.cell?_setCell_far _ _ _ _ (show s ≠ r.1 from hne)).trans r3, (World.cell?_setCell_far _ _ _ _ (show s ≠ r.1 from hne)).trans r4, r5⟩
theorem RMem.grown {x : Nat} (h : RMem w wr p q aP n cP aS m cS op g cg rows s bs) (hg : wr.grownBy wr' (some x)) (hb : Bel w.heap.size w wr') (hx : g < x ∧ s < x ∧ q < x ∧ ∀ r ∈ rows, r.1 < x) : RMem w wr' p q aP n cP aS m cS op g cg rows s bs := by
  obtain ⟨x1, x2, x3, x4⟩ := hx
  have hf : ∀ o, wr'.cell? ⟨q, o, none⟩ = wr.cell? ⟨q, o, none⟩ := fun o => hg.cell_far ⟨q, o, none⟩ h.box.2.2.2 (fun e => by have h1 : q = x := (by simpa using e); omega)
  refine ⟨hb, ⟨(hf 0).trans h.box.1, (hf 1).trans h.box.2.1, (hf 2).trans h.box.2.2.1, Nat.lt_of_lt_of_le h.box.2.2.2 hg.size⟩, own_grown_ne h.row hg (fun b hb e => ?_), fun r hr => ?_, own_grown_ne h.seen hg (fun b hb e => ?_), h.ne⟩
  · have h2 : g = b := by simpa [Value.ownBlock] using hb
    have h3 : x = b := by simpa using e
    omega
  · obtain ⟨r1, r2, r3, r4, r5⟩ := h.rws r hr
    have hne := x4 r hr
    exact ⟨Nat.lt_of_lt_of_le r1 hg.size, r2, (hg.cell_far ⟨r.1, 0, none⟩ r1 (fun e => by have h1 : r.1 = x := (by simpa using e); omega)).trans r3, (hg.cell_far ⟨r.1, 1, none⟩ r1 (fun e => by have h1 : r.1 = x := (by simpa using e); omega)).trans r4, r5⟩
  · have h2 : s = b := by simpa [Value.ownBlock] using hb
    have h3 : x = b := by simpa using e
    omega
theorem RMem.at_ (h : RMem w wr p q aP n cP aS m cS op g cg rows s bs) {k : Nat} (hk : k < rows.length) : ∃ (x : Nat) (e : Ed), wr.cell? ⟨g, k, none⟩ = some (.slice (some ⟨x, 0, none⟩) 2 2) ∧ wr.cell? ⟨x, 0, none⟩ = some (.int .i64 (e.1 : Int)) ∧ wr.cell? ⟨x, 1, none⟩ = some (.int .i64 (e.2 : Int)) ∧ p.on e ∧ p.mate e = none := by
  obtain ⟨r1, r2, r3, r4, r5⟩ := h.rws rows[k] (List.getElem_mem hk)
  refine ⟨rows[k].1, rows[k].2, ?_, r3, r4, r5⟩
  rw [h.row.cellAt k (by omega)]
  simp [opC, hk]
theorem RMem.bit (h : RMem w wr p q aP n cP aS m cS op g cg rows s bs) {k : Nat} (hk : k < rows.length) : ∃ b, bs[k]? = some b ∧ wr.cell? ⟨s, k, none⟩ = some (.bool b) ∧ wr.frozen? ⟨s, k, none⟩ = false := by
  have hl : bs.length = rows.length := by have := h.seen.1; simp [boC] at this; omega
  refine ⟨bs[k], List.getElem?_eq_getElem (by omega), ?_, h.seen.frozenAt k⟩
  rw [h.seen.cellAt k (by omega)]
  simp [boC, hl, hk]
end
/-- The reference's openings. -/
def SumsEnd (w : World) (e : Ending) (w' : World) : Prop := ∃ g c k, e = .returned (.slice (some ⟨g, 0, none⟩) k c) ∧ k ≤ 80 ∧ Below w.heap.size w w'
set_option maxRecDepth 100000 in
set_option maxHeartbeats 6400000 in
theorem l08Openings_any (p : Pat) (hp : p.Ok) (aP aS : Option Addr) (cP cS : Nat) (op : Int) (q : Nat) (w : World) (hq : PBox w q aP p.n cP aS p.m cS op) (h : PatAt w p aP aS) :
    Calls Tryz.prog 62 #[.pointer (some ⟨q, 0, none⟩)] w (SumsEnd w) := by
  have HOk := Lib.hid hp
  have HPa := Lib.hid h
  have hqw := hq.2.2.2
  have HO := Lib.hid (l08Open_any p hp aP aS cP cS op q w hq h)
  have HFo := Lib.hid (fun (e : Ed) (h1 : p.on e) (h2 : p.mate e = none) (X : World) (hX : Below w.heap.size w X) => l08Follow_any p hp aP aS cP cS op e.1 e.2 q h1 h2 X (hq.below hX) (h.below hX))
  have HQ := Lib.hid hq
  have hmk := fun n (hn : n ≤ 80) => run_make_row' (P := Tryz.prog) 151 4 (.bool false) 1 Tryz.underlying151 infoBo rfl .i64 .i64 n (by omega) (by omega)
  have HMk := Lib.hid hmk
  clear hp hq h hmk
  go_enter Tryz.func62, Tryz.ntmps62
  go_wp2_with fail
  refine HO.out.mono ?_
  rintro e w1 ⟨g, cg, rows, rfl, hrl, ho1, hr1, hb1⟩
  have hmk := HMk.out rows.length hrl
  have hg1 := own_block (b := g) ho1 rfl
  have HM1 := Lib.hid (show RMem w (w1.alloc (.cells (madeCells #[Value.bool false] rows.length) 4)) p q aP p.n cP aS p.m cS op g cg rows w1.heap.size (List.replicate rows.length false) from
    ⟨(Bel.of hb1).alloc _, (HQ.out.below hb1).below ((Bel.refl _).alloc _).1, ho1.alloc _, hr1.below ((Bel.refl _).alloc _).1, own_bools w1 rows.length w.heap.size (by omega) hb1.size, by omega, by have := hb1.size; omega, fun r hr => by have := (hr1 r hr).1; omega⟩)
  have HO1 := Lib.hid (own_none' (w1.alloc (.cells (madeCells #[Value.bool false] rows.length) 4)) w.heap.size 2 1 (by have := hb1.size; simp; omega))
  have HBd := Lib.hid (show g < w1.heap.size ∧ q < w1.heap.size ∧ w.heap.size ≤ w1.heap.size ∧ ∀ r ∈ rows, r.1 < w1.heap.size from ⟨by omega, by have := hb1.size; omega, hb1.size, fun r hr => (hr1 r hr).1⟩)
  clear ho1 hr1 hb1 HO HQ hg1
  obtain ⟨N, hN⟩ : ∃ N, rows.length = N := ⟨_, rfl⟩
  have HN := Lib.hid hN
  rw [hN] at hmk hrl HM1 HO1 ⊢
  clear hN
  go_wp2_with fail
  obtain ⟨H, hH⟩ : ∃ H, w1.heap.size = H := ⟨_, rfl⟩
  have HO1 := Lib.hid (show ((w1.alloc (.cells (madeCells #[Value.bool false] N) 4)).alloc (.cells #[] 2)).ownsRow w.heap.size 2 1 (.slice (some ⟨w1.heap.size + 1, 0, none⟩) 0 0) 0 [] from by simpa using HO1.out)
  have HM2 := Lib.hid (HM1.out.below ((Bel.refl _).alloc (.cells #[] 2)).1)
  rw [hH] at HM2 HO1 HBd ⊢
  clear HM1 hmk hH HMk
  go_loopw [5, 6] (fun v i wr => ∃ k : Nat, k ≤ N ∧ i = .int .i64 k ∧ ∃ (gO cO cnt : Nat) (xs : List Value) (bs : List Bool), v = .slice (some ⟨gO, 0, none⟩) cnt cO ∧ cnt ≤ k ∧ H < gO ∧ Hid (wr.ownsRow w.heap.size 2 1 (.slice (some ⟨gO, 0, none⟩) cnt cO) cnt xs) ∧ Hid (RMem w wr p q aP p.n cP aS p.m cS op g cg rows H bs)) (fun _ i _ => N - (intOf i).toNat)
  case atStart => exact ⟨0, Nat.zero_le _, rfl, H + 1, 0, 0, [], _, rfl, Nat.le_refl _, by omega, HO1, HM2⟩
  case round =>
    clear HM2 HO1
    obtain ⟨k, hk, rfl, gO, cO, cnt, xs, bs, rfl, hck, hgO, hown, hM⟩ := hrel
    by_cases hlt : k < N
    · have hlt' : (k : Int) < (N : Int) := by omega
      obtain ⟨bit, hb0, hb1, hb2⟩ := hM.out.bit (k := k) (by rw [HN.out]; exact hlt)
      cases bit with
      | true =>
        clear hb0 hb2
        go_wp2_with fail
        go_roundw
        case rel => exact ⟨k + 1, by omega, by go_num, gO, cO, cnt, xs, bs, rfl, by omega, hgO, hown, hM⟩
        case measure => simp [intOf]; omega
      | false =>
        clear hb0 hb2
        go_wp2_with fail
        clear hb1
        go_loopg [7, 8] (bs.count false) (fun c2 sv kv wx => ∃ (S : Int) (kk : Nat) (bs : List Bool), sv = .int .i64 S ∧ kv = .int .i64 (kk : Int) ∧ kk < N ∧ Hid (bs.count false = c2) ∧ Hid (wx.ownsRow w.heap.size 2 1 (.slice (some ⟨gO, 0, none⟩) cnt cO) cnt xs) ∧ Hid (RMem w wx p q aP p.n cP aS p.m cS op g cg rows H bs))
        case atStart => exact ⟨0, k, bs, rfl, rfl, hlt, Lib.hid rfl, hown, hM⟩
        case round =>
          clear hown hM
          obtain ⟨S, kk, bs, rfl, rfl, hkk, hc2, hown, hM⟩ := hrel
          have hkk' : (kk : Int) < (N : Int) := by omega
          obtain ⟨bit, hb0, hb1, hb2⟩ := hM.out.bit (k := kk) (by rw [HN.out]; exact hkk)
          cases bit with
          | true =>
            clear hb0 hb2
            have HBl := Lib.hid hM.out.bel
            go_wp2_with (at_builtin; refine appJ (by rfl) _ _ (by rfl) w.heap.size _ _ _ (by rfl) hown.out S 1 wr.heap.size (by simp) (by rfl) (by omega) hM.out.bel ?_; intro g5 cap5 w5 ho5 hb5 hg5 hat5)
            have HM5 := Lib.hid (hM.out.grown (x := gO) hg5 hb5 ⟨by have := HBd.out.1; omega, hgO, by have := HBd.out.2.1; omega, fun r hr => by have := HBd.out.2.2.2 r hr; omega⟩)
            have hsH := (own_block (b := H) hM.out.seen rfl).2
            have HG5 := Lib.hid (show H < g5 by
              rcases hat5 with h | h
              · have h1 : gO = g5 := (by simpa [Value.ownBlock] using h)
                omega
              · omega)
            have HO5 := Lib.hid ho5
            clear ho5 hb5 hg5 hat5
            go_roundw
            case rel => exact ⟨k + 1, by omega, by go_num, g5, cap5, cnt + 1, _, bs, rfl, by omega, HG5.out, HO5, HM5⟩
            case measure => simp [intOf]; omega
          | false =>
            have hcs := count_set bs kk hb0
            have HM3 := Lib.hid (hM.out.set kk)
            have HO3 := Lib.hid (own_grown_ne hown.out (setCell_grown wr H kk (.bool true)) (fun b hb e => by have h1 : gO = b := (by simpa [Value.ownBlock] using hb); have h2 : H = b := (by simpa using e); omega))
            have hHs := (own_block (b := H) hM.out.seen rfl).2
            go_upto_region 12 with fail
            obtain ⟨W3, hW3⟩ : ∃ W, wr.setCell ⟨H, kk, none⟩ (.bool true) = W := ⟨_, rfl⟩
            rw [hW3] at HM3 HO3 ⊢
            clear hb0 hb1 hb2 hW3 hHs hown hM
            obtain ⟨x, e, r0, r1, r2, hon, hmt⟩ := HM3.out.at_ (k := kk) (by rw [HN.out]; exact hkk)
            obtain ⟨b, off, haP, hbs, hpc⟩ := HPa.out.1.below HM3.out.bel.1
            obtain ⟨_, gE, qE, cE, c4, c5, c6, c7⟩ := hpc e.1 hon.1
            have c8 := c7 e.2 hon.2
            have p0 := HM3.out.box.1
            have hqs := HM3.out.box.2.2.2
            have hgs := (own_block (b := g) HM3.out.row rfl).2
            have hxs : x < W3.heap.size := World.block_lt_of_cell? W3 _ r1
            have i1 : (e.1 : Int) < (p.n : Int) := by have := hon.1; omega
            have i2 : (e.2 : Int) < (p.len e.1 : Int) := by have := hon.2; omega
            have HF3 := Lib.hid (fun X hX => HFo.out e hon hmt X hX)
            obtain ⟨E, hE⟩ : ∃ E, p.turn (e.1, e.2) = E := ⟨_, rfl⟩
            rw [hE] at HF3
            obtain ⟨E1, hE1⟩ : ∃ z : Int, (E.1 : Int) = z := ⟨_, rfl⟩
            obtain ⟨E2, hE2⟩ : ∃ z : Int, (E.2 : Int) = z := ⟨_, rfl⟩
            rw [hE1, hE2] at HF3
            have HK := Lib.hid (fun (X : World) (hX : Below W3.heap.size W3 X) => (show (X.cell? ⟨g, kk, none⟩ = some (.slice (some ⟨x, 0, none⟩) 2 2) ∧ X.cell? ⟨x, 0, none⟩ = some (.int .i64 (e.1 : Int)) ∧ X.cell? ⟨x, 1, none⟩ = some (.int .i64 (e.2 : Int))) from
              ⟨(hX.cell (p := ⟨g, kk, none⟩) hgs).trans r0, (hX.cell (p := ⟨x, 0, none⟩) hxs).trans r1, (hX.cell (p := ⟨x, 1, none⟩) hxs).trans r2⟩))
            rw [haP] at p0
            clear hpc c7 hon hmt hE hE1 hE2
            go_big_quiet (fail)
            go_wp2_with fail
            have HB4 := Lib.hid (show ∀ n, Below W3.heap.size W3 (W3.drewN n) from fun n => below_drewN (Below.refl _ _) n)
            generalize hW4 : W3.drewN _ = W4
            have HB5 := Lib.hid (show Below W3.heap.size W3 W4 by rw [← hW4]; exact HB4.out _)
            clear r0 r1 r2 c4 c5 c6 c8 p0 hW4 HB4
            obtain ⟨k0, k1, k2⟩ := HK.out W4 HB5.out
            go_region_held3 (fun X => X.cell? ⟨g, kk, none⟩ = some (.slice (some ⟨x, 0, none⟩) 2 2) ∧ X.cell? ⟨x, 0, none⟩ = some (.int .i64 (e.1 : Int)) ∧ X.cell? ⟨x, 1, none⟩ = some (.int .i64 (e.2 : Int))) (first | (with_reducible exact hK2) | go_keep)
              ((go_at_call 100; refine (HF3.out W4.drew (HM3.out.bel.step HB5.out.drew).1).mono ?_; rintro e' w6 ⟨rfl, hb6⟩; have HB6 := Lib.hid (show Below W3.heap.size W3 w6 from HB5.out.drew.trans (hb6.mono HB5.out.drew.size)); have hK2 := HK.out w6 HB6.out; clear hb6))
            clear hK2 k0 k1 k2
            have HM6 := Lib.hid (HM3.out.below HB6.out)
            have HO6 := Lib.hid (own_below HO3.out HB6.out)
            go_wp2_with fail
            go_loopw [8, 11] (fun kv jv wy => ∃ (k9 j : Nat), kv = .int .i64 (k9 : Int) ∧ jv = .int .i64 (j : Int) ∧ k9 < N ∧ j ≤ N ∧ Hid (Below w6.heap.size w6 wy)) (fun _ jv _ => N - (intOf jv).toNat)
            case atStart => exact ⟨kk, 0, rfl, rfl, hkk, Nat.zero_le _, Lib.hid (Below.refl _ _)⟩
            case round =>
              obtain ⟨k9, j, rfl, rfl, hk9, hj, hbw⟩ := hrel
              by_cases hjN : j < N
              · obtain ⟨x2, e2, r0, r1, r2, _, _⟩ := (HM6.out.below hbw.out).at_ (k := j) (by rw [HN.out]; exact hjN)
                have hj' : (j : Int) < (N : Int) := by omega
                generalize (e2.1 : Int) = y1 at r1
                generalize (e2.2 : Int) = y2 at r2
                go_wp2_with fail
                all_goals
                  go_roundw
                  case rel => first | exact ⟨k9, j + 1, rfl, by go_num, hk9, by omega, hbw⟩ | exact ⟨j, j + 1, rfl, by go_num, hjN, by omega, hbw⟩
                  case measure => simp [intOf]; omega
              · go_wp2_with fail
                go_roundg ((bs.set kk true).count false)
                case measure => have := hc2.out; omega
                case rel => exact ⟨_, k9, bs.set kk true, rfl, rfl, hk9, Lib.hid rfl, Lib.hid (own_below HO6.out hbw.out), Lib.hid (HM6.out.below hbw.out)⟩
    · go_wp2_with fail
      go_ret
      exact ⟨gO, cO, cnt, rfl, by omega, hM.out.bel.1⟩
end Go.Proofs.YthemlamdchcicaaGreatDoor
