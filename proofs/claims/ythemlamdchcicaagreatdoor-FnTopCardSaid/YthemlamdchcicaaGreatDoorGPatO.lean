/-
  What the search for openings has in memory. The number of openings. No condition of its own.
-/
import Derived.Test.YthemlamdchcicaaGreatDoorGPatH
import Derived.Deep.LoopGhost

namespace Go.Proofs.YthemlamdchcicaaGreatDoor
open Go.ChangeShapes Go.WideShapes Go.ChangeAt Go.RowKit Go.Deep Go.Shelf Go.ChangeMaps

theorem DoneAt.grown {w w' : World} {b : Nat} {done : List Ed} {row : Option Nat} (h : DoneAt w b done) (hg : w.grownBy w' row) (hne : row ≠ some b) : DoneAt w' b done := MapRow.grown h hg hne
theorem DoneAt.made (w : World) : DoneAt (w.alloc (.map #[] 0)) w.heap.size [] := MapRow.made w
theorem PairsAt.look2 {w : World} {b : Nat} {p : Pat} (h : PairsAt w b p p.m) {e : Ed} (he : small e) :
    ∃ (o : Ed) (bb : Bool), (Instr.lookup 120 (.map (some b)) (.agg #[.int .i64 (e.1 : Int), .int .i64 (e.2 : Int)]) true).run Tryz.prog w = .ok (.tuple #[.agg #[.int .i64 (o.1 : Int), .int .i64 (o.2 : Int)], .bool bb]) w ∧ (bb = true ∧ p.mate e = some o ∨ bb = false ∧ p.mate e = none) := by
  have hl := h.look (t := 120) Tryz.underlying120 he
  change _ = Result.ok (match p.mate e with | some o => _ | none => _) _ at hl
  cases hm : p.mate e with
  | none => rw [hm] at hl; exact ⟨(0, 0), false, hl, .inr ⟨rfl, rfl⟩⟩
  | some o => rw [hm] at hl; exact ⟨o, true, hl, .inl ⟨rfl, rfl⟩⟩
theorem DoneAt.look2 {w : World} {b : Nat} {done : List Ed} (h : DoneAt w b done) {e : Ed} (he : small e) :
    (Instr.lookup 122 (.map (some b)) (.agg #[.int .i64 (e.1 : Int), .int .i64 (e.2 : Int)]) false).run Tryz.prog w = .ok (.bool (decide (e ∈ done))) w := h.look Tryz.underlying122 he
theorem DoneAt.store2 {w : World} {b : Nat} {done : List Ed} (h : DoneAt w b done) {e : Ed} (he : small e) (hn : e ∉ done) :
    ∃ w', (Instr.mapUpdate 122 (.map (some b)) (.agg #[.int .i64 (e.1 : Int), .int .i64 (e.2 : Int)]) (.bool true)).run Tryz.prog w = .ok () w' ∧ DoneAt w' b (e :: done) ∧ w.grownBy w' (some b) := by
  obtain ⟨w', h1, h2, h3⟩ := MapRow.store h (t := 122) Tryz.underlying122 he (DoneAt.new hn) (.bool true)
  exact ⟨w', h1, DoneAt.of_store h2, h3⟩
/-- The memory of a search for openings: w: the world at its start; H: above all that lasts. -/
structure OMem (w wr : World) (H : Nat) (p : Pat) (aP : Option Addr) (n cP : Nat) (aS : Option Addr) (m cS : Nat) (op : Int) (bm bd g : Nat) (gO cO cnt : Nat) (outs : List Value) (done : List Ed) : Prop where
  bel : Bel w.heap.size w wr
  box : PBox wr w.heap.size aP n cP aS m cS op
  pairs : PairsAt wr bm p p.m
  don : DoneAt wr bd done
  row : ∀ i, i < (edC p.opens).length → wr.cell? ⟨g, i, none⟩ = (edC p.opens)[i]?
  out : wr.ownsRow w.heap.size 2 1 (.slice (some ⟨gO, 0, none⟩) cnt cO) cnt outs
  lt : w.heap.size < H ∧ bm < H ∧ bd < H ∧ g < H ∧ gO < H
  ge : w.heap.size < bm ∧ w.heap.size < bd ∧ w.heap.size < g ∧ w.heap.size < gO
  ne : bm ≠ bd ∧ g ≠ bd ∧ gO ≠ bd ∧ gO ≠ bm ∧ gO ≠ g
  hs : H ≤ wr.heap.size
section
variable {w wr wr' : World} {H : Nat} {p : Pat} {aP aS : Option Addr} {n cP m cS : Nat} {op : Int} {bm bd g gO cO cnt : Nat} {outs : List Value} {done : List Ed}
theorem PBox.grown {W W' : World} {q n cP m cS b : Nat} {aP aS : Option Addr} {op : Int} (h : PBox W q aP n cP aS m cS op) (hg : W.grownBy W' (some b)) (hne : some b = some q → False) : PBox W' q aP n cP aS m cS op :=
  ⟨(hg.cell_far ⟨q, 0, none⟩ h.2.2.2 (fun e => hne (by have h1 : q = b := (by simpa using e); rw [h1]))).trans h.1, (hg.cell_far ⟨q, 1, none⟩ h.2.2.2 (fun e => hne (by have h1 : q = b := (by simpa using e); rw [h1]))).trans h.2.1, (hg.cell_far ⟨q, 2, none⟩ h.2.2.2 (fun e => hne (by have h1 : q = b := (by simpa using e); rw [h1]))).trans h.2.2.1, Nat.lt_of_lt_of_le h.2.2.2 hg.size⟩
/-- A block that is not in use may turn. -/
theorem OMem.grown {x : Nat} (h : OMem w wr H p aP n cP aS m cS op bm bd g gO cO cnt outs done) (hg : wr.grownBy wr' (some x)) (h1 : x ≠ w.heap.size) (h2 : x ≠ bm) (h3 : x ≠ bd) (h4 : x ≠ g) (h5 : x ≠ gO) (h6 : w.heap.size ≤ x) :
    OMem w wr' H p aP n cP aS m cS op bm bd g gO cO cnt outs done := by
  have hgs : g < wr.heap.size := Nat.lt_of_lt_of_le h.lt.2.2.2.1 h.hs
  exact ⟨h.bel.grown hg (fun k hk => by cases hk; exact h6), h.box.grown hg (fun e => h1 (by simpa using e)), h.pairs.grown hg (fun e => h2 (by simpa using e)), h.don.grown hg (fun e => h3 (by simpa using e)),
    fun i hi => (hg.cell_far ⟨g, i, none⟩ hgs (fun e => h4 (by have h7 : g = x := (by simpa using e); omega))).trans (h.row i hi), own_grown_ne h.out hg (fun b hb e => h5 (by have h7 : gO = b := (by simpa [Value.ownBlock] using hb); have h8 : x = b := (by simpa using e); omega)), h.lt, h.ge, h.ne, Nat.le_trans h.hs hg.size⟩
theorem OMem.below (h : OMem w wr H p aP n cP aS m cS op bm bd g gO cO cnt outs done) (hb : Below wr.heap.size wr wr') : OMem w wr' H p aP n cP aS m cS op bm bd g gO cO cnt outs done := by
  have hgs : g < wr.heap.size := Nat.lt_of_lt_of_le h.lt.2.2.2.1 h.hs
  exact ⟨h.bel.step hb, h.box.below hb, h.pairs.below hb, MapRow.below h.don hb, fun i hi => (hb.cell (p := ⟨g, i, none⟩) hgs).trans (h.row i hi), own_below h.out hb, h.lt, h.ge, h.ne, Nat.le_trans h.hs hb.size⟩
theorem OMem.alloc (h : OMem w wr H p aP n cP aS m cS op bm bd g gO cO cnt outs done) (o : Obj) : OMem w (wr.alloc o) H p aP n cP aS m cS op bm bd g gO cO cnt outs done := h.below ((Bel.refl wr).alloc o).1
theorem OMem.set (h : OMem w wr H p aP n cP aS m cS op bm bd g gO cO cnt outs done) {q : Nat} (hq : H ≤ q) (j : Nat) (u : Value) : OMem w (wr.setCell ⟨q, j, none⟩ u) H p aP n cP aS m cS op bm bd g gO cO cnt outs done := by
  have h1 := h.lt
  exact h.grown (setCell_grown wr q j u) (by omega) (by omega) (by omega) (by omega) (by omega) (by omega)
theorem OMem.store {done' : List Ed} (h : OMem w wr H p aP n cP aS m cS op bm bd g gO cO cnt outs done) (hg : wr.grownBy wr' (some bd)) (hd : DoneAt wr' bd done') : OMem w wr' H p aP n cP aS m cS op bm bd g gO cO cnt outs done' := by
  have hgs : g < wr.heap.size := Nat.lt_of_lt_of_le h.lt.2.2.2.1 h.hs
  have h1 := h.ne
  have h2 := h.ge
  exact ⟨h.bel.grown hg (fun k hk => by cases hk; omega), h.box.grown hg (fun e => by have h3 : bd = w.heap.size := (by simpa using e); omega), h.pairs.grown hg (fun e => by have h3 : bd = bm := (by simpa using e); omega), hd,
    fun i hi => (hg.cell_far ⟨g, i, none⟩ hgs (fun e => by have h7 : g = bd := (by simpa using e); omega)).trans (h.row i hi), own_grown_ne h.out hg (fun b hb e => by have h7 : gO = b := (by simpa [Value.ownBlock] using hb); have h8 : bd = b := (by simpa using e); omega), h.lt, h.ge, h.ne, Nat.le_trans h.hs hg.size⟩
theorem OMem.bound {H' : Nat} (h : OMem w wr H p aP n cP aS m cS op bm bd g gO cO cnt outs done) (h1 : H ≤ H') (h2 : H' ≤ wr.heap.size) : OMem w wr H' p aP n cP aS m cS op bm bd g gO cO cnt outs done :=
  ⟨h.bel, h.box, h.pairs, h.don, h.row, h.out, by have := h.lt; omega, h.ge, h.ne, h2⟩
theorem OMem.app {g5 c5 : Nat} {outs' : List Value} (h : OMem w wr H p aP n cP aS m cS op bm bd g gO cO cnt outs done) (hg : wr.grownBy wr' (some gO)) (hb : Bel w.heap.size w wr') (ho : wr'.ownsRow w.heap.size 2 1 (.slice (some ⟨g5, 0, none⟩) (cnt + 1) c5) (cnt + 1) outs') (hat : g5 = gO ∨ wr.heap.size ≤ g5) :
    OMem w wr' wr'.heap.size p aP n cP aS m cS op bm bd g g5 c5 (cnt + 1) outs' done := by
  have hgs : g < wr.heap.size := Nat.lt_of_lt_of_le h.lt.2.2.2.1 h.hs
  have h1 := h.ne
  have h2 := h.ge
  have h3 := h.lt
  have h4 := h.hs
  have h5 := hg.size
  have h6 := (own_block (b := g5) ho rfl).2
  exact ⟨hb, h.box.grown hg (fun e => by have h3 : gO = w.heap.size := (by simpa using e); omega), h.pairs.grown hg (fun e => by have h3 : gO = bm := (by simpa using e); omega), h.don.grown hg (fun e => by have h3 : gO = bd := (by simpa using e); omega),
    fun i hi => (hg.cell_far ⟨g, i, none⟩ hgs (fun e => by have h7 : g = gO := (by simpa using e); omega)).trans (h.row i hi), ho, by omega, by omega, by omega, Nat.le_refl _⟩
end
end Go.Proofs.YthemlamdchcicaaGreatDoor

namespace Go.Proofs.YthemlamdchcicaaGreatDoor
open Go.ChangeShapes Go.WideShapes Go.ChangeAt Go.RowKit Go.Deep Go.Shelf Go.ChangeMaps

/-- As many openings as there are rings. -/
def RingsEnd (p : Pat) (w : World) (e : Ending) (w' : World) : Prop :=
  ∃ g c, e = .returned (.slice (some ⟨g, 0, none⟩) (p.rings p.opens p.opens.length).1 c) ∧ (p.rings p.opens p.opens.length).1 ≤ p.opens.length ∧ Below w.heap.size w w'
theorem Pat.rings_succ (p : Pat) (os : List Ed) (k : Nat) : p.rings os (k + 1) = (if os.getD k (0, 0) ∈ (p.rings os k).2 then (p.rings os k).1 else (p.rings os k).1 + 1, p.ring (81 - (p.rings os k).2.length) (os.getD k (0, 0)) (p.rings os k).2) := rfl
theorem Pat.rings_le (p : Pat) (os : List Ed) : ∀ k, (p.rings os k).1 ≤ k
  | 0 => Nat.le_refl _
  | k + 1 => by
    have h := Pat.rings_le p os k
    rw [Pat.rings_succ]
    by_cases h2 : os.getD k (0, 0) ∈ (p.rings os k).2
    · simp only [if_pos h2]
      omega
    · simp only [if_neg h2]
      omega
set_option maxRecDepth 100000 in
set_option maxHeartbeats 6400000 in
theorem openings_any (p : Pat) (hp : p.Ok) (aP aS : Option Addr) (cP cS : Nat) (op : Int) (w : World) (h : PatAt w p aP aS) :
    Calls Tryz.prog 33 #[.agg #[.slice aP p.n cP, .slice aS p.m cS, .int .i64 op]] w (RingsEnd p w) := by
  have HP := Lib.hid (PBox.new w aP p.n cP aS p.m cS op)
  have HJ := Lib.hid (fun X (hX : SmsAt X p aS) => joined_any p hp aP aS cP cS op X hX)
  have HO := Lib.hid (fun X (hX : PatAt X p aP aS) => openEdges_any p hp aP aS cP cS op X hX)
  have HL := Lib.hid (fun (e : Ed) (he : p.on e) (X : World) (hX : PcsAt X p aP) => length_any p aP aS cP cS op e he X hX)
  have HN := Lib.hid (fun (e : Ed) (he : p.on e) (X : World) (hX : PcsAt X p aP) => next_ed p aP aS cP cS op e he (hp.len _ he.1).2 X hX)
  have HOk := Lib.hid hp
  have HPa := Lib.hid h
  obtain ⟨n, hn⟩ : ∃ n, p.n = n := ⟨_, rfl⟩
  obtain ⟨m, hm⟩ : ∃ m, p.m = m := ⟨_, rfl⟩
  rw [hn, hm] at HP HJ HO HL HN
  rw [hn, hm]
  obtain ⟨W, hW⟩ : ∃ W, w.alloc (.cells #[.slice aP n cP, .slice aS m cS, .int .i64 op] 41) = W := ⟨_, rfl⟩
  have hWs : W.heap.size = w.heap.size + 1 := by rw [← hW]; simp
  have HB := Lib.hid (show Bel w.heap.size w W by rw [← hW]; exact (Bel.refl w).alloc _)
  have HBx := Lib.hid (show PBox W w.heap.size aP n cP aS m cS op by rw [← hW]; exact HP.out)
  have HW := Lib.hid hW
  have HM := Lib.hid hm
  obtain ⟨p0, p1, p2, p3⟩ := HBx.out
  have hmk := @run_makeMap Tryz.prog
  clear h hp hW HP hn hm
  go_enter Tryz.func33, Tryz.ntmps33
  go_upto_region 1 with fail
  rw [HW.out]
  go_wp2_with fail
  have HB1 := Lib.hid (HB.out.alloc (.cells #[] 2))
  refine (HJ.out _ (HPa.out.2.below HB1.out.1)).mono ?_
  rintro e w2 ⟨rfl, hpr, hb2⟩
  have hs2 : w.heap.size + 3 < w2.heap.size + 1 := by
    have h1 := hpr.lt
    simp at h1
    omega
  obtain ⟨bm, hbm⟩ : ∃ b, (W.alloc (.cells #[] 2)).heap.size + 1 = b := ⟨_, rfl⟩
  have hbm3 : bm = w.heap.size + 3 := by rw [← hbm]; simp; omega
  rw [hbm] at hpr ⊢
  have HPr := Lib.hid hpr
  have HB2 := Lib.hid (HB1.out.step hb2)
  have HBx2 := Lib.hid ((HBx.out.below ((Bel.refl _).alloc _).1).below hb2)
  have HO2 := Lib.hid (own_below (own_none' W w.heap.size 2 1 (by omega)) hb2)
  clear hpr hb2 p0 p1 p2 p3 hbm
  obtain ⟨p0, p1, p2, p3⟩ := HBx2.out
  go_wp2_with fail
  clear hmk
  have HB3 := Lib.hid (HB2.out.alloc (.map #[] 0))
  refine (HO.out _ (HPa.out.below HB3.out.1)).mono ?_
  rintro e w4 ⟨g, cg, rfl, hg1, hg2, hg3, hb4⟩
  have hs4 : w2.heap.size + 1 ≤ g := by simpa using hg1
  have s4 : w2.heap.size + 1 ≤ w4.heap.size := by simpa using hb4.size
  have hbl := HPr.out.lt
  have HM4 := Lib.hid (show OMem w w4 w4.heap.size p aP n cP aS m cS op bm w2.heap.size g W.heap.size 0 0 [] [] from
    ⟨HB3.out.step hb4, (HBx2.out.below ((Bel.refl _).alloc _).1).below hb4, (by have h1 := (HPr.out.below ((Bel.refl _).alloc (.map #[] 0)).1).below hb4; rw [← HM.out] at h1; exact h1), MapRow.below (DoneAt.made w2) hb4, hg3, own_below (own_below HO2.out ((Bel.refl _).alloc _).1) hb4, by omega, by omega, by omega, Nat.le_refl _⟩)
  have HPc := Lib.hid (HPa.out.1)
  have HRk := Lib.hid (show ∀ k, p.rings p.opens k = p.rings p.opens k from fun _ => rfl)
  have hosl : p.opens.length ≤ 80 := by
    have h1 := Pat.edsTo_le HOk.out p.n (Nat.le_refl _)
    have h2 := HOk.out.n2
    have h3 : p.opens.length ≤ (p.edsTo p.n).length := List.length_filter_le _ _
    omega
  obtain ⟨N, hN⟩ : ∃ N, p.opens.length = N := ⟨_, rfl⟩
  have HNo := Lib.hid hN
  obtain ⟨bd, hbd⟩ : ∃ b, w2.heap.size = b := ⟨_, rfl⟩
  obtain ⟨gO, hgO⟩ : ∃ b, w.heap.size + 1 = b := ⟨_, rfl⟩
  obtain ⟨bm', hbm'⟩ : ∃ b, w.heap.size + 3 = b := ⟨_, rfl⟩
  rw [hbd, hWs, hgO, hbm3, hbm'] at HM4
  rw [hN] at hosl ⊢
  rw [hbd, hgO, hbm']
  clear hg1 hg2 hg3 hb4 p0 p1 p2 p3 hbm3 hs2 hs4 s4 hbl HBx2 HO2 HB3 HB2 HPr HB1 HBx HB hN hbd hgO hbm' hWs
  go_wp2_with fail
  go_loopw [3, 19] (fun v i wr => ∃ k : Nat, k ≤ N ∧ i = .int .i64 k ∧ ∃ (gO cO cnt : Nat) (outs : List Value) (done : List Ed), v = .slice (some ⟨gO, 0, none⟩) cnt cO ∧ Hid (p.rings p.opens k = (cnt, done)) ∧ Hid (done.Nodup ∧ ∀ e ∈ done, p.on e) ∧ Hid (OMem w wr wr.heap.size p aP n cP aS m cS op bm' bd g gO cO cnt outs done)) (fun _ i _ => N - (intOf i).toNat)
  case atStart => exact ⟨0, Nat.zero_le _, rfl, gO, 0, 0, [], [], rfl, Lib.hid rfl, Lib.hid (by simp), HM4⟩
  case round =>
    clear HM4 HRk
    obtain ⟨k, hk, rfl, gO, cO, cnt, outs, done, rfl, hrg, hnd, hM⟩ := hrel
    by_cases hlt : k < N
    · obtain ⟨e0, he0⟩ : ∃ e, p.opens.getD k (0, 0) = e := ⟨_, rfl⟩
      have hkl : k < p.opens.length := by rw [HNo.out]; exact hlt
      obtain ⟨c0, c1⟩ := ed_cells hM.out.row hkl
      have hmem : e0 ∈ p.opens := by rw [← he0]; simp [List.getD, List.getElem?_eq_getElem hkl]
      have HE0 := Lib.hid (Pat.opens_on e0 hmem)
      rw [he0] at c0 c1
      obtain ⟨R, hR⟩ : ∃ R, p.ring (81 - done.length) e0 done = R := ⟨_, rfl⟩
      have HR1 := Lib.hid (show p.rings p.opens (k + 1) = (if e0 ∈ done then cnt else cnt + 1, R) by rw [Pat.rings_succ, hrg.out, he0, ← hR])
      have HR := Lib.hid hR
      have hdl := HOk.out.few hnd.out.1 hnd.out.2
      have hlt' : (k : Int) < (N : Int) := by omega
      have hgs : g < wr.heap.size := hM.out.lt.2.2.2.1
      clear he0 hmem hR hkl
      go_wp2_with fail
      clear c0 c1
      have hx2 := Obx.new (wr.alloc (.cells #[.int .i64 (e0.1 : Int), .int .i64 (e0.2 : Int)] 126)) wr.heap.size 126 2 #[.int .i64 (e0.1 : Int), .int .i64 (e0.2 : Int)] (by simp) rfl
      have HX2 := Lib.hid (show Obx ((wr.alloc (.cells #[.int .i64 (e0.1 : Int), .int .i64 (e0.2 : Int)] 126)).alloc (.cells #[.int .i64 (e0.1 : Int), .int .i64 (e0.2 : Int)] 126)) wr.heap.size (wr.heap.size + 1) 126 2 [.int .i64 (e0.1 : Int), .int .i64 (e0.2 : Int)] from by simpa using hx2)
      have HM2 := Lib.hid ((hM.out.alloc (.cells #[.int .i64 (e0.1 : Int), .int .i64 (e0.2 : Int)] 126)).alloc (.cells #[.int .i64 (e0.1 : Int), .int .i64 (e0.2 : Int)] 126))
      clear hx2
      obtain ⟨H1, hH1⟩ : ∃ H, wr.heap.size = H := ⟨_, rfl⟩
      rw [hH1] at HX2 HM2 ⊢
      clear hgs hM hH1
      go_loopg [8, 9] (81 - done.length) (fun k2 s pe wx => ∃ (S : Int) (q9 : Nat) (e : Ed) (dn : List Ed), s = .int .i64 S ∧ pe = .pointer (some ⟨q9, 0, none⟩) ∧ k2 + dn.length = 81 ∧ 0 ≤ S ∧ S ≤ 10000 * dn.length ∧ Hid (H1 ≤ q9) ∧ Hid (Obx wx H1 q9 126 2 [.int .i64 (e.1 : Int), .int .i64 (e.2 : Int)]) ∧ Hid (OMem w wx H1 p aP n cP aS m cS op bm' bd g gO cO cnt outs dn) ∧ Hid (p.on e ∧ p.mate e = none) ∧ Hid (dn.Nodup ∧ ∀ x ∈ dn, p.on x) ∧ Hid (p.ring k2 e dn = R) ∧ Hid ((dn = done ∧ e = e0 ∧ S = 0) ∨ (e0 ∉ done ∧ 1 ≤ S)))
      case atStart => exact ⟨0, H1 + 1, e0, done, rfl, rfl, by omega, by omega, by omega, Lib.hid (by omega), HX2, HM2, HE0, hnd, HR, Lib.hid (.inl ⟨rfl, rfl, rfl⟩)⟩
      case round =>
        clear HX2 HM2 HR
        obtain ⟨S, q9, e, dn, rfl, rfl, hk2, hS0, hS1, hq9, hX, hM, hE, hnd2, hR, hor⟩ := hrel
        obtain ⟨hon, hmt⟩ := hE.out
        have hsm := HOk.out.small hon
        have hlk := hM.out.don.look2 hsm
        have b0 : wr.cell? ⟨q9, 0, none⟩ = some (.int .i64 (e.1 : Int)) := hX.out.cell 0 (by omega)
        have b1 : wr.cell? ⟨q9, 1, none⟩ = some (.int .i64 (e.2 : Int)) := hX.out.cell 1 (by omega)
        have hq9s := hX.out.lt.2
        have hdl2 := HOk.out.few hnd2.out.1 hnd2.out.2
        by_cases hin : e ∈ dn
        · rw [decide_eq_true hin] at hlk
          have HF := Lib.hid (show R = dn ∧ (e0 ∈ done → S = 0) ∧ (e0 ∉ done → 1 ≤ S) by
            refine ⟨by rw [← hR.out, Pat.ring_stop hin], ?_, ?_⟩
            · intro h1
              rcases hor.out with h | h
              · exact h.2.2
              · exact absurd h1 h.1
            · intro h1
              rcases hor.out with ⟨rfl, rfl, _⟩ | h
              · exact absurd hin h1
              · exact h.2)
          clear hin hmt hon
          have HM9 := Lib.hid (hM.out.bound hM.out.hs (Nat.le_refl _))
          by_cases hf : e0 ∈ done
          · have hS : S = 0 := HF.out.2.1 hf
            subst hS
            go_wp2_with fail
            go_roundw
            case rel => exact ⟨k + 1, by omega, by go_num, gO, cO, cnt, outs, dn, rfl, Lib.hid (by rw [HR1.out, if_pos hf, HF.out.1]), hnd2, HM9⟩
            case measure => simp [intOf]; omega
          · have hS : 0 < S := by have := HF.out.2.2 hf; omega
            go_wp2_with (at_builtin; refine appJ (by rfl) _ _ (by rfl) w.heap.size _ _ _ (by rfl) hM.out.out S 1 wr.heap.size (by simp) (by rfl) (by have h1 := Pat.rings_le p p.opens k; rw [hrg.out] at h1; have h2 : cnt ≤ k := h1; omega) hM.out.bel ?_; intro g5 cap5 w5 ho5 hb5 hg5 hat5)
            have HM5 := Lib.hid (hM.out.app hg5 hb5 ho5 (by
              rcases hat5 with h | h
              · have h1 : gO = g5 := (by simpa [Value.ownBlock] using h)
                exact .inl h1.symm
              · exact .inr h))
            clear ho5 hb5 hg5 hat5
            go_roundw
            case rel => exact ⟨k + 1, by omega, by go_num, g5, cap5, cnt + 1, _, dn, rfl, Lib.hid (by rw [HR1.out, if_neg hf, HF.out.1]), hnd2, HM5⟩
            case measure => simp [intOf]; omega
        · rw [decide_eq_false hin] at hlk
          obtain ⟨w5, hst, hd5, hg5⟩ := hM.out.don.store2 hsm hin
          have HM5 := Lib.hid (hM.out.store hg5 hd5)
          have hlt1 := hM.out.lt
          have hne9 : bd ≠ q9 := by have := hq9.out; omega
          have HX5 := Lib.hid (hX.out.grown hg5 (fun e => hne9 (by simpa using e)))
          have HND := Lib.hid (show (e :: dn).Nodup ∧ ∀ x ∈ e :: dn, p.on x from ⟨List.nodup_cons.2 ⟨hin, hnd2.out.1⟩, fun x hx => by
            rcases List.mem_cons.1 hx with rfl | hx
            · exact hon
            · exact hnd2.out.2 x hx⟩)
          have hdl3 : dn.length + 1 ≤ 80 := HOk.out.few HND.out.1 HND.out.2
          obtain ⟨k3, rfl⟩ : ∃ k, gk = k + 1 := ⟨gk - 1, by omega⟩
          have HR5 := Lib.hid (show p.ring k3 (p.turn e) (e :: dn) = R by rw [← hR.out, Pat.ring_step hin])
          have HOr := Lib.hid (show e0 ∉ done by
            rcases hor.out with ⟨rfl, rfl, _⟩ | h
            · exact hin
            · exact h.1)
          have HEnd := Lib.hid (show p.mate (p.turn e) = none from HOk.out.fol_ends hon hmt)
          have HTn := Lib.hid (show p.turn e = p.fol 80 (p.nxt e) from rfl)
          have HLe := Lib.hid (fun X (hX : PcsAt X p aP) => HL.out e hon X hX)
          have HNe := Lib.hid (fun X (hX : PcsAt X p aP) => HN.out e hon X hX)
          have hval := HOk.out.val e.1 e.2 hon.1 hon.2
          have HOn3 := Lib.hid (Pat.nxt_on hon)
          unfold edV at HLe HNe
          obtain ⟨z, hz⟩ : ∃ z, p.val e.1 e.2 = z := ⟨_, rfl⟩
          obtain ⟨e3, he3⟩ : ∃ e', p.nxt e = e' := ⟨_, rfl⟩
          rw [hz] at HLe hval
          rw [he3] at HNe HTn HOn3
          obtain ⟨E, hEE⟩ : ∃ E, p.turn e = E := ⟨_, rfl⟩
          rw [hEE] at HEnd HTn HR5
          have hwr : IntKind.i64.wrap (S + z) = S + z := IntWalk.i64_in _ (by omega)
          have q0 := HM5.out.box.1
          have q1 := HM5.out.box.2.1
          have q2 := HM5.out.box.2.2.1
          have q3 := HM5.out.box.2.2.2
          have d0 : w5.cell? ⟨q9, 0, none⟩ = some (.int .i64 (e.1 : Int)) := HX5.out.cell 0 (by omega)
          have d1 : w5.cell? ⟨q9, 1, none⟩ = some (.int .i64 (e.2 : Int)) := HX5.out.cell 1 (by omega)
          clear hz he3 hEE hin hor hR hd5 hg5 hlt1 hon hmt
          go_wp2_with fail
          refine (HLe.out w5 (HPc.out.below HM5.out.bel.1)).mono ?_
          rintro e' w6 ⟨rfl, hb6⟩
          have HM6 := Lib.hid (HM5.out.below hb6)
          have HX6 := Lib.hid (HX5.out.below hb6)
          clear hb6 q0 q1 q2 q3 d0 d1 hst hlk b0 b1 hq9s
          have q0 := HM6.out.box.1
          have q1 := HM6.out.box.2.1
          have q2 := HM6.out.box.2.2.1
          have q3 := HM6.out.box.2.2.2
          have d0 : w6.cell? ⟨q9, 0, none⟩ = some (.int .i64 (e.1 : Int)) := HX6.out.cell 0 (by omega)
          have d1 : w6.cell? ⟨q9, 1, none⟩ = some (.int .i64 (e.2 : Int)) := HX6.out.cell 1 (by omega)
          go_wp2_with fail
          refine (HNe.out w6 (HPc.out.below HM6.out.bel.1)).mono ?_
          rintro e' w7 ⟨rfl, hb7⟩
          have HM7 := Lib.hid (HM6.out.below hb7)
          have HX7 := Lib.hid (HX6.out.below hb7)
          clear hb7 q0 q1 q2 q3 d0 d1
          have d0 : w7.cell? ⟨q9, 0, none⟩ = some (.int .i64 (e.1 : Int)) := HX7.out.cell 0 (by omega)
          have d1 : w7.cell? ⟨q9, 1, none⟩ = some (.int .i64 (e.2 : Int)) := HX7.out.cell 1 (by omega)
          have f0 := HX7.out.fr 0
          have f1 := HX7.out.fr 1
          have z7 := HX7.out.lt.2
          have HM8 := Lib.hid ((HM7.out.set hq9.out 0 (.int .i64 (e3.1 : Int))).set hq9.out 1 (.int .i64 (e3.2 : Int)))
          have HX8 := Lib.hid (HX7.out.set2 (u := .int .i64 (e3.1 : Int)) (v := .int .i64 (e3.2 : Int)))
          have g0 := HX8.out.cell 0 (by omega)
          have g1 := HX8.out.cell 1 (by omega)
          obtain ⟨o3, bb, hl8, hm8⟩ := HM8.out.pairs.look2 (HOk.out.small HOn3.out)
          have HMt := Lib.hid hm8
          clear hm8
          go_wp2_with fail
          clear hl8 g0 g1 d0 d1 f0 f1 hwr
          obtain ⟨w8, hw8⟩ : ∃ W, (w7.setCell ⟨q9, 0, none⟩ (.int .i64 (e3.1 : Int))).setCell ⟨q9, 1, none⟩ (.int .i64 (e3.2 : Int)) = W := ⟨_, rfl⟩
          have hs8 : w8.heap.size = w7.heap.size := by rw [← hw8]; simp [World.setCell]
          rw [hw8] at HM8 HX8 ⊢
          have HM9 := Lib.hid (HM8.out.alloc (.cells #[.int .i64 (o3.1 : Int), .int .i64 (o3.2 : Int)] 126))
          have HX9 := Lib.hid (HX8.out.alloc (.cells #[.int .i64 (o3.1 : Int), .int .i64 (o3.2 : Int)] 126))
          have HQ9 := Lib.hid (show Obx (w8.alloc (.cells #[.int .i64 (o3.1 : Int), .int .i64 (o3.2 : Int)] 126)) H1 w7.heap.size 126 2 [.int .i64 (o3.1 : Int), .int .i64 (o3.2 : Int)] by
            rw [← hs8]
            exact Obx.new w8 H1 126 2 #[.int .i64 (o3.1 : Int), .int .i64 (o3.2 : Int)] HM8.out.hs rfl)
          have HH7 := Lib.hid (show H1 ≤ w7.heap.size from HM7.out.hs)
          clear hw8 hs8 HM5 HM6 HM7 HX5 HX6 HX7 HM8 HX8 hM hX
          go_loopg [10, 11] 80 (fun f p10 b wy => ∃ (q10 : Nat) (e4 o4 : Ed) (b4 : Bool), p10 = .pointer (some ⟨q10, 0, none⟩) ∧ b = .bool b4 ∧ Hid (b4 = true ∧ p.mate e4 = some o4 ∨ b4 = false ∧ p.mate e4 = none) ∧ Hid (H1 ≤ q10) ∧ Hid (q9 ≠ q10) ∧ Hid (Obx wy H1 q9 126 2 [.int .i64 (e4.1 : Int), .int .i64 (e4.2 : Int)]) ∧ Hid (Obx wy H1 q10 126 2 [.int .i64 (o4.1 : Int), .int .i64 (o4.2 : Int)]) ∧ Hid (OMem w wy H1 p aP n cP aS m cS op bm' bd g gO cO cnt outs (e :: dn)) ∧ Hid (p.on e4) ∧ Hid (p.fol f e4 = E))
          case atStart => exact ⟨w7.heap.size, e3, o3, bb, rfl, rfl, HMt, HH7, Lib.hid (by omega), HX9, HQ9, HM9, HOn3, Lib.hid HTn.out.symm⟩
          case round =>
            clear HM9 HX9 HQ9 HH7 z7 HMt HOn3
            obtain ⟨q10, e4, o4, b4, rfl, rfl, hmt, hq10, hne, hX, hQ, hM, hon4, hfol⟩ := hrel
            have d0 : wr.cell? ⟨q9, 0, none⟩ = some (.int .i64 (e4.1 : Int)) := hX.out.cell 0 (by omega)
            have d1 : wr.cell? ⟨q9, 1, none⟩ = some (.int .i64 (e4.2 : Int)) := hX.out.cell 1 (by omega)
            cases b4 with
            | false =>
              have hm4 : p.mate e4 = none := by
                rcases hmt.out with h | h
                · exact absurd h.1 (by simp)
                · exact h.2
              have HEq := Lib.hid (show e4 = E by rw [← hfol.out, Pat.fol_open hm4])
              have HM10 := Lib.hid (hM.out.alloc (.cells #[.int .i64 (e4.1 : Int), .int .i64 (e4.2 : Int)] 126))
              have HX10 := Lib.hid (Obx.new wr H1 126 2 #[.int .i64 (e4.1 : Int), .int .i64 (e4.2 : Int)] hM.out.hs rfl)
              have HE10 := Lib.hid (And.intro hon4.out hm4)
              have HS10 := Lib.hid hM.out.hs
              clear hm4
              go_wp2_with fail
              go_roundg k3
              case measure => omega
              case rel => exact ⟨S + z, wr.heap.size, e4, e :: dn, rfl, rfl, by simp; omega, by omega, by simp; omega, HS10, HX10, HM10, HE10, HND, Lib.hid (by rw [HEq.out]; exact HR5.out), Lib.hid (.inr ⟨HOr.out, by omega⟩)⟩
            | true =>
              have hm4 : p.mate e4 = some o4 := by
                rcases hmt.out with h | h
                · exact h.2
                · exact absurd h.1 (by simp)
              cases gk with
              | zero =>
                have h1 : e4 = E := hfol.out
                rw [h1, HEnd.out] at hm4
                cases hm4
              | succ f =>
                have HFo := Lib.hid (show p.fol f (p.nxt o4) = E by rw [← hfol.out, Pat.fol_step hm4])
                have hoo := (HOk.out.mate_on hm4).2
                have HNo4 := Lib.hid (fun X (hX : PcsAt X p aP) => HN.out o4 hoo X hX)
                have HOn5 := Lib.hid (Pat.nxt_on hoo)
                unfold edV at HNo4
                obtain ⟨e5, he5⟩ : ∃ e', p.nxt o4 = e' := ⟨_, rfl⟩
                rw [he5] at HNo4 HFo HOn5
                have c0 : wr.cell? ⟨q10, 0, none⟩ = some (.int .i64 (o4.1 : Int)) := hQ.out.cell 0 (by omega)
                have c1 : wr.cell? ⟨q10, 1, none⟩ = some (.int .i64 (o4.2 : Int)) := hQ.out.cell 1 (by omega)
                have q0 := hM.out.box.1
                have q1 := hM.out.box.2.1
                have q2 := hM.out.box.2.2.1
                have q3 := hM.out.box.2.2.2
                clear hm4 hoo he5
                go_wp2_with fail
                refine (HNo4.out wr (HPc.out.below hM.out.bel.1)).mono ?_
                rintro e' w6 ⟨rfl, hb6⟩
                have HM6 := Lib.hid (hM.out.below hb6)
                have HX6 := Lib.hid (hX.out.below hb6)
                have HQ6 := Lib.hid (hQ.out.below hb6)
                clear hb6 q0 q1 q2 q3 d0 d1 c0 c1
                have d0 : w6.cell? ⟨q9, 0, none⟩ = some (.int .i64 (e4.1 : Int)) := HX6.out.cell 0 (by omega)
                have d1 : w6.cell? ⟨q9, 1, none⟩ = some (.int .i64 (e4.2 : Int)) := HX6.out.cell 1 (by omega)
                have f0 := HX6.out.fr 0
                have f1 := HX6.out.fr 1
                have z6 := HX6.out.lt.2
                have z10 := HQ6.out.lt.2
                have HM8 := Lib.hid ((HM6.out.set hq9.out 0 (.int .i64 (e5.1 : Int))).set hq9.out 1 (.int .i64 (e5.2 : Int)))
                have HX8 := Lib.hid (HX6.out.set2 (u := .int .i64 (e5.1 : Int)) (v := .int .i64 (e5.2 : Int)))
                have HQ8 := Lib.hid ((HQ6.out.setOther (q' := q9) 0 (.int .i64 (e5.1 : Int)) hne.out).setOther (q' := q9) 1 (.int .i64 (e5.2 : Int)) hne.out)
                have g0 : ((w6.setCell ⟨q9, 0, none⟩ (.int .i64 (e5.1 : Int))).setCell ⟨q9, 1, none⟩ (.int .i64 (e5.2 : Int))).cell? ⟨q10, 0, none⟩ = some (.int .i64 (o4.1 : Int)) := HQ8.out.cell 0 (by omega)
                have g1 : ((w6.setCell ⟨q9, 0, none⟩ (.int .i64 (e5.1 : Int))).setCell ⟨q9, 1, none⟩ (.int .i64 (e5.2 : Int))).cell? ⟨q10, 1, none⟩ = some (.int .i64 (o4.2 : Int)) := HQ8.out.cell 1 (by omega)
                go_upto_region 15 with fail
                clear d0 d1 f0 f1 z6 z10
                obtain ⟨w8, hw8⟩ : ∃ W, (w6.setCell ⟨q9, 0, none⟩ (.int .i64 (e5.1 : Int))).setCell ⟨q9, 1, none⟩ (.int .i64 (e5.2 : Int)) = W := ⟨_, rfl⟩
                rw [hw8] at HM8 HX8 HQ8 g0 g1 ⊢
                clear hw8 HM6 HX6 HQ6 hM hX hQ
                go_upto_region 13 with fail
                clear g0 g1
                have HS8 := Lib.hid (show H1 ≤ w8.heap.size from HM8.out.hs)
                have HM9 := Lib.hid (HM8.out.alloc (.cells #[.int .i64 (o4.1 : Int), .int .i64 (o4.2 : Int)] 126))
                have HX9 := Lib.hid (HX8.out.alloc (.cells #[.int .i64 (o4.1 : Int), .int .i64 (o4.2 : Int)] 126))
                have HQ9 := Lib.hid (Obx.new w8 H1 126 2 #[.int .i64 (o4.1 : Int), .int .i64 (o4.2 : Int)] HM8.out.hs rfl)
                have hq8 := HX8.out.lt.2
                obtain ⟨w9, hw9⟩ : ∃ W, w8.alloc (.cells #[.int .i64 (o4.1 : Int), .int .i64 (o4.2 : Int)] 126) = W := ⟨_, rfl⟩
                rw [hw9] at HM9 HX9 HQ9 ⊢
                obtain ⟨q8, hq8e⟩ : ∃ q, w8.heap.size = q := ⟨_, rfl⟩
                rw [hq8e] at HQ9 HS8 hq8 ⊢
                obtain ⟨o5, b5, hl9, hm9⟩ := HM9.out.pairs.look2 (HOk.out.small HOn5.out)
                have HMt5 := Lib.hid hm9
                have d0 : w9.cell? ⟨q9, 0, none⟩ = some (.int .i64 (e5.1 : Int)) := HX9.out.cell 0 (by omega)
                have d1 : w9.cell? ⟨q9, 1, none⟩ = some (.int .i64 (e5.2 : Int)) := HX9.out.cell 1 (by omega)
                have c0 : w9.cell? ⟨q8, 0, none⟩ = some (.int .i64 (o4.1 : Int)) := HQ9.out.cell 0 (by omega)
                have c1 : w9.cell? ⟨q8, 1, none⟩ = some (.int .i64 (o4.2 : Int)) := HQ9.out.cell 1 (by omega)
                have f0 := HQ9.out.fr 0
                have f1 := HQ9.out.fr 1
                have z8 := HQ9.out.lt.2
                have HNe := Lib.hid (show q9 ≠ q8 by omega)
                clear hw9 hq8e hm9 hq8
                go_wp2_with fail
                have HM11 := Lib.hid ((HM9.out.set HS8.out 0 (.int .i64 (o5.1 : Int))).set HS8.out 1 (.int .i64 (o5.2 : Int)))
                have HQ11 := Lib.hid (HQ9.out.set2 (u := .int .i64 (o5.1 : Int)) (v := .int .i64 (o5.2 : Int)))
                have HX11 := Lib.hid ((HX9.out.setOther (q' := q8) 0 (.int .i64 (o5.1 : Int)) (fun e => HNe.out e.symm)).setOther (q' := q8) 1 (.int .i64 (o5.2 : Int)) (fun e => HNe.out e.symm))
                clear d0 d1 c0 c1 f0 f1 hl9
                go_roundg f
                case measure => omega
                case rel => exact ⟨q8, e5, o5, b5, rfl, rfl, HMt5, HS8, HNe, HX11, HQ11, HM11, HOn5, HFo⟩
    · obtain rfl : k = N := by omega
      have HF := Lib.hid (show (p.rings p.opens p.opens.length).1 = cnt by rw [HNo.out, hrg.out])
      have HB9 := Lib.hid hM.out.bel.1
      clear hM
      go_wp2
      go_ret
      exact ⟨gO, cO, by rw [HF.out]; rfl, Pat.rings_le _ _ _, HB9.out⟩
end Go.Proofs.YthemlamdchcicaaGreatDoor
