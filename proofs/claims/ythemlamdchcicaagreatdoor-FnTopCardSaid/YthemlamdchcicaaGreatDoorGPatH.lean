/-
  All edges of a pattern. The open edges: a search and a deletion over edges. A deletion of edges; the open edges. The open edges of a pattern. No condition of its own.
-/
import Derived.Test.YthemlamdchcicaaGreatDoorGPatD
import Derived.Test.YthemlamdchcicaaGreatDoorGBox
import Derived.Lib.SliceRun

namespace Go.Proofs.YthemlamdchcicaaGreatDoor
open Go.ChangeShapes Go.WideShapes Go.ChangeAt Go.RowKit Go.Deep Go.Shelf Go.ChangeMaps

theorem infoedge : (Tryz.prog.info? 126).map (fun i => (i.zero, i.size, i.bytes)) = some (some (.agg #[.int .i64 0, .int .i64 0]), 2, 16) := by kernel_rfl
set_option maxHeartbeats 800000 in
theorem appedge {w0 W : World} {ops : Array Oper} {rest : List Oper} {o : Oper} {a : Act} {Q : Exit → Act → World → Prop} (hgd : o.guard = none) (s x : Operand)
    (ho : o.op = .call { callee := .builtin .append, args := #[s, x], argTypes := #[123, 123] }) (B : Nat) (v : Value) (n : Nat) (xs : List Value) (hs : a.eval s = v) (hown : W.ownsRow B 126 2 v n xs)
    (x0 x1 : Int) (c H : Nat) (hH : W.heap.size = H) (hx : a.eval x = .slice (some ⟨H, 0, none⟩) 1 c) (hn : n ≤ 1099511627776) (hb : Bel B w0 W)
    (h : ∀ g cap w', w'.ownsRow B 126 2 (.slice (some ⟨g, 0, none⟩) (n + 1) cap) (n + 1) (xs ++ [.int .i64 x0, .int .i64 x1]) → Bel B w0 w' → W.grownBy w' v.ownBlock → (v.ownBlock = some g ∨ W.heap.size ≤ g) → wpList Tryz.prog ops Q rest (a.put o.dst (.slice (some ⟨g, 0, none⟩) (n + 1) cap)) w') :
    wpList Tryz.prog ops Q (o :: rest) a (W.alloc (.cells #[.int .i64 x0, .int .i64 x1] 126)) := by
  subst hH
  obtain ⟨i, hi, h0, h1, h2⟩ := info_parts infoedge
  refine wpList_append_lies _ hgd s x 123 ho B 126 i (.agg #[.int .i64 0, .int .i64 0]) 2 16 Tryz.underlying123 hi h0 h1 h2 rfl (by omega) v n xs hs (hown.alloc _) ⟨W.heap.size, 0, none⟩ 1 c [.int .i64 x0, .int .i64 x1] hx rfl ?_ ?_ (by omega) (by unfold maxLen; omega) (by omega) (by have := hb.2; simp; omega) _ rfl ?_
  · intro j u hj
    match j, hj with
    | 0, hj => simp at hj; subst hj; simp [Addr.add]
    | 1, hj => simp at hj; subst hj; simp [Addr.add]
  · intro u hu
    simp only [List.mem_cons, List.not_mem_nil, or_false] at hu
    rcases hu with rfl | rfl <;> rfl
  · intro g cap w' h3 h4 h5 _
    refine h g cap w' h3 ((hb.alloc _).grown h4 (fun k hk => (own_block hown hk).1)) ?_ ?_
    · exact ⟨h4.os, h4.tape, h4.output, Nat.le_trans (by simp) h4.size, fun i hi hne => (h4.block i (by simp; omega) hne).trans ((World.grownBy_alloc W _ none).block i hi (by simp))⟩
    · rcases h5 with h5 | h5
      · exact .inl h5
      · exact .inr (by rw [h5]; simp)


def edC (l : List Ed) : List Value := l.flatMap fun e => [.int .i64 (e.1 : Int), .int .i64 (e.2 : Int)]
theorem edC_app (l : List Ed) (e : Ed) : edC (l ++ [e]) = edC l ++ [.int .i64 (e.1 : Int), .int .i64 (e.2 : Int)] := by simp [edC]
theorem edC_length (l : List Ed) : (edC l).length = l.length * 2 := by
  induction l with
  | nil => rfl
  | cons e l ih => simp only [edC, List.flatMap_cons, List.length_append, List.length_cons, List.length_nil] at ih ⊢; omega
theorem edC_at (l : List Ed) : ∀ (k : Nat), k < l.length → (edC l)[k * 2]? = some (.int .i64 ((l.getD k (0, 0)).1 : Int)) ∧ (edC l)[k * 2 + 1]? = some (.int .i64 ((l.getD k (0, 0)).2 : Int)) := by
  induction l with
  | nil => intro k hk; exact absurd hk (Nat.not_lt_zero _)
  | cons e l ih =>
    intro k hk
    cases k with
    | zero => exact ⟨rfl, rfl⟩
    | succ k =>
      have h := ih k (by simpa using hk)
      have e1 : (k + 1) * 2 = k * 2 + 2 := by omega
      rw [e1]
      exact h
def Pat.edsTo (p : Pat) (i : Nat) : List Ed := (List.range i).flatMap fun x => (List.range (p.len x)).map fun y => (x, y)
theorem Pat.edsTo_succ (p : Pat) (i : Nat) : p.edsTo (i + 1) = p.edsTo i ++ (List.range (p.len i)).map fun y => (i, y) := by simp [Pat.edsTo, List.range_succ]
theorem Pat.edsTo_le {p : Pat} (h : p.Ok) : ∀ i, i ≤ p.n → (p.edsTo i).length ≤ 8 * i
  | 0, _ => by simp [Pat.edsTo]
  | i + 1, hi => by
    have h1 := Pat.edsTo_le h i (by omega)
    have h2 := (h.len i (by omega)).2
    rw [Pat.edsTo_succ, List.length_append, List.length_map, List.length_range]
    omega
set_option maxRecDepth 100000 in
set_option maxHeartbeats 6400000 in
theorem edges_any (p : Pat) (hp : p.Ok) (aP aS : Option Addr) (cP cS : Nat) (op : Int) (w : World) (h : PcsAt w p aP) :
    Calls Tryz.prog 105 #[.agg #[.slice aP p.n cP, .slice aS p.m cS, .int .i64 op]] w (OwnRow w 126 2 (p.edsTo p.n).length (edC (p.edsTo p.n))) := by
  have HPa := Lib.hid h
  obtain ⟨b, off, rfl, hb, _⟩ := h
  have HOk := Lib.hid hp
  have hn2 := hp.n2
  obtain ⟨n, hnn⟩ : ∃ n, p.n = n := ⟨_, rfl⟩
  have HN := Lib.hid hnn
  rw [hnn] at hn2 ⊢
  obtain ⟨m, hmm⟩ : ∃ m, p.m = m := ⟨_, rfl⟩
  rw [hmm]
  have hO := own_none' (w.alloc (.cells #[.slice (some ⟨b, off, none⟩) n cP, .slice aS m cS, .int .i64 op] 41)) w.heap.size 126 2 (by simp)
  have HO := Lib.hid hO
  clear hp hmm hnn hO
  go_enter Tryz.func105, Tryz.ntmps105
  go_wp2_with fail
  go_loopw [3, 11] (fun v i wr => ∃ k : Nat, k ≤ n ∧ i = .int .i64 k ∧ ∃ g c, v = .slice (some ⟨g, 0, none⟩) (p.edsTo k).length c ∧ Hid (wr.ownsRow w.heap.size 126 2 (.slice (some ⟨g, 0, none⟩) (p.edsTo k).length c) (p.edsTo k).length (edC (p.edsTo k))) ∧ Hid (Bel w.heap.size w wr)) (fun _ i _ => n - (intOf i).toNat)
  case atStart => exact ⟨0, Nat.zero_le _, rfl, _, 0, rfl, Lib.hid (by simpa [Pat.edsTo, edC] using HO.out), Lib.hid (((Bel.refl w).alloc _).alloc _)⟩
  case round =>
    clear HO
    obtain ⟨k, hk, rfl, g, c, rfl, hown, hbw⟩ := hrel
    by_cases hlt : k < n
    · obtain ⟨s0, a, cc, s1, _⟩ := (HPa.out.below hbw.out.1).piece (i := k) (by rw [HN.out]; exact hlt)
      have hle := Pat.edsTo_le HOk.out k (by rw [HN.out]; omega)
      have hlen := HOk.out.len k (by rw [HN.out]; exact hlt)
      obtain ⟨L, hL⟩ : ∃ L, p.len k = L := ⟨_, rfl⟩
      have HL := Lib.hid hL
      rw [hL] at s1 hlen
      obtain ⟨es, hes⟩ : ∃ es, p.edsTo k = es := ⟨_, rfl⟩
      have HE := Lib.hid hes
      rw [hes] at hown hle ⊢
      generalize p.name k = nm at s0
      have hlt' : (k : Int) < (n : Int) := by omega
      clear hL hes
      go_wp2_with fail
      have HB0 := Lib.hid (show Bel w.heap.size w (wr.alloc (.cells #[.string nm, .slice a L cc] 107)) from hbw.out.alloc _)
      have HO0 := Lib.hid (show (wr.alloc (.cells #[.string nm, .slice a L cc] 107)).ownsRow w.heap.size 126 2 (.slice (some ⟨g, 0, none⟩) es.length c) es.length (edC es) from hown.out.alloc _)
      go_loopw [3, 19] (fun v j wx => ∃ y : Nat, y ≤ L ∧ j = .int .i64 y ∧ ∃ g' c', v = .slice (some ⟨g', 0, none⟩) (es.length + y) c' ∧ Hid (wx.ownsRow w.heap.size 126 2 (.slice (some ⟨g', 0, none⟩) (es.length + y) c') (es.length + y) (edC (es ++ (List.range y).map fun y => (k, y)))) ∧ Hid (Bel w.heap.size w wx)) (fun _ j _ => L - (intOf j).toNat)
      case atStart => exact ⟨0, Nat.zero_le _, rfl, g, c, rfl, Lib.hid (by simpa using HO0.out), HB0⟩
      case round =>
        clear s0 s1 HB0 HO0 hown hbw
        obtain ⟨y, hy, rfl, g', c', rfl, hown, hbw⟩ := hrel
        by_cases hly : y < L
        · go_wp2_with (at_builtin; refine appedge (by rfl) _ _ (by rfl) w.heap.size _ _ _ (by rfl) hown.out (k : Int) (y : Int) 1 wr.heap.size (by simp) (by rfl) (by omega) hbw.out ?_; intro g5 cap5 w5 ho5 hb5 hg5 hat5)
          have HO5 := Lib.hid (show w5.ownsRow w.heap.size 126 2 (.slice (some ⟨g5, 0, none⟩) (es.length + (y + 1)) cap5) (es.length + (y + 1)) (edC (es ++ (List.range (y + 1)).map fun y => (k, y))) by
            rw [List.range_succ, List.map_append, ← List.append_assoc]
            show w5.ownsRow w.heap.size 126 2 (.slice (some ⟨g5, 0, none⟩) (es.length + y + 1) cap5) (es.length + y + 1) (edC ((es ++ (List.range y).map fun y => (k, y)) ++ [(k, y)]))
            rw [edC_app]
            exact ho5)
          have HB5 := Lib.hid hb5
          clear ho5 hb5 hg5 hat5
          go_roundw
          case rel => exact ⟨y + 1, by omega, by go_num, g5, cap5, rfl, HO5, HB5⟩
          case measure => simp [intOf]; omega
        · obtain rfl : y = L := by omega
          go_wp2_with fail
          go_roundw
          case rel =>
            have e1 : p.edsTo (k + 1) = es ++ (List.range y).map fun y => (k, y) := by rw [Pat.edsTo_succ, HE.out, HL.out]
            have e2 : (p.edsTo (k + 1)).length = es.length + y := by rw [e1]; simp
            exact ⟨k + 1, by omega, by go_num, g', c', by rw [e2], Lib.hid (by rw [e2, e1]; exact hown.out), hbw⟩
          case measure => simp [intOf]; omega
    · go_wp2
      go_ret
      have e : k = n := by omega
      subst e
      exact ⟨_, c, rfl, hown.out, hbw.out.1⟩
end Go.Proofs.YthemlamdchcicaaGreatDoor

namespace Go.Proofs.YthemlamdchcicaaGreatDoor
open Go.ChangeShapes Go.WideShapes Go.ChangeAt Go.RowKit Go.Deep Go.Shelf Go.ChangeMaps

theorem ed_cells {w : World} {g : Nat} {es : List Ed} (hc : ∀ i, i < (edC es).length → w.cell? ⟨g, i, none⟩ = (edC es)[i]?) {k : Nat} (hk : k < es.length) :
    w.cell? ⟨g, k * 2, none⟩ = some (.int .i64 ((es.getD k (0, 0)).1 : Int)) ∧ w.cell? ⟨g, k * 2 + 1, none⟩ = some (.int .i64 ((es.getD k (0, 0)).2 : Int)) := by
  have hl := edC_length es
  obtain ⟨h1, h2⟩ := edC_at es k hk
  exact ⟨(hc _ (by omega)).trans h1, (hc _ (by omega)).trans h2⟩
set_option maxHeartbeats 1600000 in
theorem indexEd_any (g N c : Nat) (es : List Ed) (q : Ed → Bool) (fn : Nat) (lb : Array Value) (w : World) (eg : ∀ args w, (callFunc fn args).run Tryz.prog w = .ok (.enter fn args) w)
    (hz : es.length = N) (hN : N ≤ 80) (hg : g < w.heap.size) (hc : ∀ i, i < (edC es).length → w.cell? ⟨g, i, none⟩ = (edC es)[i]?)
    (hp : ∀ (k : Nat) (W : World), Below w.heap.size w W → k < N → Calls Tryz.prog fn (#[edV (es.getD k (0, 0))] ++ lb) W fun e W' => e = .returned (.bool (q (es.getD k (0, 0)))) ∧ Below W.heap.size W W') :
    Calls Tryz.prog 123 #[.slice (some ⟨g, 0, none⟩) N c, .func (.func fn) #[] lb] w fun e w' => e = .returned (.int .i64 (idxI q es)) ∧ Below w.heap.size w w' := by
  have Hc := Lib.hid hc
  have Hz := Lib.hid hz
  have Hp := Lib.hid hp
  clear hc hz hp
  go_enter Tryz.func123, Tryz.ntmps123
  go_wp2
  go_loopw [5, 8] (fun _ i wr => ∃ k : Nat, k ≤ N ∧ i = .int .i64 k ∧ Hid (Below w.heap.size w wr) ∧ Hid (∀ j, j < k → q (es.getD j (0, 0)) = false)) (fun _ i _ => N - (intOf i).toNat)
  case atStart => exact ⟨0, Nat.zero_le _, rfl, Lib.hid (Below.refl _ _), Lib.hid (fun j hj => absurd hj (Nat.not_lt_zero _))⟩
  case round =>
    obtain ⟨k, hk, rfl, hbw, hno⟩ := hrel
    by_cases hlt : k < N
    · have hcall := Hp.out k wr hbw.out hlt
      obtain ⟨c0, c1⟩ := ed_cells Hc.out (k := k) (by rw [Hz.out]; exact hlt)
      have d0 := (hbw.out.cell (p := ⟨g, k * 2, none⟩) hg).trans c0
      have d1 := (hbw.out.cell (p := ⟨g, k * 2 + 1, none⟩) hg).trans c1
      clear c0 c1
      have HQ := Lib.hid (show q (es.getD k (0, 0)) = q (es.getD k (0, 0)) from rfl)
      obtain ⟨ee, hee⟩ : ∃ ee, es.getD k (0, 0) = ee := ⟨_, rfl⟩
      have HE := Lib.hid hee
      rw [hee] at hcall d0 d1
      unfold edV at hcall
      clear hee
      generalize (ee.1 : Int) = x at hcall d0
      generalize (ee.2 : Int) = y at hcall d1
      have hlt' : (k : Int) < (N : Int) := by omega
      cases hq : q ee with
      | true =>
        rw [hq] at hcall
        have Hq := Lib.hid hq
        clear hq
        go_wp2_with (go_at_fn fn; refine hcall.mono ?_; rintro e w' ⟨rfl, hb'⟩)
        go_ret
        have hkl : k < es.length := by rw [Hz.out]; exact hlt
        refine ⟨ret_int (idxI_hit (p := q) (zs := es) (k := k) (x := ee) (by rw [← HE.out]; simp [List.getD, List.getElem?_eq_getElem hkl]) Hq.out (fun j z hj hz => ?_)).symm, hbw.out.trans (hb'.mono hbw.out.size)⟩
        have := hno.out j hj
        simpa [List.getD, hz] using this
      | false =>
        rw [hq] at hcall
        have Hq := Lib.hid hq
        clear hq
        go_wp2_with (go_at_fn fn; refine hcall.mono ?_; rintro e w' ⟨rfl, hb'⟩)
        go_roundw
        case rel =>
          refine ⟨k + 1, by omega, by go_num, Lib.hid (hbw.out.trans (hb'.mono hbw.out.size)), Lib.hid (fun j hj => ?_)⟩
          by_cases e : j = k
          · subst e; rw [HE.out]; exact Hq.out
          · exact hno.out j (by omega)
        case measure => simp [intOf]; omega
    · go_wp2
      go_ret
      have e : k = N := by omega
      subst e
      refine ⟨ret_int (idxI_none (p := q) (zs := es) (fun z hz => ?_)).symm, hbw.out⟩
      obtain ⟨j, hj, rfl⟩ := List.mem_iff_getElem.1 hz
      have := hno.out j (by rw [← Hz.out]; exact hj)
      simpa [List.getD, List.getElem?_eq_getElem hj] using this
theorem run_clear_ed (w : World) (ty : TypeId) (b o n c : Nat) (hn : 0 < n) (hc : ∀ j, j < n * 2 → (w.cell? ⟨b, o + j, none⟩).isSome = true) (hf : ∀ j, j < n * 2 → w.frozen? ⟨b, o + j, none⟩ = false) :
    (Builtin.clear_ #[123] ty #[.slice (some ⟨b, o, none⟩) n c]).run Tryz.prog w = .ok (.tuple #[]) (w.setCells b o (List.replicate (n * 2) (.int .i64 0))) := by
  have hv : ∀ w, (zeroValue 126).run Tryz.prog w = .ok (.agg #[.int .i64 0, .int .i64 0]) w := fun w => by kernel_rfl
  have hzc : (Builtin.zeroCells (Value.agg #[.int .i64 0, .int .i64 0]).cells n).toList = List.replicate (n * 2) (.int .i64 0) := by
    simp only [Value.cells, Builtin.zeroCells]
    apply List.ext_getElem
    · simp
    · intro i h1 h2
      have : i % 2 = 0 ∨ i % 2 = 1 := by omega
      rcases this with h | h <;> simp [h]
  have hst := run_storeCells_cells (P := Tryz.prog) b o (List.replicate (n * 2) (.int .i64 0)) 0 w (by simpa using hc) (by simpa using hf) (by intro v hv'; rw [List.eq_of_mem_replicate hv']; rfl)
  simp only [Nat.add_zero] at hst
  obtain ⟨m, rfl⟩ : ∃ m, n = m + 1 := ⟨n - 1, by omega⟩
  simp [Builtin.clear_, run_underlying Tryz.underlying123, hv, hzc, hst]
theorem setCells_grown (g : Nat) : ∀ (vs : List Value) (o : Nat) (w : World), w.grownBy (w.setCells g o vs) (some g)
  | [], _, _ => World.grownBy.refl _ _
  | v :: vs, o, w => grown_trans_row (setCell_grown w g o v) (setCells_grown g vs (o + 1) (w.setCell ⟨g, o, none⟩ v))
end Go.Proofs.YthemlamdchcicaaGreatDoor

namespace Go.Proofs.YthemlamdchcicaaGreatDoor
open Go.ChangeShapes Go.WideShapes Go.ChangeAt Go.RowKit Go.Deep Go.Shelf Go.ChangeMaps

theorem grow_alloc_p {w w1 : World} {row : Option Nat} (h : w.grownBy w1 row) (o : Obj) : w.grownBy (w1.alloc o) row := by
  refine ⟨h.os, h.tape, h.output, Nat.le_trans h.size (by simp), fun i hi hne => ?_⟩
  have := (World.grownBy_alloc w1 o none).block i (Nat.lt_of_lt_of_le hi h.size) (by simp)
  exact this.trans (h.block i hi hne)
theorem grow_below_p {w w1 w2 : World} {row : Option Nat} (h : w.grownBy w1 row) (k : Below w1.heap.size w1 w2) : w.grownBy w2 row :=
  ⟨k.os.trans h.os, k.tape.trans h.tape, k.output.trans h.output, Nat.le_trans h.size k.size, fun i hi hne => (k.block i (Nat.lt_of_lt_of_le hi h.size)).trans (h.block i hi hne)⟩
theorem own_cap_le_p {w : World} {B E k n g c : Nat} {cs : List Value} (h : w.ownsRow B E k (.slice (some ⟨g, 0, none⟩) n c) n cs) : n ≤ c := by
  rcases h.2 with ⟨h0, _⟩ | ⟨g', cap, cur, hv, _, _, h5, _⟩
  · cases h0
  · cases hv; exact h5
/-- The first element with a property, or none. -/
theorem first_or {α : Type} (q : α → Bool) (d : α) : ∀ es : List α, (∀ e ∈ es, q e = false) ∨ ∃ k, k < es.length ∧ q (es.getD k d) = true ∧ ∀ j, j < k → q (es.getD j d) = false
  | [] => .inl (by simp)
  | e :: es => by
    cases he : q e with
    | true => exact .inr ⟨0, by simp, by simpa using he, fun j hj => absurd hj (Nat.not_lt_zero _)⟩
    | false =>
      rcases first_or q d es with h | ⟨k, hk, h1, h2⟩
      · exact .inl (fun x hx => by
          rcases List.mem_cons.1 hx with rfl | hx
          · exact he
          · exact h x hx)
      · refine .inr ⟨k + 1, by simpa using hk, by simpa using h1, fun j hj => ?_⟩
        cases j with
        | zero => simpa using he
        | succ j => simpa using h2 j (by omega)
theorem set_keep {α : Type} {cur es kept : List α} {i j : Nat} {x d : α} (hij : i < j) (hl : cur.length = es.length) (hj : j < es.length) (hk : cur.take i = kept) (hd : cur.drop j = es.drop j) (hx : es.getD j d = x) :
    (cur.set i x).take (i + 1) = kept ++ [x] ∧ (cur.set i x).drop (j + 1) = es.drop (j + 1) ∧ (cur.set i x).length = es.length ∧ cur.getD j d = x := by
  refine ⟨?_, ?_, by simpa using hl, ?_⟩
  · rw [List.take_add_one, List.take_set_of_le (Nat.le_refl i), hk]
    simp [show i < cur.length by omega]
  · rw [List.drop_set_of_lt (by omega)]
    have h := congrArg (List.drop 1) hd
    simpa [List.drop_drop, Nat.add_comm] using h
  · rw [← hx]
    have h := congrArg (fun l => l[0]?) hd
    simp only [List.getElem?_drop, Nat.add_zero] at h
    simp only [List.getD, h]
theorem take_filter {α : Type} {es : List α} {q : α → Bool} {j : Nat} {d : α} (hj : j < es.length) : (es.take (j + 1)).filter (fun e => !q e) = (es.take j).filter (fun e => !q e) ++ (if q (es.getD j d) = true then [] else [es.getD j d]) := by
  rw [List.take_add_one, List.filter_append]
  congr 1
  rw [List.getElem?_eq_getElem hj]
  simp only [Option.toList, List.getD, List.getElem?_eq_getElem hj, Option.getD_some]
  cases hq : q es[j] <;> simp [hq]
theorem edC_append (a b : List Ed) : edC (a ++ b) = edC a ++ edC b := by simp [edC]
theorem edC_set (l : List Ed) : ∀ (i : Nat) (e : Ed), i < l.length → ((edC l).set (i * 2) (.int .i64 (e.1 : Int))).set (i * 2 + 1) (.int .i64 (e.2 : Int)) = edC (l.set i e) := by
  induction l with
  | nil => intro i e hi; exact absurd hi (Nat.not_lt_zero _)
  | cons x l ih =>
    intro i e hi
    cases i with
    | zero => rfl
    | succ i =>
      have h := ih i e (by simpa using hi)
      have e1 : (i + 1) * 2 = i * 2 + 1 + 1 := by omega
      rw [e1]
      simp only [edC, List.flatMap_cons, List.set_cons_succ, List.cons_append, List.nil_append] at h ⊢
      rw [h]
set_option maxRecDepth 100000 in
set_option maxHeartbeats 6400000 in
theorem deleteEd_any (g N c : Nat) (es : List Ed) (q : Ed → Bool) (fn : Nat) (lb : Array Value) (w : World) (B : Nat) (eg : ∀ args w, (callFunc fn args).run Tryz.prog w = .ok (.enter fn args) w)
    (hz : es.length = N) (hN : N ≤ 80) (hown : w.ownsRow B 126 2 (.slice (some ⟨g, 0, none⟩) N c) N (edC es))
    (hp : ∀ (k : Nat) (W : World), w.grownBy W (some g) → k < N → Calls Tryz.prog fn (#[edV (es.getD k (0, 0))] ++ lb) W fun e W' => e = .returned (.bool (q (es.getD k (0, 0)))) ∧ Below W.heap.size W W') :
    Calls Tryz.prog 104 #[.slice (some ⟨g, 0, none⟩) N c, .func (.func fn) #[] lb] w fun e w' => e = .returned (.slice (some ⟨g, 0, none⟩) (es.filter fun e => !q e).length c) ∧ (∀ i, i < (edC (es.filter fun e => !q e)).length → w'.cell? ⟨g, i, none⟩ = (edC (es.filter fun e => !q e))[i]?) ∧ w.grownBy w' (some g) := by
  have hgw := (own_block (b := g) hown rfl).2
  have hcl : ∀ i, i < (edC es).length → w.cell? ⟨g, i, none⟩ = (edC es)[i]? := fun i hi => hown.cellAt i (by rw [edC_length] at hi; omega)
  have HI := Lib.hid (indexEd_any g N c es q fn lb w eg hz hN hgw hcl (fun k W hW hk => hp k W (grow_below_p (World.grownBy.refl w (some g)) hW) hk))
  have Hz := Lib.hid hz
  have Hp := Lib.hid hp
  have HO := Lib.hid hown
  have HC := Lib.hid hcl
  rcases first_or q (0, 0) es with hall | ⟨k, hk, hk1, hk2⟩
  · have hi : idxI q es = -1 := idxI_none hall
    rw [hi] at HI
    have hf : (es.filter fun e => !q e) = es := List.filter_eq_self.2 (fun e he => by simp [hall e he])
    rw [hf, hz]
    clear hp hown hcl hz hall hi hf
    go_enter Tryz.func104, Tryz.ntmps104
    go_wp2_with fail
    refine HI.out.mono ?_
    rintro e w1 ⟨rfl, hb1⟩
    have HB := Lib.hid hb1
    clear hb1
    go_wp2_with fail
    go_ret
    exact ⟨rfl, fun i hi => (HB.out.cell (p := ⟨g, i, none⟩) hgw).trans (HC.out i hi), grow_below_p (World.grownBy.refl w (some g)) HB.out⟩
  · have hi : idxI q es = (k : Int) := idxI_hit (k := k) (x := es.getD k (0, 0)) (by simp [List.getD, List.getElem?_eq_getElem hk]) hk1 (fun j y hj hy => by
      have := hk2 j hj
      simpa [List.getD, hy] using this)
    rw [hi] at HI
    have hneg : ((k : Int) == -1) = false := by first | (simp; done) | (simp; omega)
    have hkN : k < N := by omega
    have HK := Lib.hid (show (es.take k).filter (fun e => !q e) = es.take k ∧ (es.take (k + 1)).filter (fun e => !q e) = es.take k by
      have h1 : (es.take k).filter (fun e => !q e) = es.take k := List.filter_eq_self.2 (fun e he => by
        obtain ⟨j, hj, rfl⟩ := List.mem_iff_getElem.1 he
        have hj' : j < k := by simp at hj; omega
        have h2 := hk2 j hj'
        simp only [List.getD, List.getElem?_eq_getElem (show j < es.length by omega), Option.getD_some] at h2
        simp [List.getElem_take, h2])
      refine ⟨h1, ?_⟩
      rw [take_filter (d := (0, 0)) hk, if_pos hk1, List.append_nil, h1])
    clear hp hown hcl hi hk1 hk2
    go_enter Tryz.func104, Tryz.ntmps104
    go_wp2_with fail
    refine HI.out.mono ?_
    rintro e w1 ⟨rfl, hb1⟩
    have HB := Lib.hid hb1
    have HO1 := Lib.hid (own_below HO.out hb1)
    clear hb1
    go_wp2_with fail
    go_loopw [5, 6] (fun vi vj wr => ∃ (i j : Nat) (cur : List Ed), vi = .int .i64 i ∧ vj = .int .i64 j ∧ i < j ∧ j ≤ N ∧ Hid (cur.length = es.length) ∧ Hid (cur.take i = (es.take j).filter fun e => !q e) ∧ Hid (cur.drop j = es.drop j) ∧ Hid (wr.ownsRow B 126 2 (.slice (some ⟨g, 0, none⟩) N c) N (edC cur)) ∧ Hid (w.grownBy wr (some g))) (fun _ vj _ => N - (intOf vj).toNat)
    case atStart => exact ⟨k, k + 1, es, rfl, by go_num, by omega, hkN, Lib.hid rfl, Lib.hid HK.out.2.symm, Lib.hid rfl, HO1, Lib.hid (grow_below_p (World.grownBy.refl w (some g)) HB.out)⟩
    case round =>
      clear HO1 HB HI hneg
      obtain ⟨i, j, cur, rfl, rfl, hij, hjN, hcl, htk, hdr, hown, hgr⟩ := hrel
      have hcap := own_cap_le_p hown.out
      by_cases hlt : j < N
      · have hjl : j < es.length := by rw [Hz.out]; exact hlt
        obtain ⟨xx, hxx⟩ : ∃ x, es.getD j (0, 0) = x := ⟨_, rfl⟩
        obtain ⟨k1, k2, k3, k4⟩ := set_keep hij hcl.out hjl htk.out hdr.out hxx
        have htf := take_filter (q := q) (d := (0, 0)) hjl
        rw [hxx] at htf
        have hcurl : cur.length = N := hcl.out.trans Hz.out
        obtain ⟨e1, e2⟩ := edC_at cur j (by omega)
        rw [k4] at e1 e2
        have c0 : wr.cell? ⟨g, j * 2, none⟩ = some (.int .i64 (xx.1 : Int)) := (hown.out.cellAt (j * 2) (by omega)).trans e1
        have c1 : wr.cell? ⟨g, j * 2 + 1, none⟩ = some (.int .i64 (xx.2 : Int)) := (hown.out.cellAt (j * 2 + 1) (by omega)).trans e2
        have hdj : cur.drop (j + 1) = es.drop (j + 1) := by
          have h := congrArg (List.drop 1) hdr.out
          simpa [List.drop_drop, Nat.add_comm] using h
        have hcall := Hp.out j (wr.alloc (.cells #[.int .i64 (xx.1 : Int), .int .i64 (xx.2 : Int)] 126)) (grow_alloc_p hgr.out _) hlt
        rw [hxx] at hcall
        unfold edV at hcall
        have hset := edC_set cur i xx (by omega)
        have hgs := (own_block (b := g) hown.out rfl).2
        have HK1 := Lib.hid (And.intro k1 (And.intro k2 (And.intro k3 (And.intro htf (And.intro hdj hset)))))
        clear k1 k2 k3 k4 htf hdj hset hxx e1 e2
        obtain ⟨x, hx⟩ : ∃ x : Int, (xx.1 : Int) = x := ⟨_, rfl⟩
        obtain ⟨y, hy⟩ : ∃ y : Int, (xx.2 : Int) = y := ⟨_, rfl⟩
        rw [hx, hy] at HK1
        rw [hx] at c0 hcall
        rw [hy] at c1 hcall
        have hlt' : (j : Int) < (N : Int) := by omega
        have hlti : (i : Int) < (N : Int) := by omega
        clear hx hy
        cases hq : q xx with
        | true =>
          rw [hq] at hcall HK1
          clear hq
          go_wp2_with (go_at_fn fn; refine hcall.mono ?_; rintro e w' ⟨rfl, hb'⟩)
          have HO2 := Lib.hid (own_below (hown.out.alloc (.cells #[.int .i64 x, .int .i64 y] 126)) hb')
          have HG2 := Lib.hid (grow_below_p (grow_alloc_p hgr.out (.cells #[.int .i64 x, .int .i64 y] 126)) hb')
          go_roundw
          case rel => exact ⟨i, j + 1, cur, rfl, by go_num, by omega, hlt, hcl, Lib.hid (by rw [htk.out, HK1.out.2.2.2.1]; simp), Lib.hid HK1.out.2.2.2.2.1, HO2, HG2⟩
          case measure => simp [intOf]; omega
        | false =>
          rw [hq] at hcall HK1
          clear hq
          go_wp2_with (go_at_fn fn; refine hcall.mono ?_; rintro e w' ⟨rfl, hb'⟩; have HO2 := Lib.hid (own_below (hown.out.alloc (.cells #[.int .i64 x, .int .i64 y] 126)) hb'); have HG2 := Lib.hid (grow_below_p (grow_alloc_p hgr.out (.cells #[.int .i64 x, .int .i64 y] 126)) hb'); have b0 : w'.cell? ⟨wr.heap.size, 0, none⟩ = some (.int .i64 x) := (hb'.cell (p := ⟨wr.heap.size, 0, none⟩) (by simp)).trans (by simp [go_sem]); have b1 : w'.cell? ⟨wr.heap.size, 1, none⟩ = some (.int .i64 y) := (hb'.cell (p := ⟨wr.heap.size, 1, none⟩) (by simp)).trans (by simp [go_sem]); have g0 : w'.cell? ⟨g, i * 2, none⟩ = (edC cur)[i * 2]? := HO2.out.cellAt (i * 2) (by omega); have g1 : w'.cell? ⟨g, i * 2 + 1, none⟩ = (edC cur)[i * 2 + 1]? := HO2.out.cellAt (i * 2 + 1) (by omega); rw [(edC_at cur i (by omega)).1] at g0; rw [(edC_at cur i (by omega)).2] at g1; have f0 := HO2.out.frozenAt (i * 2); have f1 := HO2.out.frozenAt (i * 2 + 1); have z0 := (own_block (b := g) HO2.out rfl).2; clear hb')
          have hs1 := HO2.out.stored (i * 2) (.int .i64 x)
          have hs2 := hs1.1.stored (i * 2 + 1) (.int .i64 y)
          have HO3 := Lib.hid (show ((w'.setCell ⟨g, i * 2, none⟩ (.int .i64 x)).setCell ⟨g, i * 2 + 1, none⟩ (.int .i64 y)).ownsRow B 126 2 (.slice (some ⟨g, 0, none⟩) N c) N (edC (cur.set i xx)) by rw [← HK1.out.2.2.2.2.2]; exact hs2.1)
          have HG3 := Lib.hid (grown_trans_row (grown_trans_row HG2.out hs1.2) hs2.2)
          clear hs1 hs2 b0 b1 g0 g1 f0 f1
          go_roundw
          case rel => exact ⟨i + 1, j + 1, cur.set i xx, by go_num, by go_num, by omega, hlt, Lib.hid HK1.out.2.2.1, Lib.hid (by rw [HK1.out.1, HK1.out.2.2.2.1]; simp), Lib.hid HK1.out.2.1, HO3, HG3⟩
          case measure => simp [intOf]; omega
      · obtain rfl : j = N := by omega
        have hcurl : cur.length = j := hcl.out.trans Hz.out
        have hci : ¬ c = i := by omega
        have hcle : (i : Int) ≤ (j : Int) := by omega
        have hfi : (es.filter fun e => !q e) = cur.take i := by rw [htk.out, List.take_of_length_le (by rw [Hz.out]; exact Nat.le_refl _)]
        have hfl : (es.filter fun e => !q e).length = i := by rw [hfi, List.length_take]; omega
        have hed : edC cur = edC (cur.take i) ++ edC (cur.drop i) := by
          rw [← edC_append, List.take_append_drop]
        have HF := Lib.hid (And.intro hfi (And.intro hfl hed))
        clear hfi hfl hed
        have hcle2 := fun ty => run_clear_ed wr ty g (i * 2) (j - i) (c - i) (by omega) (fun t ht => by
          rw [hown.out.cellAt (i * 2 + t) (by omega), List.getElem?_eq_getElem (by rw [edC_length]; omega)]
          rfl) (fun t ht => hown.out.frozenAt (i * 2 + t))
        have HX := Lib.hid (And.intro hcl (And.intro htk hdr))
        obtain ⟨wz, hwz⟩ : ∃ W, wr.setCells g (i * 2) (List.replicate ((j - i) * 2) (.int .i64 0)) = W := ⟨_, rfl⟩
        have HZ := Lib.hid (show (∀ x, x < i * 2 → wz.cell? ⟨g, x, none⟩ = wr.cell? ⟨g, x, none⟩) ∧ wr.grownBy wz (some g) by
          rw [← hwz]
          exact ⟨fun x hx => World.cell?_setCells_out g _ _ _ _ (fun _ _ => .inl hx), setCells_grown _ _ _ _⟩)
        rw [hwz] at hcle2
        clear hwz hcl htk hdr
        go_wp2_with fail
        go_ret
        obtain ⟨hfi, hfl, hed⟩ := HF.out
        rw [hfl, hfi]
        refine ⟨rfl, fun x hx => ?_, grown_trans_row hgr.out HZ.out.2⟩
        rw [edC_length, List.length_take] at hx
        have hx2 : x < i * 2 := by omega
        rw [HZ.out.1 x hx2, hown.out.cellAt x (by omega), hed, List.getElem?_append_left (by rw [edC_length, List.length_take]; omega)]
end Go.Proofs.YthemlamdchcicaaGreatDoor

namespace Go.Proofs.YthemlamdchcicaaGreatDoor
open Go.ChangeShapes Go.WideShapes Go.ChangeAt Go.RowKit Go.Deep Go.Shelf Go.ChangeMaps

set_option maxHeartbeats 1600000 in
/-- The closure: is the edge joined? -/
theorem isJoined_any (p : Pat) (b q : Nat) (e : Ed) (he : small e) (w : World) (hb : PairsAt w b p p.m) (hq : w.cell? ⟨q, 0, none⟩ = some (.map (some b))) (hqs : q < w.heap.size) :
    Calls Tryz.prog 106 #[edV e, .pointer (some ⟨q, 0, none⟩)] w fun r w' => r = .returned (.bool (p.mate e).isSome) ∧ Below w.heap.size w w' := by
  have hl := (hb.below ((Bel.refl w).alloc (.cells #[.int .i64 (e.1 : Int), .int .i64 (e.2 : Int)] 126)).1).look (t := 120) Tryz.underlying120 he
  unfold edV at hl ⊢
  change _ = Result.ok (match p.mate e with | some o => _ | none => _) _ at hl
  generalize (e.1 : Int) = x at hl ⊢
  generalize (e.2 : Int) = y at hl ⊢
  cases hm : p.mate e with
  | none =>
    rw [hm] at hl
    simp only [Option.isSome_none]
    clear hm hb he
    go_enter Tryz.func106, Tryz.ntmps106
    go_wp2
    go_ret
    exact ⟨rfl, (by repeat (first | exact Below.refl _ _ | assumption | refine Below.drew ?_ | refine below_drewN ?_ _ | refine Below.alloc ?_ (by simp; try omega) _ | refine Below.setCell ?_ (by simp; try omega) _))⟩
  | some o =>
    rw [hm] at hl
    simp only [Option.isSome_some]
    clear hm hb he
    go_enter Tryz.func106, Tryz.ntmps106
    go_wp2
    go_ret
    exact ⟨rfl, (by repeat (first | exact Below.refl _ _ | assumption | refine Below.drew ?_ | refine below_drewN ?_ _ | refine Below.alloc ?_ (by simp; try omega) _ | refine Below.setCell ?_ (by simp; try omega) _))⟩
def Pat.opens (p : Pat) : List Ed := (p.edsTo p.n).filter fun e => !(p.mate e).isSome
theorem Pat.edsTo_on {p : Pat} {i : Nat} (hi : i ≤ p.n) : ∀ e ∈ p.edsTo i, p.on e := by
  intro e he
  unfold Pat.edsTo at he
  obtain ⟨x, hx, hy⟩ := List.mem_flatMap.1 he
  obtain ⟨y, hy1, rfl⟩ := List.mem_map.1 hy
  exact ⟨by have := List.mem_range.1 hx; show x < p.n; omega, List.mem_range.1 hy1⟩
theorem Pat.opens_on {p : Pat} : ∀ e ∈ p.opens, p.on e ∧ p.mate e = none := by
  intro e he
  unfold Pat.opens at he
  obtain ⟨h1, h2⟩ := List.mem_filter.1 he
  exact ⟨Pat.edsTo_on (Nat.le_refl _) e h1, by simpa using h2⟩
/-- The open edges lie in a row. -/
def OpensAt (p : Pat) (w : World) (e : Ending) (w' : World) : Prop :=
  ∃ g c, e = .returned (.slice (some ⟨g, 0, none⟩) p.opens.length c) ∧ w.heap.size ≤ g ∧ g < w'.heap.size ∧ (∀ i, i < (edC p.opens).length → w'.cell? ⟨g, i, none⟩ = (edC p.opens)[i]?) ∧ Below w.heap.size w w'
set_option maxRecDepth 100000 in
set_option maxHeartbeats 6400000 in
theorem openEdges_any (p : Pat) (hp : p.Ok) (aP aS : Option Addr) (cP cS : Nat) (op : Int) (w : World) (h : PatAt w p aP aS) :
    Calls Tryz.prog 74 #[.agg #[.slice aP p.n cP, .slice aS p.m cS, .int .i64 op]] w (OpensAt p w) := by
  have eg : ∀ args w, (callFunc 106 args).run Tryz.prog w = .ok (.enter 106 args) w := enters_of Tryz.func106 (by kernel_rfl) rfl
  have HP := Lib.hid (PBox.new w aP p.n cP aS p.m cS op)
  have HJ := Lib.hid (fun X (hX : SmsAt X p aS) => joined_any p hp aP aS cP cS op X hX)
  have HE := Lib.hid (fun X (hX : PcsAt X p aP) => edges_any p hp aP aS cP cS op X hX)
  have hle := Pat.edsTo_le hp p.n (Nat.le_refl _)
  have hn2 := hp.n2
  have hpos : 0 < (p.edsTo p.n).length := by
    have h1 := hp.n1
    have h2 := (hp.len 0 (by omega)).1
    obtain ⟨m, hm⟩ : ∃ m, p.n = m + 1 := ⟨p.n - 1, by omega⟩
    have h3 := (hp.len m (by omega)).1
    rw [hm, Pat.edsTo_succ, List.length_append, List.length_map, List.length_range]
    omega
  have HSml := Lib.hid (fun e (he : e ∈ p.edsTo p.n) => hp.small (Pat.edsTo_on (Nat.le_refl _) e he))
  have HPa := Lib.hid h
  obtain ⟨W, hW⟩ : ∃ W, w.alloc (.cells #[.slice aP p.n cP, .slice aS p.m cS, .int .i64 op] 41) = W := ⟨_, rfl⟩
  have HB := Lib.hid (show Bel w.heap.size w W by rw [← hW]; exact (Bel.refl w).alloc _)
  have HBx := Lib.hid (show PBox W w.heap.size aP p.n cP aS p.m cS op by rw [← hW]; exact HP.out)
  have HW := Lib.hid hW
  obtain ⟨p0, p1, p2, p3⟩ := HBx.out
  clear h hp hW
  go_enter Tryz.func74, Tryz.ntmps74
  go_upto_region 1 with fail
  rw [HW.out]
  go_wp2_with fail
  refine (HJ.out W (HPa.out.2.below HB.out.1)).mono ?_
  rintro e w1 ⟨rfl, hpr, hb1⟩
  obtain ⟨bm, hbm⟩ : ∃ b, W.heap.size + 1 = b := ⟨_, rfl⟩
  rw [hbm] at hpr ⊢
  have HPr := Lib.hid hpr
  have HB1 := Lib.hid (HB.out.step hb1)
  have HBx1 := Lib.hid (HBx.out.below hb1)
  clear hpr hb1 p0 p1 p2 p3 hbm
  obtain ⟨p0, p1, p2, p3⟩ := HBx1.out
  go_wp2_with fail
  have HB2 := Lib.hid (HB1.out.alloc (.cells #[.map (some bm)] 120))
  have HQ2 := Lib.hid (show (w1.alloc (.cells #[.map (some bm)] 120)).cell? ⟨w1.heap.size, 0, none⟩ = some (.map (some bm)) by simp [go_sem])
  refine (HE.out _ (HPa.out.1.below HB2.out.1)).mono ?_
  rintro e w3 ⟨a3, c3, rfl, ho3, hb3⟩
  obtain ⟨g, rfl⟩ : ∃ g, a3 = some ⟨g, 0, none⟩ := by
    rcases own_form ho3 with h0 | h0
    · omega
    · exact h0
  have hg3 := own_block (b := g) ho3 rfl
  have HQ3 := Lib.hid ((hb3.cell (p := ⟨w1.heap.size, 0, none⟩) (by simp)).trans HQ2.out)
  have HPr3 := Lib.hid ((HPr.out.below ((Bel.refl w1).alloc _).1).below hb3)
  have HB3 := Lib.hid (HB2.out.step hb3)
  have hbm1 := HPr.out.lt
  have hgw : w1.heap.size + 1 ≤ g := by simpa using hg3.1
  have hs3 : w1.heap.size < w3.heap.size := by have h1 := hb3.size; simp at h1; omega
  have hD : Calls Tryz.prog 104 #[.slice (some ⟨g, 0, none⟩) (p.edsTo p.n).length c3, .func (.func 106) #[] #[.pointer (some ⟨w1.heap.size, 0, none⟩)]] w3 (fun e w' => e = .returned (.slice (some ⟨g, 0, none⟩) p.opens.length c3) ∧ (∀ i, i < (edC p.opens).length → w'.cell? ⟨g, i, none⟩ = (edC p.opens)[i]?) ∧ w3.grownBy w' (some g)) := (deleteEd_any g (p.edsTo p.n).length c3 (p.edsTo p.n) (fun e => (p.mate e).isSome) 106 #[.pointer (some ⟨w1.heap.size, 0, none⟩)] w3 _ eg rfl (by omega) ho3 (fun k X hX hk =>
    isJoined_any p bm w1.heap.size ((p.edsTo p.n).getD k (0, 0)) (HSml.out _ (by simp [List.getD, List.getElem?_eq_getElem hk])) X (HPr3.out.grown hX (fun e => by have h1 : g = bm := (by simpa using e); omega))
      ((hX.cell_far ⟨w1.heap.size, 0, none⟩ hs3 (fun e => by have h1 : w1.heap.size = g := (by simpa using e); omega)).trans HQ3.out) (Nat.lt_of_lt_of_le hs3 hX.size)))
  have HD := Lib.hid hD
  have hgs := hg3.2
  clear hD ho3 hb3 hg3 eg p0 p1 p2 p3
  go_wp2_with fail
  refine HD.out.mono ?_
  rintro e w4 ⟨rfl, hc4, hg4⟩
  have HC4 := Lib.hid hc4
  have HB4 := Lib.hid (HB3.out.grown hg4 (fun k hk => by cases hk; have := HB1.out.2; omega))
  have HG4 := Lib.hid (Nat.lt_of_lt_of_le hgs hg4.size)
  clear hc4 hg4
  go_wp2_with fail
  go_ret
  exact ⟨g, c3, rfl, by have := HB1.out.2; omega, HG4.out, HC4.out, HB4.out.1⟩
end Go.Proofs.YthemlamdchcicaaGreatDoor
