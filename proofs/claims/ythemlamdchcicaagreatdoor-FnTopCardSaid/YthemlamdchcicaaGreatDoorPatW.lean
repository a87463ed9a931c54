/-
  The reference's open edges. No condition of its own.
-/
import Derived.Test.YthemlamdchcicaaGreatDoorPatV
namespace Go.Proofs.YthemlamdchcicaaGreatDoor
open Go.ChangeShapes Go.WideShapes Go.ChangeAt Go.RowKit Go.Deep Go.Shelf Go.ChangeMaps

theorem infoRow : (Tryz.prog.info? 29).map (fun i => (i.zero, i.size, i.bytes)) = some (some (.slice none 0 0), 1, 24) := by kernel_rfl
set_option maxHeartbeats 800000 in
/-- 'append(out, row)'. -/
theorem appRow {w0 W : World} {ops : Array Oper} {rest : List Oper} {o : Oper} {a : Act} {Q : Exit → Act → World → Prop} (hgd : o.guard = none) (s x : Operand)
    (ho : o.op = .call { callee := .builtin .append, args := #[s, x], argTypes := #[79, 79] }) (B : Nat) (v : Value) (n : Nat) (xs : List Value) (hs : a.eval s = v) (hown : W.ownsRow B 29 1 v n xs)
    (z : Value) (hz1 : z.oneCell' = true) (c H : Nat) (hH : W.heap.size = H) (hx : a.eval x = .slice (some ⟨H, 0, none⟩) 1 c) (hn : n ≤ 1099511627776) (hb : Bel B w0 W)
    (h : ∀ g cap w', w'.ownsRow B 29 1 (.slice (some ⟨g, 0, none⟩) (n + 1) cap) (n + 1) (xs ++ [z]) → Bel B w0 w' → W.grownBy w' v.ownBlock → (v.ownBlock = some g ∨ W.heap.size ≤ g) → wpList Tryz.prog ops Q rest (a.put o.dst (.slice (some ⟨g, 0, none⟩) (n + 1) cap)) w') :
    wpList Tryz.prog ops Q (o :: rest) a (W.alloc (.cells #[z] 29)) := by
  subst hH
  obtain ⟨i, hi, h0, h1, h2⟩ := info_parts infoRow
  refine wpList_append_lies _ hgd s x 79 ho B 29 i (.slice none 0 0) 1 24 Tryz.underlying79 hi h0 h1 h2 rfl (by omega) v n xs hs (hown.alloc _) ⟨W.heap.size, 0, none⟩ 1 c [z] hx rfl ?_ ?_ (by omega) (by unfold maxLen; omega) (by omega) (by have := hb.2; simp; omega) _ rfl ?_
  · intro j u hj
    match j, hj with
    | 0, hj => simp at hj; subst hj; simp [Addr.add]
  · intro u hu
    simp at hu
    subst hu
    exact hz1
  · intro g cap w' h3 h4 h5 _
    refine h g cap w' h3 ((hb.alloc _).grown h4 (fun k hk => (own_block hown hk).1)) ?_ ?_
    · exact ⟨h4.os, h4.tape, h4.output, Nat.le_trans (by simp) h4.size, fun i hi hne => (h4.block i (by simp; omega) hne).trans ((World.grownBy_alloc W _ none).block i hi (by simp))⟩
    · rcases h5 with h5 | h5
      · exact .inl h5
      · exact .inr (by rw [h5]; simp)
/-- Rows of two numbers: open edges. -/
def opC (rows : List (Nat × Ed)) : List Value := rows.map fun r => .slice (some ⟨r.1, 0, none⟩) 2 2
def OpRows (W : World) (p : Pat) (g : Nat) (rows : List (Nat × Ed)) : Prop :=
  ∀ r ∈ rows, r.1 < W.heap.size ∧ r.1 ≠ g ∧ W.cell? ⟨r.1, 0, none⟩ = some (.int .i64 (r.2.1 : Int)) ∧ W.cell? ⟨r.1, 1, none⟩ = some (.int .i64 (r.2.2 : Int)) ∧ p.on r.2 ∧ p.mate r.2 = none
theorem OpRows.below {W W' : World} {p : Pat} {g : Nat} {rows : List (Nat × Ed)} (h : OpRows W p g rows) (hb : Below W.heap.size W W') : OpRows W' p g rows := fun r hr => by
  obtain ⟨h1, h2, h3, h4, h5⟩ := h r hr
  exact ⟨Nat.lt_of_lt_of_le h1 hb.size, h2, (hb.cell (p := ⟨r.1, 0, none⟩) h1).trans h3, (hb.cell (p := ⟨r.1, 1, none⟩) h1).trans h4, h5⟩
theorem OpRows.app {W W' : World} {p : Pat} {g g' h : Nat} {e : Ed} {rows : List (Nat × Ed)} (hr : OpRows W p g rows) (hg : W.grownBy W' (some g)) (hat : g = g' ∨ W.heap.size ≤ g') (h1 : h < W.heap.size) (h2 : h ≠ g) (h3 : W.cell? ⟨h, 0, none⟩ = some (.int .i64 (e.1 : Int))) (h4 : W.cell? ⟨h, 1, none⟩ = some (.int .i64 (e.2 : Int))) (h5 : p.on e ∧ p.mate e = none) :
    OpRows W' p g' (rows ++ [(h, e)]) := by
  have key : ∀ r : Nat × Ed, r.1 < W.heap.size → r.1 ≠ g → W.cell? ⟨r.1, 0, none⟩ = some (.int .i64 (r.2.1 : Int)) → W.cell? ⟨r.1, 1, none⟩ = some (.int .i64 (r.2.2 : Int)) → p.on r.2 ∧ p.mate r.2 = none →
      r.1 < W'.heap.size ∧ r.1 ≠ g' ∧ W'.cell? ⟨r.1, 0, none⟩ = some (.int .i64 (r.2.1 : Int)) ∧ W'.cell? ⟨r.1, 1, none⟩ = some (.int .i64 (r.2.2 : Int)) ∧ p.on r.2 ∧ p.mate r.2 = none := fun r a1 a2 a3 a4 a5 =>
    ⟨Nat.lt_of_lt_of_le a1 hg.size, by rcases hat with x | x <;> omega, (hg.cell_far ⟨r.1, 0, none⟩ a1 (fun e => a2 (by simpa using e))).trans a3, (hg.cell_far ⟨r.1, 1, none⟩ a1 (fun e => a2 (by simpa using e))).trans a4, a5⟩
  intro r hrm
  rcases List.mem_append.1 hrm with hrm | hrm
  · obtain ⟨a1, a2, a3, a4, a5⟩ := hr r hrm
    exact key r a1 a2 a3 a4 a5
  · rcases List.mem_singleton.1 hrm with rfl
    exact key _ h1 h2 h3 h4 h5
/-- The reference's open edges. -/
def OpenEnd (p : Pat) (w : World) (e : Ending) (w' : World) : Prop :=
  ∃ g c rows, e = .returned (.slice (some ⟨g, 0, none⟩) rows.length c) ∧ rows.length ≤ 80 ∧ w'.ownsRow w.heap.size 29 1 (.slice (some ⟨g, 0, none⟩) rows.length c) rows.length (opC rows) ∧ OpRows w' p g rows ∧ Below w.heap.size w w'
set_option maxRecDepth 100000 in
set_option maxHeartbeats 6400000 in
theorem l08Open_any (p : Pat) (hp : p.Ok) (aP aS : Option Addr) (cP cS : Nat) (op : Int) (q : Nat) (w : World) (hq : PBox w q aP p.n cP aS p.m cS op) (h : PatAt w p aP aS) :
    Calls Tryz.prog 99 #[.pointer (some ⟨q, 0, none⟩)] w (OpenEnd p w) := by
  have HOk := Lib.hid hp
  have HQ := Lib.hid hq
  have HPa := Lib.hid h
  obtain ⟨b, off, rfl, hb, _⟩ := h.1
  have hn2 := hp.n2
  have HT := Lib.hid (fun (e : Ed) (X : World) (hX : Below w.heap.size w X) => l08Times_any p hp.m (some ⟨b, off, none⟩) aS cP cS op e.1 e.2 q X (hq.below hX) (h.2.below hX))
  obtain ⟨n, hnn⟩ : ∃ n, p.n = n := ⟨_, rfl⟩
  have HN := Lib.hid hnn
  rw [hnn] at HQ hn2
  have HO := Lib.hid (own_none' w w.heap.size 29 1 (Nat.le_refl _))
  clear hp hq h hnn
  go_enter Tryz.func99, Tryz.ntmps99
  go_wp2_with fail
  go_loopw [3, 4] (fun v i wr => ∃ k : Nat, k ≤ n ∧ i = .int .i64 k ∧ ∃ (g c : Nat) (rows : List (Nat × Ed)), v = .slice (some ⟨g, 0, none⟩) rows.length c ∧ rows.length ≤ 8 * k ∧ Hid (wr.ownsRow w.heap.size 29 1 (.slice (some ⟨g, 0, none⟩) rows.length c) rows.length (opC rows)) ∧ Hid (OpRows wr p g rows) ∧ Hid (Bel w.heap.size w wr)) (fun _ i _ => n - (intOf i).toNat)
  case atStart => exact ⟨0, Nat.zero_le _, rfl, w.heap.size, 0, [], rfl, Nat.zero_le _, HO, Lib.hid (fun r hr => by cases hr), Lib.hid ((Bel.refl w).alloc _)⟩
  case round =>
    clear HO
    obtain ⟨k, hk, rfl, g, c, rows, rfl, hrl, hown, hrw, hbw⟩ := hrel
    obtain ⟨p0, p1, p2, p3⟩ := HQ.out.below hbw.out.1
    by_cases hlt : k < n
    · have hlt' : (k : Int) < (n : Int) := by omega
      have hlen := HOk.out.len k (by rw [HN.out]; exact hlt)
      go_wp2_with fail
      clear p0 p1 p2 p3
      go_loopw [3, 5] (fun v j wx => ∃ y : Nat, y ≤ p.len k ∧ j = .int .i64 y ∧ ∃ (g c : Nat) (rows : List (Nat × Ed)), v = .slice (some ⟨g, 0, none⟩) rows.length c ∧ rows.length ≤ 8 * k + y ∧ Hid (wx.ownsRow w.heap.size 29 1 (.slice (some ⟨g, 0, none⟩) rows.length c) rows.length (opC rows)) ∧ Hid (OpRows wx p g rows) ∧ Hid (Bel w.heap.size w wx)) (fun _ j _ => p.len k - (intOf j).toNat)
      case atStart => exact ⟨0, Nat.zero_le _, rfl, g, c, rows, rfl, by omega, hown, hrw, hbw⟩
      case round =>
        clear hown hrw hbw hrl
        obtain ⟨y, hy, rfl, g, c, rows, rfl, hrl, hown, hrw, hbw⟩ := hrel
        obtain ⟨p0, p1, p2, p3⟩ := HQ.out.below hbw.out.1
        obtain ⟨s0, a, cc, s1, _⟩ := (HPa.out.1.below hbw.out.1).piece (i := k) (by rw [HN.out]; exact hlt)
        have HT1 := Lib.hid (HT.out (k, y) wr hbw.out.1)
        have HL := Lib.hid (show p.len k = p.len k from rfl)
        obtain ⟨L, hL⟩ : ∃ L, p.len k = L := ⟨_, rfl⟩
        rw [hL] at s1 hy hlen
        by_cases hly : y < L
        · have hon : p.on (k, y) := ⟨by show k < p.n; rw [HN.out]; exact hlt, by show y < p.len k; omega⟩
          have hly' : (y : Int) < (L : Int) := by omega
          cases hm : p.mate (k, y) with
          | none =>
            have h0 : p.times (k, y) = 0 := (p.times_zero _).2 hm
            have HT2 := Lib.hid (show Calls Tryz.prog 97 #[.pointer (some ⟨q, 0, none⟩), .int .i64 (k : Int), .int .i64 (y : Int)] wr fun r w' => r = .returned (.int .i64 0) ∧ Below wr.heap.size wr w' by
              have h1 := HT1.out
              rw [show p.times ((k, y).1, (k, y).2) = 0 from h0] at h1
              exact h1)
            have HE := Lib.hid (And.intro hon hm)
            clear hm h0 HT1 hon
            go_wp2_with fail
            refine HT2.out.mono ?_
            rintro e' w2 ⟨rfl, hb2⟩
            have HB2 := Lib.hid (hbw.out.step hb2)
            have HO2 := Lib.hid (own_below hown.out hb2)
            have HR2 := Lib.hid (hrw.out.below hb2)
            clear hb2 p0 p1 p2 p3 s0 s1
            have hgs := (own_block (b := g) HO2.out rfl).2
            go_wp2_with (at_builtin; refine appRow (by rfl) _ _ (by rfl) w.heap.size _ _ _ (by rfl) (HO2.out.alloc (.cells #[.int .i64 (k : Int), .int .i64 (y : Int)] 2)) (.slice (some ⟨w2.heap.size, 0, none⟩) 2 2) rfl 1 (w2.heap.size + 1) (by simp) (by rfl) (by omega) (HB2.out.alloc _) ?_; intro g5 cap5 w5 ho5 hb5 hg5 hat5)
            have HR5 := Lib.hid (show OpRows w5 p g5 (rows ++ [(w2.heap.size, (k, y))]) from OpRows.app (g := g) (HR2.out.below ((Bel.refl w2).alloc (.cells #[.int .i64 (k : Int), .int .i64 (y : Int)] 2)).1) hg5 (by
              rcases hat5 with h | h
              · exact .inl (by simpa [Value.ownBlock] using h)
              · exact .inr h) (by simp) (by omega) (by simp [go_sem]) (by simp [go_sem]) HE.out)
            have HO5 := Lib.hid (show w5.ownsRow w.heap.size 29 1 (.slice (some ⟨g5, 0, none⟩) (rows ++ [(w2.heap.size, (k, y))]).length cap5) (rows ++ [(w2.heap.size, (k, y))]).length (opC (rows ++ [(w2.heap.size, (k, y))])) by
              rw [List.length_append]
              show w5.ownsRow w.heap.size 29 1 (.slice (some ⟨g5, 0, none⟩) (rows.length + 1) cap5) (rows.length + 1) _
              simp only [opC, List.map_append]
              exact ho5)
            have HB5 := Lib.hid hb5
            clear ho5 hb5 hg5 hat5
            go_roundw
            case rel => exact ⟨y + 1, by omega, by go_num, g5, cap5, rows ++ [(w2.heap.size, (k, y))], by simp, by simp; omega, HO5, HR5, HB5⟩
            case measure => simp [intOf]; omega
          | some o =>
            have h0 : p.times (k, y) ≠ 0 := fun h => by rw [(p.times_zero _).1 h] at hm; cases hm
            obtain ⟨t, ht⟩ : ∃ t, p.times (k, y) = t + 1 := ⟨p.times (k, y) - 1, by omega⟩
            have HT2 := Lib.hid (show Calls Tryz.prog 97 #[.pointer (some ⟨q, 0, none⟩), .int .i64 (k : Int), .int .i64 (y : Int)] wr fun r w' => r = .returned (.int .i64 ((t : Int) + 1)) ∧ Below wr.heap.size wr w' by
              have h1 := HT1.out
              rw [show p.times ((k, y).1, (k, y).2) = t + 1 from ht] at h1
              exact h1)
            have hne : ((t : Int) + 1 == 0) = false := by first | (simp; done) | (simp; omega)
            clear hm h0 ht HT1 hon
            go_wp2_with fail
            refine HT2.out.mono ?_
            rintro e' w2 ⟨rfl, hb2⟩
            have HB2 := Lib.hid (hbw.out.step hb2)
            have HO2 := Lib.hid (own_below hown.out hb2)
            have HR2 := Lib.hid (hrw.out.below hb2)
            clear hb2 p0 p1 p2 p3 s0 s1
            go_wp2_with fail
            go_roundw
            case rel => exact ⟨y + 1, by omega, by go_num, g, c, rows, rfl, by omega, HO2, HR2, HB2⟩
            case measure => simp [intOf]; omega
        · have hyL : y = L := by omega
          subst hyL
          go_wp2_with fail
          go_roundw
          case rel => exact ⟨k + 1, by omega, by go_num, g, c, rows, rfl, by omega, hown, hrw, hbw⟩
          case measure => simp [intOf]; omega
    · go_wp2_with fail
      go_ret
      exact ⟨g, c, rows, rfl, by omega, hown.out, hrw.out, hbw.out.1⟩
end Go.Proofs.YthemlamdchcicaaGreatDoor
