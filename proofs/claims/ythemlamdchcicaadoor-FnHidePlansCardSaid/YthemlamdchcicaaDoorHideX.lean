/-
  The contract of the reference's BestPlan. No condition of its own.
-/
import Derived.Test.YthemlamdchcicaaDoorHideL
import Derived.Deep.RegionLaw
namespace Go.Proofs.YthemlamdchcicaaDoor
open Go.ChangeShapes Go.WideShapes Go.ChangeAt Go.RowKit Go.Deep Go.Shelf

theorem infoLI : (Tryd.prog.info? 28).map (fun i => (i.zero, i.size, i.bytes)) = some (some (.slice none 0 0), 1, 24) := by kernel_rfl
theorem new_cells {w w' : World} {cs : Array Value} {t H : Nat} (hH : w.heap.size = H) (hw : (w.alloc (.cells cs t)).heap = w'.heap) : ∀ (j : Nat) (u : Value), cs.toList[j]? = some u → w'.cell? ((⟨H, 0, none⟩ : Addr).add j) = some u := by
  subst hH
  intro j u hj
  have h := heap_alloc_new w (.cells cs t)
  rw [hw] at h
  exact World.news_of_block h j u hj
set_option maxHeartbeats 800000 in
theorem appLIW {w0 W : World} {ops : Array Oper} {rest : List Oper} {o : Oper} {a : Act} {Q : Exit → Act → World → Prop} (hgd : o.guard = none) (s x : Operand)
    (ho : o.op = .call { callee := .builtin .append, args := #[s, x], argTypes := #[59, 59] }) (B : Nat) (v : Value) (n : Nat) (xs : List Value) (hs : a.eval s = v) (hown : W.ownsRow B 28 1 v n xs)
    (news : List Value) (hl : news.length = 1) (h1 : ∀ u ∈ news, u.oneCell' = true) (c H : Nat) (hnews : ∀ (j : Nat) u, news[j]? = some u → W.cell? ((⟨H, 0, none⟩ : Addr).add j) = some u) (hx : a.eval x = .slice (some ⟨H, 0, none⟩) 1 c) (hn : n ≤ 1099511627776) (hb : Bel B w0 W)
    (h : ∀ g cap w', w'.ownsRow B 28 1 (.slice (some ⟨g, 0, none⟩) (n + 1) cap) (n + 1) (xs ++ news) → Bel B w0 w' → W.grownBy w' v.ownBlock → (v.ownBlock = some g ∨ W.heap.size ≤ g) → wpList Tryd.prog ops Q rest (a.put o.dst (.slice (some ⟨g, 0, none⟩) (n + 1) cap)) w') :
    wpList Tryd.prog ops Q (o :: rest) a W := by
  obtain ⟨i, hi, q0, q1, q2⟩ := info_parts infoLI
  refine wpList_append_lies _ hgd s x 59 ho B 28 i (.slice none 0 0) 1 24 Tryd.underlying59 hi q0 q1 q2 rfl (by omega) v n xs hs hown ⟨H, 0, none⟩ 1 c news hx (by omega) hnews h1 (by omega) (by unfold maxLen; omega) (by omega) hb.2 _ rfl ?_
  intro g cap w' h3 h4 h5 _
  refine h g cap w' h3 (hb.grown h4 (fun k hk => (own_block hown hk).1)) h4 ?_
  rcases h5 with h5 | h5
  · exact .inl h5
  · exact .inr (by omega)

set_option maxHeartbeats 800000 in
theorem stepLI {w0 W : World} {ops : Array Oper} {o : Oper} {a : Act} {K : Act → World → Prop} {Q : Exit → Act → World → Prop} {E : Prop} (hgd : o.guard = none) (s x : Operand)
    (ho : o.op = .call { callee := .builtin .append, args := #[s, x], argTypes := #[59, 59] }) (B : Nat) (v : Value) (n : Nat) (xs : List Value) (hs : a.eval s = v) (hown : W.ownsRow B 28 1 v n xs)
    (news : List Value) (hl : news.length = 1) (h1 : ∀ u ∈ news, u.oneCell' = true) (c H : Nat) (hnews : ∀ (j : Nat) u, news[j]? = some u → W.cell? ((⟨H, 0, none⟩ : Addr).add j) = some u) (hx : a.eval x = .slice (some ⟨H, 0, none⟩) 1 c) (hn : n ≤ 1099511627776) (hb : Bel B w0 W)
    (h : ∀ g cap w', w'.ownsRow B 28 1 (.slice (some ⟨g, 0, none⟩) (n + 1) cap) (n + 1) (xs ++ news) → Bel B w0 w' → W.grownBy w' v.ownBlock → (v.ownBlock = some g ∨ W.heap.size ≤ g) → K (a.put o.dst (.slice (some ⟨g, 0, none⟩) (n + 1) cap)) w') :
    if Region.wanted o (yielded ops a.tmps) = true then Oper.wp Tryd.prog o a W K Q else E := by
  obtain ⟨i, hi, q0, q1, q2⟩ := info_parts infoLI
  refine step_append_lies _ hgd s x 59 ho B 28 i (.slice none 0 0) 1 24 Tryd.underlying59 hi q0 q1 q2 rfl (by omega) v n xs hs hown ⟨H, 0, none⟩ 1 c news hx (by omega) hnews h1 (by omega) (by unfold maxLen; omega) (by omega) hb.2 _ rfl ?_
  intro g cap w' h3 h4 h5 _
  refine h g cap w' h3 (hb.grown h4 (fun k hk => (own_block hown hk).1)) h4 ?_
  rcases h5 with h5 | h5
  · exact .inl h5
  · exact .inr (by omega)


theorem grown_cell {w w' : World} {row : Option Nat} {b o : Nat} (hg : w.grownBy w' row) (hb : b < w.heap.size) (hne : row ≠ some b) : w'.cell? ⟨b, o, none⟩ = w.cell? ⟨b, o, none⟩ := by
  have e := hg.block b hb (fun e => hne e.symm)
  simp only [World.cell?, e]
theorem grown_frozen {w w' : World} {row : Option Nat} {b o : Nat} (hg : w.grownBy w' row) (hb : b < w.heap.size) (hne : row ≠ some b) : w'.frozen? ⟨b, o, none⟩ = w.frozen? ⟨b, o, none⟩ := by
  have e := hg.block b hb (fun e => hne e.symm)
  simp only [World.frozen?, e]
theorem worths_app (l : List Cut) (c : Cut) : worths (l ++ [c]) = worths l + c.v := by
  induction l with
  | nil => simp [worths]
  | cons d l ih =>
    have e1 : worths (d :: l ++ [c]) = d.v + worths (l ++ [c]) := rfl
    have e2 : worths (d :: l) = d.v + worths l := rfl
    rw [e1, e2, ih]
    omega
theorem cuts_take {zs : List Int} {n k : Nat} (hk : k < n) : (cutsL zs n).take (k + 1) = (cutsL zs n).take k ++ [cutAt zs k] := by
  rw [List.take_add_one, cutsL_at hk]
  rfl
/-- What BestPlan answers. -/
def PlanEnd (w : World) (L : List Int) (s c : Int) (e : Ending) (w' : World) : Prop :=
  ∃ (a : Option Addr) (k cap : Nat), e = .returned (.tuple #[.slice a k cap, .int .i64 s, .int .i64 c]) ∧ L.length = k ∧ k ≤ 1048576 ∧ w'.ownsRow w.heap.size 2 1 (.slice a k cap) k (nints L) ∧ Below w.heap.size w w'
theorem planEnd_fail {w w' : World} (h : Below w.heap.size w w') : PlanEnd w [] 0 1 (.returned (.tuple #[.slice none 0 0, .int .i64 0, .int .i64 1])) w' :=
  ⟨none, 0, 0, rfl, rfl, by omega, ⟨rfl, .inl ⟨rfl, rfl⟩⟩, h⟩
theorem own_box6 (W : World) (B E : Nat) (c0 c1 c2 c3 c4 c5 : Value) (hB : B ≤ W.heap.size) : (W.alloc (.cells #[c0, c1, c2, c3, c4, c5] E)).ownsRow B E 6 (.slice (some ⟨W.heap.size, 0, none⟩) 1 1) 1 [c0, c1, c2, c3, c4, c5] :=
  own_base (World.ownsRow_lit (base := W.heap.size) (size := 6) (e := E) W #[c0, c1, c2, c3, c4, c5] 1 (Nat.le_refl _) (by unfold maxLen; omega) (by simp)) hB
/-- The search's memory while its rows of places are laid. -/
def BuildX (W : World) (B p gp : Nat) (rv lv : Value) (k : Nat) (L : Nat → List Value) : Prop :=
  ∃ (pv : Value) (PA : Nat → Option Addr) (PC : Nat → Nat) (U : Nat → Prop), W.ownsRow B 80 6 (.slice (some ⟨p, 0, none⟩) 1 1) 1 [rv, lv, pv, .slice (some ⟨gp, 0, none⟩) 0 0, .slice none 0 0, .int .i64 (-1)]
    ∧ W.ownsRow B 2 1 (.slice (some ⟨gp, 0, none⟩) 0 0) 0 [] ∧ LL W B 28 2 pv k L PA PC U ∧ ¬ U p ∧ ¬ U gp ∧ p ≠ gp
theorem BuildX.head_ {W : World} {B p gp k : Nat} {rv lv : Value} {L : Nat → List Value} (h : BuildX W B p gp rv lv k L) :
    ∃ a c, W.cell? ⟨p, 2, none⟩ = some (.slice a k c) ∧ W.frozen? ⟨p, 2, none⟩ = false ∧ p < W.heap.size ∧ B ≤ p := by
  obtain ⟨pv, PA, PC, U, h1, h2, h3, _⟩ := h
  obtain ⟨a, c, rfl⟩ := h3.form
  refine ⟨a, c, ?_, h1.frozenAt 2, (own_block (b := p) h1 rfl).2, (own_block (b := p) h1 rfl).1⟩
  rw [h1.cellAt 2 (by omega)]
  rfl
theorem BuildX.below {W W' : World} {B p gp k : Nat} {rv lv : Value} {L : Nat → List Value} (h : BuildX W B p gp rv lv k L) (hb : Below W.heap.size W W') : BuildX W' B p gp rv lv k L := by
  obtain ⟨pv, PA, PC, U, h1, h2, h3, h4⟩ := h
  exact ⟨pv, PA, PC, U, own_below h1 hb, own_below h2 hb, h3.below hb, h4⟩
theorem BuildX.drewN {W : World} {B p gp k : Nat} {rv lv : Value} {L : Nat → List Value} (h : BuildX W B p gp rv lv k L) (q : Nat) : BuildX (W.drewN q) B p gp rv lv k L := h
set_option maxRecDepth 100000 in
set_option maxHeartbeats 6400000 in
theorem spec_BestPlan (w : World) (a : Option Addr) (nr ca : Nat) (rows : List ByteArray) (hn : rows.length = nr) (hn2 : nr ≤ 1048576) (hs : ∀ r ∈ rows, r.size ≤ maxLen) (hc : CellsAt w a (strs rows)) (al : Option Addr) (n cl : Nat) (zs : List Int) (hz : zs.length = n * 4) (hn3 : n ≤ 1048576) (hcl : CellsAt w al (zs.map (Value.int .i64))) :
    Calls Tryd.prog 15 #[.slice a nr ca, .slice al n cl] w (PlanEnd w (planL rows zs n) (planW rows zs n) (planC rows zs n)) := by
  have H1 := Lib.hid (l10Ok_any a rows nr ca w hn hn2 hs hc)
  have H2 := Lib.hid (fun W (hb : Below w.heap.size w W) => l10Cuts_any al n cl zs W hz hn3 (hcl.below hb))
  cases hh : hideB rows with
  | false =>
    have e : planOk rows zs n = false := by simp [planOk, hh]
    rw [show planL rows zs n = [] by simp [planL, e], show planW rows zs n = 0 by simp [planW, e], show planC rows zs n = 1 by simp [planC, e]]
    rw [hh] at H1
    clear hh e hn hs hc hz hcl
    go_enter Tryd.func15, Tryd.ntmps15
    go_wp2_with (go_at_call 42; (with_reducible refine H1.out.mono ?_); rintro e w1 ⟨rfl, hb1⟩; have HB1 := Lib.hid hb1; clear hb1)
    go_ret3
    exact planEnd_fail HB1.out
  | true =>
    rw [hh] at H1
    cases hk : cutsB zs n with
    | false =>
      have e : planOk rows zs n = false := by simp [planOk, hk]
      rw [show planL rows zs n = [] by simp [planL, e], show planW rows zs n = 0 by simp [planW, e], show planC rows zs n = 1 by simp [planC, e]]
      rw [hk] at H2
      clear hh hk e hn hs hc hz hcl
      go_enter Tryd.func15, Tryd.ntmps15
      go_wp2_with (first | (go_at_call 42; (with_reducible refine H1.out.mono ?_); rintro e w1 ⟨rfl, hb1⟩; have HB1 := Lib.hid hb1; clear hb1) | (go_at_call 43; (with_reducible refine (H2.out _ HB1.out).mono ?_); rintro e w2 ⟨rfl, hb2⟩; have HB2 := Lib.hid (HB1.out.trans (hb2.mono HB1.out.size)); clear hb2))
      go_ret3
      exact planEnd_fail HB2.out
    | true =>
      have hOk := hideB_ok hh
      rw [hn] at hOk
      have e : planOk rows zs n = true := by simp [planOk, hh, hk]
      obtain ⟨m, hm⟩ : ∃ m, (rows.getD 0 ⟨#[]⟩).size = m := ⟨_, rfl⟩
      rw [hm] at hOk
      rw [show planL rows zs n = (best0 rows nr m (cutsL zs n)).1 by simp only [planL, e, if_true, hn, hm], show planW rows zs n = (best0 rows nr m (cutsL zs n)).2 by simp only [planW, e, if_true, hn, hm], show planC rows zs n = 0 by simp [planC, e]]
      have hbl := best0_len rows nr m (cutsL zs n)
      rw [cutsL_len] at hbl
      have hn4 := cutsB_n hk
      rw [hk] at H2
      have HOk := Lib.hid hOk
      have HZ := Lib.hid hz
      have HCu := Lib.hid hk
      have HC := Lib.hid hc
      have HCL := Lib.hid hcl
      clear hh hk e hn hs hc hz hcl hm hOk
      go_enter Tryd.func15, Tryd.ntmps15
      go_wp2_with fail
      refine H1.out.mono ?_
      rintro e w1 ⟨rfl, hb1⟩
      have HB1 := Lib.hid hb1
      clear hb1
      go_wp2_with fail
      refine (H2.out w1 HB1.out).mono ?_
      rintro e w2 ⟨rfl, hb2⟩
      have HB2 := Lib.hid ((Bel.of HB1.out).step hb2)
      clear hb2
      go_upto_region 4 with fail
      have hW := show BuildX ((w2.alloc (.cells #[] 2)).alloc (.cells #[.slice a nr ca, .slice al n cl, .slice none 0 0, .slice (some ⟨w2.heap.size, 0, none⟩) 0 0, .slice none 0 0, .int .i64 (-1)] 80)) w.heap.size (w2.heap.size + 1) w2.heap.size (.slice a nr ca) (.slice al n cl) 0 (fun k => nints (plI rows nr m (cutAt zs k) (nr * m))) from by
        have hb : w.heap.size ≤ w2.heap.size := HB2.out.2
        have h1 := own_box6 (w2.alloc (.cells #[] 2)) w.heap.size 80 (.slice a nr ca) (.slice al n cl) (.slice none 0 0) (.slice (some ⟨w2.heap.size, 0, none⟩) 0 0) (.slice none 0 0) (.int .i64 (-1)) (by simp; omega)
        rw [show (w2.alloc (.cells #[] 2)).heap.size = w2.heap.size + 1 by simp] at h1
        exact ⟨.slice none 0 0, fun _ => none, fun _ => 0, fun _ => False, h1, (own_none' w2 _ _ _ hb).alloc _, LL.none (E := 0) (by simp; omega), id, id, by omega⟩
      have hB3 := ((HB2.out.alloc (.cells #[] 2)).alloc (.cells #[.slice a nr ca, .slice al n cl, .slice none 0 0, .slice (some ⟨w2.heap.size, 0, none⟩) 0 0, .slice none 0 0, .int .i64 (-1)] 80))
      generalize ((w2.alloc (.cells #[] 2)).alloc (.cells #[.slice a nr ca, .slice al n cl, .slice none 0 0, .slice (some ⟨w2.heap.size, 0, none⟩) 0 0, .slice none 0 0, .int .i64 (-1)] 80)) = w3 at hW hB3 ⊢
      generalize hp : w2.heap.size + 1 = p at hW ⊢
      generalize hgp : w2.heap.size = gp at hW ⊢
      have HW := Lib.hid hW
      have HB3 := Lib.hid hB3
      have Hpg := Lib.hid (show w.heap.size ≤ gp ∧ w.heap.size ≤ p from ⟨by rw [← hgp]; exact HB2.out.2, by have := HB2.out.2; omega⟩)
      have HPl := Lib.hid (fun (c : Cut) (hc : CutOk c) (W : World) (hW : Below w.heap.size w W) => l10Places_any a rows nr m ca c W HOk.out (HC.out.below hW) hc)
      clear hW hB3 hp hgp HB2
      go_wp2_with fail
      go_loopw [8, 9] (fun u v W => ∃ k : Nat, k ≤ n ∧ v = .int .i64 (k : Int) ∧ (∃ y : Int, u = .int .i64 y ∧ Hid (y = worths ((cutsL zs n).take k))) ∧ Hid (BuildX W w.heap.size p gp (.slice a nr ca) (.slice al n cl) k (fun k => nints (plI rows nr m (cutAt zs k) (nr * m)))) ∧ Hid (Bel w.heap.size w W)) (fun _ v _ => n - (intOf v).toNat)
      case atStart => exact ⟨0, Nat.zero_le _, rfl, ⟨0, rfl, Lib.hid rfl⟩, HW, HB3⟩
      case round =>
        obtain ⟨k, hk, rfl, ⟨y, rfl, hy⟩, hst, hbw⟩ := hrel
        by_cases hlt : k < n
        · have hkn : (k : Int) < (n : Int) := by omega
          obtain ⟨ao, co, c2, f2, hpl, hpB⟩ := hst.out.head_
          obtain ⟨bL, oL, e, hbL, hcL⟩ := HCL.out.at_ (by have := HZ.out; simp; omega)
          subst e
          obtain ⟨_, hck, e0, e1⟩ := cutsB_at HCu.out hlt
          obtain ⟨x0, x1, x2, x3⟩ := cut_cells hbL hbw.out.1 hcL HZ.out hlt e0 e1
          obtain ⟨c, hc⟩ : ∃ c, cutAt zs k = c := ⟨_, rfl⟩
          rw [hc] at x0 x1 x2 x3 hck
          have hbL2 : bL < wr.heap.size := Nat.lt_of_lt_of_le hbL hbw.out.2
          have Hc := Lib.hid hc
          have HP := Lib.hid (fun (W : World) (hW : Below w.heap.size w W) => HPl.out c hck W hW)
          clear hc e0 e1 hcL
          go_upto_region 8 with fail
          obtain ⟨pv, PA, PC, U, q1, q2, q3, q4, q5, q6⟩ := hst.out
          have hpv : pv = .slice ao k co := by
            have h := q1.cellAt 2 (by omega)
            rw [c2] at h
            simpa using h.symm
          subst hpv
          have Q1 := Lib.hid q1
          have Q2 := Lib.hid q2
          have Q3 := Lib.hid q3
          have Q4 := Lib.hid (And.intro q4 (And.intro q5 q6))
          have hLen := plI_len rows nr m c (nr * m)
          have hnm : nr * m ≤ 36 := Nat.mul_le_mul HOk.out.n6 HOk.out.m6
          obtain ⟨ps, hps⟩ : ∃ ps, plI rows nr m c (nr * m) = ps := ⟨_, rfl⟩
          rw [hps] at hLen
          have Hps := Lib.hid hps
          obtain ⟨l, hl⟩ : ∃ l, ps.length = l := ⟨_, rfl⟩
          have HP1 := Lib.hid (fun (W : World) (hW : Below w.heap.size w W) => by have h := HP.out W hW; rw [hps, hl] at h; exact h)
          have Hl := Lib.hid (show (nints ps).length = l by simp [hl])
          have hlen2 : l ≤ 36 := by omega
          have hBp : ∀ (W : World), wr.heap.size ≤ W.heap.size → p < W.heap.size := fun W h => Nat.lt_of_lt_of_le hpl h
          have HBp := Lib.hid hBp
          have HSk := Lib.hid (fun (W : World) (h : ∀ b o, b < wr.heap.size → (b = p ∨ b = bL) → W.cell? ⟨b, o, none⟩ = wr.cell? ⟨b, o, none⟩ ∧ W.frozen? ⟨b, o, none⟩ = wr.frozen? ⟨b, o, none⟩) => show W.cell? ⟨p, 2, none⟩ = some (.slice ao k co) ∧ W.cell? ⟨bL, oL + k * 4, none⟩ = some (.int .i64 (c.w : Int)) ∧ W.cell? ⟨bL, oL + k * 4 + 1, none⟩ = some (.int .i64 (c.h : Int)) ∧ W.cell? ⟨bL, oL + k * 4 + 2, none⟩ = some (.int .i64 c.q) ∧ W.cell? ⟨bL, oL + k * 4 + 3, none⟩ = some (.int .i64 c.v) ∧ W.frozen? ⟨p, 2, none⟩ = false from
            ⟨(h _ _ hpl (.inl rfl)).1.trans c2, (h _ _ hbL2 (.inr rfl)).1.trans x0, (h _ _ hbL2 (.inr rfl)).1.trans x1, (h _ _ hbL2 (.inr rfl)).1.trans x2, (h _ _ hbL2 (.inr rfl)).1.trans x3, (h _ _ hpl (.inl rfl)).2.trans f2⟩)
          have HbL := Lib.hid (show bL < w.heap.size from hbL)
          have HSg := Lib.hid (fun (v5 v6 : World) (x : Obj) (h5 : Below wr.drew.heap.size wr.drew v5) (h6 : (v5.alloc x).grownBy v6 (Value.slice ao k co).ownBlock) => HSk.out v6 (fun b o h hpb => by
            have h5' : b < v5.heap.size := Nat.lt_of_lt_of_le h h5.size
            have hne : (Value.slice ao k co).ownBlock ≠ some b := by
              intro e
              rcases hpb with rfl | rfl
              · exact Q4.out.1 (Q3.out.2.1 _ e)
              · have := (own_block Q3.out.1 e).1
                have := HbL.out
                omega
            have hlt : b < (v5.alloc x).heap.size := by simp; omega
            have hba := (Below.refl v5.heap.size v5).alloc (Nat.le_refl _) x
            exact ⟨(grown_cell h6 hlt hne).trans ((hba.cell (p := ⟨b, o, none⟩) h5').trans (h5.cell (p := ⟨b, o, none⟩) h)), (grown_frozen h6 hlt hne).trans ((hba.frozen (p := ⟨b, o, none⟩) h5').trans (h5.frozen (p := ⟨b, o, none⟩) h))⟩))
          have HSa := Lib.hid (fun (v5 : World) (x : Obj) (h5 : Below wr.drew.heap.size wr.drew v5) => HSk.out (v5.alloc x) (fun b o h _ => by
            have h5' : b < v5.heap.size := Nat.lt_of_lt_of_le h h5.size
            have hba := (Below.refl v5.heap.size v5).alloc (Nat.le_refl _) x
            exact ⟨(hba.cell (p := ⟨b, o, none⟩) h5').trans (h5.cell (p := ⟨b, o, none⟩) h), (hba.frozen (p := ⟨b, o, none⟩) h5').trans (h5.frozen (p := ⟨b, o, none⟩) h)⟩))
          have HBd := Lib.hid (show Below w.heap.size w wr.drew from hbw.out.drew.1)
          clear hps hl q1 q2 q3 q4 q5 q6 hBp
          go_region_law (first | (go_simp; go_at_call 35; (with_reducible refine (HP1.out wr.drew HBd.out).mono ?_); rintro e w5 ⟨aP, cP, rfl, hoP, hbP⟩; obtain ⟨s0, s1, s2, s3, s4, s5⟩ := HSk.out w5 (fun b o h _ => ⟨hbP.cell (p := ⟨b, o, none⟩) h, hbP.frozen (p := ⟨b, o, none⟩) h⟩); have hp5 : p < w5.heap.size := Nat.lt_of_lt_of_le hpl hbP.size; have hp6 : p < w5.heap.size + 1 := Nat.lt_succ_of_lt hp5) | (refine stepLI (by rfl) _ _ (by rfl) w.heap.size _ _ _ (by rfl) ((Q3.out.drew.below (W' := w5) hbP).1.alloc _) [.slice aP l cP] (by rfl) (by simp [Value.oneCell']) 1 w5.heap.size (new_cells (w := w5) (cs := #[.slice aP l cP]) (t := 28) rfl rfl) (by rfl) (by omega) ((hbw.out.drew.step hbP).alloc _) ?_; intro g5 cap5 w6 ho6 hb6 hg6 hat6; obtain ⟨t0, t1, t2, t3, t4, t5⟩ := HSg.out w5 w6 _ hbP hg6) | fail)
          all_goals
            have hszB : w.heap.size ≤ wr.heap.size := hbw.out.2
            have hLLa := (Q3.out.drew.below (W' := w5) hbP).alloc (.cells #[.slice aP l cP] 28)
            have hin : (w5.alloc (.cells #[.slice aP l cP] 28)).ownsRow w.heap.size 2 1 (.slice aP (nints ps).length cP) (nints ps).length (nints ps) := by rw [Hl.out]; exact (own_base hoP hszB).alloc _
            have hfresh : ∀ b, (Value.slice aP (nints ps).length cP).ownBlock = some b → wr.heap.size ≤ b := fun b e => by rw [Hl.out] at e; exact (own_block hoP e).1
            have hLLb := hLLa.app (ai := aP) (ci := cP) (xs := nints ps) hg6 hat6 (by rw [Hl.out]; exact ho6) (by show nints (plI rows nr m (cutAt zs k) (nr * m)) = nints ps; rw [Hc.out, Hps.out]) hin (fun b e hu => by have h1 := hfresh b e; have h2 := Q3.out.2.2.1 b hu; omega)
            have hown : (Value.slice ao k co).ownBlock ≠ some p := fun e => Q4.out.1 (Q3.out.2.1 _ e)
            have hgl := (own_block (b := gp) Q2.out rfl).2
            have hown2 : (Value.slice ao k co).ownBlock ≠ some gp := fun e => Q4.out.2.1 (Q3.out.2.1 _ e)
            have hpg5 : p ≠ g5 ∧ gp ≠ g5 := by
              rcases hat6 with h | h
              · exact ⟨fun e => hown (by rw [e]; exact h), fun e => hown2 (by rw [e]; exact h)⟩
              · have h1 := hbP.size
                simp at h
                have h2 : wr.heap.size ≤ w5.heap.size := h1
                omega
            have hbelow : Below wr.drew.heap.size wr.drew (w5.alloc (.cells #[.slice aP l cP] 28)) := hbP.alloc hbP.size _
            have r1 := own_grown_ne (own_below (w := wr.drew) Q1.out hbelow) hg6 (fun b hb e => by
              have : p = b := by simpa [Value.ownBlock] using hb
              rw [← this] at e; exact hown e)
            have r2 := own_grown_ne (own_below (w := wr.drew) Q2.out hbelow) hg6 (fun b hb e => by
              have : gp = b := by simpa [Value.ownBlock] using hb
              rw [← this] at e; exact hown2 e)
            have rs := r1.stored 2 (.slice (some ⟨g5, 0, none⟩) (k + 1) cap5)
            have hU1 : ∀ x, x < wr.heap.size → ¬ U x → x ≠ g5 → ¬ (U x ∨ x = g5 ∨ (Value.slice aP (nints ps).length cP).ownBlock = some x) := fun x h1 h2 h3 h => by
              rcases h with h | h | h
              · exact h2 h
              · exact h3 h
              · have := hfresh x h; omega
            have HM7 := Lib.hid (show BuildX (w6.setCell ⟨p, 2, none⟩ (.slice (some ⟨g5, 0, none⟩) (k + 1) cap5)) w.heap.size p gp (.slice a nr ca) (.slice (some ⟨bL, oL, none⟩) n cl) (k + 1) (fun k => nints (plI rows nr m (cutAt zs k) (nr * m))) from
              ⟨_, _, _, _, rs.1, own_no r2 rs.2 (blk_ne (m := 0) Q4.out.2.2.symm), hLLb.grown rs.2 (hU1 p hpl Q4.out.1 hpg5.1), hU1 p hpl Q4.out.1 hpg5.1, hU1 gp hgl Q4.out.2.1 hpg5.2, Q4.out.2.2⟩)
            have HB7 := Lib.hid (hb6.grown rs.2 (fun j h => by cases h; exact Hpg.out.2))
            have hbp : bL ≠ p := by have := HbL.out; have := Hpg.out.2; omega
            have T4 := Lib.hid (show (w6.setCell ⟨p, 2, none⟩ (.slice (some ⟨g5, 0, none⟩) (k + 1) cap5)).cell? ⟨bL, oL + k * 4 + 3, none⟩ = some (.int .i64 c.v) from (grown_cell rs.2 (by have := HbL.out; have := hb6.2; omega) (fun e => hbp (by simpa using e.symm))).trans t4)
            have HbL7 := Lib.hid (show bL < (w6.setCell ⟨p, 2, none⟩ (.slice (some ⟨g5, 0, none⟩) (k + 1) cap5)).heap.size by have := HbL.out; have := HB7.out.2; omega)
            clear rs r1 r2 hbelow hpg5 hown2 hgl hown hLLb hfresh hin hLLa hU1 hbp t0 t1 t2 t3 t4 t5 s0 s1 s2 s3 s4 s5 ho6 hb6 hg6 hat6 hoP hbP hp5 hp6 x0 x1 x2 x3 c2 f2
            generalize w6.setCell _ _ = w7 at HM7 HB7 T4 HbL7 ⊢
            have t4 := T4.out
            have hbL7 := HbL7.out
            have hv0 := hck.2.2.2.1
            have hv1 := hck.2.2.2.2
            have hyb := worths_le (cs := (cutsL zs n).take k) (fun c hc => cutsL_ok HCu.out c (List.mem_of_mem_take hc))
            rw [← hy.out] at hyb
            have hyb2 : 0 ≤ y ∧ y ≤ 4000 := by have h := List.length_take_le k (cutsL zs n); omega
            obtain ⟨hyb0, hyb1⟩ := hyb2
            clear hyb
            go_wp2_with fail
            go_roundw
            case rel => exact ⟨k + 1, by omega, by go_num, ⟨_, rfl, Lib.hid (by rw [cuts_take hlt, worths_app, ← hy.out, Hc.out])⟩, HM7, HB7⟩
            case measure => simp [intOf]; omega
        · obtain rfl : k = n := by omega
          obtain ⟨pv, PA, PC, U, q1, q2, q3, q4, q5, q6⟩ := hst.out
          obtain ⟨ao, co, rfl⟩ := q3.form
          have hold : ∀ b, b < w.heap.size → ¬ In2 p gp b := fun b hb h => by have := Hpg.out; rcases h with h | h <;> omega
          have hfix : FixAt wr (In2 p gp) a al ao rows zs k (fun k => nints (plI rows nr m (cutAt zs k) (nr * m))) PA PC :=
            ⟨CellsOff.old HC.out hbw.out.1 hold, CellsOff.old HCL.out hbw.out.1 hold, CellsOff.own q3.1 (fun b e h => by
              have hu := q3.2.1 b e
              rcases h with h | h
              · exact q4 (h ▸ hu)
              · exact q5 (h ▸ hu)), fun j hj => CellsOff.own (q3.2.2.2 j hj).1 (fun b e h => by
              have hu := ((q3.2.2.2 j hj).2 b e).1
              rcases h with h | h
              · exact q4 (h ▸ hu)
              · exact q5 (h ▸ hu))⟩
          have hX : PlanX wr w.heap.size p gp (.slice a nr ca) (.slice al k cl) (.slice ao k co) 0 0 [] [] (-1) := ⟨.slice none 0 0, 0, q1, q2, ⟨rfl, .inl ⟨rfl, rfl⟩⟩, by simp [Value.ownBlock], by simp [Value.ownBlock], q6⟩
          have hw := planWalk_any w wr p gp nr m ca k cl co a al ao rows zs PA PC HOk.out HZ.out HCu.out hfix k 0 0 y [] [] (-1) gp 0 wr (by omega) rfl (fun j => by have h1 := HOk.out.n1; have h2 := HOk.out.m1; have := Nat.mul_le_mul h1 h2; simp; omega) (by omega) (by omega) (by rw [hy.out, List.drop_zero, List.take_of_length_le (by rw [cutsL_len]; exact Nat.le_refl _)]) hbw.out (Kept.refl _ _) (.inl rfl) hX
          rw [List.drop_zero, show bestTo rows nr m (cutsL zs k) (doneL zs [] 0) 0 ([], -1) = best0 rows nr m (cutsL zs k) from rfl] at hw
          obtain ⟨⟨bl, bw⟩, hbr⟩ : ∃ r, best0 rows nr m (cutsL zs k) = r := ⟨_, rfl⟩
          rw [hbr] at hw hbl
          have HBr := Lib.hid hbr
          have HW2 := Lib.hid hw
          have HBl := Lib.hid hbl
          clear hw hX hfix hold q1 q2 q3 q4 q5 q6 hbr hbl
          go_wp2_with fail
          refine HW2.out.mono ?_
          rintro e w4 ⟨rfl, hb4, _, gp4, cp4, _, hm4⟩
          obtain ⟨bv, nb, k1, k2, k3, _⟩ := hm4
          obtain ⟨ab, cb, rfl⟩ := own_cap k3
          have c4 : w4.cell? ⟨p, 4, none⟩ = some (.slice ab nb cb) := by rw [k1.cellAt 4 (by omega)]; rfl
          have c5 : w4.cell? ⟨p, 5, none⟩ = some (.int .i64 bw) := by rw [k1.cellAt 5 (by omega)]; rfl
          have hnb : bl.length = nb := by have := k3.1; simpa using this
          have HE := Lib.hid (fun q => show PlanEnd w bl bw 0 (.returned (.tuple #[.slice ab nb cb, .int .i64 bw, .int .i64 0])) (w4.drewN q) from ⟨ab, nb, cb, rfl, hnb, by have h2 := HBl.out; have h3 : bl.length = k := h2; omega, k3, below_drewN hb4.1 _⟩)
          clear k1 k2 k3 hb4 hnb
          go_wp2_with fail
          go_big_quiet (fail)
          go_wp2_with fail
          go_ret3
          rw [HBr.out]
          exact HE.out _
end Go.Proofs.YthemlamdchcicaaDoor
