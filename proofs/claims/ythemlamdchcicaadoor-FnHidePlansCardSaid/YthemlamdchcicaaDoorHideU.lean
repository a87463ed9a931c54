/-
  The contract of the reference's search for the best plan. No condition of its own.
-/
import Derived.Test.YthemlamdchcicaaDoorHideM
import Derived.Test.YthemlamdchcicaaDoorSlices
import Derived.WalkSmall
import Derived.Deep.DeepCutAuto
namespace Go.Proofs.YthemlamdchcicaaDoor
open Go.ChangeShapes Go.WideShapes Go.ChangeAt Go.RowKit Go.Deep Go.Shelf

/-- The memory of the reference's search. -/
def PlanX (W : World) (B p gp : Nat) (rv lv pv : Value) (i cp : Nat) (pre best : List Int) (worth : Int) : Prop :=
  ∃ (bv : Value) (nb : Nat), W.ownsRow B 80 6 (.slice (some ⟨p, 0, none⟩) 1 1) 1 [rv, lv, pv, .slice (some ⟨gp, 0, none⟩) i cp, bv, .int .i64 worth]
    ∧ W.ownsRow B 2 1 (.slice (some ⟨gp, 0, none⟩) i cp) i (nints pre) ∧ W.ownsRow B 2 1 bv nb (nints best) ∧ bv.ownBlock ≠ some p ∧ bv.ownBlock ≠ some gp ∧ p ≠ gp
section
variable {W : World} {B p gp i cp : Nat} {rv lv pv : Value} {pre best : List Int} {worth : Int}
theorem PlanX.set_ (h : PlanX W B p gp rv lv pv i cp pre best worth) (k : Nat) (x : Int) :
    PlanX (W.setCell ⟨gp, k, none⟩ (.int .i64 x)) B p gp rv lv pv i cp (pre.set k x) best worth ∧ W.grownBy (W.setCell ⟨gp, k, none⟩ (.int .i64 x)) (some gp) := by
  obtain ⟨bv, nb, h1, h2, h3, h4, h5, h6⟩ := h
  have hs := h2.stored k (.int .i64 x)
  exact ⟨⟨bv, nb, own_no h1 hs.2 (blk_ne (m := 0) h6), by rw [nints, List.map_set]; exact hs.1, own_no h3 hs.2 h5, h4, h5, h6⟩, hs.2⟩
theorem PlanX.field_ {W' : World} {g j cap : Nat} {pre' : List Int} (h : PlanX W B p gp rv lv pv i cp pre best worth) (hg : W.grownBy W' (some gp)) (hat : gp = g ∨ W.heap.size ≤ g)
    (ho : W'.ownsRow B 2 1 (.slice (some ⟨g, 0, none⟩) j cap) j (nints pre')) :
    PlanX (W'.setCell ⟨p, 3, none⟩ (.slice (some ⟨g, 0, none⟩) j cap)) B p g rv lv pv j cap pre' best worth ∧ W'.grownBy (W'.setCell ⟨p, 3, none⟩ (.slice (some ⟨g, 0, none⟩) j cap)) (some p)
      ∧ (∃ v, W'.cell? ⟨p, 3, none⟩ = some v) ∧ W'.frozen? ⟨p, 3, none⟩ = false := by
  obtain ⟨bv, nb, h1, h2, h3, h4, h5, h6⟩ := h
  have bp := (own_block (b := p) h1 rfl).2
  have hpg : p ≠ g := by rcases hat with rfl | hh <;> omega
  have k1 := own_no h1 hg (blk_ne (m := 0) h6)
  have k3 := own_no h3 hg h5
  have hs := k1.stored 3 (.slice (some ⟨g, 0, none⟩) j cap)
  have hbv : bv.ownBlock ≠ some g := by
    rcases hat with rfl | hh
    · exact h5
    · intro e
      have := (own_block h3 e).2
      omega
  exact ⟨⟨bv, nb, hs.1, own_no ho hs.2 (blk_ne (m := 0) hpg.symm), own_no k3 hs.2 h4, h4, hbv, hpg⟩, hs.2, ⟨_, by rw [k1.cellAt 3 (by omega)]; rfl⟩, k1.frozenAt 3⟩
theorem PlanX.best_ {W' : World} {av : Value} {na : Nat} (h : PlanX W B p gp rv lv pv i cp pre best worth) {bs : List Int} (hn : W'.ownsRow W.heap.size 2 1 av na (nints bs)) (hb : Below W.heap.size W W') (hB : B ≤ W.heap.size) (x : Int) :
    PlanX ((W'.setCell ⟨p, 4, none⟩ av).setCell ⟨p, 5, none⟩ (.int .i64 x)) B p gp rv lv pv i cp pre bs x ∧ W'.grownBy ((W'.setCell ⟨p, 4, none⟩ av).setCell ⟨p, 5, none⟩ (.int .i64 x)) (some p) := by
  obtain ⟨bv, nb, h1, h2, h3, h4, h5, h6⟩ := h
  have k1 := own_below h1 hb
  have k2 := k1.stored 4 av
  have k3 := k2.1.stored 5 (.int .i64 x)
  have hg := grown_trans_row k2.2 k3.2
  have bp := (own_block (b := p) h1 rfl).2
  have bgp := (own_block (b := gp) h2 rfl).2
  have hnew : ∀ b, b < W.heap.size → av.ownBlock ≠ some b := fun b hb e => by have := (own_block hn e).1; omega
  exact ⟨⟨av, na, k3.1, own_no (own_below h2 hb) hg (blk_ne (m := 0) h6.symm), own_no (own_base hn hB) hg (hnew _ bp), hnew _ bp, hnew _ bgp, h6⟩, hg⟩
theorem PlanX.head_ (h : PlanX W B p gp rv lv pv i cp pre best worth) :
    ∃ bv, W.cell? ⟨p, 0, none⟩ = some rv ∧ W.cell? ⟨p, 1, none⟩ = some lv ∧ W.cell? ⟨p, 2, none⟩ = some pv ∧ W.cell? ⟨p, 3, none⟩ = some (.slice (some ⟨gp, 0, none⟩) i cp) ∧ W.cell? ⟨p, 4, none⟩ = some bv ∧ W.cell? ⟨p, 5, none⟩ = some (.int .i64 worth)
      ∧ W.frozen? ⟨p, 3, none⟩ = false ∧ W.frozen? ⟨p, 4, none⟩ = false ∧ W.frozen? ⟨p, 5, none⟩ = false := by
  obtain ⟨bv, nb, h1, _⟩ := h
  refine ⟨bv, ?_, ?_, ?_, ?_, ?_, ?_, h1.frozenAt 3, h1.frozenAt 4, h1.frozenAt 5⟩
  all_goals
    rw [h1.cellAt _ (by omega)]
    rfl
theorem PlanX.row (h : PlanX W B p gp rv lv pv i cp pre best worth) : W.ownsRow B 2 1 (.slice (some ⟨gp, 0, none⟩) i cp) i (nints pre) := by
  obtain ⟨bv, nb, h1, h2, _⟩ := h
  exact h2
theorem PlanX.planAt (h : PlanX W B p gp rv lv pv i cp pre best worth) {k : Nat} (hk : k < i) : (∃ u, W.cell? ⟨gp, k, none⟩ = some (.int .i64 u)) ∧ W.frozen? ⟨gp, k, none⟩ = false := by
  obtain ⟨bv, nb, h1, h2, _⟩ := h
  have hl : pre.length = i := by have := h2.1; simpa using this
  refine ⟨⟨pre[k]'(by omega), ?_⟩, h2.frozenAt k⟩
  rw [h2.cellAt k (by omega)]
  simp [List.getElem?_eq_getElem (show k < pre.length by omega)]
theorem PlanX.room (h : PlanX W B p gp rv lv pv i cp pre best worth) : i ≤ cp := by
  rcases h.row.2 with ⟨h0, _⟩ | ⟨g, cap, cur, hv, _, _, h1, _⟩
  · cases h0
  · cases hv
    exact h1
theorem PlanX.base (h : PlanX W B p gp rv lv pv i cp pre best worth) : B ≤ p ∧ B ≤ gp ∧ p < W.heap.size ∧ gp < W.heap.size := by
  obtain ⟨bv, nb, h1, h2, _⟩ := h
  exact ⟨(own_block (b := p) h1 rfl).1, (own_block (b := gp) h2 rfl).1, (own_block (b := p) h1 rfl).2, (own_block (b := gp) h2 rfl).2⟩
theorem PlanX.pop_ {x : Int} (h : PlanX W B p gp rv lv pv (i + 1) cp (pre ++ [x]) best worth) (hl : pre.length = i) :
    PlanX (W.setCell ⟨p, 3, none⟩ (.slice (some ⟨gp, 0, none⟩) i cp)) B p gp rv lv pv i cp pre best worth ∧ W.grownBy (W.setCell ⟨p, 3, none⟩ (.slice (some ⟨gp, 0, none⟩) i cp)) (some p) := by
  have hr := h.row
  rw [nints, List.map_append] at hr
  have hp := ownsRow_pop (xs := nints pre) (by simp [hl]) hr
  have hf := h.field_ (World.grownBy.refl W (some gp)) (.inl rfl) hp
  exact ⟨hf.1, hf.2.1⟩
end
theorem set_last {pre : List Int} {i : Nat} (x y : Int) (h : pre.length = i) : (pre ++ [x]).set i y = pre ++ [y] := by
  subst h
  simp
theorem okB_free {rows : List ByteArray} {n m f : Nat} {c : Cut} {done : List (Cut × Int)} (h1 : f < n * m) (h2 : fitsB rows n m c f = true) : okB rows n m done (c, (f : Int)) = freeB m done c f := by
  have e : ((f : Nat) : Int).toNat = f := by omega
  unfold okB
  simp only [e]
  rw [decide_eq_false (show ¬ ((f : Nat) : Int) < 0 by omega), decide_eq_true h1, h2]
  simp
theorem getD_last {pre : List Int} {i : Nat} {x : Int} (h : pre.length = i) : (pre ++ [x]).getD i 0 = x := by
  subst h
  simp
theorem getD_app_lt {pre : List Int} {x : Int} {N : Int} (h : ∀ k, pre.getD k 0 < N) (hx : x < N) (h0 : 0 < N) (k : Nat) : (pre ++ [x]).getD k 0 < N := by
  rcases Nat.lt_trichotomy k pre.length with hk | hk | hk
  · rw [List.getD_eq_getElem?_getD, List.getElem?_append_left hk, ← List.getD_eq_getElem?_getD]; exact h k
  · rw [getD_last hk.symm]; exact hx
  · rw [List.getD_eq_getElem?_getD, List.getElem?_eq_none (by simp; omega)]; exact h0
/-- The blocks that a search writes. -/
def In2 (p gp : Nat) (b : Nat) : Prop := b = p ∨ b = gp
/-- What the search leaves. -/
def PlanEndS (w0 wS : World) (p gp0 : Nat) (rv lv pv : Value) (i : Nat) (pre : List Int) (st : List Int × Int) (e : Ending) (w' : World) : Prop :=
  e = .returned (.tuple #[]) ∧ Bel w0.heap.size w0 w' ∧ Kept wS w' (In2 p gp0) ∧ ∃ gp cp, (gp = gp0 ∨ wS.heap.size ≤ gp) ∧ PlanX w' w0.heap.size p gp rv lv pv i cp pre st.1 st.2

set_option maxRecDepth 100000 in
set_option maxHeartbeats 12800000 in
theorem planWalk_any (w0 wS : World) (p gp0 n m ca nl cl cpl : Nat) (a al apl : Option Addr) (rows : List ByteArray) (zs : List Int) (PA : Nat → Option Addr) (PC : Nat → Nat)
    (hok : HideOk rows n m) (hz : zs.length = nl * 4) (hcuts : cutsB zs nl = true) (hfix : FixAt wS (In2 p gp0) a al apl rows zs nl (fun k => nints (plI rows n m (cutAt zs k) (n * m))) PA PC) (d : Nat) :
    ∀ (i : Nat) (sum left : Int) (pre best : List Int) (worth : Int) (gp cp : Nat) (w : World), i + d = nl → pre.length = i → (∀ k, pre.getD k 0 < ((n * m : Nat) : Int)) → 0 ≤ sum → sum ≤ 1000 * i → left = worths ((cutsL zs nl).drop i) → Bel w0.heap.size w0 w → Kept wS w (In2 p gp0) → (gp = gp0 ∨ wS.heap.size ≤ gp) →
      PlanX w w0.heap.size p gp (.slice a n ca) (.slice al nl cl) (.slice apl nl cpl) i cp pre best worth →
      Calls Tryd.prog 44 #[.pointer (some ⟨p, 0, none⟩), .int .i64 sum, .int .i64 left] w (PlanEndS w0 wS p gp0 (.slice a n ca) (.slice al nl cl) (.slice apl nl cpl) i pre (bestTo rows n m ((cutsL zs nl).drop i) (doneL zs pre i) sum (best, worth))) := by
  induction d with
  | zero =>
    intro i sum left pre best worth gp cp w hi hpl hpb h0 h1 hleft hb hk hgp hmem
    obtain rfl : i = nl := by omega
    have hn4 := cutsB_n hcuts
    obtain ⟨bv, c0, c1, c2, c3, c4, c5, f3, f4, f5⟩ := hmem.head_
    have hd0 : (cutsL zs i).drop i = [] := List.drop_of_length_le (by rw [cutsL_len]; exact Nat.le_refl _)
    rw [hd0] at hleft ⊢
    obtain rfl : left = 0 := hleft
    by_cases hcut : sum ≤ worth
    · rw [bestTo_cut (by simp) (by simp [worths]; exact hcut)]
      have HE := Lib.hid (show PlanEndS w0 wS p gp0 (.slice a n ca) (.slice al i cl) (.slice apl i cpl) i pre (best, worth) (.returned (.tuple #[])) w from ⟨rfl, hb, hk, gp, cp, hgp, hmem⟩)
      clear hb hmem hk hgp hfix hpb hcuts hz hok hd0 hpl
      go_enter Tryd.func44, Tryd.ntmps44
      go_wp2_with fail
      go_end0
      exact HE.out
    · rw [bestTo_end (by simp; omega), doneL_snd hpl]
      have hcl := l00Own_any gp i cp pre w hpl (by omega) (CellsAt.of_own hmem.row)
      have HCl := Lib.hid hcl
      have HM := Lib.hid hmem
      have HB := Lib.hid hb
      have HK := Lib.hid hk
      have HG := Lib.hid hgp
      have hii : ((i : Int) == (i : Int)) = true := by simp
      have hp4 := hmem.base.2.2.1
      clear hcl hb hmem hk hgp hfix hpb hcuts hz hok hd0 hpl
      go_enter Tryd.func44, Tryd.ntmps44
      go_wp2_with fail
      refine HCl.out.mono ?_
      rintro e w1 ⟨aL, capL, rfl, ho, hb1⟩
      have hbest := HM.out.best_ ho hb1 HB.out.2 sum
      have HE := Lib.hid (show PlanEndS w0 wS p gp0 (.slice a n ca) (.slice al i cl) (.slice apl i cpl) i pre (pre, sum) (.returned (.tuple #[])) _ from ⟨rfl, (HB.out.step hb1).grown hbest.2 (fun k h => by cases h; exact HM.out.base.1), (HK.out.below hb1).grown hbest.2 (.inl (.inl rfl)), gp, cp, HG.out, hbest.1⟩)
      obtain ⟨hc1, hf1, hl1⟩ := bcell hb1
      have k4 : w1.cell? ⟨p, 4, none⟩ = some bv := by rw [hc1 _ _ hp4]; exact c4
      have k5 : w1.cell? ⟨p, 5, none⟩ = some (.int .i64 worth) := by rw [hc1 _ _ hp4]; exact c5
      have q4 : w1.frozen? ⟨p, 4, none⟩ = false := by rw [hf1 _ _ hp4]; exact f4
      have q5 : w1.frozen? ⟨p, 5, none⟩ = false := by rw [hf1 _ _ hp4]; exact f5
      clear hbest hc1 hf1 hl1 hb1 ho
      go_wp2_with fail
      go_end0
      exact HE.out
  | succ d ih =>
    intro i sum left pre best worth gp cp w hi hpl hpb h0 h1 hleft hb hk hgp hmem
    have hn4 := cutsB_n hcuts
    have hil : i < nl := by omega
    obtain ⟨bv, c0, c1, c2, c3, c4, c5, f3, f4, f5⟩ := hmem.head_
    have hcok := cutsL_ok hcuts
    have hwb := worths_le (cs := (cutsL zs nl).drop i) (fun c hc => hcok c (mem_drop hc))
    rw [List.length_drop, cutsL_len, ← hleft] at hwb
    have hlb : 0 ≤ left ∧ left ≤ 4000 := by omega
    obtain ⟨hlb0, hlb1⟩ := hlb
    by_cases hcut : sum + left ≤ worth
    · rw [bestTo_cut (fun c hc => (hcok c (mem_drop hc)).2.2.2.1) (by rw [← hleft]; exact hcut)]
      have HE := Lib.hid (show PlanEndS w0 wS p gp0 (.slice a n ca) (.slice al nl cl) (.slice apl nl cpl) i pre (best, worth) (.returned (.tuple #[])) w from ⟨rfl, hb, hk, gp, cp, hgp, hmem⟩)
      clear hb hmem hk hgp hfix hpb hcuts hz hok hpl hcok hleft hwb ih
      go_enter Tryd.func44, Tryd.ntmps44
      go_wp2_with fail
      go_end0
      exact HE.out
    · obtain ⟨c, hc⟩ : ∃ c, cutAt zs i = c := ⟨_, rfl⟩
      have hck : CutOk c := by rw [← hc]; exact (cutsB_at hcuts hil).2.1
      have hdrop : (cutsL zs nl).drop i = c :: (cutsL zs nl).drop (i + 1) := by rw [cutsL_drop hil, hc]
      obtain ⟨cs, hcs⟩ : ∃ cs, (cutsL zs nl).drop (i + 1) = cs := ⟨_, rfl⟩
      obtain ⟨done, hdone⟩ : ∃ done, doneL zs pre i = done := ⟨_, rfl⟩
      obtain ⟨L, hL⟩ : ∃ L, (placesL rows n m c).length = L := ⟨_, rfl⟩
      have hleft2 : left - c.v = worths cs := by
        rw [hleft, hdrop, hcs]
        show c.v + worths cs - c.v = worths cs
        omega
      rw [hdrop, hcs, hdone, bestTo_more, hL]
      have hv0 := hck.2.2.2.1
      have hv1 := hck.2.2.2.2
      have hHF := fun W (hk : Kept wS W (In2 p gp0)) => hfix.kept hk
      obtain ⟨bL, oL, rfl, hbL, cv⟩ := (hHF w hk).cutAt_ hil hz hcuts
      rw [hc] at cv
      obtain ⟨ps, hps⟩ : ∃ ps, plI rows n m c (n * m) = ps := ⟨_, rfl⟩
      have hpsl : ps.length = L := by rw [← hps, plI_places, hL]
      obtain ⟨pa, hpa⟩ : ∃ pa, PA i = pa := ⟨_, rfl⟩
      obtain ⟨pc, hpc⟩ : ∃ pc, PC i = pc := ⟨_, rfl⟩
      obtain ⟨bO, oO, rfl, hbO, _⟩ := (hHF w hk).outerAt hil
      have HFo := Lib.hid (fun W (hk : Kept wS W (In2 p gp0)) => show bO < W.heap.size ∧ W.cell? ⟨bO, oO + i, none⟩ = some (.slice pa L pc) ∧ CellsAt W pa (nints ps) ∧ CellsAt W a (strs rows) ∧ CellsAt W (some ⟨bL, oL, none⟩) (zs.map (Value.int .i64)) from by
        obtain ⟨b', o', e, hb', hc'⟩ := (hHF W hk).outerAt hil
        cases e
        have e2 : (nints (plI rows n m (cutAt zs i) (n * m))).length = L := by rw [hc, hps]; simp [hpsl]
        have h3 := ((hHF W hk).inner i hil).at_
        simp only [hc, hps, hpa] at h3
        refine ⟨hb', ?_, h3, (hHF W hk).rows.at_, (hHF W hk).cuts.at_⟩
        rw [hc']
        simp only [e2, hpa, hpc])
      have HPs := Lib.hid (fun k (hk : k < L) => show ∃ f : Nat, (placesL rows n m c)[k]? = some f ∧ ps.getD k 0 = (f : Int) ∧ f < n * m ∧ fitsB rows n m c f = true from by rw [← hps]; exact plI_at (by rw [hps, hpsl]; exact hk))
      have Hpsl := Lib.hid hpsl
      have hnm : n * m ≤ 36 := Nat.mul_le_mul hok.n6 hok.m6
      have hnm0 : 0 < n * m := Nat.mul_pos (by have := hok.n1; omega) (by have := hok.m1; omega)
      have hpsl36 : L ≤ 36 := by rw [← hpsl, ← hps]; exact Nat.le_trans (plI_len _ _ _ _ _) hnm
      clear hps hpsl hpa hpc
      have Hc := Lib.hid hc
      have Hdone := Lib.hid hdone
      have Hcs := Lib.hid hcs
      have HL := Lib.hid hL
      have Hpl := Lib.hid hpl
      have Hpb := Lib.hid hpb
      have HB := Lib.hid hb
      have HK := Lib.hid hk
      have HM := Lib.hid hmem
      have HG := Lib.hid hgp
      have HI := Lib.hid ih
      have HCu := Lib.hid hcuts
      have HZ := Lib.hid hz
      have HOk := Lib.hid hok
      have Hl2 := Lib.hid hleft2
      have hil' : (i : Int) < (nl : Int) := by omega
      have hne : ((i : Int) == (nl : Int)) = false := by simp; omega
      have hpw := hmem.base.2.2.1
      have hil8 : i ≤ 8 := by omega
      clear hdrop hcs hdone hL hleft2 hHF hc hpl hpb hb hk hmem hgp ih hcuts hz hok hcok hwb hleft hfix hck f3 f4 f5
      have hw1 : left - c.v = left - c.v := rfl
      go_enter Tryd.func44, Tryd.ntmps44
      go_upto_region 6 with fail
      obtain ⟨lw, hlw⟩ : ∃ lw, left - c.v = lw := ⟨_, rfl⟩
      rw [hlw] at Hl2
      go_wp2_with (at_builtin; refine appJ (by rfl) _ _ (by rfl) w0.heap.size _ _ _ (by rfl) HM.out.row (-1) 1 w.heap.size (by simp) (by rfl) (by omega) HB.out ?_; intro g5 cap5 w5 ho5 hb5 hg5 hat5; obtain ⟨hm5, hg55, ⟨vv5, k3⟩, q3⟩ := HM.out.field_ (pre' := pre ++ [-1]) hg5 (by rcases hat5 with h | h; exact .inl (by simpa [Value.ownBlock] using h); exact .inr h) (by rw [nints, List.map_append]; exact ho5); have HM5 := Lib.hid hm5; have HB5 := Lib.hid (hb5.grown hg55 (fun j h => by cases h; exact HM.out.base.1)); have HK5 := Lib.hid (show Kept wS _ (In2 p gp0) from (HK.out.grown hg5 (by rcases HG.out with h | h; exact .inl (.inr h); exact .inr h)).grown hg55 (.inl (.inl rfl))); have HG5 := Lib.hid (show g5 = gp0 ∨ wS.heap.size ≤ g5 from by rcases hat5 with h | h; (have e : gp = g5 := by simpa [Value.ownBlock] using h); rw [← e]; exact HG.out; exact .inr (Nat.le_trans HK.out.1 h)); clear hm5 ho5 hb5 hg5 hat5 hg55)
      refine (HI.out (i + 1) sum lw (pre ++ [-1]) best worth g5 cap5 _ (by omega) (by simp [Hpl.out]) (getD_app_lt Hpb.out (by omega) (by omega)) h0 (by omega) (by rw [Hcs.out]; exact Hl2.out) HB5.out HK5.out HG5.out HM5.out).mono ?_
      rintro e w6 ⟨rfl, hb6, hk6, g6, cp6, hg6, hm6⟩
      rw [Hcs.out, doneL_app Hpl.out, Hc.out, Hdone.out, ← bestAt_zero] at hm6
      have HM6 := Lib.hid hm6
      have HB6 := Lib.hid hb6
      have HK6 := Lib.hid hk6
      have HG6 := Lib.hid hg6
      clear hm6 hb6 hk6 hg6 HM5 HB5 HK5 HG5 k3 q3 c0 c1 c2 c3 c4 c5 cv
      go_wp2_with fail
      go_loopw [8] (fun s wr => ∃ k : Nat, k ≤ L ∧ s = .int .i64 k ∧ ∃ (g1 c1 : Nat) (x : Int), x < ((n * m : Nat) : Int) ∧ Hid (g1 = gp0 ∨ wS.heap.size ≤ g1) ∧ Hid (PlanX wr w0.heap.size p g1 (.slice a n ca) (.slice (some ⟨bL, oL, none⟩) nl cl) (.slice (some ⟨bO, oO, none⟩) nl cpl) (i + 1) c1 (pre ++ [x]) (bestAt rows n m c cs done sum (best, worth) k).1 (bestAt rows n m c cs done sum (best, worth) k).2) ∧ Hid (Bel w0.heap.size w0 wr) ∧ Hid (Kept wS wr (In2 p gp0))) (fun s _ => L - (intOf s).toNat)
      case atStart => exact ⟨0, Nat.zero_le _, rfl, g6, cp6, -1, by omega, HG6, HM6, HB6, HK6⟩
      case round =>
        obtain ⟨k, hk, rfl, g1, cp1, x, hxb, hgo, hst, hbw, hkp⟩ := hrel
        obtain ⟨hbO2, hcO, hcI, hcR, hcL⟩ := HFo.out wr hkp.out
        obtain ⟨bv1, d0, d1, d2, d3, d4, d5, _, _, _⟩ := hst.out.head_
        by_cases hlt2 : k < L
        · have hkn : (k : Int) < (L : Int) := by omega
          obtain ⟨f, hf1, hf2, hf3, hf4⟩ := HPs.out k hlt2
          obtain ⟨⟨kb, kl⟩, hkst⟩ : ∃ q, bestAt rows n m c cs done sum (best, worth) k = q := ⟨_, rfl⟩
          rw [hkst] at hst
          have hstep := bestAt_step (sum := sum) (st := (best, worth)) (done := done) (cs := cs) hf1
          rw [hkst] at hstep
          have Hstep := Lib.hid hstep
          have Hf4 := Lib.hid hf4
          clear hstep hkst hf1 hf4
          obtain ⟨bI, oI, rfl, hbI, hcI'⟩ := hcI.at_ (by simp [Hpsl.out]; omega)
          have hcF := int_cell hbI (Below.refl _ wr) hcI' (by rw [Hpsl.out]; exact hlt2) hf2
          obtain ⟨⟨up, ep⟩, fp⟩ := hst.out.planAt (k := i) (by omega)
          have hs1 := PlanX.set_ (W := wr.drew) hst.out i (f : Int)
          rw [set_last _ _ Hpl.out] at hs1
          have HM1 := Lib.hid hs1.1
          have HB1 := Lib.hid (hbw.out.drew.grown hs1.2 (fun j h => by cases h; exact hst.out.base.2.1))
          have HK1 := Lib.hid (hkp.out.drew.grown hs1.2 (by rcases hgo.out with h | h; exact .inl (.inr h); exact .inr h))
          have hi1 : (i : Int) < (i : Int) + 1 := by omega
          clear hs1 hcI hcI' hcR hcL hf2
          go_wp2_with fail
          go_still_tail 16, (by kernel_rfl)
          go_upto_region 12 with fail
          generalize hw2 : (wr.setCell _ _).drew = w2
          replace HM1 := Lib.hid (show PlanX w2 w0.heap.size p g1 (.slice a n ca) (.slice (some ⟨bL, oL, none⟩) nl cl) (.slice (some ⟨bO, oO, none⟩) nl cpl) (i + 1) cp1 (pre ++ [(f : Int)]) kb kl by rw [← hw2]; exact HM1.out)
          replace HB1 := Lib.hid (show Bel w0.heap.size w0 w2 by rw [← hw2]; exact HB1.out)
          replace HK1 := Lib.hid (show Kept wS w2 (In2 p gp0) by rw [← hw2]; exact HK1.out)
          clear hw2 d0 d1 d2 d3 d4 d5 hcF hcO ep fp
          obtain ⟨bv2, d0, d1, d2, d3, d4, d5, _, _, _⟩ := HM1.out.head_
          obtain ⟨hbO3, _, _, hcR, hcL⟩ := HFo.out w2 HK1.out
          have hwr := l10Wrong_any a (some ⟨bL, oL, none⟩) (some ⟨g1, 0, none⟩) rows n m ca nl cl (i + 1) cp1 zs (pre ++ [(f : Int)]) i w2.drew HOk.out hcR HZ.out hcL HCu.out (by simp [Hpl.out]) (CellsAt.of_own HM1.out.row) hil (by omega) (fun k _ => getD_app_lt Hpb.out (by omega) (by omega) k)
          rw [doneL_pre Hpl.out, getD_last Hpl.out, Hc.out, Hdone.out, okB_free hf3 Hf4.out] at hwr
          clear hcR hcL
          cases hfr : freeB m done c f with
          | false =>
            rw [hfr] at hwr
            have HW := Lib.hid hwr
            have HSt := Lib.hid (show bestAt rows n m c cs done sum (best, worth) (k + 1) = (kb, kl) by rw [Hstep.out, hfr]; rfl)
            clear hwr hfr
            go_wp2_with fail
            go_still_tail 13, (by kernel_rfl)
            go_wp2_with fail
            refine HW.out.mono ?_
            rintro e w3 ⟨rfl, hb3⟩
            have HM3 := Lib.hid (show PlanX w3 w0.heap.size p g1 (.slice a n ca) (.slice (some ⟨bL, oL, none⟩) nl cl) (.slice (some ⟨bO, oO, none⟩) nl cpl) (i + 1) cp1 (pre ++ [(f : Int)]) kb kl from by
              obtain ⟨bv, nb, k1, k2, k3, k4, k5, k6⟩ := HM1.out
              exact ⟨bv, nb, own_below (w := w2.drew) k1 hb3, own_below (w := w2.drew) k2 hb3, own_below (w := w2.drew) k3 hb3, k4, k5, k6⟩)
            have HB3 := Lib.hid (HB1.out.drew.step hb3)
            have HK3 := Lib.hid (HK1.out.drew.below hb3)
            clear hb3
            go_wp2_with fail
            go_roundw
            case rel => exact ⟨k + 1, by omega, by go_num, g1, cp1, (f : Int), by omega, hgo, Lib.hid (by rw [HSt.out]; exact HM3.out), HB3, HK3⟩
            case measure => simp [intOf]; omega
          | true =>
            rw [hfr] at hwr
            have HW := Lib.hid hwr
            have HSt := Lib.hid (show bestAt rows n m c cs done sum (best, worth) (k + 1) = bestTo rows n m cs (done ++ [(c, (f : Int))]) (sum + c.v) (kb, kl) by rw [Hstep.out, hfr]; rfl)
            clear hwr hfr
            go_wp2_with fail
            go_still_tail 13, (by kernel_rfl)
            go_wp2_with fail
            refine HW.out.mono ?_
            rintro e w3 ⟨rfl, hb3⟩
            have HM3 := Lib.hid (show PlanX w3 w0.heap.size p g1 (.slice a n ca) (.slice (some ⟨bL, oL, none⟩) nl cl) (.slice (some ⟨bO, oO, none⟩) nl cpl) (i + 1) cp1 (pre ++ [(f : Int)]) kb kl from by
              obtain ⟨bv, nb, k1, k2, k3, k4, k5, k6⟩ := HM1.out
              exact ⟨bv, nb, own_below (w := w2.drew) k1 hb3, own_below (w := w2.drew) k2 hb3, own_below (w := w2.drew) k3 hb3, k4, k5, k6⟩)
            have HB3 := Lib.hid (HB1.out.drew.step hb3)
            have HK3 := Lib.hid (HK1.out.drew.below hb3)
            clear hb3
            go_wp2_with fail
            refine (HI.out (i + 1) (sum + c.v) lw (pre ++ [(f : Int)]) kb kl g1 cp1 _ (by omega) (by simp [Hpl.out]) (getD_app_lt Hpb.out (by omega) (by omega)) (by omega) (by omega) (by rw [Hcs.out]; exact Hl2.out) HB3.out HK3.out hgo.out HM3.out).mono ?_
            rintro e w6 ⟨rfl, hb6, hk6, g7, cp7, hg7, hm7⟩
            rw [Hcs.out, doneL_app Hpl.out, Hc.out, Hdone.out, ← HSt.out] at hm7
            have HM7 := Lib.hid hm7
            have HB7 := Lib.hid hb6
            have HK7 := Lib.hid hk6
            have HG7 := Lib.hid hg7
            clear hm7 hb6 hk6 hg7
            go_wp2_with fail
            go_roundw
            case rel => exact ⟨k + 1, by omega, by go_num, g7, cp7, (f : Int), by omega, HG7, HM7, HB7, HK7⟩
            case measure => simp [intOf]; omega
        · obtain rfl : k = L := by omega
          have hroom := hst.out.room
          have hroom2 : (i : Int) ≤ (cp1 : Int) := by omega
          have hpop := hst.out.pop_ Hpl.out
          have HE := Lib.hid (show PlanEndS w0 wS p gp0 (.slice a n ca) (.slice (some ⟨bL, oL, none⟩) nl cl) (.slice (some ⟨bO, oO, none⟩) nl cpl) i pre (bestAt rows n m c cs done sum (best, worth) k) (.returned (.tuple #[])) _ from ⟨rfl, hbw.out.grown hpop.2 (fun j h => by cases h; exact hst.out.base.1), hkp.out.grown hpop.2 (.inl (.inl rfl)), g1, cp1, hgo.out, hpop.1⟩)
          obtain ⟨bv2, e0, e1, e2, e3, e4, e5, q3, _, _⟩ := hst.out.head_
          have hplt := hst.out.base.2.2.1
          clear hpop hcR hcL hcI
          go_wp2_with fail
          go_end0
          exact HE.out
end Go.Proofs.YthemlamdchcicaaDoor
