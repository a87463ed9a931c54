/-
  The contract of the program's search for the best plan. No condition of its own.
-/
import Derived.Test.YthemlamdchcicaaGreatDoorHideF
import Derived.Deep.DeepCutAuto
namespace Go.Proofs.YthemlamdchcicaaGreatDoor
open Go.ChangeShapes Go.WideShapes Go.ChangeAt Go.RowKit Go.Deep Go.Shelf

/-- The memory of the program's search. -/
def PlanI (W : World) (B p gp : Nat) (lv pv sv : Value) (i cp : Nat) (pre best : List Int) (worth : Int) : Prop :=
  ∃ (bv : Value) (nb : Nat), W.ownsRow B 82 6 (.slice (some ⟨p, 0, none⟩) 1 1) 1 [lv, pv, sv, .slice (some ⟨gp, 0, none⟩) i cp, bv, .int .i64 worth]
    ∧ W.ownsRow B 2 1 (.slice (some ⟨gp, 0, none⟩) i cp) i (nints pre) ∧ W.ownsRow B 2 1 bv nb (nints best) ∧ bv.ownBlock ≠ some p ∧ bv.ownBlock ≠ some gp ∧ p ≠ gp
section
variable {W : World} {B p gp i cp : Nat} {lv pv sv : Value} {pre best : List Int} {worth : Int}
theorem PlanI.set_ (h : PlanI W B p gp lv pv sv i cp pre best worth) (k : Nat) (x : Int) :
    PlanI (W.setCell ⟨gp, k, none⟩ (.int .i64 x)) B p gp lv pv sv i cp (pre.set k x) best worth ∧ W.grownBy (W.setCell ⟨gp, k, none⟩ (.int .i64 x)) (some gp) := by
  obtain ⟨bv, nb, h1, h2, h3, h4, h5, h6⟩ := h
  have hs := h2.stored k (.int .i64 x)
  exact ⟨⟨bv, nb, own_no h1 hs.2 (blk_ne (m := 0) h6), by rw [nints, List.map_set]; exact hs.1, own_no h3 hs.2 h5, h4, h5, h6⟩, hs.2⟩
theorem PlanI.field_ {W' : World} {g j cap : Nat} {pre' : List Int} (h : PlanI W B p gp lv pv sv i cp pre best worth) (hg : W.grownBy W' (some gp)) (hat : gp = g ∨ W.heap.size ≤ g)
    (ho : W'.ownsRow B 2 1 (.slice (some ⟨g, 0, none⟩) j cap) j (nints pre')) :
    PlanI (W'.setCell ⟨p, 3, none⟩ (.slice (some ⟨g, 0, none⟩) j cap)) B p g lv pv sv j cap pre' best worth ∧ W'.grownBy (W'.setCell ⟨p, 3, none⟩ (.slice (some ⟨g, 0, none⟩) j cap)) (some p)
      ∧ (∃ v, W'.cell? ⟨p, 3, none⟩ = some v) ∧ W'.frozen? ⟨p, 3, none⟩ = false := by
  obtain ⟨bv, nb, h1, h2, h3, h4, h5, h6⟩ := h
  have bp := (own_block (b := p) h1 rfl).2
  have hpg : p ≠ g := by rcases hat with rfl | hh <;> omega
  have k1 := own_no h1 hg (blk_ne (m := 0) h6)
  have k3 := own_no h3 hg h5
  have hs := k1.stored 3 (.slice (some ⟨g, 0, none⟩) j cap)
  have hbv : bv.ownBlock ≠ some g := by
    rcases hat with rfl | hh
    · exact h5
    · intro e
      have := (own_block h3 e).2
      omega
  exact ⟨⟨bv, nb, hs.1, own_no ho hs.2 (blk_ne (m := 0) hpg.symm), own_no k3 hs.2 h4, h4, hbv, hpg⟩, hs.2, ⟨_, by rw [k1.cellAt 3 (by omega)]; rfl⟩, k1.frozenAt 3⟩
theorem PlanI.best_ {W' : World} {av : Value} {na : Nat} (h : PlanI W B p gp lv pv sv i cp pre best worth) {bs : List Int} (hn : W'.ownsRow W.heap.size 2 1 av na (nints bs)) (hb : Below W.heap.size W W') (hB : B ≤ W.heap.size) (x : Int) :
    PlanI ((W'.setCell ⟨p, 4, none⟩ av).setCell ⟨p, 5, none⟩ (.int .i64 x)) B p gp lv pv sv i cp pre bs x ∧ W'.grownBy ((W'.setCell ⟨p, 4, none⟩ av).setCell ⟨p, 5, none⟩ (.int .i64 x)) (some p) := by
  obtain ⟨bv, nb, h1, h2, h3, h4, h5, h6⟩ := h
  have k1 := own_below h1 hb
  have k2 := k1.stored 4 av
  have k3 := k2.1.stored 5 (.int .i64 x)
  have hg := grown_trans_row k2.2 k3.2
  have bp := (own_block (b := p) h1 rfl).2
  have bgp := (own_block (b := gp) h2 rfl).2
  have hnew : ∀ b, b < W.heap.size → av.ownBlock ≠ some b := fun b hb e => by have := (own_block hn e).1; omega
  exact ⟨⟨av, na, k3.1, own_no (own_below h2 hb) hg (blk_ne (m := 0) h6.symm), own_no (own_base hn hB) hg (hnew _ bp), hnew _ bp, hnew _ bgp, h6⟩, hg⟩
theorem PlanI.head_ (h : PlanI W B p gp lv pv sv i cp pre best worth) :
    ∃ bv, W.cell? ⟨p, 0, none⟩ = some lv ∧ W.cell? ⟨p, 1, none⟩ = some pv ∧ W.cell? ⟨p, 2, none⟩ = some sv ∧ W.cell? ⟨p, 3, none⟩ = some (.slice (some ⟨gp, 0, none⟩) i cp) ∧ W.cell? ⟨p, 4, none⟩ = some bv ∧ W.cell? ⟨p, 5, none⟩ = some (.int .i64 worth)
      ∧ W.frozen? ⟨p, 3, none⟩ = false ∧ W.frozen? ⟨p, 4, none⟩ = false ∧ W.frozen? ⟨p, 5, none⟩ = false := by
  obtain ⟨bv, nb, h1, _⟩ := h
  refine ⟨bv, ?_, ?_, ?_, ?_, ?_, ?_, h1.frozenAt 3, h1.frozenAt 4, h1.frozenAt 5⟩
  all_goals
    rw [h1.cellAt _ (by omega)]
    rfl
theorem PlanI.row (h : PlanI W B p gp lv pv sv i cp pre best worth) : W.ownsRow B 2 1 (.slice (some ⟨gp, 0, none⟩) i cp) i (nints pre) := by
  obtain ⟨bv, nb, h1, h2, _⟩ := h
  exact h2
theorem PlanI.planAt (h : PlanI W B p gp lv pv sv i cp pre best worth) {k : Nat} (hk : k < i) : (∃ u, W.cell? ⟨gp, k, none⟩ = some (.int .i64 u)) ∧ W.frozen? ⟨gp, k, none⟩ = false := by
  obtain ⟨bv, nb, h1, h2, _⟩ := h
  have hl : pre.length = i := by have := h2.1; simpa using this
  refine ⟨⟨pre[k]'(by omega), ?_⟩, h2.frozenAt k⟩
  rw [h2.cellAt k (by omega)]
  simp [List.getElem?_eq_getElem (show k < pre.length by omega)]
theorem PlanI.room (h : PlanI W B p gp lv pv sv i cp pre best worth) : i ≤ cp := by
  rcases h.row.2 with ⟨h0, _⟩ | ⟨g, cap, cur, hv, _, _, h1, _⟩
  · cases h0
  · cases hv
    exact h1
theorem PlanI.base (h : PlanI W B p gp lv pv sv i cp pre best worth) : B ≤ p ∧ B ≤ gp ∧ p < W.heap.size ∧ gp < W.heap.size := by
  obtain ⟨bv, nb, h1, h2, _⟩ := h
  exact ⟨(own_block (b := p) h1 rfl).1, (own_block (b := gp) h2 rfl).1, (own_block (b := p) h1 rfl).2, (own_block (b := gp) h2 rfl).2⟩
theorem PlanI.pop_ {x : Int} (h : PlanI W B p gp lv pv sv (i + 1) cp (pre ++ [x]) best worth) (hl : pre.length = i) :
    PlanI (W.setCell ⟨p, 3, none⟩ (.slice (some ⟨gp, 0, none⟩) i cp)) B p gp lv pv sv i cp pre best worth ∧ W.grownBy (W.setCell ⟨p, 3, none⟩ (.slice (some ⟨gp, 0, none⟩) i cp)) (some p) := by
  have hr := h.row
  rw [nints, List.map_append] at hr
  have hp := ownsRow_pop (xs := nints pre) (by simp [hl]) hr
  have hf := h.field_ (World.grownBy.refl W (some gp)) (.inl rfl) hp
  exact ⟨hf.1, hf.2.1⟩
end

theorem doneL_take {zs p q : List Int} {k : Nat} (h : p.take k = q.take k) : doneL zs p k = doneL zs q k := by
  apply List.map_congr_left
  intro j hj
  have hj' := List.mem_range.1 hj
  have e : ∀ l : List Int, l.getD j 0 = (l.take k).getD j 0 := fun l => by
    rw [List.getD_eq_getElem?_getD, List.getD_eq_getElem?_getD, List.getElem?_take, if_pos hj']
  rw [e p, e q, h]
theorem doneL_set {zs p : List Int} {k : Nat} (x : Int) (h : k < p.length) : doneL zs (p.set k x) (k + 1) = doneL zs p k ++ [(cutAt zs k, x)] := by
  rw [doneL_succ]
  have e1 : (p.set k x).getD k 0 = x := by simp [h]
  rw [e1]
  congr 1
  exact doneL_take (List.take_set_of_le (Nat.le_refl k))
theorem lie_app {n m : Nat} {done : List (Cut × Int)} {c : Cut} {x : Int} (h : Lie n m done) (hx : 0 ≤ x → x.toNat / m + c.h ≤ n ∧ x.toNat % m + c.w ≤ m ∧ 1 ≤ c.w ∧ 1 ≤ c.h) : Lie n m (done ++ [(c, x)]) := by
  intro d hd h0
  rcases List.mem_append.1 hd with hd | hd
  · exact h d hd h0
  · obtain rfl : d = (c, x) := by simpa using hd
    exact hx h0
theorem and_u64 {a b : Nat} (ha : a < 2 ^ 36) (hb : b < 2 ^ 36) : bits BinOp.and IntKind.u64 (a : Int) (b : Int) = ((a &&& b : Nat) : Int) := by
  have h36 : (2 : Nat) ^ 36 = 68719476736 := rfl
  exact bits_and_u64_nat a b (by omega) (by omega)
theorem or_u64 {a b : Nat} (ha : a < 2 ^ 36) (hb : b < 2 ^ 36) : bits BinOp.or IntKind.u64 (a : Int) (b : Int) = ((a ||| b : Nat) : Int) := by
  have h36 : (2 : Nat) ^ 36 = 68719476736 := rfl
  exact bits_or_u64_nat a b (by omega) (by omega)
/-- The sets of fields of a piece's places. -/
def seL (rows : List ByteArray) (n m : Nat) (c : Cut) : List Value := (placesL rows n m c).map fun f => Value.int .u64 ((maskN m c f : Nat) : Int)
/-- What the search leaves. -/
def PlanEndI (w0 wS : World) (p gp : Nat) (lv pv sv : Value) (nl cp k : Nat) (plan : List Int) (st : List Int × Int) (e : Ending) (w' : World) : Prop :=
  e = .returned (.tuple #[]) ∧ Bel w0.heap.size w0 w' ∧ Kept wS w' (In2 p gp) ∧ ∃ plan' : List Int, plan'.length = nl ∧ plan'.take k = plan.take k ∧ PlanI w' w0.heap.size p gp lv pv sv nl cp plan' st.1 st.2
set_option maxRecDepth 100000 in
set_option maxHeartbeats 12800000 in
theorem planFrom_any (w0 wS : World) (p gp n m nl cl cpl csl cp : Nat) (al apl asl : Option Addr) (rows : List ByteArray) (zs : List Int) (PA SA : Nat → Option Addr) (PC SC : Nat → Nat)
    (hok : HideOk rows n m) (hz : zs.length = nl * 4) (hcuts : cutsB zs nl = true) (hfix : FixAt wS (In2 p gp) none al apl [] zs nl (fun k => nints (plI rows n m (cutAt zs k) (n * m))) PA PC) (hfix2 : FixAt wS (In2 p gp) none al asl [] zs nl (fun k => seL rows n m (cutAt zs k)) SA SC) (d : Nat) :
    ∀ (k : Nat) (kv tv worth : Int) (plan best : List Int) (most : Int) (w : World), kv = (k : Int) → tv = ((takenN m (doneL zs plan k) : Nat) : Int) → k + d = nl → plan.length = nl → Lie n m (doneL zs plan k) → 0 ≤ worth → worth ≤ 1000 * k → Bel w0.heap.size w0 w → Kept wS w (In2 p gp) →
      PlanI w w0.heap.size p gp (.slice al nl cl) (.slice apl nl cpl) (.slice asl nl csl) nl cp plan best most →
      Calls Tryz.prog 42 #[.pointer (some ⟨p, 0, none⟩), .int .i64 kv, .int .u64 tv, .int .i64 worth] w (PlanEndI w0 wS p gp (.slice al nl cl) (.slice apl nl cpl) (.slice asl nl csl) nl cp k plan (bestTo rows n m ((cutsL zs nl).drop k) (doneL zs plan k) worth (best, most))) := by
  induction d with
  | zero =>
    intro k kv tv worth plan best most w hkv htv hi hpl hlie h0 h1 hb hk hmem
    subst hkv
    obtain rfl : k = nl := by omega
    have hn4 := cutsB_n hcuts
    obtain ⟨bv, c0, c1, c2, c3, c4, c5, f3, f4, f5⟩ := hmem.head_
    have hd0 : (cutsL zs k).drop k = [] := List.drop_of_length_le (by rw [cutsL_len]; exact Nat.le_refl _)
    rw [hd0]
    have hii : ((k : Int) == (k : Int)) = true := by simp
    by_cases hcut : most < worth
    · rw [bestTo_end (by simp; omega), doneL_snd hpl]
      have hcl := cloneI_any gp k cp plan w hpl (by omega) (CellsAt.of_own hmem.row)
      have HCl := Lib.hid hcl
      have HM := Lib.hid hmem
      have HB := Lib.hid hb
      have HK := Lib.hid hk
      have Hpl := Lib.hid hpl
      have hp4 := hmem.base.2.2.1
      clear hcl hb hmem hk hfix hfix2 hcuts hz hok hd0 hpl hlie htv
      go_enter Tryz.func42, Tryz.ntmps42
      go_wp2_with fail
      refine HCl.out.mono ?_
      rintro e w1 ⟨aL, capL, rfl, ho, hb1⟩
      have hbest := HM.out.best_ ho hb1 HB.out.2 worth
      have HE := Lib.hid (show PlanEndI w0 wS p gp (.slice al k cl) (.slice apl k cpl) (.slice asl k csl) k cp k plan (plan, worth) (.returned (.tuple #[])) _ from ⟨rfl, (HB.out.step hb1).grown hbest.2 (fun k h => by cases h; exact HM.out.base.1), (HK.out.below hb1).grown hbest.2 (.inl (.inl rfl)), plan, Hpl.out, rfl, hbest.1⟩)
      obtain ⟨hc1, hf1, hl1⟩ := bcell hb1
      have k4 : w1.cell? ⟨p, 4, none⟩ = some bv := by rw [hc1 _ _ hp4]; exact c4
      have k5 : w1.cell? ⟨p, 5, none⟩ = some (.int .i64 most) := by rw [hc1 _ _ hp4]; exact c5
      have q4 : w1.frozen? ⟨p, 4, none⟩ = false := by rw [hf1 _ _ hp4]; exact f4
      have q5 : w1.frozen? ⟨p, 5, none⟩ = false := by rw [hf1 _ _ hp4]; exact f5
      clear hbest hc1 hf1 hl1 hb1 ho
      go_wp2_with fail
      go_end0
      exact HE.out
    · have e : bestTo rows n m [] (doneL zs plan k) worth (best, most) = (best, most) := by simp only [bestTo]; rw [if_neg hcut]
      rw [e]
      have HE := Lib.hid (show PlanEndI w0 wS p gp (.slice al k cl) (.slice apl k cpl) (.slice asl k csl) k cp k plan (best, most) (.returned (.tuple #[])) w from ⟨rfl, hb, hk, plan, hpl, rfl, hmem⟩)
      clear hb hmem hk hfix hfix2 hcuts hz hok hd0 hpl hlie htv e
      go_enter Tryz.func42, Tryz.ntmps42
      go_wp2_with fail
      go_end0
      exact HE.out
  | succ d ih =>
    intro k kv tv worth plan best most w hkv htv hi hpl hlie h0 h1 hb hk hmem
    subst hkv
    have hn4 := cutsB_n hcuts
    have hkl : k < nl := by omega
    have hcok := cutsL_ok hcuts
    obtain ⟨c, hc⟩ : ∃ c, cutAt zs k = c := ⟨_, rfl⟩
    have hck : CutOk c := by rw [← hc]; exact (cutsB_at hcuts hkl).2.1
    have hdrop : (cutsL zs nl).drop k = c :: (cutsL zs nl).drop (k + 1) := by rw [cutsL_drop hkl, hc]
    obtain ⟨cs, hcs⟩ : ∃ cs, (cutsL zs nl).drop (k + 1) = cs := ⟨_, rfl⟩
    obtain ⟨done, hdone⟩ : ∃ done, doneL zs plan k = done := ⟨_, rfl⟩
    obtain ⟨L, hL⟩ : ∃ L, (placesL rows n m c).length = L := ⟨_, rfl⟩
    obtain ⟨T, hT⟩ : ∃ T, takenN m done = T := ⟨_, rfl⟩
    rw [hdone] at hlie htv ⊢
    rw [hT] at htv
    subst htv
    rw [hdrop, hcs, bestTo_more, hL]
    have hv0 := hck.2.2.2.1
    have hv1 := hck.2.2.2.2
    have hHF := fun W (hk : Kept wS W (In2 p gp)) => hfix.kept hk
    have hHF2 := fun W (hk : Kept wS W (In2 p gp)) => hfix2.kept hk
    obtain ⟨bL, oL, rfl, hbL, cv⟩ := (hHF w hk).cutAt_ hkl hz hcuts
    rw [hc] at cv
    obtain ⟨ps, hps⟩ : ∃ ps, plI rows n m c (n * m) = ps := ⟨_, rfl⟩
    have hpsl : ps.length = L := by rw [← hps, plI_places, hL]
    obtain ⟨pa, hpa⟩ : ∃ pa, PA k = pa := ⟨_, rfl⟩
    obtain ⟨pc, hpc⟩ : ∃ pc, PC k = pc := ⟨_, rfl⟩
    obtain ⟨sa, hsa⟩ : ∃ sa, SA k = sa := ⟨_, rfl⟩
    obtain ⟨sc, hsc⟩ : ∃ sc, SC k = sc := ⟨_, rfl⟩
    obtain ⟨bO, oO, rfl, hbO, _⟩ := (hHF w hk).outerAt hkl
    obtain ⟨bS, oS, rfl, hbS, _⟩ := (hHF2 w hk).outerAt hkl
    have HFo := Lib.hid (fun W (hk : Kept wS W (In2 p gp)) => show (bO < W.heap.size ∧ W.cell? ⟨bO, oO + k, none⟩ = some (.slice pa L pc) ∧ CellsAt W pa (nints ps)) ∧ (bS < W.heap.size ∧ W.cell? ⟨bS, oS + k, none⟩ = some (.slice sa L sc) ∧ CellsAt W sa (seL rows n m c)) ∧ (bL < W.heap.size ∧ W.cell? ⟨bL, oL + k * 4 + 3, none⟩ = some (.int .i64 c.v)) from by
      obtain ⟨b', o', e, hb', hc'⟩ := (hHF W hk).outerAt hkl
      cases e
      obtain ⟨b'', o'', e, hb'', hc''⟩ := (hHF2 W hk).outerAt hkl
      cases e
      obtain ⟨b3, o3, e, hb3, hc3⟩ := (hHF W hk).cutAt_ hkl hz hcuts
      cases e
      have e2 : (nints (plI rows n m (cutAt zs k) (n * m))).length = L := by rw [hc, hps]; simp [hpsl]
      have e3 : (seL rows n m (cutAt zs k)).length = L := by rw [hc]; simp [seL, hL]
      have h3 := ((hHF W hk).inner k hkl).at_
      simp only [hc, hps, hpa] at h3
      have h4 := ((hHF2 W hk).inner k hkl).at_
      simp only [hc, hsa] at h4
      refine ⟨⟨hb', ?_, h3⟩, ⟨hb'', ?_, h4⟩, hb3, by rw [hc3, hc]⟩
      · rw [hc']; simp only [e2, hpa, hpc]
      · rw [hc'']; simp only [e3, hsa, hsc])
    have HPs := Lib.hid (fun i (hi : i < L) => show ∃ f : Nat, (placesL rows n m c)[i]? = some f ∧ ps.getD i 0 = (f : Int) ∧ f < n * m ∧ fitsB rows n m c f = true from by rw [← hps]; exact plI_at (by rw [hps, hpsl]; exact hi))
    have Hpsl := Lib.hid hpsl
    have HsL := Lib.hid (show (seL rows n m c).length = L by simp [seL, hL])
    have hnm : n * m ≤ 36 := Nat.mul_le_mul hok.n6 hok.m6
    have hpsl36 : L ≤ 36 := by rw [← hpsl, ← hps]; exact Nat.le_trans (plI_len _ _ _ _ _) hnm
    have hT36 : T < 2 ^ 36 := by rw [← hT]; exact taken_lt done
    have HFree := Lib.hid (fun f (h : f / m + c.h ≤ n ∧ f % m + c.w ≤ m) => by have h2 := free_iff (done := done) hok.n6 hok.m6 hok.m1 ⟨hck.1.1, hck.2.1.1⟩ h hlie; rw [hT] at h2; exact h2)
    have HT := Lib.hid hT
    have Hc := Lib.hid hc
    have Hcs := Lib.hid hcs
    have Hdone := Lib.hid hdone
    have Hlie := Lib.hid hlie
    have Hpl := Lib.hid hpl
    have HB := Lib.hid hb
    have HK := Lib.hid hk
    have HM := Lib.hid hmem
    have HI := Lib.hid ih
    have Hck := Lib.hid hck
    have hkl' : (k : Int) < (nl : Int) := by omega
    have hne : ((k : Int) == (nl : Int)) = false := by simp; omega
    obtain ⟨bv, c0, c1, c2, c3, c4, c5, _, _, _⟩ := hmem.head_
    obtain ⟨⟨up, ep⟩, fp⟩ := hmem.planAt hkl
    have hs1 := hmem.set_ k (-1)
    have HM1 := Lib.hid hs1.1
    have HB1 := Lib.hid (hb.grown hs1.2 (fun j h => by cases h; exact hmem.base.2.1))
    have HK1 := Lib.hid (hk.grown hs1.2 (.inl (.inr rfl)))
    clear hdrop hcs hdone hL hHF hHF2 hc hpl hb hk hmem ih hcuts hz hok hcok hfix hfix2 hck hps hpsl hpa hpc hsa hsc hlie hT hs1
    go_enter Tryz.func42, Tryz.ntmps42
    go_upto_region 4 with fail
    generalize w.setCell _ _ = w1 at HM1 HB1 HK1 ⊢
    clear c0 c1 c2 c3 c4 c5 ep fp cv
    go_wp2_with fail
    refine (HI.out (k + 1) _ _ worth (plan.set k (-1)) best most w1 (by omega) (by rw [doneL_set _ (by rw [Hpl.out]; exact hkl), Hc.out, Hdone.out, takenN_app, if_pos (by omega), HT.out]) (by omega) (by simp [Hpl.out]) (by rw [doneL_set _ (by rw [Hpl.out]; exact hkl), Hc.out, Hdone.out]; exact lie_app Hlie.out (fun h => by omega)) h0 (by omega) HB1.out HK1.out HM1.out).mono ?_
    rintro e w2 ⟨rfl, hb2, hk2, plan2, hp2, ht2, hm2⟩
    rw [Hcs.out, doneL_set _ (by rw [Hpl.out]; exact hkl), Hc.out, Hdone.out, ← bestAt_zero] at hm2
    have HP2 := Lib.hid (show plan2.length = nl ∧ plan2.take k = plan.take k from ⟨hp2, by
      have h := congrArg (List.take k) ht2
      rw [List.take_take, List.take_take, Nat.min_eq_left (by omega)] at h
      rw [h, List.take_set_of_le (Nat.le_refl k)]⟩)
    have HM2 := Lib.hid hm2
    have HB2 := Lib.hid hb2
    have HK2 := Lib.hid hk2
    obtain ⟨bv2, c0, c1, c2, c3, c4, c5, _, _, _⟩ := hm2.head_
    obtain ⟨⟨hl1, q1, _⟩, ⟨hl2, q2, _⟩, hl3, q3⟩ := HFo.out w2 hk2
    clear hb2 hk2 hp2 ht2 hm2 HM1 HB1 HK1
    go_wp2_with fail
    go_loopw [8, 9, 10, 56] (fun _ _ _ u wr => ∃ i : Nat, i ≤ L ∧ u = .int .i64 (i : Int) ∧ ∃ plan1 : List Int, Hid (plan1.length = nl ∧ plan1.take k = plan.take k ∧ PlanI wr w0.heap.size p gp (.slice (some ⟨bL, oL, none⟩) nl cl) (.slice (some ⟨bO, oO, none⟩) nl cpl) (.slice (some ⟨bS, oS, none⟩) nl csl) nl cp plan1 (bestAt rows n m c cs done worth (best, most) i).1 (bestAt rows n m c cs done worth (best, most) i).2) ∧ Hid (Bel w0.heap.size w0 wr) ∧ Hid (Kept wS wr (In2 p gp))) (fun _ _ _ u _ => L - (intOf u).toNat)
    case atStart => exact ⟨0, Nat.zero_le _, rfl, plan2, Lib.hid ⟨HP2.out.1, HP2.out.2, HM2.out⟩, HB2, HK2⟩
    case round =>
      obtain ⟨i, hi', rfl, plan1, hst, hbw, hkp⟩ := hrel
      clear c0 c1 c2 c3 c4 c5 hl1 q1 hl2 q2 hl3 q3
      by_cases hlt : i < L
      · have hin : (i : Int) < (L : Int) := by omega
        obtain ⟨f, hf1, hf2, hf3, hf4⟩ := HPs.out i hlt
        obtain ⟨⟨kb, kl⟩, hkst⟩ : ∃ q, bestAt rows n m c cs done worth (best, most) i = q := ⟨_, rfl⟩
        rw [hkst] at hst
        have hstep := bestAt_step (sum := worth) (st := (best, most)) (done := done) (cs := cs) hf1
        rw [hkst] at hstep
        have Hstep := Lib.hid hstep
        have hfl := fits_lie hf4
        have hfr := HFree.out f hfl
        obtain ⟨bv3, c0, c1, c2, c3, c4, c5, _, _, _⟩ := hst.out.2.2.head_
        obtain ⟨⟨hl1, q1, hI⟩, ⟨hl2, q2, hJ⟩, hl3, q3⟩ := HFo.out wr hkp.out
        obtain ⟨bI, oI, rfl, hbI, hcI⟩ := hI.at_ (by simp [Hpsl.out]; omega)
        obtain ⟨bJ, oJ, rfl, hbJ, hcJ⟩ := hJ.at_ (by rw [HsL.out]; omega)
        have hcF := int_cell hbI (Below.refl _ wr) hcI (by rw [Hpsl.out]; exact hlt) hf2
        obtain ⟨M, hM⟩ : ∃ M, maskN m c f = M := ⟨_, rfl⟩
        have hcM : wr.cell? ⟨bJ, oJ + i, none⟩ = some (.int .u64 (M : Int)) := by
          rw [hcJ i (by rw [HsL.out]; exact hlt), ← hM]
          simp [seL, hf1]
        have hM36 : M < 2 ^ 36 := by rw [← hM]; exact mask_lt
        have hand := and_u64 hM36 hT36
        have hor := or_u64 hT36 hM36
        obtain ⟨X, hX⟩ : ∃ X, M &&& T = X := ⟨_, rfl⟩
        obtain ⟨Y, hY⟩ : ∃ Y, T ||| M = Y := ⟨_, rfl⟩
        rw [hX] at hand
        rw [hY] at hor
        rw [hM, hX] at hfr
        have HMm := Lib.hid hM
        have HY := Lib.hid hY
        have Hfl := Lib.hid hfl
        clear hstep hkst hf1 hf2 hf3 hf4 hI hJ hcI hcJ hM hX hY hfl hM36
        obtain ⟨⟨up, ep⟩, fp⟩ := hst.out.2.2.planAt hkl
        cases hfb : freeB m done c f with
        | false =>
          have hx0 : ((X : Int) == 0) = false := by
            simp
            intro e
            rw [hfr.1 e] at hfb
            cases hfb
          have HSt := Lib.hid (show bestAt rows n m c cs done worth (best, most) (i + 1) = (kb, kl) by rw [Hstep.out, hfb]; rfl)
          clear hfr hfb
          go_wp2_with fail
          go_roundw
          case rel => exact ⟨i + 1, by omega, by go_num, plan1, Lib.hid ⟨hst.out.1, hst.out.2.1, by rw [HSt.out]; exact hst.out.2.2⟩, hbw, hkp⟩
          case measure => simp [intOf]; omega
        | true =>
          have hx0 : ((X : Int) == 0) = true := by
            simp
            exact hfr.2 hfb
          have HSt := Lib.hid (show bestAt rows n m c cs done worth (best, most) (i + 1) = bestTo rows n m cs (done ++ [(c, (f : Int))]) (worth + c.v) (kb, kl) by rw [Hstep.out, hfb]; rfl)
          clear hfr hfb
          have hs1 := hst.out.2.2.set_ k (f : Int)
          have HM3 := Lib.hid hs1.1
          have HB3 := Lib.hid (hbw.out.grown hs1.2 (fun j h => by cases h; exact hst.out.2.2.base.2.1))
          have HK3 := Lib.hid (hkp.out.grown hs1.2 (.inl (.inr rfl)))
          clear hs1
          go_upto_region 11 with fail
          generalize wr.setCell _ _ = w3 at HM3 HB3 HK3 ⊢
          clear c0 c1 c2 c3 c4 c5 hl1 q1 hl2 q2 hl3 q3 hcF hcM ep fp
          obtain ⟨bv4, c0, c1, c2, c3, c4, c5, _, _, _⟩ := HM3.out.head_
          obtain ⟨⟨hl1, q1, _⟩, ⟨hl2, q2, _⟩, hl3, q3⟩ := HFo.out w3 HK3.out
          have Hp1 := Lib.hid hst.out.1
          have Ht1 := Lib.hid (show doneL zs (plan1.set k (f : Int)) (k + 1) = done ++ [(c, (f : Int))] by rw [doneL_set _ (by rw [hst.out.1]; exact hkl), Hc.out, ← Hdone.out]; congr 1; exact doneL_take hst.out.2.1)
          have e0 : ((f : Nat) : Int).toNat = f := by omega
          have He0 := Lib.hid e0
          clear e0
          go_wp2_with fail
          refine (HI.out (k + 1) _ (Y : Int) (worth + c.v) (plan1.set k (f : Int)) kb kl w3 (by omega) (by rw [Ht1.out, takenN_app, if_neg (by omega), HT.out, He0.out, HMm.out, HY.out]) (by omega) (by simp [Hp1.out]) (by rw [Ht1.out]; exact lie_app Hlie.out (fun _ => by rw [He0.out]; exact ⟨Hfl.out.1, Hfl.out.2, Hck.out.1.1, Hck.out.2.1.1⟩)) (by omega) (by omega) HB3.out HK3.out HM3.out).mono ?_
          rintro e w4 ⟨rfl, hb4, hk4, plan4, hp4, ht4, hm4⟩
          rw [Hcs.out, Ht1.out, ← HSt.out] at hm4
          have HP4 := Lib.hid (show plan4.length = nl ∧ plan4.take k = plan.take k from ⟨hp4, by
            have h := congrArg (List.take k) ht4
            rw [List.take_take, List.take_take, Nat.min_eq_left (by omega)] at h
            rw [h, List.take_set_of_le (Nat.le_refl k)]; exact hst.out.2.1⟩)
          have HM4 := Lib.hid hm4
          have HB4 := Lib.hid hb4
          have HK4 := Lib.hid hk4
          clear hb4 hk4 hp4 ht4 hm4 c0 c1 c2 c3 c4 c5 hl1 q1 hl2 q2 hl3 q3
          go_wp2_with fail
          go_roundw
          case rel => exact ⟨i + 1, by omega, by go_num, plan4, Lib.hid ⟨HP4.out.1, HP4.out.2, HM4.out⟩, HB4, HK4⟩
          case measure => simp [intOf]; omega
      · obtain rfl : i = L := by omega
        have HE := Lib.hid (show PlanEndI w0 wS p gp (.slice (some ⟨bL, oL, none⟩) nl cl) (.slice (some ⟨bO, oO, none⟩) nl cpl) (.slice (some ⟨bS, oS, none⟩) nl csl) nl cp k plan (bestAt rows n m c cs done worth (best, most) i) (.returned (.tuple #[])) wr from ⟨rfl, hbw.out, hkp.out, plan1, hst.out.1, hst.out.2.1, hst.out.2.2⟩)
        go_wp2_with fail
        go_end0
        exact HE.out
end Go.Proofs.YthemlamdchcicaaGreatDoor
