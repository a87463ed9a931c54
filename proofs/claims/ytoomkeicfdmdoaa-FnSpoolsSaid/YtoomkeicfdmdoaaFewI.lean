/-
  The contract of the program's search for the fewest spools. No condition of its own.
-/
import Derived.Test.YtoomkeicfdmdoaaFewP
import Derived.Test.YtoomkeicfdmdoaaApp2
import Derived.StillTailTactics
import Derived.BigQuiet
import Derived.Deep.DeepCutAuto
namespace Go.Proofs.Ytoomkeicfdmdoaa
open Go.ChangeShapes Go.WideShapes Go.ChangeAt Go.RowKit Go.Deep Go.Shelf

/-- A row's first block is none of another row's. -/
def Off (u v : Value) : Prop := ∀ b, u.ownBlock = some b → v.ownBlock ≠ some b
theorem Off.symm {u v : Value} (h : Off u v) : Off v u := fun b h1 h2 => h b h2 h1
/-- The parts of a search lie apart. -/
def Sep (p gp gu : Nat) (lv : Value) : Prop := p ≠ gp ∧ p ≠ gu ∧ gp ≠ gu ∧ lv.ownBlock ≠ some p ∧ lv.ownBlock ≠ some gp ∧ lv.ownBlock ≠ some gu
abbrev ints (zs : List Int) : List Value := zs.map (Value.int .i64)
/-- The memory of a search. -/
def FewMem (W : World) (B p gp gu : Nat) (nd lv : Value) (n m cu cp : Nat) (left uses plan best : List Int) (least : Int) : Prop :=
  ∃ (bv : Value) (nb : Nat), W.ownsRow B 62 6 (.slice (some ⟨p, 0, none⟩) 1 1) 1 [nd, lv, .slice (some ⟨gu, 0, none⟩) n cu, .slice (some ⟨gp, 0, none⟩) m cp, bv, .int .i64 least]
    ∧ W.ownsRow B 2 1 lv n (ints left) ∧ W.ownsRow B 2 1 (.slice (some ⟨gu, 0, none⟩) n cu) n (ints uses) ∧ W.ownsRow B 2 1 (.slice (some ⟨gp, 0, none⟩) m cp) m (ints plan)
    ∧ W.ownsRow B 2 1 bv nb (ints best) ∧ bv.ownBlock ≠ some p ∧ bv.ownBlock ≠ some gp ∧ bv.ownBlock ≠ some gu ∧ Off bv lv
theorem own_ne {w w' : World} {B E k n g : Nat} {v : Value} {cs : List Value} (h : w.ownsRow B E k v n cs) (hg : w.grownBy w' (some g)) (hne : v.ownBlock ≠ some g) : w'.ownsRow B E k v n cs :=
  own_grown_ne h hg (fun b hb e => hne (by rw [hb, e]))
section
variable {W : World} {B p gp gu n m cu cp : Nat} {nd lv : Value} {left uses plan best : List Int} {least : Int}
theorem FewMem.left_ {gl cl : Nat} (h : FewMem W B p gp gu nd (.slice (some ⟨gl, 0, none⟩) n cl) n m cu cp left uses plan best least) (sep : Sep p gp gu (.slice (some ⟨gl, 0, none⟩) n cl)) (k : Nat) (x : Int) :
    FewMem (W.setCell ⟨gl, k, none⟩ (.int .i64 x)) B p gp gu nd (.slice (some ⟨gl, 0, none⟩) n cl) n m cu cp (left.set k x) uses plan best least ∧ W.grownBy (W.setCell ⟨gl, k, none⟩ (.int .i64 x)) (some gl) := by
  obtain ⟨bv, nb, h1, h2, h3, h4, h5, h6, h7, h8, h9⟩ := h
  obtain ⟨s1, s2, s3, s4, s5, s6⟩ := sep
  have hs := h2.stored k (.int .i64 x)
  refine ⟨⟨bv, nb, own_ne h1 hs.2 ?_, ?_, own_ne h3 hs.2 ?_, own_ne h4 hs.2 ?_, own_ne h5 hs.2 ?_, h6, h7, h8, h9⟩, hs.2⟩
  · intro e; exact s4 e.symm
  · have := hs.1
    rw [ints, List.map_set]; exact this
  · intro e; exact s6 e.symm
  · intro e; exact s5 e.symm
  · intro e; exact h9 gl e rfl
theorem FewMem.uses_ (h : FewMem W B p gp gu nd lv n m cu cp left uses plan best least) (sep : Sep p gp gu lv) (k : Nat) (x : Int) :
    FewMem (W.setCell ⟨gu, k, none⟩ (.int .i64 x)) B p gp gu nd lv n m cu cp left (uses.set k x) plan best least ∧ W.grownBy (W.setCell ⟨gu, k, none⟩ (.int .i64 x)) (some gu) := by
  obtain ⟨bv, nb, h1, h2, h3, h4, h5, h6, h7, h8, h9⟩ := h
  obtain ⟨s1, s2, s3, s4, s5, s6⟩ := sep
  have hs := h3.stored k (.int .i64 x)
  refine ⟨⟨bv, nb, own_ne h1 hs.2 ?_, own_ne h2 hs.2 s6, ?_, own_ne h4 hs.2 ?_, own_ne h5 hs.2 h8, h6, h7, h8, h9⟩, hs.2⟩
  · intro e; exact s2 (by simpa [Value.ownBlock] using e)
  · have := hs.1
    rw [ints, List.map_set]; exact this
  · intro e; exact s3 (by simpa [Value.ownBlock] using e)
theorem FewMem.plan_ (h : FewMem W B p gp gu nd lv n m cu cp left uses plan best least) (sep : Sep p gp gu lv) (k : Nat) (x : Int) :
    FewMem (W.setCell ⟨gp, k, none⟩ (.int .i64 x)) B p gp gu nd lv n m cu cp left uses (plan.set k x) best least ∧ W.grownBy (W.setCell ⟨gp, k, none⟩ (.int .i64 x)) (some gp) := by
  obtain ⟨bv, nb, h1, h2, h3, h4, h5, h6, h7, h8, h9⟩ := h
  obtain ⟨s1, s2, s3, s4, s5, s6⟩ := sep
  have hs := h4.stored k (.int .i64 x)
  refine ⟨⟨bv, nb, own_ne h1 hs.2 ?_, own_ne h2 hs.2 s5, own_ne h3 hs.2 ?_, ?_, own_ne h5 hs.2 h7, h6, h7, h8, h9⟩, hs.2⟩
  · intro e; exact s1 (by simpa [Value.ownBlock] using e)
  · intro e; exact s3 (by have : gu = gp := (by simpa [Value.ownBlock] using e); exact this.symm)
  · have := hs.1
    rw [ints, List.map_set]; exact this
theorem FewMem.best_ {W' : World} {av : Value} {na : Nat} (h : FewMem W B p gp gu nd lv n m cu cp left uses plan best least) (sep : Sep p gp gu lv) {zs : List Int} (hn : W'.ownsRow W.heap.size 2 1 av na (ints zs)) (hb : Below W.heap.size W W') (hB : B ≤ W.heap.size) (x : Int) :
    FewMem ((W'.setCell ⟨p, 4, none⟩ av).setCell ⟨p, 5, none⟩ (.int .i64 x)) B p gp gu nd lv n m cu cp left uses plan zs x ∧ W'.grownBy ((W'.setCell ⟨p, 4, none⟩ av).setCell ⟨p, 5, none⟩ (.int .i64 x)) (some p) := by
  obtain ⟨bv, nb, h1, h2, h3, h4, h5, h6, h7, h8, h9⟩ := h
  obtain ⟨s1, s2, s3, s4, s5, s6⟩ := sep
  have k1 := own_below h1 hb
  have k2 := k1.stored 4 av
  have k3 := k2.1.stored 5 (.int .i64 x)
  have hg := grown_trans_row k2.2 k3.2
  have hnew : ∀ b, b < W.heap.size → av.ownBlock ≠ some b := fun b hb e => by have := (own_block hn e).1; omega
  have bp := (own_block h1 rfl).2
  have bgp := (own_block h4 rfl).2
  have bgu := (own_block h3 rfl).2
  refine ⟨⟨av, na, k3.1, own_ne (own_below h2 hb) hg s4, own_ne (own_below h3 hb) hg ?_, own_ne (own_below h4 hb) hg ?_, own_ne (own_base hn hB) hg (hnew _ bp), hnew _ bp, hnew _ bgp, hnew _ bgu, fun b e e2 => hnew b (own_block h2 e2).2 e⟩, hg⟩
  · intro e; exact s2 (by have : gu = p := (by simpa [Value.ownBlock] using e); exact this.symm)
  · intro e; exact s1 (by have : gp = p := (by simpa [Value.ownBlock] using e); exact this.symm)
/-- What a walk reads. -/
theorem FewMem.head_ (h : FewMem W B p gp gu nd lv n m cu cp left uses plan best least) :
    ∃ bv, W.cell? ⟨p, 0, none⟩ = some nd ∧ W.cell? ⟨p, 1, none⟩ = some lv ∧ W.cell? ⟨p, 2, none⟩ = some (.slice (some ⟨gu, 0, none⟩) n cu) ∧ W.cell? ⟨p, 3, none⟩ = some (.slice (some ⟨gp, 0, none⟩) m cp) ∧ W.cell? ⟨p, 4, none⟩ = some bv ∧ W.cell? ⟨p, 5, none⟩ = some (.int .i64 least) ∧ W.frozen? ⟨p, 4, none⟩ = false ∧ W.frozen? ⟨p, 5, none⟩ = false := by
  obtain ⟨bv, nb, h1, h2, h3, h4, h5, h6, h7, h8, h9⟩ := h
  refine ⟨bv, ?_, ?_, ?_, ?_, ?_, ?_, h1.frozenAt 4, h1.frozenAt 5⟩
  all_goals
    rw [h1.cellAt _ (by omega)]
    rfl
theorem own_cell {g c k : Nat} {zs : List Int} {u : Int} (h : W.ownsRow B 2 1 (.slice (some ⟨g, 0, none⟩) n c) n (ints zs)) (hk : k < n) (hu : zs.getD k 0 = u) : W.cell? ⟨g, k, none⟩ = some (.int .i64 u) := by
  have hl : zs.length = n := by have := h.1; simpa using this
  rw [h.cellAt k (by omega), ← hu]
  simp [List.getElem?_eq_getElem (show k < zs.length by omega)]
theorem FewMem.leftAt {gl cl k : Nat} {u : Int} (h : FewMem W B p gp gu nd (.slice (some ⟨gl, 0, none⟩) n cl) n m cu cp left uses plan best least) (hk : k < n) (hu : left.getD k 0 = u) : W.cell? ⟨gl, k, none⟩ = some (.int .i64 u) ∧ W.frozen? ⟨gl, k, none⟩ = false := by
  obtain ⟨bv, nb, h1, h2, h3, h4, h5, h6, h7, h8, h9⟩ := h
  exact ⟨own_cell h2 hk hu, h2.frozenAt k⟩
theorem FewMem.usesAt {k : Nat} {u : Int} (h : FewMem W B p gp gu nd lv n m cu cp left uses plan best least) (hk : k < n) (hu : uses.getD k 0 = u) : W.cell? ⟨gu, k, none⟩ = some (.int .i64 u) ∧ W.frozen? ⟨gu, k, none⟩ = false := by
  obtain ⟨bv, nb, h1, h2, h3, h4, h5, h6, h7, h8, h9⟩ := h
  exact ⟨own_cell h3 hk hu, h3.frozenAt k⟩
theorem FewMem.planAt {k : Nat} (h : FewMem W B p gp gu nd lv n m cu cp left uses plan best least) (hk : k < m) : (∃ u, W.cell? ⟨gp, k, none⟩ = some (.int .i64 u)) ∧ W.frozen? ⟨gp, k, none⟩ = false := by
  obtain ⟨bv, nb, h1, h2, h3, h4, h5, h6, h7, h8, h9⟩ := h
  exact ⟨⟨_, own_cell h4 hk rfl⟩, h4.frozenAt k⟩
theorem FewMem.drewN (h : FewMem W B p gp gu nd lv n m cu cp left uses plan best least) (q : Nat) : FewMem (W.drewN q) B p gp gu nd lv n m cu cp left uses plan best least := h
theorem FewMem.form {al : Option Addr} {cl : Nat} (h : FewMem W B p gp gu nd (.slice al n cl) n m cu cp left uses plan best least) (hn : 0 < n) : ∃ gl, al = some ⟨gl, 0, none⟩ ∧ B ≤ gl := by
  obtain ⟨bv, nb, h1, h2, h3, h4, h5, h6, h7, h8, h9⟩ := h
  rcases h2.2 with ⟨_, h0⟩ | ⟨g, cap, cur, hv, hB, _⟩
  · omega
  · simp only [Value.slice.injEq] at hv
    exact ⟨g, hv.1, hB⟩
theorem FewMem.base (h : FewMem W B p gp gu nd lv n m cu cp left uses plan best least) : B ≤ p ∧ B ≤ gp ∧ B ≤ gu ∧ p < W.heap.size := by
  obtain ⟨bv, nb, h1, h2, h3, h4, h5, h6, h7, h8, h9⟩ := h
  exact ⟨(own_block h1 rfl).1, (own_block h4 rfl).1, (own_block h3 rfl).1, (own_block h1 rfl).2⟩
end
/-- What the search leaves. -/
def FewEnd (w0 : World) (p gp gu : Nat) (nd lv : Value) (n m cu cp : Nat) (left uses plan : List Int) (i : Nat) (st : List Int × Int) (e : Ending) (w' : World) : Prop :=
  e = .returned (.tuple #[]) ∧ Bel w0.heap.size w0 w' ∧ ∃ plan' : List Int, plan'.length = m ∧ plan'.take i = plan.take i ∧ FewMem w' w0.heap.size p gp gu nd lv n m cu cp left uses plan' st.1 st.2
theorem set_back {l : List Int} {k : Nat} {u : Int} (x : Int) (hk : k < l.length) (hu : l.getD k 0 = u) : (l.set k x).set k u = l := by
  rw [List.set_set, ← hu]
  simp [List.getElem?_eq_getElem hk]
theorem set_at {l : List Int} {k : Nat} (x : Int) (hk : k < l.length) : (l.set k x).getD k 0 = x := by simp [hk]
theorem take_step {l : List Int} {i : Nat} (x : Int) (hi : i < l.length) : (l.set i x).take (i + 1) = l.take i ++ [x] := by
  rw [List.take_succ_eq_append_getElem (by simpa using hi), List.take_set_of_le (Nat.le_refl i)]
  simp

set_option maxRecDepth 100000 in
set_option maxHeartbeats 6400000 in
theorem from_any (w0 : World) (p gp gu n m cu cp cn : Nat) (cl : Nat) (an al : Option Addr) (needs : List Int) (hN : needs.length = m) (hm : m ≤ 8) (hn : n ≤ 6) (hc : CellsAt w0 an (needs.map (Value.int .i64))) (hNb : outB needs 1 1000000 = false) (sep : Sep p gp gu (.slice al n cl)) (d : Nat) :
    ∀ (i : Nat) (iv : Int) (left uses plan best : List Int) (used least : Int) (w : World), iv = (i : Int) → i + d = m → left.length = n → Low left → uses.length = n → (∀ j, 0 ≤ uses.getD j 0 ∧ uses.getD j 0 ≤ i) → plan.length = m → 0 ≤ used → used ≤ i → -1 ≤ least → least ≤ m →
      Bel w0.heap.size w0 w → FewMem w w0.heap.size p gp gu (.slice an m cn) (.slice al n cl) n m cu cp left uses plan best least →
      Calls Try.prog 59 #[.pointer (some ⟨p, 0, none⟩), .int .i64 iv, .int .i64 used] w (FewEnd w0 p gp gu (.slice an m cn) (.slice al n cl) n m cu cp left uses plan i (fewTo (needs.drop i) left uses (plan.take i) used (best, least))) := by
  induction d with
  | zero =>
    intro i iv left uses plan best used least w hiv hi hll hlow hul hub hpl h0 h1 h2 h3 hb hmem
    subst hiv
    obtain rfl : i = m := by omega
    obtain ⟨bv, c0, c1, c2, c3, c4, c5, f4, f5⟩ := hmem.head_
    by_cases hcut : 0 ≤ least ∧ least ≤ used
    · rw [fewTo_cut (st := (best, least)) hcut.1 hcut.2]
      have HE := Lib.hid (show FewEnd w0 p gp gu (.slice an i cn) (.slice al n cl) n i cu cp left uses plan i (best, least) (.returned (.tuple #[])) w from ⟨rfl, hb, plan, hpl, rfl, hmem⟩)
      obtain ⟨g1, g2⟩ := hcut
      clear hb hmem hub hlow hc hN hNb hll hul hpl sep
      go_enter Try.func59, Try.ntmps59
      go_wp2_with fail
      go_end0
      exact HE.out
    · rw [List.drop_of_length_le (by omega), fewTo_end (st := (best, least)) hcut, List.take_of_length_le (by omega)]
      have hcl := cloneI_any gp i cp plan w hpl (by omega) (by obtain ⟨bv, nb, h1, h2, h3, h4, _⟩ := hmem; exact CellsAt.of_own h4)
      have HCl := Lib.hid hcl
      have HM := Lib.hid hmem
      have HB := Lib.hid hb
      have HS := Lib.hid sep
      have Hpl := Lib.hid hpl
      have hii : ((i : Int) == (i : Int)) = true := by simp
      have hp := hmem.base
      obtain ⟨_, _, _, hp4⟩ := hp
      clear hcl hb hmem hub hlow hc hN hNb hll hul hpl sep
      by_cases hneg : 0 ≤ least
      all_goals
        try have hlt : used < least := by omega
        clear hcut
        go_enter Try.func59, Try.ntmps59
        go_wp2_with fail
        refine HCl.out.mono ?_
        rintro e w1 ⟨aL, capL, rfl, ho, hb1⟩
        have hbest := HM.out.best_ HS.out ho hb1 HB.out.2 used
        have HE := Lib.hid (show FewEnd w0 p gp gu (.slice an i cn) (.slice al n cl) n i cu cp left uses plan i (plan, used) (.returned (.tuple #[])) _ from ⟨rfl, (HB.out.step hb1).grown hbest.2 (fun k h => by cases h; exact HM.out.base.1), plan, Hpl.out, rfl, hbest.1⟩)
        obtain ⟨hc1, hf1, hl1⟩ := bcell hb1
        have k4 : w1.cell? ⟨p, 4, none⟩ = some bv := by rw [hc1 _ _ hp4]; exact c4
        have k5 : w1.cell? ⟨p, 5, none⟩ = some (.int .i64 least) := by rw [hc1 _ _ hp4]; exact c5
        have q4 : w1.frozen? ⟨p, 4, none⟩ = false := by rw [hf1 _ _ hp4]; exact f4
        have q5 : w1.frozen? ⟨p, 5, none⟩ = false := by rw [hf1 _ _ hp4]; exact f5
        clear hbest hc1 hf1 hl1 hb1 ho
        go_wp2_with fail
        go_end0
        exact HE.out
  | succ d ih =>
    intro i iv left uses plan best used least w hiv hi hll hlow hul hub hpl h0 h1 h2 h3 hb hmem
    subst hiv
    obtain ⟨bv, c0, c1, c2, c3, c4, c5, f4, f5⟩ := hmem.head_
    by_cases hcut : 0 ≤ least ∧ least ≤ used
    · rw [fewTo_cut (st := (best, least)) hcut.1 hcut.2]
      have HE := Lib.hid (show FewEnd w0 p gp gu (.slice an m cn) (.slice al n cl) n m cu cp left uses plan i (best, least) (.returned (.tuple #[])) w from ⟨rfl, hb, plan, hpl, rfl, hmem⟩)
      obtain ⟨g1, g2⟩ := hcut
      clear hb hmem hub hlow hc hN hNb hll hul hpl sep
      go_enter Try.func59, Try.ntmps59
      go_wp2_with fail
      go_end0
      exact HE.out
    · obtain ⟨y, hy⟩ : ∃ y, needs[i]? = some y := ⟨needs[i]'(by omega), List.getElem?_eq_getElem _⟩
      have hyd : needs.getD i 0 = y := by simp [hy]
      have hdrop : needs.drop i = y :: needs.drop (i + 1) := by
        rw [List.drop_eq_getElem_cons (by omega)]
        congr 1
        rw [List.getElem?_eq_getElem (by omega)] at hy
        simpa using hy
      rw [hdrop, fewTo_more (st := (best, least)) hcut, hll]
      obtain ⟨bN, oN, rfl, hbN, hcN⟩ := hc.at_ (by simp; omega)
      have hyb := outB_at hNb (j := i) (by omega)
      rw [hyd] at hyb
      obtain ⟨hy1, hy2⟩ := hyb
      have HcN := Lib.hid hcN
      have Hyd := Lib.hid hyd
      have HN := Lib.hid hN
      have HS := Lib.hid sep
      have Hll := Lib.hid hll
      have Hlow := Lib.hid hlow
      have Hul := Lib.hid hul
      have Hub := Lib.hid hub
      have Hpl := Lib.hid hpl
      have HB := Lib.hid hb
      have HM := Lib.hid hmem
      have HI := Lib.hid ih
      have Hp := Lib.hid hmem.base
      have him : i < m := by omega
      have him' : (i : Int) < (m : Int) := by omega
      have hne : ((i : Int) == (m : Int)) = false := by simp; omega
      clear hy hdrop hyd hcN hc hb hmem hub hlow hN hNb hll hul hpl sep ih f4 f5
      by_cases hneg : 0 ≤ least
      all_goals
        try have hlt : used < least := by omega
        clear hcut
        go_enter Try.func59, Try.ntmps59
        go_wp2_with fail
        go_loopw [6, 7, 45] (fun _ _ s wr => ∃ k : Nat, k ≤ n ∧ s = .int .i64 k ∧ ∃ (plan1 : List Int), Hid (plan1.length = m ∧ plan1.take i = plan.take i ∧ FewMem wr w0.heap.size p gp gu (.slice (some ⟨bN, oN, none⟩) m cn) (.slice al n cl) n m cu cp left uses plan1 (fewAt y (needs.drop (i + 1)) left uses (plan.take i) used (best, least) k).1 (fewAt y (needs.drop (i + 1)) left uses (plan.take i) used (best, least) k).2) ∧ Hid (Bel w0.heap.size w0 wr)) (fun _ _ s _ => n - (intOf s).toNat)
        case atStart => exact ⟨0, Nat.zero_le _, rfl, plan, Lib.hid ⟨Hpl.out, rfl, HM.out⟩, HB⟩
        case round =>
          obtain ⟨k, hk, rfl, plan1, hst, hbw⟩ := hrel
          by_cases hlt2 : k < n
          · obtain ⟨⟨kb, kl⟩, hkst⟩ : ∃ q, fewAt y (needs.drop (i + 1)) left uses (plan.take i) used (best, least) k = q := ⟨_, rfl⟩
            have hbd := fewAt_bd (y := y) (ys := needs.drop (i + 1)) (left := left) (uses := uses) (pre := plan.take i) (used := used) (st := (best, least)) (m := m) h0 (by have := HN.out; simp; omega) h2 h3 k
            rw [hkst] at hbd hst
            obtain ⟨hbd1, hbd2⟩ := hbd
            obtain ⟨gl, rfl, hglB⟩ := HM.out.form (by omega)
            obtain ⟨u, hu⟩ : ∃ z, left.getD k 0 = z := ⟨_, rfl⟩
            obtain ⟨q, hq⟩ : ∃ z, uses.getD k 0 = z := ⟨_, rfl⟩
            have hub := Hlow.out k
            rw [hu] at hub
            have hqb := Hub.out k
            rw [hq] at hqb
            obtain ⟨hu0, hu1⟩ := hub
            obtain ⟨hq0, hq1⟩ := hqb
            have hcy : wr.cell? ⟨bN, oN + i, none⟩ = some (.int .i64 y) := cell_int hbN hbw.out.1 HcN.out (by have := HN.out; omega) Hyd.out
            obtain ⟨bv1, d0, d1, d2, d3, d4, d5, _, _⟩ := hst.out.2.2.head_
            obtain ⟨el, fl⟩ := hst.out.2.2.leftAt hlt2 hu
            obtain ⟨eu, fu⟩ := hst.out.2.2.usesAt hlt2 hq
            have hkn : (k : Int) < (n : Int) := by omega
            have Hu := Lib.hid hu
            have Hq := Lib.hid hq
            have Hkst := Lib.hid hkst
            clear hu hq hkst c0 c1 c2 c3 c4 c5
            by_cases hneg2 : u < y
            · go_wp2_with fail
              go_big_quiet (fail)
              go_wp2_with fail
              go_roundw
              case rel => exact ⟨k + 1, by omega, by go_num, plan1, Lib.hid ⟨hst.out.1, hst.out.2.1, by rw [fewAt_skip Hu.out hneg2, Hkst.out]; exact hst.out.2.2⟩, Lib.hid (hbw.out.drewN _)⟩
              case measure => simp [intOf]; omega
            · have hvb : 0 ≤ u - y ∧ u - y ≤ 1000000 := by omega
              obtain ⟨v, hv⟩ : ∃ v, v = u - y := ⟨_, rfl⟩
              rw [← hv] at hvb
              obtain ⟨hv0, hv1⟩ := hvb
              obtain ⟨q1, hq1e⟩ : ∃ z, z = q + 1 := ⟨_, rfl⟩
              have hq1b : 1 ≤ q1 ∧ q1 ≤ 9 := by omega
              obtain ⟨hq1a, hq1c⟩ := hq1b
              obtain ⟨more, hmore⟩ : ∃ z, z = if q = 0 then used + 1 else used := ⟨_, rfl⟩
              have hmb : 0 ≤ more ∧ more ≤ (i : Int) + 1 := by rw [hmore]; split <;> omega
              obtain ⟨hmb0, hmb1⟩ := hmb
              have Hv := Lib.hid hv
              have Hq1 := Lib.hid hq1e
              have Hmo := Lib.hid hmore
              clear hv hq1e hmore
              by_cases hq00 : q = 0
              all_goals
                first
                  | (have hqz : (q == 0) = true := by simpa using hq00)
                  | (have hqz : (q == 0) = false := by simpa using hq00)
                have HQ0 := Lib.hid hq00
                clear hq00
                go_wp2_with fail
                go_big_quiet (fail)
                go_wp2_with fail
                generalize hwq : wr.drewN _ = wq
                have hMq : FewMem wq w0.heap.size p gp gu (.slice (some ⟨bN, oN, none⟩) m cn) (.slice (some ⟨gl, 0, none⟩) n cl) n m cu cp left uses plan1 kb kl := by rw [← hwq]; exact hst.out.2.2
                have hBq : Bel w0.heap.size w0 wq := by rw [← hwq]; exact hbw.out.drewN _
                have hcq : wq.cell? ⟨bN, oN + i, none⟩ = some (.int .i64 y) := by rw [← hwq]; exact hcy
                clear hwq hcy d0 d1 d2 d3 d4 d5 el fl eu fu
                obtain ⟨bv2, d0, d1, d2, d3, d4, d5, _, _⟩ := hMq.head_
                obtain ⟨el, fl⟩ := hMq.leftAt hlt2 Hu.out
                have hsl := FewMem.left_ (W := wq.drew) hMq HS.out k v
                have hBl := hBq.drew.grown hsl.2 (fun j h => by cases h; exact hglB)
                have HM2 := Lib.hid hsl.1
                have HB2 := Lib.hid hBl
                have hvw : IntKind.i64.wrap (u - y) = v := by rw [IntWalk.i64_in _ (by have := Hv.out; omega)]; exact Hv.out.symm
                clear hsl hBl hMq hBq
                go_still_tail 16, (by kernel_rfl)
                go_upto_region 11 with fail
                generalize hw2 : (wq.setCell _ _).drew = w2
                replace HM2 := Lib.hid (show FewMem w2 w0.heap.size p gp gu (.slice (some ⟨bN, oN, none⟩) m cn) (.slice (some ⟨gl, 0, none⟩) n cl) n m cu cp (left.set k v) uses plan1 kb kl by rw [← hw2]; exact HM2.out)
                replace HB2 := Lib.hid (show Bel w0.heap.size w0 w2 by rw [← hw2]; exact HB2.out)
                clear hw2 hvw
                obtain ⟨bv3, e0, e1, e2, e3, e4, e5, _, _⟩ := HM2.out.head_
                obtain ⟨eu, fu⟩ := HM2.out.usesAt hlt2 Hq.out
                have hs3 := HM2.out.uses_ HS.out k q1
                have hB3 := HB2.out.grown hs3.2 (fun j h => by cases h; exact Hp.out.2.2.1)
                obtain ⟨bv4, _, _, _, m3, _, _, _, _⟩ := hs3.1.head_
                obtain ⟨⟨up, ep⟩, fp⟩ := hs3.1.planAt him
                have hs4 := hs3.1.plan_ HS.out i (k : Int)
                have HM4 := Lib.hid hs4.1
                have HB4 := Lib.hid (hB3.grown hs4.2 (fun j h => by cases h; exact Hp.out.2.1))
                have hqw : q + 1 = q1 := Hq1.out.symm
                clear hs3 hB3 hs4 d0 d1 d2 d3 d4 d5 el fl hcq
                go_wp2_with fail
                have HF := Lib.hid (show fewAt y (needs.drop (i + 1)) left uses (plan.take i) used (best, least) (k + 1) = fewTo (needs.drop (i + 1)) (left.set k v) (uses.set k q1) ((plan1.set i (k : Int)).take (i + 1)) (if q = 0 then used + 1 else used) (kb, kl) from by
                  rw [take_step _ (by rw [hst.out.1]; exact him), hst.out.2.1, ← Hkst.out, Hv.out]
                  by_cases hq9 : q = 0
                  · rw [if_pos hq9, show q1 = 0 + 1 by have := Hq1.out; omega]
                    exact fewAt_new Hu.out (by omega) (Hq.out.trans hq9)
                  · rw [if_neg hq9, Hq1.out]
                    exact fewAt_old Hu.out (by omega) Hq.out hq9)
                have HP9 := Lib.hid (show (left.set k v).length = n ∧ Low (left.set k v) ∧ (uses.set k q1).length = n ∧ (∀ j, 0 ≤ (uses.set k q1).getD j 0 ∧ (uses.set k q1).getD j 0 ≤ ((i + 1 : Nat) : Int)) ∧ (plan1.set i (k : Int)).length = m from
                  ⟨by simp [Hll.out], Hlow.out.set hv0 hv1, by simp [Hul.out], fun j => by
                    have hj := Hub.out j
                    by_cases e : k = j
                    · subst e
                      rw [set_at _ (by rw [Hul.out]; exact hlt2)]
                      have := Hq1.out
                      omega
                    · have e2 : (uses.set k q1).getD j 0 = uses.getD j 0 := by simp [List.getElem?_set_ne e]
                      rw [e2]; omega, by simp [hst.out.1]⟩)
                refine (HI.out (i + 1) ((i : Int) + 1) (left.set k v) (uses.set k q1) (plan1.set i (k : Int)) kb _ kl _ (by omega) (by omega) HP9.out.1 HP9.out.2.1 HP9.out.2.2.1 HP9.out.2.2.2.1 HP9.out.2.2.2.2 (by omega) (by omega) hbd1 hbd2 HB4.out HM4.out).mono ?_
                rintro e w5 ⟨rfl, hb5, plan2, hp2, ht2, hm5⟩
                have HP2 := Lib.hid (show plan2.length = m ∧ plan2.take i = plan.take i from ⟨hp2, by
                  have h := congrArg (List.take i) ht2
                  rw [List.take_take, List.take_take, Nat.min_eq_left (by omega)] at h
                  rw [h, List.take_set_of_le (Nat.le_refl i), hst.out.2.1]⟩)
                have hm6 : FewMem w5 w0.heap.size p gp gu (.slice (some ⟨bN, oN, none⟩) m cn) (.slice (some ⟨gl, 0, none⟩) n cl) n m cu cp (left.set k v) (uses.set k q1) plan2 (fewAt y (needs.drop (i + 1)) left uses (plan.take i) used (best, least) (k + 1)).1 (fewAt y (needs.drop (i + 1)) left uses (plan.take i) used (best, least) (k + 1)).2 := by
                  have h := HF.out
                  first
                    | (rw [if_pos HQ0.out] at h; rw [h]; exact hm5)
                    | (rw [if_neg HQ0.out] at h; rw [h]; exact hm5)
                obtain ⟨bv6, d0, d1, d2, d3, d4, d5, _, _⟩ := hm6.head_
                obtain ⟨el, fl⟩ := hm6.leftAt hlt2 (set_at v (by rw [Hll.out]; exact hlt2))
                have hcy : w5.cell? ⟨bN, oN + i, none⟩ = some (.int .i64 y) := cell_int hbN hb5.1 HcN.out (by have := HN.out; omega) Hyd.out
                have hsl := FewMem.left_ (W := w5.drew) hm6 HS.out k u
                rw [set_back v (by rw [Hll.out]; exact hlt2) Hu.out] at hsl
                have HM6 := Lib.hid hsl.1
                have HB6 := Lib.hid (hb5.drew.grown hsl.2 (fun j h => by cases h; exact hglB))
                have hvw : IntKind.i64.wrap (v + y) = u := by rw [IntWalk.i64_in _ (by have := Hv.out; omega)]; have := Hv.out; omega
                have hvw2 : v + y = u := by have := Hv.out; omega
                clear hsl hb5 hm5 hm6 hp2 ht2 HF HP9 HM4 HB4 m3 fp ep e0 e1 e2 e3 e4 e5 eu fu
                go_wp2_with fail
                go_still_tail 16, (by kernel_rfl)
                go_upto_region 15 with fail
                generalize hw6 : (w5.setCell _ _).drew = w6
                obtain ⟨kb2, hkb2⟩ : ∃ q, q = fewAt y (needs.drop (i + 1)) left uses (plan.take i) used (best, least) (k + 1) := ⟨_, rfl⟩
                rw [← hkb2] at HM6
                replace HM6 := Lib.hid (show FewMem w6 w0.heap.size p gp gu (.slice (some ⟨bN, oN, none⟩) m cn) (.slice (some ⟨gl, 0, none⟩) n cl) n m cu cp left (uses.set k q1) plan2 kb2.1 kb2.2 by rw [← hw6]; exact HM6.out)
                replace HB6 := Lib.hid (show Bel w0.heap.size w0 w6 by rw [← hw6]; exact HB6.out)
                have Hkb2 := Lib.hid hkb2
                clear hw6 hvw hvw2 hkb2 d0 d1 d2 d3 d4 d5 el fl hcy
                obtain ⟨bv7, e0, e1, e2, e3, e4, e5, _, _⟩ := HM6.out.head_
                obtain ⟨eu, fu⟩ := HM6.out.usesAt hlt2 (set_at q1 (by rw [Hul.out]; exact hlt2))
                have hs7 := HM6.out.uses_ HS.out k q
                rw [set_back q1 (by rw [Hul.out]; exact hlt2) Hq.out] at hs7
                have HB7 := Lib.hid (HB6.out.grown hs7.2 (fun j h => by cases h; exact Hp.out.2.2.1))
                have HM7 := Lib.hid hs7.1
                have hqw2 : q1 - 1 = q := by have := Hq1.out; omega
                clear hs7 hqw
                go_wp2_with fail
                go_roundw
                case rel => exact ⟨k + 1, by omega, by go_num, plan2, Lib.hid ⟨HP2.out.1, HP2.out.2, by rw [← Hkb2.out]; exact HM7.out⟩, HB7⟩
                case measure => simp [intOf]; omega
          · obtain rfl : k = n := by omega
            have HE := Lib.hid (show FewEnd w0 p gp gu (.slice (some ⟨bN, oN, none⟩) m cn) (.slice al k cl) k m cu cp left uses plan i (fewAt y (needs.drop (i + 1)) left uses (plan.take i) used (best, least) k) (.returned (.tuple #[])) wr from ⟨rfl, hbw.out, plan1, hst.out.1, hst.out.2.1, hst.out.2.2⟩)
            go_wp2_with fail
            go_end0
            exact HE.out
end Go.Proofs.Ytoomkeicfdmdoaa
