/-
  The contract of the reference's search for the fewest spools. No condition of its own.
-/
import Derived.Test.YtoomkeicfdmdoaaFewI
import Derived.WalkSmall
namespace Go.Proofs.Ytoomkeicfdmdoaa
open Go.ChangeShapes Go.WideShapes Go.ChangeAt Go.RowKit Go.Deep Go.Shelf

/-- The memory of the reference's search. -/
def FewMemX (W : World) (B p gu gp : Nat) (nd lv : Value) (n i cu cp : Nat) (left uses pre best : List Int) (least : Int) : Prop :=
  ∃ (bv : Value) (nb : Nat), W.ownsRow B 59 6 (.slice (some ⟨p, 0, none⟩) 1 1) 1 [nd, lv, .slice (some ⟨gu, 0, none⟩) n cu, .slice (some ⟨gp, 0, none⟩) i cp, bv, .int .i64 least]
    ∧ W.ownsRow B 2 1 lv n (ints left) ∧ W.ownsRow B 2 1 (.slice (some ⟨gu, 0, none⟩) n cu) n (ints uses) ∧ W.ownsRow B 2 1 (.slice (some ⟨gp, 0, none⟩) i cp) i (ints pre)
    ∧ W.ownsRow B 2 1 bv nb (ints best) ∧ bv.ownBlock ≠ some p ∧ bv.ownBlock ≠ some gp ∧ bv.ownBlock ≠ some gu ∧ Off bv lv ∧ Sep p gp gu lv
section
variable {W : World} {B p gp gu n i cu cp : Nat} {nd lv : Value} {left uses pre best : List Int} {least : Int}
theorem FewMemX.left_ {gl cl : Nat} (h : FewMemX W B p gu gp nd (.slice (some ⟨gl, 0, none⟩) n cl) n i cu cp left uses pre best least) (k : Nat) (x : Int) :
    FewMemX (W.setCell ⟨gl, k, none⟩ (.int .i64 x)) B p gu gp nd (.slice (some ⟨gl, 0, none⟩) n cl) n i cu cp (left.set k x) uses pre best least ∧ W.grownBy (W.setCell ⟨gl, k, none⟩ (.int .i64 x)) (some gl) := by
  obtain ⟨bv, nb, h1, h2, h3, h4, h5, h6, h7, h8, h9, sep⟩ := h
  obtain ⟨s1, s2, s3, s4, s5, s6⟩ := sep
  have hs := h2.stored k (.int .i64 x)
  refine ⟨⟨bv, nb, own_ne h1 hs.2 ?_, ?_, own_ne h3 hs.2 ?_, own_ne h4 hs.2 ?_, own_ne h5 hs.2 ?_, h6, h7, h8, h9, s1, s2, s3, s4, s5, s6⟩, hs.2⟩
  · intro e; exact s4 e.symm
  · have := hs.1
    rw [ints, List.map_set]; exact this
  · intro e; exact s6 e.symm
  · intro e; exact s5 e.symm
  · intro e; exact h9 gl e rfl
theorem FewMemX.uses_ (h : FewMemX W B p gu gp nd lv n i cu cp left uses pre best least) (k : Nat) (x : Int) :
    FewMemX (W.setCell ⟨gu, k, none⟩ (.int .i64 x)) B p gu gp nd lv n i cu cp left (uses.set k x) pre best least ∧ W.grownBy (W.setCell ⟨gu, k, none⟩ (.int .i64 x)) (some gu) := by
  obtain ⟨bv, nb, h1, h2, h3, h4, h5, h6, h7, h8, h9, sep⟩ := h
  obtain ⟨s1, s2, s3, s4, s5, s6⟩ := sep
  have hs := h3.stored k (.int .i64 x)
  refine ⟨⟨bv, nb, own_ne h1 hs.2 ?_, own_ne h2 hs.2 s6, ?_, own_ne h4 hs.2 ?_, own_ne h5 hs.2 h8, h6, h7, h8, h9, s1, s2, s3, s4, s5, s6⟩, hs.2⟩
  · intro e; exact s2 (by simpa [Value.ownBlock] using e)
  · have := hs.1
    rw [ints, List.map_set]; exact this
  · intro e; exact s3 (by simpa [Value.ownBlock] using e)
/-- The plan's field is written: to the row of another length, over the same or a new block. -/
theorem FewMemX.field_ {W' : World} {g j cap : Nat} {pre' : List Int} (h : FewMemX W B p gu gp nd lv n i cu cp left uses pre best least) (hg : W.grownBy W' (some gp)) (hat : gp = g ∨ W.heap.size ≤ g)
    (ho : W'.ownsRow B 2 1 (.slice (some ⟨g, 0, none⟩) j cap) j (ints pre')) :
    FewMemX (W'.setCell ⟨p, 3, none⟩ (.slice (some ⟨g, 0, none⟩) j cap)) B p gu g nd lv n j cu cap left uses pre' best least ∧ W'.grownBy (W'.setCell ⟨p, 3, none⟩ (.slice (some ⟨g, 0, none⟩) j cap)) (some p)
      ∧ (∃ v, W'.cell? ⟨p, 3, none⟩ = some v) ∧ W'.frozen? ⟨p, 3, none⟩ = false := by
  obtain ⟨bv, nb, h1, h2, h3, h4, h5, h6, h7, h8, h9, sep⟩ := h
  obtain ⟨s1, s2, s3, s4, s5, s6⟩ := sep
  have bp := (own_block (b := p) h1 rfl).2
  have bgu := (own_block (b := gu) h3 rfl).2
  have k1 := own_ne h1 hg (by intro e; exact s1 (by simpa [Value.ownBlock] using e))
  have k2 := own_ne h2 hg s5
  have k3 := own_ne h3 hg (by intro e; exact s3 (by have : gu = gp := (by simpa [Value.ownBlock] using e); exact this.symm))
  have k5 := own_ne h5 hg h7
  have hs := k1.stored 3 (.slice (some ⟨g, 0, none⟩) j cap)
  have hpg : p ≠ g := by rcases hat with rfl | h; exact s1; omega
  have hgug : g ≠ gu := by rcases hat with rfl | h; exact s3; omega
  have hlv : lv.ownBlock ≠ some g := by
    rcases hat with rfl | h
    · exact s5
    · intro e
      have := (own_block h2 e).2
      omega
  have hbv : bv.ownBlock ≠ some g := by
    rcases hat with rfl | h
    · exact h7
    · intro e
      have := (own_block h5 e).2
      omega
  refine ⟨⟨bv, nb, hs.1, own_ne k2 hs.2 s4, own_ne k3 hs.2 ?_, own_ne ho hs.2 ?_, own_ne k5 hs.2 h6, h6, hbv, h8, h9, hpg, s2, hgug, s4, hlv, s6⟩, hs.2, ⟨_, by rw [k1.cellAt 3 (by omega)]; rfl⟩, k1.frozenAt 3⟩
  · intro e; exact s2 (by have : gu = p := (by simpa [Value.ownBlock] using e); exact this.symm)
  · intro e; exact hpg (by have : g = p := (by simpa [Value.ownBlock] using e); exact this.symm)
theorem FewMemX.best_ {W' : World} {av : Value} {na : Nat} (h : FewMemX W B p gu gp nd lv n i cu cp left uses pre best least) {zs : List Int} (hn : W'.ownsRow W.heap.size 2 1 av na (ints zs)) (hb : Below W.heap.size W W') (hB : B ≤ W.heap.size) (x : Int) :
    FewMemX ((W'.setCell ⟨p, 4, none⟩ av).setCell ⟨p, 5, none⟩ (.int .i64 x)) B p gu gp nd lv n i cu cp left uses pre zs x ∧ W'.grownBy ((W'.setCell ⟨p, 4, none⟩ av).setCell ⟨p, 5, none⟩ (.int .i64 x)) (some p) := by
  obtain ⟨bv, nb, h1, h2, h3, h4, h5, h6, h7, h8, h9, sep⟩ := h
  obtain ⟨s1, s2, s3, s4, s5, s6⟩ := sep
  have k1 := own_below h1 hb
  have k2 := k1.stored 4 av
  have k3 := k2.1.stored 5 (.int .i64 x)
  have hg := grown_trans_row k2.2 k3.2
  have hnew : ∀ b, b < W.heap.size → av.ownBlock ≠ some b := fun b hb e => by have := (own_block hn e).1; omega
  have bp := (own_block (b := p) h1 rfl).2
  have bgp := (own_block (b := gp) h4 rfl).2
  have bgu := (own_block (b := gu) h3 rfl).2
  refine ⟨⟨av, na, k3.1, own_ne (own_below h2 hb) hg s4, own_ne (own_below h3 hb) hg ?_, own_ne (own_below h4 hb) hg ?_, own_ne (own_base hn hB) hg (hnew _ bp), hnew _ bp, hnew _ bgp, hnew _ bgu, fun b e e2 => hnew b (own_block h2 e2).2 e, s1, s2, s3, s4, s5, s6⟩, hg⟩
  · intro e; exact s2 (by have : gu = p := (by simpa [Value.ownBlock] using e); exact this.symm)
  · intro e; exact s1 (by have : gp = p := (by simpa [Value.ownBlock] using e); exact this.symm)
theorem FewMemX.head_ (h : FewMemX W B p gu gp nd lv n i cu cp left uses pre best least) :
    ∃ bv, W.cell? ⟨p, 0, none⟩ = some nd ∧ W.cell? ⟨p, 1, none⟩ = some lv ∧ W.cell? ⟨p, 2, none⟩ = some (.slice (some ⟨gu, 0, none⟩) n cu) ∧ W.cell? ⟨p, 3, none⟩ = some (.slice (some ⟨gp, 0, none⟩) i cp) ∧ W.cell? ⟨p, 4, none⟩ = some bv ∧ W.cell? ⟨p, 5, none⟩ = some (.int .i64 least) ∧ W.frozen? ⟨p, 3, none⟩ = false ∧ W.frozen? ⟨p, 4, none⟩ = false ∧ W.frozen? ⟨p, 5, none⟩ = false := by
  obtain ⟨bv, nb, h1, h2, h3, h4, h5, h6, h7, h8, h9⟩ := h
  refine ⟨bv, ?_, ?_, ?_, ?_, ?_, ?_, h1.frozenAt 3, h1.frozenAt 4, h1.frozenAt 5⟩
  all_goals
    rw [h1.cellAt _ (by omega)]
    rfl
theorem FewMemX.leftAt {gl cl k : Nat} {u : Int} (h : FewMemX W B p gu gp nd (.slice (some ⟨gl, 0, none⟩) n cl) n i cu cp left uses pre best least) (hk : k < n) (hu : left.getD k 0 = u) : W.cell? ⟨gl, k, none⟩ = some (.int .i64 u) ∧ W.frozen? ⟨gl, k, none⟩ = false := by
  obtain ⟨bv, nb, h1, h2, h3, h4, h5, h6, h7, h8, h9⟩ := h
  exact ⟨own_cell h2 hk hu, h2.frozenAt k⟩
theorem FewMemX.usesAt {k : Nat} {u : Int} (h : FewMemX W B p gu gp nd lv n i cu cp left uses pre best least) (hk : k < n) (hu : uses.getD k 0 = u) : W.cell? ⟨gu, k, none⟩ = some (.int .i64 u) ∧ W.frozen? ⟨gu, k, none⟩ = false := by
  obtain ⟨bv, nb, h1, h2, h3, h4, h5, h6, h7, h8, h9⟩ := h
  exact ⟨own_cell h3 hk hu, h3.frozenAt k⟩
theorem FewMemX.row (h : FewMemX W B p gu gp nd lv n i cu cp left uses pre best least) : W.ownsRow B 2 1 (.slice (some ⟨gp, 0, none⟩) i cp) i (ints pre) := by
  obtain ⟨bv, nb, h1, h2, h3, h4, _⟩ := h
  exact h4
theorem FewMemX.room (h : FewMemX W B p gu gp nd lv n i cu cp left uses pre best least) : i ≤ cp := by
  rcases h.row.2 with ⟨h0, _⟩ | ⟨g, cap, cur, hv, _, _, h1, _⟩
  · cases h0
  · cases hv
    exact h1
theorem FewMemX.form {al : Option Addr} {cl : Nat} (h : FewMemX W B p gu gp nd (.slice al n cl) n i cu cp left uses pre best least) (hn : 0 < n) : ∃ gl, al = some ⟨gl, 0, none⟩ ∧ B ≤ gl := by
  obtain ⟨bv, nb, h1, h2, h3, h4, h5, h6, h7, h8, h9⟩ := h
  rcases h2.2 with ⟨_, h0⟩ | ⟨g, cap, cur, hv, hB, _⟩
  · omega
  · simp only [Value.slice.injEq] at hv
    exact ⟨g, hv.1, hB⟩
theorem FewMemX.base (h : FewMemX W B p gu gp nd lv n i cu cp left uses pre best least) : B ≤ p ∧ B ≤ gp ∧ B ≤ gu ∧ p < W.heap.size := by
  obtain ⟨bv, nb, h1, h2, h3, h4, h5, h6, h7, h8, h9⟩ := h
  exact ⟨(own_block h1 rfl).1, (own_block h4 rfl).1, (own_block h3 rfl).1, (own_block h1 rfl).2⟩
theorem FewMemX.pop_ {x : Int} (h : FewMemX W B p gu gp nd lv n (i + 1) cu cp left uses (pre ++ [x]) best least) (hl : pre.length = i) :
    FewMemX (W.setCell ⟨p, 3, none⟩ (.slice (some ⟨gp, 0, none⟩) i cp)) B p gu gp nd lv n i cu cp left uses pre best least ∧ W.grownBy (W.setCell ⟨p, 3, none⟩ (.slice (some ⟨gp, 0, none⟩) i cp)) (some p) := by
  have hr := h.row
  rw [ints, List.map_append] at hr
  have hp := ownsRow_pop (xs := ints pre) (by simp [hl]) hr
  have hf := h.field_ (World.grownBy.refl W (some gp)) (.inl rfl) hp
  exact ⟨hf.1, hf.2.1⟩
end
/-- What the search leaves. -/
def FewEndS (w0 : World) (p gu : Nat) (nd lv : Value) (n i cu : Nat) (left uses pre : List Int) (st : List Int × Int) (e : Ending) (w' : World) : Prop :=
  e = .returned (.tuple #[]) ∧ Bel w0.heap.size w0 w' ∧ ∃ gp cp, FewMemX w' w0.heap.size p gu gp nd lv n i cu cp left uses pre st.1 st.2

set_option maxRecDepth 100000 in
set_option maxHeartbeats 12800000 in
theorem walk_any (w0 : World) (p gu n m cu cn cl : Nat) (an al : Option Addr) (needs : List Int) (hN : needs.length = m) (hm : m ≤ 8) (hn : n ≤ 6) (hc : CellsAt w0 an (needs.map (Value.int .i64))) (hNb : outB needs 1 1000000 = false) (d : Nat) :
    ∀ (i : Nat) (left uses pre best : List Int) (used least : Int) (gp cp : Nat) (w : World), i + d = m → left.length = n → Low left → uses.length = n → (∀ j, 0 ≤ uses.getD j 0 ∧ uses.getD j 0 ≤ i) → pre.length = i → 0 ≤ used → used ≤ i → -1 ≤ least → least ≤ m →
      Bel w0.heap.size w0 w → FewMemX w w0.heap.size p gu gp (.slice an m cn) (.slice al n cl) n i cu cp left uses pre best least →
      Calls Try.prog 58 #[.pointer (some ⟨p, 0, none⟩), .int .i64 used] w (FewEndS w0 p gu (.slice an m cn) (.slice al n cl) n i cu left uses pre (fewTo (needs.drop i) left uses pre used (best, least))) := by
  induction d with
  | zero =>
    intro i left uses pre best used least gp cp w hi hll hlow hul hub hpl h0 h1 h2 h3 hb hmem
    obtain rfl : i = m := by omega
    obtain ⟨bv, c0, c1, c2, c3, c4, c5, f3, f4, f5⟩ := hmem.head_
    by_cases hcut : 0 ≤ least ∧ least ≤ used
    · rw [fewTo_cut (st := (best, least)) hcut.1 hcut.2]
      have HE := Lib.hid (show FewEndS w0 p gu (.slice an i cn) (.slice al n cl) n i cu left uses pre (best, least) (.returned (.tuple #[])) w from ⟨rfl, hb, gp, cp, hmem⟩)
      obtain ⟨g1, g2⟩ := hcut
      clear hb hmem hub hlow hc hN hNb hll hul hpl
      go_enter Try.func58, Try.ntmps58
      go_wp2_with fail
      go_end0
      exact HE.out
    · rw [List.drop_of_length_le (by omega), fewTo_end (st := (best, least)) hcut]
      have hcl := l00Own_any gp i cp pre w hpl (by omega) (CellsAt.of_own hmem.row)
      have HCl := Lib.hid hcl
      have HM := Lib.hid hmem
      have HB := Lib.hid hb
      have Hpl := Lib.hid hpl
      have hii : ((i : Int) == (i : Int)) = true := by simp
      have hp := hmem.base
      obtain ⟨_, _, _, hp4⟩ := hp
      clear hcl hb hmem hub hlow hc hN hNb hll hul hpl
      by_cases hneg : 0 ≤ least
      all_goals
        try have hlt : used < least := by omega
        clear hcut
        go_enter Try.func58, Try.ntmps58
        go_wp2_with fail
        refine HCl.out.mono ?_
        rintro e w1 ⟨aL, capL, rfl, ho, hb1⟩
        have hbest := HM.out.best_ ho hb1 HB.out.2 used
        have HE := Lib.hid (show FewEndS w0 p gu (.slice an i cn) (.slice al n cl) n i cu left uses pre (pre, used) (.returned (.tuple #[])) _ from ⟨rfl, (HB.out.step hb1).grown hbest.2 (fun k h => by cases h; exact HM.out.base.1), gp, cp, hbest.1⟩)
        obtain ⟨hc1, hf1, hl1⟩ := bcell hb1
        have k4 : w1.cell? ⟨p, 4, none⟩ = some bv := by rw [hc1 _ _ hp4]; exact c4
        have k5 : w1.cell? ⟨p, 5, none⟩ = some (.int .i64 least) := by rw [hc1 _ _ hp4]; exact c5
        have q4 : w1.frozen? ⟨p, 4, none⟩ = false := by rw [hf1 _ _ hp4]; exact f4
        have q5 : w1.frozen? ⟨p, 5, none⟩ = false := by rw [hf1 _ _ hp4]; exact f5
        clear hbest hc1 hf1 hl1 hb1 ho
        go_wp2_with fail
        go_end0
        exact HE.out
  | succ d ih =>
    intro i left uses pre best used least gp cp w hi hll hlow hul hub hpl h0 h1 h2 h3 hb hmem
    obtain ⟨bv, c0, c1, c2, c3, c4, c5, _, _, _⟩ := hmem.head_
    by_cases hcut : 0 ≤ least ∧ least ≤ used
    · rw [fewTo_cut (st := (best, least)) hcut.1 hcut.2]
      have HE := Lib.hid (show FewEndS w0 p gu (.slice an m cn) (.slice al n cl) n i cu left uses pre (best, least) (.returned (.tuple #[])) w from ⟨rfl, hb, gp, cp, hmem⟩)
      obtain ⟨g1, g2⟩ := hcut
      clear hb hmem hub hlow hc hN hNb hll hul hpl
      go_enter Try.func58, Try.ntmps58
      go_wp2_with fail
      go_end0
      exact HE.out
    · obtain ⟨y, hy⟩ : ∃ y, needs[i]? = some y := ⟨needs[i]'(by omega), List.getElem?_eq_getElem _⟩
      have hyd : needs.getD i 0 = y := by simp [hy]
      have hdrop : needs.drop i = y :: needs.drop (i + 1) := by
        rw [List.drop_eq_getElem_cons (by omega)]
        congr 1
        rw [List.getElem?_eq_getElem (by omega)] at hy
        simpa using hy
      rw [hdrop, fewTo_more (st := (best, least)) hcut, hll]
      obtain ⟨bN, oN, rfl, hbN, hcN⟩ := hc.at_ (by simp; omega)
      have hyb := outB_at hNb (j := i) (by omega)
      rw [hyd] at hyb
      obtain ⟨hy1, hy2⟩ := hyb
      have HcN := Lib.hid hcN
      have Hyd := Lib.hid hyd
      have HN := Lib.hid hN
      have Hll := Lib.hid hll
      have Hlow := Lib.hid hlow
      have Hul := Lib.hid hul
      have Hub := Lib.hid hub
      have Hpl := Lib.hid hpl
      have HB := Lib.hid hb
      have HM := Lib.hid hmem
      have HI := Lib.hid ih
      have Hp := Lib.hid hmem.base
      have him : i < m := by omega
      have him' : (i : Int) < (m : Int) := by omega
      have hne : ((i : Int) == (m : Int)) = false := by simp; omega
      clear hy hdrop hyd hcN hc hb hmem hub hlow hN hNb hll hul hpl ih
      by_cases hneg : 0 ≤ least
      all_goals
        try have hlt : used < least := by omega
        clear hcut
        go_enter Try.func58, Try.ntmps58
        go_wp2_with fail
        go_loopw [5, 6] (fun s _ wr => ∃ k : Nat, k ≤ n ∧ s = .int .i64 k ∧ ∃ (g1 c1 : Nat), Hid (FewMemX wr w0.heap.size p gu g1 (.slice (some ⟨bN, oN, none⟩) m cn) (.slice al n cl) n i cu c1 left uses pre (fewAt y (needs.drop (i + 1)) left uses pre used (best, least) k).1 (fewAt y (needs.drop (i + 1)) left uses pre used (best, least) k).2) ∧ Hid (Bel w0.heap.size w0 wr)) (fun s _ _ => n - (intOf s).toNat)
        case atStart => exact ⟨0, Nat.zero_le _, rfl, gp, cp, HM, HB⟩
        case round =>
          obtain ⟨k, hk, rfl, g1, cp1, hst, hbw⟩ := hrel
          by_cases hlt2 : k < n
          · obtain ⟨⟨kb, kl⟩, hkst⟩ : ∃ q, fewAt y (needs.drop (i + 1)) left uses pre used (best, least) k = q := ⟨_, rfl⟩
            have hbd := fewAt_bd (y := y) (ys := needs.drop (i + 1)) (left := left) (uses := uses) (pre := pre) (used := used) (st := (best, least)) (m := m) h0 (by have := HN.out; simp; omega) h2 h3 k
            rw [hkst] at hbd hst
            obtain ⟨hbd1, hbd2⟩ := hbd
            obtain ⟨gl, rfl, hglB⟩ := HM.out.form (by omega)
            obtain ⟨u, hu⟩ : ∃ z, left.getD k 0 = z := ⟨_, rfl⟩
            obtain ⟨q, hq⟩ : ∃ z, uses.getD k 0 = z := ⟨_, rfl⟩
            have hub := Hlow.out k
            rw [hu] at hub
            have hqb := Hub.out k
            rw [hq] at hqb
            obtain ⟨hu0, hu1⟩ := hub
            obtain ⟨hq0, hq1⟩ := hqb
            have hcy : wr.cell? ⟨bN, oN + i, none⟩ = some (.int .i64 y) := cell_int hbN hbw.out.1 HcN.out (by have := HN.out; omega) Hyd.out
            obtain ⟨bv1, d0, d1, d2, d3, d4, d5, _, _, _⟩ := hst.out.head_
            obtain ⟨el, fl⟩ := hst.out.leftAt hlt2 hu
            obtain ⟨eu, fu⟩ := hst.out.usesAt hlt2 hq
            have hkn : (k : Int) < (n : Int) := by omega
            have Hu := Lib.hid hu
            have Hq := Lib.hid hq
            have Hkst := Lib.hid hkst
            clear hu hq hkst c0 c1 c2 c3 c4 c5
            by_cases hneg2 : u < y
            · go_wp2_with fail
              go_big_quiet (fail)
              go_wp2_with fail
              go_roundw
              case rel => exact ⟨k + 1, by omega, by go_num, g1, cp1, Lib.hid (by rw [fewAt_skip Hu.out hneg2, Hkst.out]; exact hst.out), Lib.hid (hbw.out.drewN _)⟩
              case measure => simp [intOf]; omega
            · have hvb : 0 ≤ u - y ∧ u - y ≤ 1000000 := by omega
              obtain ⟨v, hv⟩ : ∃ v, v = u - y := ⟨_, rfl⟩
              rw [← hv] at hvb
              obtain ⟨hv0, hv1⟩ := hvb
              obtain ⟨q1, hq1e⟩ : ∃ z, z = q + 1 := ⟨_, rfl⟩
              have hq1b : 1 ≤ q1 ∧ q1 ≤ 9 := by omega
              obtain ⟨hq1a, hq1c⟩ := hq1b
              have Hv := Lib.hid hv
              have Hq1 := Lib.hid hq1e
              clear hv hq1e
              by_cases hq00 : q = 0
              all_goals
                first
                  | (have hqz : (q == 0) = true := by simpa using hq00)
                  | (have hqz : (q == 0) = false := by simpa using hq00)
                have HQ0 := Lib.hid hq00
                clear hq00
                go_wp2_with fail
                go_big_quiet (fail)
                go_wp2_with fail
                generalize hwq : wr.drewN _ = wq
                have hMq : FewMemX wq w0.heap.size p gu g1 (.slice (some ⟨bN, oN, none⟩) m cn) (.slice (some ⟨gl, 0, none⟩) n cl) n i cu cp1 left uses pre kb kl := by rw [← hwq]; exact hst.out
                have hBq : Bel w0.heap.size w0 wq := by rw [← hwq]; exact hbw.out.drewN _
                have hcq : wq.cell? ⟨bN, oN + i, none⟩ = some (.int .i64 y) := by rw [← hwq]; exact hcy
                clear hwq hcy d0 d1 d2 d3 d4 d5 el fl eu fu
                obtain ⟨bv2, d0, d1, d2, d3, d4, d5, _, _, _⟩ := hMq.head_
                obtain ⟨el, fl⟩ := hMq.leftAt hlt2 Hu.out
                have hsl := FewMemX.left_ (W := wq.drew) hMq k v
                have hBl := hBq.drew.grown hsl.2 (fun j h => by cases h; exact hglB)
                have HM2 := Lib.hid hsl.1
                have HB2 := Lib.hid hBl
                have hvw : IntKind.i64.wrap (u - y) = v := by rw [IntWalk.i64_in _ (by have := Hv.out; omega)]; exact Hv.out.symm
                clear hsl hBl hMq hBq
                go_still_tail 16, (by kernel_rfl)
                go_upto_region 13 with fail
                generalize hw2 : (wq.setCell _ _).drew = w2
                replace HM2 := Lib.hid (show FewMemX w2 w0.heap.size p gu g1 (.slice (some ⟨bN, oN, none⟩) m cn) (.slice (some ⟨gl, 0, none⟩) n cl) n i cu cp1 (left.set k v) uses pre kb kl by rw [← hw2]; exact HM2.out)
                replace HB2 := Lib.hid (show Bel w0.heap.size w0 w2 by rw [← hw2]; exact HB2.out)
                clear hw2 hvw d0 d1 d2 d3 d4 d5 el fl hcq
                obtain ⟨bv3, e0, e1, e2, e3, e4, e5, _, _, _⟩ := HM2.out.head_
                obtain ⟨eu, fu⟩ := HM2.out.usesAt hlt2 Hq.out
                have hs3 := HM2.out.uses_ k q1
                have HB3 := Lib.hid (HB2.out.grown hs3.2 (fun j h => by cases h; exact Hp.out.2.2.1))
                have HM3 := Lib.hid hs3.1
                have hqw : q + 1 = q1 := Hq1.out.symm
                clear hs3
                go_upto_region 14 with fail
                generalize w2.setCell _ _ = w3 at HM3 HB3 ⊢
                clear e0 e1 e2 e3 e4 e5 eu fu hqw
                obtain ⟨bv4, d0, d1, d2, d3, d4, d5, _, _, _⟩ := HM3.out.head_
                have hil : i ≤ 8 := by omega
                have hpl3 := HM3.out.base.2.2.2
                go_wp2_with (at_builtin; refine appJ (by rfl) _ _ (by rfl) w0.heap.size _ _ _ (by rfl) HM3.out.row _ 1 w3.heap.size (by simp) (by rfl) (by omega) HB3.out ?_; intro g5 cap5 w5 ho5 hb5 hg5 hat5; obtain ⟨hm5, hg55, ⟨vv5, k3⟩, q3⟩ := HM3.out.field_ (pre' := pre ++ [(k : Int)]) hg5 (by rcases hat5 with h | h; exact .inl (by simpa [Value.ownBlock] using h); exact .inr h) (by rw [ints, List.map_append]; exact ho5); have HM5 := Lib.hid hm5; have HB5 := Lib.hid (hb5.grown hg55 (fun j h => by cases h; exact Hp.out.1)); clear hm5 ho5 hb5 hg5 hat5 hg55)
                have HF := Lib.hid (show fewAt y (needs.drop (i + 1)) left uses pre used (best, least) (k + 1) = fewTo (needs.drop (i + 1)) (left.set k v) (uses.set k q1) (pre ++ [(k : Int)]) (if q = 0 then used + 1 else used) (kb, kl) from by
                  rw [← Hkst.out, Hv.out]
                  by_cases hq9 : q = 0
                  · rw [if_pos hq9, show q1 = 0 + 1 by have := Hq1.out; omega]
                    exact fewAt_new Hu.out (by omega) (Hq.out.trans hq9)
                  · rw [if_neg hq9, Hq1.out]
                    exact fewAt_old Hu.out (by omega) Hq.out hq9)
                have HP9 := Lib.hid (show (left.set k v).length = n ∧ Low (left.set k v) ∧ (uses.set k q1).length = n ∧ (∀ j, 0 ≤ (uses.set k q1).getD j 0 ∧ (uses.set k q1).getD j 0 ≤ ((i + 1 : Nat) : Int)) ∧ (pre ++ [(k : Int)]).length = i + 1 from
                  ⟨by simp [Hll.out], Hlow.out.set hv0 hv1, by simp [Hul.out], fun j => by
                    have hj := Hub.out j
                    by_cases e : k = j
                    · subst e
                      rw [set_at _ (by rw [Hul.out]; exact hlt2)]
                      have := Hq1.out
                      omega
                    · have e2 : (uses.set k q1).getD j 0 = uses.getD j 0 := by simp [List.getElem?_set_ne e]
                      rw [e2]; omega, by simp [Hpl.out]⟩)
                refine (HI.out (i + 1) (left.set k v) (uses.set k q1) (pre ++ [(k : Int)]) kb _ kl g5 cap5 _ (by omega) HP9.out.1 HP9.out.2.1 HP9.out.2.2.1 HP9.out.2.2.2.1 HP9.out.2.2.2.2 (by omega) (by omega) hbd1 hbd2 HB5.out HM5.out).mono ?_
                rintro e w6 ⟨rfl, hb6, gq, cq, hm6⟩
                have hm7 : FewMemX w6 w0.heap.size p gu gq (.slice (some ⟨bN, oN, none⟩) m cn) (.slice (some ⟨gl, 0, none⟩) n cl) n (i + 1) cu cq (left.set k v) (uses.set k q1) (pre ++ [(k : Int)]) (fewAt y (needs.drop (i + 1)) left uses pre used (best, least) (k + 1)).1 (fewAt y (needs.drop (i + 1)) left uses pre used (best, least) (k + 1)).2 := by
                  have h := HF.out
                  first
                    | (rw [if_pos HQ0.out] at h; rw [h]; exact hm6)
                    | (rw [if_neg HQ0.out] at h; rw [h]; exact hm6)
                obtain ⟨kb2, hkb2⟩ : ∃ q, q = fewAt y (needs.drop (i + 1)) left uses pre used (best, least) (k + 1) := ⟨_, rfl⟩
                rw [← hkb2] at hm7
                have Hkb2 := Lib.hid hkb2
                have hpop := hm7.pop_ Hpl.out
                have HM8 := Lib.hid hpop.1
                have HB8 := Lib.hid (hb6.grown hpop.2 (fun j h => by cases h; exact Hp.out.1))
                have hroom := hm7.room
                have hroom2 : (i : Int) ≤ (cq : Int) := by omega
                clear hkb2 HF HP9 HM5 HB5 k3 q3 hm6 d0 d1 d2 d3 d4 d5 hpl3
                obtain ⟨bv6, d0, d1, d2, d3, d4, d5, p3, _, _⟩ := hm7.head_
                clear hpop hm7 hb6
                go_upto_region 17 with fail
                generalize w6.setCell _ _ = w8 at HM8 HB8 ⊢
                clear d0 d1 d2 d3 d4 d5 p3 hroom hroom2
                obtain ⟨bv7, e0, e1, e2, e3, e4, e5, _, _, _⟩ := HM8.out.head_
                obtain ⟨eu, fu⟩ := HM8.out.usesAt hlt2 (set_at q1 (by rw [Hul.out]; exact hlt2))
                have hs7 := HM8.out.uses_ k q
                rw [set_back q1 (by rw [Hul.out]; exact hlt2) Hq.out] at hs7
                have HB9 := Lib.hid (HB8.out.grown hs7.2 (fun j h => by cases h; exact Hp.out.2.2.1))
                have HM9 := Lib.hid hs7.1
                have hqw2 : q1 - 1 = q := by have := Hq1.out; omega
                clear hs7
                go_upto_region 18 with fail
                generalize w8.setCell _ _ = w9 at HM9 HB9 ⊢
                clear e0 e1 e2 e3 e4 e5 eu fu hqw2
                obtain ⟨bv8, d0, d1, d2, d3, d4, d5, _, _, _⟩ := HM9.out.head_
                obtain ⟨el, fl⟩ := HM9.out.leftAt hlt2 (set_at v (by rw [Hll.out]; exact hlt2))
                have hcy : w9.cell? ⟨bN, oN + i, none⟩ = some (.int .i64 y) := cell_int hbN HB9.out.1 HcN.out (by have := HN.out; omega) Hyd.out
                have hsl := FewMemX.left_ (W := w9.drew) HM9.out k u
                rw [set_back v (by rw [Hll.out]; exact hlt2) Hu.out] at hsl
                have HM6 := Lib.hid hsl.1
                have HB6 := Lib.hid (HB9.out.drew.grown hsl.2 (fun j h => by cases h; exact hglB))
                have hvw : IntKind.i64.wrap (v + y) = u := by rw [IntWalk.i64_in _ (by have := Hv.out; omega)]; have := Hv.out; omega
                have hvw2 : v + y = u := by have := Hv.out; omega
                clear hsl
                go_still_tail 16, (by kernel_rfl)
                go_wp2_with fail
                go_roundw
                case rel => exact ⟨k + 1, by omega, by go_num, gq, cq, Lib.hid (by rw [← Hkb2.out]; exact HM6.out), HB6⟩
                case measure => simp [intOf]; omega
          · obtain rfl : k = n := by omega
            have HE := Lib.hid (show FewEndS w0 p gu (.slice (some ⟨bN, oN, none⟩) m cn) (.slice al k cl) k i cu left uses pre (fewAt y (needs.drop (i + 1)) left uses pre used (best, least) k) (.returned (.tuple #[])) wr from ⟨rfl, hbw.out, g1, cp1, hst.out⟩)
            obtain ⟨bv1, d0, d1, d2, d3, d4, d5, _, _, _⟩ := hst.out.head_
            clear c0 c1 c2 c3 c4 c5
            go_wp2_with fail
            go_end0
            exact HE.out
end Go.Proofs.Ytoomkeicfdmdoaa
