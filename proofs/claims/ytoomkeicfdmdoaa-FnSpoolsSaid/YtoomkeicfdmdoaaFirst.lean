/-
  Contracts of FirstSpools, both sides. No condition of its own.
-/
import Derived.Test.YtoomkeicfdmdoaaLeft
import Derived.Test.YtoomkeicfdmdoaaApp2
namespace Go.Proofs.Ytoomkeicfdmdoaa
open Go.ChangeShapes Go.WideShapes Go.ChangeAt Go.RowKit Go.Deep Go.Shelf

/-- The first spool with enough thread, or -1. -/
def fitI (y : Int) (l : List Int) : Int := idxI (fun v => decide (y ≤ v)) l
/-- What is left and which spools were taken when i needs are cut from the first spools. -/
def firstTo (zs ys : List Int) : Nat → Option (List Int × List Int)
  | 0 => some (zs, [])
  | i + 1 => (firstTo zs ys i).bind fun s => if fitI (ys.getD i 0) s.1 < 0 then none
      else some (s.1.set (fitI (ys.getD i 0) s.1).toNat (s.1.getD (fitI (ys.getD i 0) s.1).toNat 0 - ys.getD i 0), s.2 ++ [fitI (ys.getD i 0) s.1])
theorem firstTo_none {zs ys l o : List Int} {i : Nat} {y : Int} (h : firstTo zs ys i = some (l, o)) (hy : ys.getD i 0 = y) (k : fitI y l < 0) : firstTo zs ys (i + 1) = none := by
  simp only [firstTo, h, Option.bind_some, hy, if_pos k]
theorem firstTo_some {zs ys l o : List Int} {i q : Nat} {y u : Int} (h : firstTo zs ys i = some (l, o)) (hy : ys.getD i 0 = y) (k : fitI y l = (q : Int)) (hu : l.getD q 0 = u) : firstTo zs ys (i + 1) = some (l.set q (u - y), o ++ [(q : Int)]) := by
  simp only [firstTo, h, Option.bind_some, hy, k, Int.toNat_natCast, hu]
  rw [if_neg (by omega)]
theorem firstTo_stays {zs ys : List Int} {i j : Nat} (h : firstTo zs ys i = none) (hij : i ≤ j) : firstTo zs ys j = none := by
  induction j with
  | zero =>
    obtain rfl : i = 0 := by omega
    exact h
  | succ j ih =>
    by_cases e : i = j + 1
    · subst e; exact h
    · simp only [firstTo, ih (by omega), Option.bind_none]
def firstL (zs ys : List Int) (n m : Nat) : List Int := if spoolsB zs ys n m then ((firstTo zs ys m).map (·.2)).getD [] else []
def firstC (zs ys : List Int) (n m : Nat) : Int := if spoolsB zs ys n m then (if firstTo zs ys m = none then 10 else 0) else 2
theorem spoolsB_parts {zs ys : List Int} {n m : Nat} (h : spoolsB zs ys n m = true) : outB zs 0 1000000 = false ∧ outB ys 1 1000000 = false ∧ n ≤ 6 ∧ m ≤ 8 := by
  simp only [spoolsB, Bool.and_eq_true, Bool.not_eq_true', decide_eq_true_eq] at h
  exact h
/-- The first fit: the number at the place. -/
theorem idxI_at {α : Type} {p : α → Bool} {zs : List α} {q : Nat} (h : idxI p zs = (q : Int)) : ∃ x, zs[q]? = some x ∧ p x = true := by
  induction zs generalizing q with
  | nil => simp only [idxI] at h; omega
  | cons z zs ih =>
    simp only [idxI] at h
    split at h
    · obtain rfl : q = 0 := by omega
      exact ⟨z, by simp, by assumption⟩
    · split at h
      · omega
      · obtain ⟨q, rfl⟩ : ∃ k, q = k + 1 := ⟨q - 1, by have := idxI_ge p zs; omega⟩
        simpa using ih (q := q) (by omega)

theorem firstClosure (z y : Int) (q : Addr) (w : World) (h : w.cell? q = some (.int .i64 y)) : Calls Try.prog 57 (#[.int .i64 z] ++ #[.pointer (some q)]) w fun e w' => e = .returned (.bool (decide (y ≤ z))) ∧ w = w' := by
  go_enter Try.func57, Try.ntmps57
  go_wp2
  go_ret
  exact ⟨rfl, rfl⟩
set_option maxRecDepth 100000 in
set_option maxHeartbeats 3200000 in
theorem impl_FirstSpools (w : World) (g n : Nat) (zs : List Int) (hl : zs.length = n) (hn : n ≤ 1048576) (hc : CellsAt w (some ⟨g, 0, none⟩) (zs.map (Value.int .i64))) (_ : ∀ z ∈ zs, (Lit.int .i64 z).wf = true)
    (g1 m : Nat) (ys : List Int) (hl1 : ys.length = m) (hm : m ≤ 1048576) (hc1 : CellsAt w (some ⟨g1, 0, none⟩) (ys.map (Value.int .i64))) (_ : ∀ z ∈ ys, (Lit.int .i64 z).wf = true) :
    Calls Try.prog 16 #[.slice (some ⟨g, 0, none⟩) n n, .slice (some ⟨g1, 0, none⟩) m m] w (RowEnd w 2 1 (firstL zs ys n m) (firstC zs ys n m)) := by
  have h1 := areSpools_any (some ⟨g, 0, none⟩) n n zs (some ⟨g1, 0, none⟩) m m ys w hl hl1 (by omega) (by omega) hc hc1
  cases hpl : spoolsB zs ys n m with
  | false =>
    rw [show firstL zs ys n m = [] by simp [firstL, hpl], show firstC zs ys n m = 2 by simp [firstC, hpl]]
    rw [hpl] at h1
    have H1 := Lib.hid h1
    clear h1 hpl hl hl1 hc hc1
    go_enter Try.func16, Try.ntmps16
    go_wp2_with (go_at_call 54; refine H1.out.mono ?_; rintro e w1 ⟨rfl, hb1⟩)
    go_ret2
    exact rowEnd_fail hb1
  | true =>
    obtain ⟨o1, o2, n6, m8⟩ := spoolsB_parts hpl
    have h2 := fun W (e : Below w.heap.size w W) => cloneI_any g n n zs W hl (by omega) (hc.below e)
    rw [hpl] at h1
    obtain ⟨r, hr⟩ : ∃ r, firstL zs ys n m = r := ⟨_, rfl⟩
    obtain ⟨s, hs⟩ : ∃ s, firstC zs ys n m = s := ⟨_, rfl⟩
    rw [hr, hs]
    simp only [firstL, firstC, hpl, if_true] at hr hs
    have HR := Lib.hid hr
    have HS := Lib.hid hs
    have H1 := Lib.hid h1
    have H2 := Lib.hid h2
    have Hz := Lib.hid hl
    have Hy := Lib.hid hl1
    have HB := Lib.hid hc1
    have O1 := Lib.hid o1
    have O2 := Lib.hid o2
    have eg : ∀ args w, (callFunc 57 args).run Try.prog w = .ok (.enter 57 args) w := enters_of Try.func57 (by kernel_rfl) rfl
    have EG := Lib.hid eg
    clear eg h1 h2 hr hs hpl hl hl1 hc hc1 o1 o2
    go_enter Try.func16, Try.ntmps16
    go_wp2_with fail
    refine H1.out.mono ?_
    rintro e w1 ⟨rfl, hb1⟩
    have HB1 := Lib.hid (Bel.of hb1)
    clear hb1
    go_wp2_with fail
    refine (H2.out (w1.alloc (.cells #[] 2)) (HB1.out.alloc _).1).mono ?_
    rintro e w2 ⟨aL, capL, rfl, hoL, hb2⟩
    have HO0 := Lib.hid (own_below (own_none' w1 w.heap.size 2 1 HB1.out.2) hb2)
    have HL0 := Lib.hid (own_base hoL (HB1.out.alloc _).2)
    have HNE := Lib.hid (show ∀ k, (Value.slice aL n capL).ownBlock = some k → w1.heap.size < k from fun k hk => by have h := (own_block hoL hk).1; simp at h; omega)
    have HB2 := Lib.hid ((HB1.out.alloc (.cells #[] 2)).step hb2)
    clear hoL hb2
    go_wp2
    go_loopw [6, 20] (fun v t wr => ∃ i : Nat, i ≤ m ∧ t = .int .i64 i ∧ ∃ (l ds : List Int) (ao : Option Addr) (co : Nat), v = .slice ao ds.length co ∧ ds.length ≤ i ∧ Hid (firstTo zs ys i = some (l, ds) ∧ l.length = n ∧ Low l) ∧ Hid (wr.ownsRow w.heap.size 2 1 (.slice ao ds.length co) ds.length (ds.map (Value.int .i64))) ∧ Hid (wr.ownsRow w.heap.size 2 1 (.slice aL n capL) n (l.map (Value.int .i64))) ∧ Hid (∀ k, (Value.slice ao ds.length co).ownBlock = some k → ∀ j, (Value.slice aL n capL).ownBlock = some j → k ≠ j) ∧ Hid (Bel w.heap.size w wr)) (fun _ t _ => m - (intOf t).toNat)
    case atStart => exact ⟨0, Nat.zero_le _, rfl, zs, [], _, _, rfl, Nat.le_refl _, Lib.hid ⟨rfl, Hz.out, low_of O1.out⟩, HO0, HL0, Lib.hid (fun k hk j hj => by have h1 := HNE.out j hj; have h2 : w1.heap.size = k := (by simpa [Value.ownBlock] using hk); omega), HB2⟩
    case round =>
      obtain ⟨i, hi, rfl, l, ds, ao, co, rfl, hds, hst, hown, hleft, hne, hbw⟩ := hrel
      by_cases hlt : i < m
      · obtain ⟨b1, off1, hae, hb1, hc1⟩ := HB.out.at_ (by have := Hy.out; simp; omega)
        obtain ⟨rfl, rfl⟩ : g1 = b1 ∧ 0 = off1 := by simpa using hae
        obtain ⟨y, hy⟩ : ∃ z, ys.getD i 0 = z := ⟨_, rfl⟩
        have hcy := cell_int hb1 hbw.out.1 hc1 (by rw [Hy.out]; exact hlt) hy
        rw [Nat.zero_add] at hcy
        have hyb := outB_at O2.out (j := i) (by rw [Hy.out]; exact hlt)
        rw [hy] at hyb
        obtain ⟨hyb1, hyb2⟩ := hyb
        have hidx := indexFunc_any aL n capL l (fun v => decide (y ≤ v)) 57 #[.pointer (some ⟨wr.heap.size, 0, none⟩)] (wr.alloc (.cells #[.int .i64 y] 2)) EG.out hst.out.2.1 (by omega) (CellsAt.of_own (hleft.out.alloc _))
          (fun z W hb _ => (firstClosure z y ⟨wr.heap.size, 0, none⟩ W (by rw [hb.cell (p := ⟨wr.heap.size, 0, none⟩) (by simp)]; simp)).mono (by rintro e w' ⟨he, rfl⟩; exact ⟨he, Below.refl _ _⟩))
        obtain ⟨kv, hkv⟩ : ∃ q, fitI y l = q := ⟨_, rfl⟩
        rw [show idxI (fun v => decide (y ≤ v)) l = kv from hkv] at hidx
        have hkb := idxI_ge (fun v => decide (y ≤ v)) l
        rw [show idxI (fun v => decide (y ≤ v)) l = kv from hkv, hst.out.2.1] at hkb
        obtain ⟨hk1, hk2⟩ := hkb
        have HI := Lib.hid hidx
        have Hy2 := Lib.hid hy
        have HK := Lib.hid hkv
        have hlt' : (i : Int) < (m : Int) := by omega
        clear hidx hy hkv hc1 hae
        go_wp2_with fail
        refine HI.out.mono ?_
        rintro e w3 ⟨rfl, hb3⟩
        have ho3 := own_below (hown.out.alloc (.cells #[.int .i64 y] 2)) hb3
        have hl3 := own_below (hleft.out.alloc (.cells #[.int .i64 y] 2)) hb3
        have hbw3 := (hbw.out.alloc (.cells #[.int .i64 y] 2)).step hb3
        have cb : w3.cell? ⟨wr.heap.size, 0, none⟩ = some (.int .i64 y) := by rw [hb3.cell (p := ⟨wr.heap.size, 0, none⟩) (by simp)]; simp
        have Ho3 := Lib.hid ho3
        have Hl3 := Lib.hid hl3
        have Hb3 := Lib.hid hbw3
        clear hb3 ho3 hl3 hbw3
        by_cases hneg : kv < 0
        · have k4 := firstTo_stays (firstTo_none hst.out.1 Hy2.out (by rw [HK.out]; exact hneg)) (show i + 1 ≤ m by omega)
          obtain rfl : r = [] := by rw [← HR.out, k4]; rfl
          obtain rfl : s = 10 := by rw [← HS.out, k4]; simp
          clear k4
          go_wp2
          go_ret2
          exact rowEnd_fail Hb3.out.1
        · obtain ⟨q, rfl⟩ : ∃ q : Nat, kv = (q : Int) := ⟨kv.toNat, by omega⟩
          have hqn : q < n := by omega
          rcases own_form Hl3.out with h0 | ⟨gL, rfl⟩
          · omega
          obtain ⟨u, hu⟩ : ∃ z, l.getD q 0 = z := ⟨_, rfl⟩
          have hub := hst.out.2.2 q
          rw [hu] at hub
          obtain ⟨hu0, hu1⟩ := hub
          have hyu : y ≤ u := by
            obtain ⟨x, hx1, hx2⟩ := idxI_at HK.out
            have e : x = u := by rw [← hu]; simp [hx1]
            rw [← e]; simpa using hx2
          have hcl : w3.cell? ⟨gL, q, none⟩ = some (.int .i64 u) := by
            rw [Hl3.out.cellAt q (by omega), ← hu]
            simp [List.getElem?_eq_getElem (show q < l.length by rw [hst.out.2.1]; exact hqn)]
          have hfz := Hl3.out.frozenAt q
          have hstd := World.ownsRow.stored (w := w3.drew) Hl3.out q (.int .i64 (u - y))
          have hgB := own_block Hl3.out rfl
          have HoS := Lib.hid (own_grown_ne (w := w3.drew) Ho3.out hstd.2 (fun b hb e => by cases e; exact hne.out _ hb _ rfl rfl))
          have HbS := Lib.hid (Hb3.out.drew.grown hstd.2 (fun k h => by cases h; exact hgB.1))
          have HlS := Lib.hid (show (w3.drew.setCell ⟨gL, q, none⟩ (.int .i64 (u - y))).ownsRow w.heap.size 2 1 (.slice (some ⟨gL, 0, none⟩) n capL) n ((l.set q (u - y)).map (Value.int .i64)) by rw [List.map_set]; exact hstd.1)
          have Hu := Lib.hid hu
          have HgB := Lib.hid hgB
          have hqn' : (q : Int) < (n : Int) := by omega
          clear hstd hu hgB
          go_wp2_with fail
          go_still_tail 7, (by kernel_rfl)
          go_wp2_with (at_builtin; refine appJ (by rfl) _ _ (by rfl) w.heap.size _ _ _ (by rfl) HoS.out _ 1 w3.heap.size (by simp) (by rfl) (by omega) HbS.out ?_; intro g5 cap5 w5 ho5 hb5 hg5 hat5)
          have hnew : ∀ k, (Value.slice (some ⟨g5, 0, none⟩) (ds.length + 1) cap5).ownBlock = some k → ∀ j, (Value.slice (some ⟨gL, 0, none⟩) n capL).ownBlock = some j → k ≠ j := by
            intro k hk j hj e
            have e1 : g5 = k := by simpa [Value.ownBlock] using hk
            have e2 : gL = j := by simpa [Value.ownBlock] using hj
            rcases hat5 with h | h
            · exact hne.out _ h _ hj (by omega)
            · have := (own_block (b := gL) HlS.out rfl).2
              omega
          have hl5 := own_grown_ne HlS.out hg5 (fun b hb e => hne.out _ e _ hb rfl)
          have Ho5 := Lib.hid ho5
          have Hb5 := Lib.hid hb5
          have Hl5 := Lib.hid hl5
          have Hnew := Lib.hid hnew
          clear ho5 hb5 hg5 hat5 hl5 hnew
          go_wp2
          go_roundw
          case rel =>
            refine ⟨i + 1, by omega, by go_num, l.set q (u - y), ds ++ [(q : Int)], some ⟨g5, 0, none⟩, cap5, by simp, by simp; omega, Lib.hid ⟨firstTo_some hst.out.1 Hy2.out HK.out Hu.out, by simp [hst.out.2.1], hst.out.2.2.set (by omega) (by omega)⟩, Lib.hid (by simpa using Ho5.out), Hl5, Lib.hid (by simpa using Hnew.out), Hb5⟩
          case measure => simp [intOf]; omega
      · go_wp2
        go_ret2
        obtain rfl : i = m := by omega
        obtain rfl : r = ds := by rw [← HR.out, hst.out.1]; rfl
        obtain rfl : s = 0 := by rw [← HS.out, hst.out.1]; simp
        exact ⟨ao, r.length, co, rfl, by omega, by omega, hown.out, hbw.out.1⟩
set_option maxRecDepth 100000 in
set_option maxHeartbeats 3200000 in
theorem spec_FirstSpools (w : World) (g n : Nat) (zs : List Int) (hl : zs.length = n) (hn : n ≤ 1048576) (hc : CellsAt w (some ⟨g, 0, none⟩) (zs.map (Value.int .i64))) (_ : ∀ z ∈ zs, (Lit.int .i64 z).wf = true)
    (g1 m : Nat) (ys : List Int) (hl1 : ys.length = m) (hm : m ≤ 1048576) (hc1 : CellsAt w (some ⟨g1, 0, none⟩) (ys.map (Value.int .i64))) (_ : ∀ z ∈ ys, (Lit.int .i64 z).wf = true) :
    Calls Try.prog 15 #[.slice (some ⟨g, 0, none⟩) n n, .slice (some ⟨g1, 0, none⟩) m m] w (RowEnd w 2 1 (firstL zs ys n m) (firstC zs ys n m)) := by
  have h1 := l16Spools_any (some ⟨g, 0, none⟩) n n zs (some ⟨g1, 0, none⟩) m m ys w hl hl1 (by omega) (by omega) hc hc1
  cases hpl : spoolsB zs ys n m with
  | false =>
    rw [show firstL zs ys n m = [] by simp [firstL, hpl], show firstC zs ys n m = 2 by simp [firstC, hpl]]
    rw [hpl] at h1
    have H1 := Lib.hid h1
    clear h1 hpl hl hl1 hc hc1
    go_enter Try.func15, Try.ntmps15
    go_wp2_with (go_at_call 52; refine H1.out.mono ?_; rintro e w1 ⟨rfl, hb1⟩)
    go_ret2
    exact rowEnd_fail hb1
  | true =>
    obtain ⟨o1, o2, n6, m8⟩ := spoolsB_parts hpl
    have h2 := fun W (e : Below w.heap.size w W) => l00Own_any g n n zs W hl (by omega) (hc.below e)
    rw [hpl] at h1
    obtain ⟨r, hr⟩ : ∃ r, firstL zs ys n m = r := ⟨_, rfl⟩
    obtain ⟨s, hs⟩ : ∃ s, firstC zs ys n m = s := ⟨_, rfl⟩
    rw [hr, hs]
    simp only [firstL, firstC, hpl, if_true] at hr hs
    have HR := Lib.hid hr
    have HS := Lib.hid hs
    have H1 := Lib.hid h1
    have H2 := Lib.hid h2
    have Hz := Lib.hid hl
    have Hy := Lib.hid hl1
    have HB := Lib.hid hc1
    have O1 := Lib.hid o1
    have O2 := Lib.hid o2
    clear h1 h2 hr hs hpl hl hl1 hc hc1 o1 o2
    go_enter Try.func15, Try.ntmps15
    go_wp2_with fail
    refine H1.out.mono ?_
    rintro e w1 ⟨rfl, hb1⟩
    have HB1 := Lib.hid (Bel.of hb1)
    clear hb1
    go_wp2_with fail
    refine (H2.out w1 HB1.out.1).mono ?_
    rintro e w2 ⟨aL, capL, rfl, hoL, hb2⟩
    have HL0 := Lib.hid (own_base hoL HB1.out.2)
    have HNE := Lib.hid (show ∀ k, (Value.slice aL n capL).ownBlock = some k → k < w2.heap.size from fun k hk => (own_block hoL hk).2)
    have HB2 := Lib.hid (HB1.out.step hb2)
    clear hoL hb2
    go_wp2
    go_loopw [7, 8] (fun v t wr => ∃ i : Nat, i ≤ m ∧ t = .int .i64 i ∧ ∃ (l ds : List Int) (ao : Option Addr) (co : Nat), v = .slice ao ds.length co ∧ ds.length ≤ i ∧ Hid (firstTo zs ys i = some (l, ds) ∧ l.length = n ∧ Low l) ∧ Hid (wr.ownsRow w.heap.size 2 1 (.slice ao ds.length co) ds.length (ds.map (Value.int .i64))) ∧ Hid (wr.ownsRow w.heap.size 2 1 (.slice aL n capL) n (l.map (Value.int .i64))) ∧ Hid (∀ k, (Value.slice ao ds.length co).ownBlock = some k → ∀ j, (Value.slice aL n capL).ownBlock = some j → k ≠ j) ∧ Hid (Bel w.heap.size w wr)) (fun _ t _ => m - (intOf t).toNat)
    case atStart => exact ⟨0, Nat.zero_le _, rfl, zs, [], _, _, rfl, Nat.le_refl _, Lib.hid ⟨rfl, Hz.out, low_of O1.out⟩, Lib.hid (own_none' w2 w.heap.size 2 1 HB2.out.2), Lib.hid (HL0.out.alloc _), Lib.hid (fun k hk j hj => by have h1 := HNE.out j hj; have h2 : w2.heap.size = k := (by simpa [Value.ownBlock] using hk); omega), Lib.hid (HB2.out.alloc _)⟩
    case round =>
      obtain ⟨i, hi, rfl, l, ds, ao, co, rfl, hds, hst, hown, hleft, hne, hbw⟩ := hrel
      by_cases hlt : i < m
      · obtain ⟨b1, off1, hae, hb1, hc1⟩ := HB.out.at_ (by have := Hy.out; simp; omega)
        obtain ⟨rfl, rfl⟩ : g1 = b1 ∧ 0 = off1 := by simpa using hae
        obtain ⟨y, hy⟩ : ∃ z, ys.getD i 0 = z := ⟨_, rfl⟩
        have hcy := cell_int hb1 hbw.out.1 hc1 (by rw [Hy.out]; exact hlt) hy
        rw [Nat.zero_add] at hcy
        have hyb := outB_at O2.out (j := i) (by rw [Hy.out]; exact hlt)
        rw [hy] at hyb
        obtain ⟨hyb1, hyb2⟩ := hyb
        have Hy2 := Lib.hid hy
        have hlt' : (i : Int) < (m : Int) := by omega
        have HC1 := Lib.hid hc1
        clear hy hc1 hae
        obtain ⟨wo, hwo⟩ : ∃ wo : World, wo = wr := ⟨_, rfl⟩
        go_wp2_with fail
        subst hwo
        clear hcy
        go_loopw [9] (fun t wi => ∃ k : Nat, k ≤ n ∧ t = .int .i64 k ∧ Hid (∀ j, j < k → l.getD j 0 < y) ∧ Hid (Below wo.heap.size wo wi)) (fun t _ => n - (intOf t).toNat)
        case atStart => exact ⟨0, Nat.zero_le _, rfl, Lib.hid (fun j hj => absurd hj (by omega)), Lib.hid (Below.refl _ _)⟩
        case round =>
          obtain ⟨k, hk, rfl, hno, hin⟩ := hrel
          have Hb3 := Lib.hid (hbw.out.step hin.out)
          have Ho3 := Lib.hid (own_below hown.out hin.out)
          have Hl3 := Lib.hid (own_below hleft.out hin.out)
          have hcy := cell_int hb1 Hb3.out.1 HC1.out (by rw [Hy.out]; exact hlt) Hy2.out
          rw [Nat.zero_add] at hcy
          by_cases hkn : k < n
          · rcases own_form Hl3.out with h0 | ⟨gL, rfl⟩
            · omega
            obtain ⟨u, hu⟩ : ∃ z, l.getD k 0 = z := ⟨_, rfl⟩
            have hub := hst.out.2.2 k
            rw [hu] at hub
            obtain ⟨hu0, hu1⟩ := hub
            have hcl : wr.cell? ⟨gL, k, none⟩ = some (.int .i64 u) := by
              rw [Hl3.out.cellAt k (by omega), ← hu]
              simp [List.getElem?_eq_getElem (show k < l.length by rw [hst.out.2.1]; exact hkn)]
            have hfz := Hl3.out.frozenAt k
            have Hu := Lib.hid hu
            have hkn' : (k : Int) < (n : Int) := by omega
            clear hu
            by_cases hfit : u < y
            · go_wp2_with fail
              go_big_quiet (fail)
              go_wp2_with fail
              go_roundw
              case rel =>
                refine ⟨k + 1, by omega, by go_num, Lib.hid (fun j hj => ?_), Lib.hid (below_drewN hin.out _)⟩
                by_cases e : j = k
                · subst e; rw [Hu.out]; exact hfit
                · exact hno.out j (by omega)
              case measure => simp [intOf]; omega
            · have hkfit : fitI y l = (k : Int) := by
                refine idxI_hit (x := u) (by rw [← Hu.out]; simp [List.getElem?_eq_getElem (show k < l.length by rw [hst.out.2.1]; exact hkn)]) (by simpa using hfit) (fun j z hj hz => ?_)
                have h := hno.out j hj
                have e : l.getD j 0 = z := by simp [hz]
                rw [e] at h
                simpa using h
              have HK := Lib.hid hkfit
              have gg1 : decide (u < y) = false := by simpa using hfit
              have gg2 : ((k : Int) == (n : Int)) = false := by simp; omega
              clear hkfit
              go_wp2_with fail
              go_big_quiet (fail)
              go_wp2_with fail
              generalize hwq : wr.drewN _ = wq
              have kcy : wq.cell? ⟨g1, i, none⟩ = some (.int .i64 y) := by rw [← hwq]; exact hcy
              have kcl : wq.cell? ⟨gL, k, none⟩ = some (.int .i64 u) := by rw [← hwq]; exact hcl
              have kfz : wq.frozen? ⟨gL, k, none⟩ = false := by rw [← hwq]; exact hfz
              have Ho4 := Lib.hid (show wq.ownsRow w.heap.size 2 1 (.slice ao ds.length co) ds.length (ds.map (Value.int .i64)) by rw [← hwq]; exact Ho3.out)
              have Hl4 := Lib.hid (show wq.ownsRow w.heap.size 2 1 (.slice (some ⟨gL, 0, none⟩) n capL) n (l.map (Value.int .i64)) by rw [← hwq]; exact Hl3.out)
              have Hb4 := Lib.hid (show Bel w.heap.size w wq by rw [← hwq]; exact Hb3.out.drewN _)
              have hstd := World.ownsRow.stored (w := wq.drew) Hl4.out k (.int .i64 (u - y))
              have hgB := own_block Hl4.out rfl
              have HoS := Lib.hid (own_grown_ne (w := wq.drew) Ho4.out hstd.2 (fun b hb e => by cases e; exact hne.out _ hb _ rfl rfl))
              have HbS := Lib.hid (Hb4.out.drew.grown hstd.2 (fun k h => by cases h; exact hgB.1))
              have HlS := Lib.hid (show (wq.drew.setCell ⟨gL, k, none⟩ (.int .i64 (u - y))).ownsRow w.heap.size 2 1 (.slice (some ⟨gL, 0, none⟩) n capL) n ((l.set k (u - y)).map (Value.int .i64)) by rw [List.map_set]; exact hstd.1)
              clear hstd hgB hwq hcy hcl hfz gg2
              go_still_tail 10, (by kernel_rfl)
              go_wp2_with (at_builtin; refine appJ (by rfl) _ _ (by rfl) w.heap.size _ _ _ (by rfl) HoS.out _ 1 wq.heap.size (by simp) (by rfl) (by omega) HbS.out ?_; intro g5 cap5 w5 ho5 hb5 hg5 hat5)
              have hnew : ∀ k, (Value.slice (some ⟨g5, 0, none⟩) (ds.length + 1) cap5).ownBlock = some k → ∀ j, (Value.slice (some ⟨gL, 0, none⟩) n capL).ownBlock = some j → k ≠ j := by
                intro k hk j hj e
                have e1 : g5 = k := by simpa [Value.ownBlock] using hk
                have e2 : gL = j := by simpa [Value.ownBlock] using hj
                rcases hat5 with h | h
                · exact hne.out _ h _ hj (by omega)
                · have := (own_block (b := gL) HlS.out rfl).2
                  omega
              have hl5 := own_grown_ne HlS.out hg5 (fun b hb e => hne.out _ e _ hb rfl)
              have Ho5 := Lib.hid ho5
              have Hb5 := Lib.hid hb5
              have Hl5 := Lib.hid hl5
              have Hnew := Lib.hid hnew
              clear ho5 hb5 hg5 hat5 hl5 hnew
              go_wp2
              go_roundw
              case rel =>
                refine ⟨i + 1, by omega, by go_num, l.set k (u - y), ds ++ [(k : Int)], some ⟨g5, 0, none⟩, cap5, by simp, by simp; omega, Lib.hid ⟨firstTo_some hst.out.1 Hy2.out HK.out Hu.out, by simp [hst.out.2.1], hst.out.2.2.set (by omega) (by omega)⟩, Lib.hid (by simpa using Ho5.out), Hl5, Lib.hid (by simpa using Hnew.out), Hb5⟩
              case measure => simp [intOf]; omega
          · obtain rfl : k = n := by omega
            have hkfit : fitI y l = -1 := idxI_none (fun z hz => by
              obtain ⟨j, hj, rfl⟩ := List.mem_iff_getElem.1 hz
              have h := hno.out j (by rw [← hst.out.2.1]; exact hj)
              simpa [List.getElem?_eq_getElem hj] using h)
            have k4 := firstTo_stays (firstTo_none hst.out.1 Hy2.out (by rw [hkfit]; omega)) (show i + 1 ≤ m by omega)
            obtain rfl : r = [] := by rw [← HR.out, k4]; rfl
            obtain rfl : s = 10 := by rw [← HS.out, k4]; simp
            have gg1 : decide ((k : Int) < (k : Int)) = false := by simp
            clear k4 hkfit
            go_wp2_with fail
            go_big_quiet (fail)
            go_wp2_with fail
            go_ret2
            exact rowEnd_fail (Hb3.out.drewN _).1
      · go_wp2
        go_ret2
        obtain rfl : i = m := by omega
        obtain rfl : r = ds := by rw [← HR.out, hst.out.1]; rfl
        obtain rfl : s = 0 := by rw [← HS.out, hst.out.1]; simp
        exact ⟨ao, r.length, co, rfl, by omega, by omega, hown.out, hbw.out.1⟩
end Go.Proofs.Ytoomkeicfdmdoaa
