/-
  Contracts of the program's spools at slices of any capacity. No condition of its own.
-/
import Derived.Test.YtoomkeicfdmdoaaFirst
import Derived.Test.YtoomkeicfdmdoaaFewC
namespace Go.Proofs.Ytoomkeicfdmdoaa
open Go.ChangeShapes Go.WideShapes Go.ChangeAt Go.RowKit Go.Deep Go.Shelf

set_option maxRecDepth 100000 in
set_option maxHeartbeats 1600000 in
theorem impl_SpoolFault_c (w : World) (g n c : Nat) (zs : List Int) (hl : zs.length = n) (hn : n ≤ 1048576) (hc : CellsAt w (some ⟨g, 0, none⟩) (zs.map (Value.int .i64))) (_ : ∀ z ∈ zs, (Lit.int .i64 z).wf = true)
    (g1 m d : Nat) (ys : List Int) (hl1 : ys.length = m) (hm : m ≤ 1048576) (hc1 : CellsAt w (some ⟨g1, 0, none⟩) (ys.map (Value.int .i64))) (_ : ∀ z ∈ ys, (Lit.int .i64 z).wf = true)
    (a2 : Option Addr) (p f : Nat) (ps : List Int) (hl2 : ps.length = p) (hp : p ≤ 1048576) (hc2 : CellsAt w a2 (ps.map (Value.int .i64))) (_ : ∀ z ∈ ps, (Lit.int .i64 z).wf = true) :
    Calls Try.prog 13 #[.slice (some ⟨g, 0, none⟩) n c, .slice (some ⟨g1, 0, none⟩) m d, .slice a2 p f] w fun e w' => e = .returned (.tuple #[.int .i64 (spoolZ zs ys ps n m p), .int .i64 (planC zs ys ps n m p)]) ∧ Below w.heap.size w w' := by
  have h1 := isSpoolPlan_any (some ⟨g, 0, none⟩) n c zs (some ⟨g1, 0, none⟩) m d ys a2 p f ps w hl hl1 hl2 (by omega) (by omega) (by omega) hc hc1 hc2
  cases hpl : planB zs ys ps n m p with
  | false =>
    rw [show spoolZ zs ys ps n m p = 0 by simp [spoolZ, hpl], show planC zs ys ps n m p = 2 by simp [planC, hpl]]
    rw [hpl] at h1
    have H1 := Lib.hid h1
    clear h1 hpl hl hl1 hl2 hc hc1 hc2
    go_enter Try.func13, Try.ntmps13
    go_wp2_with (go_at_call 50; refine H1.out.mono ?_; rintro e w1 ⟨rfl, hb1⟩)
    go_ret2
    exact ⟨rfl, hb1⟩
  | true =>
    have h2 := fun W (e : Below w.heap.size w W) => cutNeeds_any g n c zs (some ⟨g1, 0, none⟩) m d ys a2 p f ps W hl hl1 hl2 (hc.below e) (hc1.below e) (hc2.below e) hpl
    rw [show spoolZ zs ys ps n m p = cutZ zs ys ps p by simp [spoolZ, hpl], show planC zs ys ps n m p = 0 by simp [planC, hpl]]
    rw [hpl] at h1
    have H1 := Lib.hid h1
    have H2 := Lib.hid h2
    clear h1 h2 hpl hl hl1 hl2 hc hc1 hc2
    go_enter Try.func13, Try.ntmps13
    go_wp2_with fail
    refine H1.out.mono ?_
    rintro e w1 ⟨rfl, hb1⟩
    have HB1 := Lib.hid hb1
    clear hb1
    go_wp2_with fail
    refine (H2.out w1 HB1.out).mono ?_
    rintro e w2 (⟨l, a, cap, k1, k2, rfl, k3, hb2⟩ | ⟨i, l, k1, k2, k3, rfl, hb2⟩)
    · have HB2 := Lib.hid hb2
      have K1 := Lib.hid k1
      clear k1 k3 hb2
      go_wp2
      go_ret2
      exact ⟨ret_two (cutZ_some K1.out).symm rfl, ((Bel.of HB1.out).step HB2.out).1⟩
    · have HB2 := Lib.hid hb2
      have K1 := Lib.hid (cutZ_none k1 k2 k3)
      clear k1 k2 k3 hb2
      go_wp2
      go_ret2
      exact ⟨ret_two K1.out.symm rfl, ((Bel.of HB1.out).step HB2.out).1⟩

set_option maxRecDepth 100000 in
set_option maxHeartbeats 1600000 in
theorem impl_LeftOnSpools_c (w : World) (g n c : Nat) (zs : List Int) (hl : zs.length = n) (hn : n ≤ 1048576) (hc : CellsAt w (some ⟨g, 0, none⟩) (zs.map (Value.int .i64))) (_ : ∀ z ∈ zs, (Lit.int .i64 z).wf = true)
    (g1 m d : Nat) (ys : List Int) (hl1 : ys.length = m) (hm : m ≤ 1048576) (hc1 : CellsAt w (some ⟨g1, 0, none⟩) (ys.map (Value.int .i64))) (_ : ∀ z ∈ ys, (Lit.int .i64 z).wf = true)
    (a2 : Option Addr) (p f : Nat) (ps : List Int) (hl2 : ps.length = p) (hp : p ≤ 1048576) (hc2 : CellsAt w a2 (ps.map (Value.int .i64))) (_ : ∀ z ∈ ps, (Lit.int .i64 z).wf = true) :
    Calls Try.prog 20 #[.slice (some ⟨g, 0, none⟩) n c, .slice (some ⟨g1, 0, none⟩) m d, .slice a2 p f] w (RowEnd w 2 1 (leftL zs ys ps n m p) (leftC zs ys ps n m p)) := by
  have h1 := isSpoolPlan_any (some ⟨g, 0, none⟩) n c zs (some ⟨g1, 0, none⟩) m d ys a2 p f ps w hl hl1 hl2 (by omega) (by omega) (by omega) hc hc1 hc2
  cases hpl : planB zs ys ps n m p with
  | false =>
    rw [show leftL zs ys ps n m p = [] by simp [leftL, hpl], show leftC zs ys ps n m p = 2 by simp [leftC, hpl]]
    rw [hpl] at h1
    have H1 := Lib.hid h1
    clear h1 hpl hl hl1 hl2 hc hc1 hc2
    go_enter Try.func20, Try.ntmps20
    go_wp2_with (go_at_call 50; refine H1.out.mono ?_; rintro e w1 ⟨rfl, hb1⟩)
    go_ret2
    exact rowEnd_fail hb1
  | true =>
    have h2 := fun W (e : Below w.heap.size w W) => cutNeeds_any g n c zs (some ⟨g1, 0, none⟩) m d ys a2 p f ps W hl hl1 hl2 (hc.below e) (hc1.below e) (hc2.below e) hpl
    rw [show leftL zs ys ps n m p = (leftTo zs ys ps p).getD [] by simp [leftL, hpl], show leftC zs ys ps n m p = (if leftTo zs ys ps p = none then 9 else 0) by simp [leftC, hpl]]
    rw [hpl] at h1
    have H1 := Lib.hid h1
    have H2 := Lib.hid h2
    clear h1 h2 hpl hl hl1 hl2 hc hc1 hc2
    obtain ⟨r, hr⟩ : ∃ r, (leftTo zs ys ps p).getD [] = r := ⟨_, rfl⟩
    obtain ⟨s, hs⟩ : ∃ s : Int, (if leftTo zs ys ps p = none then 9 else 0) = s := ⟨_, rfl⟩
    rw [hr, hs]
    have HR := Lib.hid hr
    have HS := Lib.hid hs
    clear hr hs
    go_enter Try.func20, Try.ntmps20
    go_wp2_with fail
    refine H1.out.mono ?_
    rintro e w1 ⟨rfl, hb1⟩
    have HB1 := Lib.hid hb1
    clear hb1
    go_wp2_with fail
    refine (H2.out w1 HB1.out).mono ?_
    rintro e w2 (⟨l, a, cap, k1, k2, rfl, k3, hb2⟩ | ⟨i, l, k1, k2, k3, rfl, hb2⟩)
    · have HB2 := Lib.hid hb2
      have hsz := HB1.out.size
      have HK := Lib.hid (own_base k3 hsz)
      have K2 := Lib.hid k2
      obtain rfl : r = l := by rw [← HR.out, k1]; rfl
      obtain rfl : s = 0 := by rw [← HS.out, k1]; simp
      clear k1 k2 k3 hb2 hsz
      go_wp2
      go_ret2
      exact ⟨a, n, cap, rfl, by have := K2.out; omega, by omega, HK.out, ((Bel.of HB1.out).step HB2.out).1⟩
    · have HB2 := Lib.hid hb2
      have k4 := leftTo_stays k3 (show i + 1 ≤ p by omega)
      obtain rfl : r = [] := by rw [← HR.out, k4]; rfl
      obtain rfl : s = 9 := by rw [← HS.out, k4]; simp
      have hi0 : (0 : Int) ≤ (i : Int) := by omega
      have hi1 : i ≤ 1048576 := by omega
      clear k1 k2 k3 k4 hb2
      go_wp2
      go_ret2
      exact rowEnd_fail ((Bel.of HB1.out).step HB2.out).1

set_option maxRecDepth 100000 in
set_option maxHeartbeats 3200000 in
theorem impl_FirstSpools_c (w : World) (g n c : Nat) (zs : List Int) (hl : zs.length = n) (hn : n ≤ 1048576) (hc : CellsAt w (some ⟨g, 0, none⟩) (zs.map (Value.int .i64))) (_ : ∀ z ∈ zs, (Lit.int .i64 z).wf = true)
    (g1 m d : Nat) (ys : List Int) (hl1 : ys.length = m) (hm : m ≤ 1048576) (hc1 : CellsAt w (some ⟨g1, 0, none⟩) (ys.map (Value.int .i64))) (_ : ∀ z ∈ ys, (Lit.int .i64 z).wf = true) :
    Calls Try.prog 16 #[.slice (some ⟨g, 0, none⟩) n c, .slice (some ⟨g1, 0, none⟩) m d] w (RowEnd w 2 1 (firstL zs ys n m) (firstC zs ys n m)) := by
  have h1 := areSpools_any (some ⟨g, 0, none⟩) n c zs (some ⟨g1, 0, none⟩) m d ys w hl hl1 (by omega) (by omega) hc hc1
  cases hpl : spoolsB zs ys n m with
  | false =>
    rw [show firstL zs ys n m = [] by simp [firstL, hpl], show firstC zs ys n m = 2 by simp [firstC, hpl]]
    rw [hpl] at h1
    have H1 := Lib.hid h1
    clear h1 hpl hl hl1 hc hc1
    go_enter Try.func16, Try.ntmps16
    go_wp2_with (go_at_call 54; refine H1.out.mono ?_; rintro e w1 ⟨rfl, hb1⟩)
    go_ret2
    exact rowEnd_fail hb1
  | true =>
    obtain ⟨o1, o2, n6, m8⟩ := spoolsB_parts hpl
    have h2 := fun W (e : Below w.heap.size w W) => cloneI_any g n c zs W hl (by omega) (hc.below e)
    rw [hpl] at h1
    obtain ⟨r, hr⟩ : ∃ r, firstL zs ys n m = r := ⟨_, rfl⟩
    obtain ⟨s, hs⟩ : ∃ s, firstC zs ys n m = s := ⟨_, rfl⟩
    rw [hr, hs]
    simp only [firstL, firstC, hpl, if_true] at hr hs
    have HR := Lib.hid hr
    have HS := Lib.hid hs
    have H1 := Lib.hid h1
    have H2 := Lib.hid h2
    have Hz := Lib.hid hl
    have Hy := Lib.hid hl1
    have HB := Lib.hid hc1
    have O1 := Lib.hid o1
    have O2 := Lib.hid o2
    have eg : ∀ args w, (callFunc 57 args).run Try.prog w = .ok (.enter 57 args) w := enters_of Try.func57 (by kernel_rfl) rfl
    have EG := Lib.hid eg
    clear eg h1 h2 hr hs hpl hl hl1 hc hc1 o1 o2
    go_enter Try.func16, Try.ntmps16
    go_wp2_with fail
    refine H1.out.mono ?_
    rintro e w1 ⟨rfl, hb1⟩
    have HB1 := Lib.hid (Bel.of hb1)
    clear hb1
    go_wp2_with fail
    refine (H2.out (w1.alloc (.cells #[] 2)) (HB1.out.alloc _).1).mono ?_
    rintro e w2 ⟨aL, capL, rfl, hoL, hb2⟩
    have HO0 := Lib.hid (own_below (own_none' w1 w.heap.size 2 1 HB1.out.2) hb2)
    have HL0 := Lib.hid (own_base hoL (HB1.out.alloc _).2)
    have HNE := Lib.hid (show ∀ k, (Value.slice aL n capL).ownBlock = some k → w1.heap.size < k from fun k hk => by have h := (own_block hoL hk).1; simp at h; omega)
    have HB2 := Lib.hid ((HB1.out.alloc (.cells #[] 2)).step hb2)
    clear hoL hb2
    go_wp2
    go_loopw [6, 20] (fun v t wr => ∃ i : Nat, i ≤ m ∧ t = .int .i64 i ∧ ∃ (l ds : List Int) (ao : Option Addr) (co : Nat), v = .slice ao ds.length co ∧ ds.length ≤ i ∧ Hid (firstTo zs ys i = some (l, ds) ∧ l.length = n ∧ Low l) ∧ Hid (wr.ownsRow w.heap.size 2 1 (.slice ao ds.length co) ds.length (ds.map (Value.int .i64))) ∧ Hid (wr.ownsRow w.heap.size 2 1 (.slice aL n capL) n (l.map (Value.int .i64))) ∧ Hid (∀ k, (Value.slice ao ds.length co).ownBlock = some k → ∀ j, (Value.slice aL n capL).ownBlock = some j → k ≠ j) ∧ Hid (Bel w.heap.size w wr)) (fun _ t _ => m - (intOf t).toNat)
    case atStart => exact ⟨0, Nat.zero_le _, rfl, zs, [], _, _, rfl, Nat.le_refl _, Lib.hid ⟨rfl, Hz.out, low_of O1.out⟩, HO0, HL0, Lib.hid (fun k hk j hj => by have h1 := HNE.out j hj; have h2 : w1.heap.size = k := (by simpa [Value.ownBlock] using hk); omega), HB2⟩
    case round =>
      obtain ⟨i, hi, rfl, l, ds, ao, co, rfl, hds, hst, hown, hleft, hne, hbw⟩ := hrel
      by_cases hlt : i < m
      · obtain ⟨b1, off1, hae, hb1, hc1⟩ := HB.out.at_ (by have := Hy.out; simp; omega)
        obtain ⟨rfl, rfl⟩ : g1 = b1 ∧ 0 = off1 := by simpa using hae
        obtain ⟨y, hy⟩ : ∃ z, ys.getD i 0 = z := ⟨_, rfl⟩
        have hcy := cell_int hb1 hbw.out.1 hc1 (by rw [Hy.out]; exact hlt) hy
        rw [Nat.zero_add] at hcy
        have hyb := outB_at O2.out (j := i) (by rw [Hy.out]; exact hlt)
        rw [hy] at hyb
        obtain ⟨hyb1, hyb2⟩ := hyb
        have hidx := indexFunc_any aL n capL l (fun v => decide (y ≤ v)) 57 #[.pointer (some ⟨wr.heap.size, 0, none⟩)] (wr.alloc (.cells #[.int .i64 y] 2)) EG.out hst.out.2.1 (by omega) (CellsAt.of_own (hleft.out.alloc _))
          (fun z W hb _ => (firstClosure z y ⟨wr.heap.size, 0, none⟩ W (by rw [hb.cell (p := ⟨wr.heap.size, 0, none⟩) (by simp)]; simp)).mono (by rintro e w' ⟨he, rfl⟩; exact ⟨he, Below.refl _ _⟩))
        obtain ⟨kv, hkv⟩ : ∃ q, fitI y l = q := ⟨_, rfl⟩
        rw [show idxI (fun v => decide (y ≤ v)) l = kv from hkv] at hidx
        have hkb := idxI_ge (fun v => decide (y ≤ v)) l
        rw [show idxI (fun v => decide (y ≤ v)) l = kv from hkv, hst.out.2.1] at hkb
        obtain ⟨hk1, hk2⟩ := hkb
        have HI := Lib.hid hidx
        have Hy2 := Lib.hid hy
        have HK := Lib.hid hkv
        have hlt' : (i : Int) < (m : Int) := by omega
        clear hidx hy hkv hc1 hae
        go_wp2_with fail
        refine HI.out.mono ?_
        rintro e w3 ⟨rfl, hb3⟩
        have ho3 := own_below (hown.out.alloc (.cells #[.int .i64 y] 2)) hb3
        have hl3 := own_below (hleft.out.alloc (.cells #[.int .i64 y] 2)) hb3
        have hbw3 := (hbw.out.alloc (.cells #[.int .i64 y] 2)).step hb3
        have cb : w3.cell? ⟨wr.heap.size, 0, none⟩ = some (.int .i64 y) := by rw [hb3.cell (p := ⟨wr.heap.size, 0, none⟩) (by simp)]; simp
        have Ho3 := Lib.hid ho3
        have Hl3 := Lib.hid hl3
        have Hb3 := Lib.hid hbw3
        clear hb3 ho3 hl3 hbw3
        by_cases hneg : kv < 0
        · have k4 := firstTo_stays (firstTo_none hst.out.1 Hy2.out (by rw [HK.out]; exact hneg)) (show i + 1 ≤ m by omega)
          obtain rfl : r = [] := by rw [← HR.out, k4]; rfl
          obtain rfl : s = 10 := by rw [← HS.out, k4]; simp
          clear k4
          go_wp2
          go_ret2
          exact rowEnd_fail Hb3.out.1
        · obtain ⟨q, rfl⟩ : ∃ q : Nat, kv = (q : Int) := ⟨kv.toNat, by omega⟩
          have hqn : q < n := by omega
          rcases own_form Hl3.out with h0 | ⟨gL, rfl⟩
          · omega
          obtain ⟨u, hu⟩ : ∃ z, l.getD q 0 = z := ⟨_, rfl⟩
          have hub := hst.out.2.2 q
          rw [hu] at hub
          obtain ⟨hu0, hu1⟩ := hub
          have hyu : y ≤ u := by
            obtain ⟨x, hx1, hx2⟩ := idxI_at HK.out
            have e : x = u := by rw [← hu]; simp [hx1]
            rw [← e]; simpa using hx2
          have hcl : w3.cell? ⟨gL, q, none⟩ = some (.int .i64 u) := by
            rw [Hl3.out.cellAt q (by omega), ← hu]
            simp [List.getElem?_eq_getElem (show q < l.length by rw [hst.out.2.1]; exact hqn)]
          have hfz := Hl3.out.frozenAt q
          have hstd := World.ownsRow.stored (w := w3.drew) Hl3.out q (.int .i64 (u - y))
          have hgB := own_block Hl3.out rfl
          have HoS := Lib.hid (own_grown_ne (w := w3.drew) Ho3.out hstd.2 (fun b hb e => by cases e; exact hne.out _ hb _ rfl rfl))
          have HbS := Lib.hid (Hb3.out.drew.grown hstd.2 (fun k h => by cases h; exact hgB.1))
          have HlS := Lib.hid (show (w3.drew.setCell ⟨gL, q, none⟩ (.int .i64 (u - y))).ownsRow w.heap.size 2 1 (.slice (some ⟨gL, 0, none⟩) n capL) n ((l.set q (u - y)).map (Value.int .i64)) by rw [List.map_set]; exact hstd.1)
          have Hu := Lib.hid hu
          have HgB := Lib.hid hgB
          have hqn' : (q : Int) < (n : Int) := by omega
          clear hstd hu hgB
          go_wp2_with fail
          go_still_tail 7, (by kernel_rfl)
          go_wp2_with (at_builtin; refine appJ (by rfl) _ _ (by rfl) w.heap.size _ _ _ (by rfl) HoS.out _ 1 w3.heap.size (by simp) (by rfl) (by omega) HbS.out ?_; intro g5 cap5 w5 ho5 hb5 hg5 hat5)
          have hnew : ∀ k, (Value.slice (some ⟨g5, 0, none⟩) (ds.length + 1) cap5).ownBlock = some k → ∀ j, (Value.slice (some ⟨gL, 0, none⟩) n capL).ownBlock = some j → k ≠ j := by
            intro k hk j hj e
            have e1 : g5 = k := by simpa [Value.ownBlock] using hk
            have e2 : gL = j := by simpa [Value.ownBlock] using hj
            rcases hat5 with h | h
            · exact hne.out _ h _ hj (by omega)
            · have := (own_block (b := gL) HlS.out rfl).2
              omega
          have hl5 := own_grown_ne HlS.out hg5 (fun b hb e => hne.out _ e _ hb rfl)
          have Ho5 := Lib.hid ho5
          have Hb5 := Lib.hid hb5
          have Hl5 := Lib.hid hl5
          have Hnew := Lib.hid hnew
          clear ho5 hb5 hg5 hat5 hl5 hnew
          go_wp2
          go_roundw
          case rel =>
            refine ⟨i + 1, by omega, by go_num, l.set q (u - y), ds ++ [(q : Int)], some ⟨g5, 0, none⟩, cap5, by simp, by simp; omega, Lib.hid ⟨firstTo_some hst.out.1 Hy2.out HK.out Hu.out, by simp [hst.out.2.1], hst.out.2.2.set (by omega) (by omega)⟩, Lib.hid (by simpa using Ho5.out), Hl5, Lib.hid (by simpa using Hnew.out), Hb5⟩
          case measure => simp [intOf]; omega
      · go_wp2
        go_ret2
        obtain rfl : i = m := by omega
        obtain rfl : r = ds := by rw [← HR.out, hst.out.1]; rfl
        obtain rfl : s = 0 := by rw [← HS.out, hst.out.1]; simp
        exact ⟨ao, r.length, co, rfl, by omega, by omega, hown.out, hbw.out.1⟩

end Go.Proofs.Ytoomkeicfdmdoaa
