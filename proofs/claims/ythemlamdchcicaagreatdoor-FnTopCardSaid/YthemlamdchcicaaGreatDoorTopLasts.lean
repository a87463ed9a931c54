/-
  The reference's draw of lasts. No condition of its own.
-/
import Derived.Test.YthemlamdchcicaaGreatDoorGCost
import Derived.Test.YthemlamdchcicaaGreatDoorGLast
import Derived.Test.YthemlamdchcicaaGreatDoorGBox
import Derived.Test.YthemlamdchcicaaGreatDoorPatZ
namespace Go.Proofs.YthemlamdchcicaaGreatDoor
open Go.ChangeShapes Go.WideShapes Go.ChangeAt Go.RowKit Go.Deep Go.Shelf

structure Lst where
  name : ByteArray
  l : Int
  b : Int
  i : Int
  h : Int
  q : Int
def Lst.Ok (x : Lst) : Prop := 500 ≤ x.l ∧ x.l ≤ 5000 ∧ 500 ≤ x.b ∧ x.b ≤ 5000 ∧ 500 ≤ x.i ∧ x.i ≤ 5000 ∧ 500 ≤ x.h ∧ x.h ≤ 5000 ∧ 0 ≤ x.q ∧ x.q ≤ 590
def lsC (xs : List Lst) : List Value := xs.flatMap fun x => [.string x.name, .int .i64 x.l, .int .i64 x.b, .int .i64 x.i, .int .i64 x.h, .int .i64 x.q]
theorem lsC_append (xs : List Lst) (x : Lst) : lsC (xs ++ [x]) = lsC xs ++ [.string x.name, .int .i64 x.l, .int .i64 x.b, .int .i64 x.i, .int .i64 x.h, .int .i64 x.q] := by simp [lsC]
theorem infoLast : (Tryz.prog.info? 37).map (fun i => (i.zero, i.size, i.bytes)) = some (some (.agg #[.string ByteArray.empty, .int .i64 0, .int .i64 0, .int .i64 0, .int .i64 0, .int .i64 0]), 6, 56) := by kernel_rfl
/-- The memory of a draw of lasts. -/
structure LMem (w0 w wr : World) (p gn cn qf : Nat) (ac : Option Addr) (nc cc A : Nat) (fl fb fi fh : Int) (ao : Option Addr) (co : Nat) (xs : List Lst) : Prop where
  nm : wr.ownsRow w.heap.size 9 1 (.slice (some ⟨gn, 0, none⟩) 7 cn) 7 (strs names7)
  ft : Obx wr w.heap.size qf 25 4 [.int .i64 fl, .int .i64 fb, .int .i64 fi, .int .i64 fh]
  out : wr.ownsRow w.heap.size 37 6 (.slice ao xs.length co) xs.length (lsC xs)
  n1 : ∀ b, (Value.slice ao xs.length co).ownBlock = some b → b ≠ gn ∧ b ≠ qf
  src : SrcAt wr w0.heap.size p ac nc cc A
  bel : Bel w0.heap.size w0 wr
  gr : w.grownBy wr (some p)
theorem LMem.drawn {w0 w wr w' : World} {p gn cn qf nc cc A A' co : Nat} {ac ao : Option Addr} {fl fb fi fh : Int} {xs : List Lst} (h : LMem w0 w wr p gn cn qf ac nc cc A fl fb fi fh ao co xs) (hp1 : w0.heap.size ≤ p) (hp2 : p < w.heap.size) (hs : SrcAt w' w0.heap.size p ac nc cc A') (hg : wr.grownBy w' (some p)) :
    LMem w0 w w' p gn cn qf ac nc cc A' fl fb fi fh ao co xs :=
  ⟨own_grown_ne h.nm hg (fun b hb e => by have h1 : p = b := Option.some.inj e; have := (own_block h.nm hb).1; omega), h.ft.grown hg (fun e => by have h1 : p = qf := Option.some.inj e; have := h.ft.lt.1; omega), own_grown_ne h.out hg (fun b hb e => by have h1 : p = b := Option.some.inj e; have := (own_block h.out hb).1; omega), h.n1, hs, h.bel.grown hg (fun k e => by have h1 : p = k := Option.some.inj e; omega), grown_trans_row h.gr hg⟩
theorem LMem.more {w0 w w5 w6 : World} {p gn cn qf nc cc A co c' : Nat} {ac ao a' : Option Addr} {fl fb fi fh : Int} {xs : List Lst} {x : Lst} {o : Obj} (h : LMem w0 w w5 p gn cn qf ac nc cc A fl fb fi fh ao co xs) (hp1 : w0.heap.size ≤ p) (hp2 : p < w.heap.size)
    (hg : (w5.alloc o).grownBy w6 (Value.slice ao xs.length co).ownBlock) (ho : w6.ownsRow w.heap.size 37 6 (.slice a' (xs.length + 1) c') (xs.length + 1) (lsC xs ++ [.string x.name, .int .i64 x.l, .int .i64 x.b, .int .i64 x.i, .int .i64 x.h, .int .i64 x.q]))
    (hat : (Value.slice a' (xs.length + 1) c').ownBlock = (Value.slice ao xs.length co).ownBlock ∨ (Value.slice a' (xs.length + 1) c').ownBlock = some (w5.alloc o).heap.size) :
    LMem w0 w w6 p gn cn qf ac nc cc A fl fb fi fh a' c' (xs ++ [x]) := by
  have hlo : ∀ b, (Value.slice ao xs.length co).ownBlock = some b → w.heap.size ≤ b := fun b hb => (own_block h.out hb).1
  have h5 : (w5.alloc o).heap.size = w5.heap.size + 1 := by simp
  have hgn := own_block (b := gn) h.nm rfl
  have hqf := h.ft.lt
  have hl : (xs ++ [x]).length = xs.length + 1 := by simp
  refine ⟨own_grown_ne (own_below h.nm ((Bel.refl w5).alloc o).1) hg (fun b hb e => (h.n1 b e).1 (by have h1 : gn = b := (by simpa [Value.ownBlock] using hb); exact h1.symm)), Obx.grown (h.ft.alloc o) hg (fun e => (h.n1 qf e).2 rfl), by rw [hl, lsC_append]; exact ho, fun b hb => ?_, (h.src.alloc o).grown hg (fun e => by have := hlo _ e; omega), (h.bel.alloc o).grown hg (fun k e => by have := hlo _ e; have := h.src.base; omega), ?_⟩
  · rw [hl] at hb
    rcases hat with h1 | h1
    · exact h.n1 b (by rw [← h1]; exact hb)
    · rw [hb] at h1
      have h2 := Option.some.inj h1
      exact ⟨by omega, by omega⟩
  · have h1 : w.grownBy (w5.alloc o) (some p) := grown_alloc_l h.gr o
    cases hv : (Value.slice ao xs.length co).ownBlock with
    | none =>
      rw [hv] at hg
      exact ⟨hg.os.trans h1.os, hg.tape.trans h1.tape, hg.output.trans h1.output, Nat.le_trans h1.size hg.size, fun i hi hne => (hg.block i (Nat.lt_of_lt_of_le hi h1.size) (by simp)).trans (h1.block i hi hne)⟩
    | some b =>
      rw [hv] at hg
      exact grown_new_l h1 hg (by have := hlo _ hv; omega)
theorem LMem.moreA {w0 w wr : World} {p gn cn qf nc cc A A' co : Nat} {ac ao : Option Addr} {fl fb fi fh : Int} {xs : List Lst} (h : LMem w0 w wr p gn cn qf ac nc cc A fl fb fi fh ao co xs) (hA : A ≤ A') : LMem w0 w wr p gn cn qf ac nc cc A' fl fb fi fh ao co xs :=
  ⟨h.nm, h.ft, h.out, h.n1, h.src.more hA, h.bel, h.gr⟩
theorem grown_below_l2 {w w1 w2 : World} {row : Option Nat} (h : w.grownBy w1 row) (hb : Below w1.heap.size w1 w2) : w.grownBy w2 row :=
  ⟨hb.os.trans h.os, hb.tape.trans h.tape, hb.output.trans h.output, Nat.le_trans h.size hb.size, fun i hi hne => (hb.block i (Nat.lt_of_lt_of_le hi h.size)).trans (h.block i hi hne)⟩
/-- Drawn lasts. -/
def LDrawEnd (w0 w : World) (p : Nat) (ac : Option Addr) (nc cc A : Nat) (e : Ending) (w' : World) : Prop :=
  ∃ (ao : Option Addr) (co : Nat) (xs : List Lst), e = .returned (.slice ao xs.length co) ∧ (xs.map Lst.name).Sublist names7 ∧ (∀ x ∈ xs, x.Ok) ∧ w'.ownsRow w.heap.size 37 6 (.slice ao xs.length co) xs.length (lsC xs) ∧ SrcAt w' w0.heap.size p ac nc cc A ∧ w.grownBy w' (some p) ∧ Bel w0.heap.size w0 w'
theorem Obx.four0 {W : World} {B q E : Nat} {a b c d : Value} (h : Obx W B q E 4 [a, b, c, d]) : W.cell? ⟨q, 0, none⟩ = some a ∧ W.cell? ⟨q, 1, none⟩ = some b ∧ W.cell? ⟨q, 2, none⟩ = some c ∧ W.cell? ⟨q, 3, none⟩ = some d :=
  ⟨h.cell 0 (by omega), h.cell 1 (by omega), h.cell 2 (by omega), h.cell 3 (by omega)⟩
set_option maxRecDepth 100000 in
set_option maxHeartbeats 6400000 in
theorem l04Draw_any (w0 w : World) (p nc cc A : Nat) (ac : Option Addr) (fl fb fi fh : Int) (hc : CodeAt w0 ac nc) (hb : Bel w0.heap.size w0 w) (hs : SrcAt w w0.heap.size p ac nc cc A) (hA : A ≤ 500)
    (hf : 2200 ≤ fl ∧ fl ≤ 2845 ∧ 2100 ≤ fb ∧ fb ≤ 2595 ∧ 2200 ≤ fi ∧ fi ≤ 2695 ∧ 3000 ≤ fh ∧ fh ≤ 3495) :
    Calls Tryz.prog 22 #[.pointer (some ⟨p, 0, none⟩), .agg #[.int .i64 fl, .int .i64 fb, .int .i64 fi, .int .i64 fh]] w (LDrawEnd w0 w p ac nc cc (A + 100)) := by
  obtain ⟨hp1, hp2⟩ := hs.base
  have HC := Lib.hid hc
  have HF := Lib.hid hf
  obtain ⟨W, hW⟩ : ∃ W, w.alloc (.cells #[.int .i64 fl, .int .i64 fb, .int .i64 fi, .int .i64 fh] 25) = W := ⟨_, rfl⟩
  have HW := Lib.hid hW
  have HX := Lib.hid (show Obx W w.heap.size w.heap.size 25 4 [.int .i64 fl, .int .i64 fb, .int .i64 fi, .int .i64 fh] by rw [← hW]; exact Obx.new w w.heap.size 25 4 #[.int .i64 fl, .int .i64 fb, .int .i64 fi, .int .i64 fh] (Nat.le_refl _) rfl)
  have HB := Lib.hid (show Bel w0.heap.size w0 W by rw [← hW]; exact hb.alloc _)
  have HS := Lib.hid (show SrcAt W w0.heap.size p ac nc cc A by rw [← hW]; exact hs.alloc _)
  have HGw := Lib.hid (show w.grownBy W (some p) by rw [← hW]; exact World.grownBy_alloc w _ (some p))
  have HWs := Lib.hid (show W.heap.size = w.heap.size + 1 by rw [← hW]; simp)
  clear hW hc hb hs hf
  go_enter Tryz.func22, Tryz.ntmps22
  go_upto_region 1 with fail
  rw [HW.out]
  go_wp2_with fail
  refine (l04Names_any W).mono ?_
  rintro e w1 ⟨an, cn, rfl, hon, hbn⟩
  obtain ⟨gn, rfl⟩ : ∃ b, an = some ⟨b, 0, none⟩ := by
    rcases own_form hon with h0 | h0
    · omega
    · exact h0
  have hgn := own_block (b := gn) hon rfl
  have HM := Lib.hid (show LMem w0 w (w1.alloc (.cells #[] 37)) p gn cn w.heap.size ac nc cc A fl fb fi fh (some ⟨w1.heap.size, 0, none⟩) 0 [] from by
    have hsz := hbn.size
    have hws := HWs.out
    exact ⟨(own_base hon (by omega)).alloc _, (HX.out.below hbn).alloc _, own_none' w1 w.heap.size 37 6 (by omega), fun b hb => by
      have h1 : w1.heap.size = b := by simpa [Value.ownBlock] using hb
      omega, (HS.out.below hbn).alloc _, (HB.out.step hbn).alloc _, grown_alloc_l (grown_below_l2 HGw.out hbn) _⟩)
  clear hon hbn hgn
  go_wp2_with fail
  generalize w1.alloc (.cells #[] 37) = W1 at HM ⊢
  generalize w1.heap.size = g1 at HM ⊢
  generalize w.heap.size = qf at HM ⊢
  go_loopw [6, 7] (fun o i wr => ∃ k : Nat, k ≤ 7 ∧ i = .int .i64 (k : Int) ∧ ∃ (ao : Option Addr) (co n : Nat) (xs : List Lst), o = .slice ao n co ∧ n ≤ k ∧ Hid (xs.length = n ∧ (xs.map Lst.name).Sublist (names7.take k) ∧ ∀ x ∈ xs, x.Ok) ∧ Hid (LMem w0 w wr p gn cn qf ac nc cc (A + 12 * k) fl fb fi fh ao co xs)) (fun _ i _ => 7 - (intOf i).toNat)
  case atStart => exact ⟨0, by omega, rfl, some ⟨g1, 0, none⟩, 0, 0, [], rfl, Nat.le_refl _, Lib.hid ⟨rfl, List.nil_sublist _, fun x hx => by cases hx⟩, HM⟩
  case round =>
    clear HM
    obtain ⟨k, hk, rfl, ao, co, n, xs, rfl, hnk, HXs, HM⟩ := hrel
    have HL := Lib.hid HXs.out.1
    by_cases hlt : k < 7
    · have hlt' : (k : Int) < 7 := by omega
      go_wp2_with fail
      refine (one_any w0 wr p nc cc (A + 12 * k) ac 3 HC.out HM.out.bel HM.out.src (by omega) (by omega)).mono ?_
      rintro e w3 ⟨bt, rfl, hs3, hg3⟩
      have HM3 := Lib.hid (HM.out.drawn hp1 hp2 hs3 hg3)
      clear hs3 hg3 HM
      cases bt
      · obtain ⟨il, hil, i0, i1, i2⟩ := info_parts infoLast
        have HIl := Lib.hid (And.intro hil (And.intro i0 (And.intro i1 i2)))
        clear hil i0 i1 i2
        obtain ⟨s, hs⟩ : ∃ s, names7[k]? = some s := ⟨names7[k]'(by show k < 7; omega), List.getElem?_eq_getElem _⟩
        have HSk := Lib.hid (fun (X : World) (A' : Nat) (ao' : Option Addr) (co' : Nat) (ys : List Lst) (h : LMem w0 w X p gn cn qf ac nc cc A' fl fb fi fh ao' co' ys) => (show (X.cell? ⟨gn, k, none⟩ = some (.string s) ∧ X.cell? ⟨qf, 0, none⟩ = some (.int .i64 fl) ∧ X.cell? ⟨qf, 1, none⟩ = some (.int .i64 fb) ∧ X.cell? ⟨qf, 2, none⟩ = some (.int .i64 fi) ∧ X.cell? ⟨qf, 3, none⟩ = some (.int .i64 fh)) from by
          obtain ⟨e0, e1, e2, e3⟩ := h.ft.four0
          exact ⟨(h.nm.cellAt k (by omega)).trans (by simp [strs, hs]), e0, e1, e2, e3⟩))
        have HNew := Lib.hid ((l04New_any w0 w3.drew p nc cc (A + 12 * k + 2) ac s fl fb fi fh HC.out HM3.out.bel.drew (show SrcAt w3.drew w0.heap.size p ac nc cc (A + 12 * k + 2) from HM3.out.src) (by omega) HF.out).mono (R' := fun e w5 => ∃ vl vb vi vh vq : Int, e = .returned (.agg #[.string s, .int .i64 vl, .int .i64 vb, .int .i64 vi, .int .i64 vh, .int .i64 vq]) ∧ Hid ((⟨s, vl, vb, vi, vh, vq⟩ : Lst).Ok) ∧ Hid (LMem w0 w w5 p gn cn qf ac nc cc (A + 12 * (k + 1)) fl fb fi fh ao co xs) ∧ Hid (w5.ownsRow w.heap.size 37 6 (.slice ao n co) n (lsC xs)) ∧ w.heap.size ≤ w5.heap.size) (fun e w5 ⟨vl, vb, vi, vh, vq, he, hok, hs5, _, hg5⟩ => by
          have hM5 := (HM3.out.drawn hp1 hp2 (hs5.more (show A + 12 * k + 2 + 10 ≤ A + 12 * (k + 1) by omega)) (grown_from_drew hg5))
          have hl := HL.out
          subst hl
          exact ⟨vl, vb, vi, vh, vq, he, Lib.hid hok, Lib.hid hM5, Lib.hid hM5.out, hM5.gr.size⟩))
        obtain ⟨c0, c1, c2, c3, c4⟩ := HSk.out w3 _ _ _ _ HM3.out
        have hgs := (own_block (b := gn) HM3.out.nm rfl).2
        have hqs := HM3.out.ft.lt.2
        have HGk := Lib.hid hs
        clear hs
        go_upto_region 7 with fail
        go_region_held3 (fun X => (X.cell? ⟨gn, k, none⟩ = some (.string s) ∧ X.cell? ⟨qf, 0, none⟩ = some (.int .i64 fl) ∧ X.cell? ⟨qf, 1, none⟩ = some (.int .i64 fb) ∧ X.cell? ⟨qf, 2, none⟩ = some (.int .i64 fi) ∧ X.cell? ⟨qf, 3, none⟩ = some (.int .i64 fh))) (first | (with_reducible exact hK3) | (with_reducible exact hK2) | go_keep)
          (first
            | (go_at_call 50; (with_reducible refine HNew.out.mono ?_); rintro e w5 ⟨vl, vb, vi, vh, vq, rfl, H1, H2, H3, H4⟩; have hK2 := HSk.out w5 _ _ _ _ H2.out; have hg5 := (own_block (b := gn) H2.out.nm rfl).2; have hq5 := H2.out.ft.lt.2)
            | (refine step_append_any (W := w5.alloc (.cells #[.string s, .int .i64 vl, .int .i64 vb, .int .i64 vi, .int .i64 vh, .int .i64 vq] 37)) (by rfl) _ _ 27 (by rfl) w.heap.size 37 il (.agg #[.string ByteArray.empty, .int .i64 0, .int .i64 0, .int .i64 0, .int .i64 0, .int .i64 0]) 6 56 Tryz.underlying27 HIl.out.1 HIl.out.2.1 HIl.out.2.2.1 HIl.out.2.2.2 rfl (by omega) (.slice ao n co) n (lsC xs) (by rfl) (H3.out.alloc _) (some ⟨w5.heap.size, 0, none⟩) 1 1 [.string s, .int .i64 vl, .int .i64 vb, .int .i64 vi, .int .i64 vh, .int .i64 vq] (by rfl) rfl (fun h => by cases h) (fun ad had => by cases had; exact new_cells (w := w5) (cs := #[.string s, .int .i64 vl, .int .i64 vb, .int .i64 vi, .int .i64 vh, .int .i64 vq]) (t := 37) rfl rfl) (fun u hu => by simp only [List.mem_cons, List.not_mem_nil, or_false] at hu; rcases hu with rfl | rfl | rfl | rfl | rfl | rfl <;> rfl) (by unfold maxLen; omega) (by omega) (by simp; omega) ?_; intro a' c' w6 ho6 hg6 hat6; have HM6 := Lib.hid (show LMem w0 w w6 p gn cn qf ac nc cc (A + 12 * (k + 1)) fl fb fi fh a' c' (xs ++ [⟨s, vl, vb, vi, vh, vq⟩]) from by have hl := HL.out; subst hl; exact H2.out.more (x := ⟨s, vl, vb, vi, vh, vq⟩) hp1 hp2 hg6 ho6 hat6); have hK3 := HSk.out w6 _ _ _ _ HM6.out)
            | fail)
        all_goals
          clear c0 c1 c2 c3 c4 hgs hqs hK2 hK3 ho6 hg6 hat6 hg5 hq5
          have HXs6 := Lib.hid (show (xs ++ [(⟨s, vl, vb, vi, vh, vq⟩ : Lst)]).length = n + 1 ∧ ((xs ++ [(⟨s, vl, vb, vi, vh, vq⟩ : Lst)]).map Lst.name).Sublist (names7.take (k + 1)) ∧ ∀ x ∈ (xs ++ [(⟨s, vl, vb, vi, vh, vq⟩ : Lst)]), x.Ok from ⟨by simp [HXs.out.1], by
            rw [List.map_append, List.take_add_one, HGk.out]
            exact HXs.out.2.1.append (List.Sublist.refl _), fun x hx => by
              rcases List.mem_append.1 hx with h1 | h1
              · exact HXs.out.2.2 x h1
              · simp only [List.mem_cons, List.not_mem_nil, or_false] at h1
                subst h1
                exact H1.out⟩)
          go_wp2_with fail
          go_roundw
          case rel => exact ⟨k + 1, by omega, by go_num, a', c', n + 1, _, rfl, by omega, HXs6, HM6⟩
          case measure => simp [intOf]; omega
      · go_wp2_with fail
        go_roundw
        case rel => exact ⟨k + 1, by omega, by go_num, ao, co, n, xs, rfl, by omega, Lib.hid ⟨HXs.out.1, HXs.out.2.1.trans (List.take_sublist_take_left (by omega)), HXs.out.2.2⟩, Lib.hid (HM3.out.moreA (by omega))⟩
        case measure => simp [intOf]; omega
    · obtain rfl : k = 7 := by omega
      go_wp2_with fail
      go_ret
      have h1 := HL.out
      subst h1
      exact ⟨ao, co, xs, rfl, HXs.out.2.1, HXs.out.2.2, HM.out.out, HM.out.src.more (by omega), HM.out.gr, HM.out.bel⟩
/-- The drawn lasts. -/
def A2LastsEnd (w : World) (e : Ending) (w' : World) : Prop :=
  ∃ (ao : Option Addr) (co : Nat) (xs : List Lst), e = .returned (.slice ao xs.length co) ∧ (xs.map Lst.name).Sublist names7 ∧ (∀ x ∈ xs, x.Ok) ∧ w'.ownsRow w.heap.size 37 6 (.slice ao xs.length co) xs.length (lsC xs) ∧ Below w.heap.size w w'
set_option maxRecDepth 100000 in
set_option maxHeartbeats 6400000 in
theorem a2Lasts_any (w : World) (nc cc : Nat) (ac : Option Addr) (fl fb fi fh : Int) (hc : CodeAt w ac nc) (hf : 2200 ≤ fl ∧ fl ≤ 2845 ∧ 2100 ≤ fb ∧ fb ≤ 2595 ∧ 2200 ≤ fi ∧ fi ≤ 2695 ∧ 3000 ≤ fh ∧ fh ≤ 3495) :
    Calls Tryz.prog 6 #[.slice ac nc cc, .agg #[.int .i64 fl, .int .i64 fb, .int .i64 fi, .int .i64 fh]] w (A2LastsEnd w) := by
  obtain ⟨W, hW⟩ : ∃ W, w.alloc (.cells #[.int .i64 fl, .int .i64 fb, .int .i64 fi, .int .i64 fh] 25) = W := ⟨_, rfl⟩
  have HW := Lib.hid hW
  have HX := Lib.hid (show Obx W w.heap.size w.heap.size 25 4 [.int .i64 fl, .int .i64 fb, .int .i64 fi, .int .i64 fh] by rw [← hW]; exact Obx.new w w.heap.size 25 4 #[.int .i64 fl, .int .i64 fb, .int .i64 fi, .int .i64 fh] (Nat.le_refl _) rfl)
  have HB := Lib.hid (show Below w.heap.size w W by rw [← hW]; exact (Below.refl _ _).alloc (Nat.le_refl _) _)
  have HC := Lib.hid (hc.below HB.out)
  have HF := Lib.hid hf
  clear hc hW hf
  go_enter Tryz.func6, Tryz.ntmps6
  go_upto_region 1 with fail
  rw [HW.out]
  obtain ⟨c0, c1, c2, c3⟩ := HX.out.four0
  have cl := HX.out.lt.2
  have HCd := Lib.hid (show CodeAt W.drew ac nc from HC.out.below (Below.refl _ _).drew)
  go_region_held3 (fun X => X.cell? ⟨w.heap.size, 0, none⟩ = some (.int .i64 fl) ∧ X.cell? ⟨w.heap.size, 1, none⟩ = some (.int .i64 fb) ∧ X.cell? ⟨w.heap.size, 2, none⟩ = some (.int .i64 fi) ∧ X.cell? ⟨w.heap.size, 3, none⟩ = some (.int .i64 fh)) (first | (with_reducible exact hK3) | (with_reducible exact hK2) | go_keep)
    (first
      | (go_at_call 21; refine (l00From_any W.drew W.drew.heap.size ac nc cc (Nat.le_refl _)).mono ?_; rintro e w1 ⟨rfl, hs1, hb1⟩; have hK2 := (HX.out.below ((Below.refl _ _).drew.trans hb1)).four0; have HS1 := Lib.hid hs1; have HB1 := Lib.hid hb1; clear hs1 hb1)
      | (go_at_call 22; refine (l04Draw_any W.drew w1 W.drew.heap.size nc cc 0 ac fl fb fi fh HCd.out (Bel.of HB1.out) HS1.out (by omega) HF.out).mono ?_; rintro e w2 ⟨ao, co, xs, rfl, h1, h2, h3, _, h5, h6⟩; have hK3 := (HX.out.below ((Below.refl _ _).drew.trans h6.1)).four0))
  all_goals
    clear c0 c1 c2 c3 cl hK2 hK3
    go_wp2_with fail
    go_ret
    have hw1 : w.heap.size ≤ w1.heap.size := Nat.le_trans HB.out.size HB1.out.size
    exact ⟨ao, co, xs, rfl, h1, h2, own_base h3 hw1, HB.out.trans (((Below.refl _ _).drew.trans h6.1).mono HB.out.size)⟩
end Go.Proofs.YthemlamdchcicaaGreatDoor
