/-
  The program's allowed at drawn lasts and one foot. The program's ValidLasts at drawn lasts. The program's cheapest and BestLast at drawn lasts, one foot, one fit. No condition of its own.
-/
import Derived.Test.YthemlamdchcicaaGreatDoorGAllowP
import Derived.Test.YthemlamdchcicaaGreatDoorGCost
import Derived.Test.YthemlamdchcicaaGreatDoorGBox
import Derived.Deep.RegionLaw
import Derived.StillTailTactics
import Derived.Lib.QuietBelow
import Derived.BigQuiet

namespace Go.Proofs.YthemlamdchcicaaGreatDoor
open Go.ChangeShapes Go.WideShapes Go.ChangeAt Go.RowKit Go.Deep Go.Shelf

/-- Does a last do, and what does it cost. -/
def Lst.okAt (x : Lst) (fl fb fi fh mn mx gi : Int) : Bool := okTo (inB (x.l - fl) mn mx) gi [x.l, x.b, x.i, x.h] [fl, fb, fi, fh] 4
def Lst.costAt (x : Lst) (fl fb fi fh mn w0 w1 w2 w3 : Int) : Int := costTo (w0 * (x.l - fl - mn)) [x.l, x.b, x.i, x.h] [fl, fb, fi, fh] [w0, w1, w2, w3] 4
def lst0 : Lst := ⟨⟨#[]⟩, 0, 0, 0, 0, 0⟩
def okN (xs : List Lst) (fl fb fi fh mn mx gi : Int) (k : Nat) : Bool := (xs.getD k lst0).okAt fl fb fi fh mn mx gi
def costN (xs : List Lst) (fl fb fi fh mn w0 w1 w2 w3 : Int) (k : Nat) : Int := (xs.getD k lst0).costAt fl fb fi fh mn w0 w1 w2 w3
/-- The places, and their costs, as cells. -/
def idsC (l : List Nat) : List Value := l.map fun (k : Nat) => Value.int .i64 (Int.ofNat k)
def costsC (cost : Nat → Int) (l : List Nat) : List Value := l.map fun (k : Nat) => Value.int .i64 (cost k)
theorem idsC_app (l : List Nat) (k : Nat) : idsC (l ++ [k]) = idsC l ++ [.int .i64 (k : Int)] := by simp [idsC]
theorem costsC_app (cost : Nat → Int) (l : List Nat) (k : Nat) : costsC cost (l ++ [k]) = costsC cost l ++ [.int .i64 (cost k)] := by simp [costsC]
/-- A bound on the costs. -/
theorem costTo_bound {c0 : Int} {ms fs ws : List Int} (h0 : -600000 ≤ c0 ∧ c0 ≤ 600000) (hm : ∀ z ∈ ms, 500 ≤ z ∧ z ≤ 5000) (hf : ∀ z ∈ fs, 500 ≤ z ∧ z ≤ 5000) (hw : ∀ z ∈ ws, 0 ≤ z ∧ z ≤ 100) (lm : ms.length = 4) (lf : fs.length = 4) (lw : ws.length = 4) :
    ∀ k, k ≤ 4 → -600000 ≤ costTo c0 ms fs ws k ∧ costTo c0 ms fs ws k ≤ 600000 + 450000 * k
  | 0, _ => by unfold costTo; omega
  | k + 1, hk => by
    have ih := costTo_bound h0 hm hf hw lm lf lw k (by omega)
    unfold costTo
    by_cases e : k = 0
    · rw [if_pos e]; omega
    · rw [if_neg e]
      have a1 := hm (ms.getD k 0) (by rw [List.getD_eq_getElem?_getD, List.getElem?_eq_getElem (by omega)]; exact List.getElem_mem _)
      have a2 := hf (fs.getD k 0) (by rw [List.getD_eq_getElem?_getD, List.getElem?_eq_getElem (by omega)]; exact List.getElem_mem _)
      have a3 := hw (ws.getD k 0) (by rw [List.getD_eq_getElem?_getD, List.getElem?_eq_getElem (by omega)]; exact List.getElem_mem _)
      generalize ms.getD k 0 = m at a1 ⊢
      generalize fs.getD k 0 = f at a2 ⊢
      generalize ws.getD k 0 = w at a3 ⊢
      obtain ⟨D, hD⟩ : ∃ D : Nat, (m - f).natAbs = D := ⟨_, rfl⟩
      have hD2 : D ≤ 4500 := by omega
      rw [hD]
      have p1 : 0 ≤ w * (D : Int) := Int.mul_nonneg a3.1 (by omega)
      have p2 : w * (D : Int) ≤ 100 * 4500 := Int.mul_le_mul a3.2 (by omega) (by omega) (by omega)
      omega
theorem cost_start {w0 l fl mn : Int} (hw : 0 ≤ w0 ∧ w0 ≤ 100) (hl : 500 ≤ l ∧ l ≤ 5000) (hf : 500 ≤ fl ∧ fl ≤ 5000) (hm : 0 ≤ mn ∧ mn ≤ 500) : -600000 ≤ w0 * (l - fl - mn) ∧ w0 * (l - fl - mn) ≤ 600000 := by
  obtain ⟨z1, z2⟩ := hw
  constructor
  · have := Int.mul_le_mul_of_nonneg_left (show -6000 ≤ l - fl - mn by omega) z1
    omega
  · have := Int.mul_le_mul_of_nonneg_left (show l - fl - mn ≤ 6000 by omega) z1
    omega
/-- The memory while places and costs are laid. -/
def AM (W : World) (B : Nat) (ov cv : Value) (n1 n2 : Nat) (xs ys : List Value) : Prop :=
  W.ownsRow B 2 1 ov n1 xs ∧ W.ownsRow B 2 1 cv n2 ys ∧ (∀ b, ov.ownBlock = some b → b ≠ B ∧ cv.ownBlock ≠ some b) ∧ ∀ b, cv.ownBlock = some b → b ≠ B
theorem AM.below {W W' : World} {B n1 n2 : Nat} {ov cv : Value} {xs ys : List Value} (h : AM W B ov cv n1 n2 xs ys) (hb : Below W.heap.size W W') : AM W' B ov cv n1 n2 xs ys := ⟨own_below h.1 hb, own_below h.2.1 hb, h.2.2⟩
theorem AM.alloc {W : World} {B n1 n2 : Nat} {ov cv : Value} {xs ys : List Value} (h : AM W B ov cv n1 n2 xs ys) (o : Obj) : AM (W.alloc o) B ov cv n1 n2 xs ys := h.below ((Below.refl _ _).alloc (Nat.le_refl _) o)
theorem AM.more {W w7 w8 : World} {B L c1 c2 g7 cap7 g8 cap8 : Nat} {a1 a2 : Option Addr} {xs ys xs' ys' : List Value} (h : AM W B (.slice a1 L c1) (.slice a2 L c2) L L xs ys) (hB : B < W.heap.size)
    (ho7 : w7.ownsRow B 2 1 (.slice (some ⟨g7, 0, none⟩) (L + 1) cap7) (L + 1) xs') (hg7 : W.grownBy w7 (Value.slice a1 L c1).ownBlock) (hat7 : (Value.slice a1 L c1).ownBlock = some g7 ∨ W.heap.size ≤ g7)
    (ho8 : w8.ownsRow B 2 1 (.slice (some ⟨g8, 0, none⟩) (L + 1) cap8) (L + 1) ys') (hg8 : w7.grownBy w8 (Value.slice a2 L c2).ownBlock) (hat8 : (Value.slice a2 L c2).ownBlock = some g8 ∨ w7.heap.size ≤ g8) :
    AM w8 B (.slice (some ⟨g7, 0, none⟩) (L + 1) cap7) (.slice (some ⟨g8, 0, none⟩) (L + 1) cap8) (L + 1) (L + 1) xs' ys' := by
  obtain ⟨h1, h2, h3, h4⟩ := h
  have k7 := (own_block (b := g7) ho7 rfl).2
  have hs := hg7.size
  have n7 : g7 ≠ B := by
    rcases hat7 with e | e
    · exact (h3 g7 e).1
    · omega
  have n8 : g8 ≠ B := by
    rcases hat8 with e | e
    · exact h4 g8 e
    · omega
  have hne : ∀ b, (Value.slice a2 L c2).ownBlock = some b → b ≠ g7 := fun b e e2 => by
    subst e2
    rcases hat7 with e3 | e3
    · exact (h3 b e3).2 e
    · have := (own_block h2 e).2
      omega
  refine ⟨own_grown_ne ho7 hg8 (fun b hb e => ?_), ho8, fun b hb => ?_, fun b hb => ?_⟩
  · have e2 : g7 = b := by simpa [Value.ownBlock] using hb
    exact hne b e e2.symm
  · have e2 : g7 = b := by simpa [Value.ownBlock] using hb
    subst e2
    refine ⟨n7, fun e => ?_⟩
    have e3 : g8 = g7 := by simpa [Value.ownBlock] using e
    rcases hat8 with e4 | e4
    · exact hne g8 e4 e3
    · omega
  · have e2 : g8 = b := by simpa [Value.ownBlock] using hb
    exact e2 ▸ n8
def AllowEnd (w : World) (ok : Nat → Bool) (cost : Nat → Int) (n : Nat) (e : Ending) (w' : World) : Prop :=
  ∃ (a1 : Option Addr) (c1 : Nat) (a2 : Option Addr) (c2 : Nat), e = .returned (.tuple #[.slice a1 (allowTo ok n).length c1, .slice a2 (allowTo ok n).length c2]) ∧ w'.ownsRow w.heap.size 2 1 (.slice a1 (allowTo ok n).length c1) (allowTo ok n).length (idsC (allowTo ok n)) ∧ w'.ownsRow w.heap.size 2 1 (.slice a2 (allowTo ok n).length c2) (allowTo ok n).length (costsC cost (allowTo ok n)) ∧ Below w.heap.size w w'
set_option maxRecDepth 100000 in
/-- What the walk needs of one last. -/
theorem allowed_at (xs : List Lst) (hs : (xs.map Lst.name).Sublist names7) (hx : ∀ x ∈ xs, x.Ok) (fl fb fi fh mn mx gi w0 w1 w2 w3 : Int) (aw : Option Addr) (cw : Nat) (w : World)
    (hf : ∀ z ∈ [fl, fb, fi, fh], 500 ≤ z ∧ z ≤ 5000) (hk : FitOk mn mx gi [w0, w1, w2, w3]) (hc : CellsAt w aw ([w0, w1, w2, w3].map (Value.int .i64))) (k : Nat) (hkn : k < xs.length) :
    ∃ (s : ByteArray) (vl vb vi vh vq : Int), ((lsC xs)[k * 6]? = some (.string s) ∧ (lsC xs)[k * 6 + 1]? = some (.int .i64 vl) ∧ (lsC xs)[k * 6 + 2]? = some (.int .i64 vb) ∧ (lsC xs)[k * 6 + 3]? = some (.int .i64 vi) ∧ (lsC xs)[k * 6 + 4]? = some (.int .i64 vh) ∧ (lsC xs)[k * 6 + 5]? = some (.int .i64 vq))
      ∧ (-600000 ≤ costN xs fl fb fi fh mn w0 w1 w2 w3 k ∧ costN xs fl fb fi fh mn w0 w1 w2 w3 k ≤ 2400000)
      ∧ (∀ W, Below w.heap.size w W → Calls Tryz.prog 29 #[.agg #[.string s, .int .i64 vl, .int .i64 vb, .int .i64 vi, .int .i64 vh, .int .i64 vq], .agg #[.int .i64 fl, .int .i64 fb, .int .i64 fi, .int .i64 fh], .agg #[.int .i64 mn, .int .i64 mx, .int .i64 gi, .slice aw 4 cw]] W
        fun e w' => e = .returned (.tuple #[.int .i64 (costN xs fl fb fi fh mn w0 w1 w2 w3 k), .bool (okN xs fl fb fi fh mn mx gi k)]) ∧ Below W.heap.size W w') := by
  have hlast := lastB_foot (lst_valid hs hx hkn)
  have hg : xs.getD k lst0 = xs[k] := by rw [List.getD_eq_getElem?_getD, List.getElem?_eq_getElem hkn]; rfl
  refine ⟨_, _, _, _, _, _, lsC_at xs k hkn, ?_, fun W hb => ?_⟩
  · unfold costN Lst.costAt
    rw [hg]
    have h := costTo_bound (cost_start (w0 := w0) (l := xs[k].l) (fl := fl) (mn := mn) (hk.2.2.2 w0 (by simp)) (hlast _ (by simp)) (hf fl (by simp)) ⟨hk.1.1, by have := hk.1; omega⟩) hlast hf hk.2.2.2 rfl rfl rfl 4 (Nat.le_refl _)
    omega
  · unfold costN okN Lst.costAt Lst.okAt
    rw [hg]
    exact fitCost_any xs[k].name xs[k].l xs[k].b xs[k].i xs[k].h xs[k].q fl fb fi fh mn mx gi w0 w1 w2 w3 aw cw W hlast hf hk (hc.below hb)
set_option maxRecDepth 100000 in
set_option maxHeartbeats 6400000 in
theorem allowed_any (xs : List Lst) (hs : (xs.map Lst.name).Sublist names7) (hx : ∀ x ∈ xs, x.Ok) (ao : Option Addr) (co B : Nat) (fl fb fi fh mn mx gi w0 w1 w2 w3 : Int) (aw : Option Addr) (cw qf Bf cf : Nat) (w : World)
    (hr : w.ownsRow B 37 6 (.slice ao xs.length co) xs.length (lsC xs)) (hf : ∀ z ∈ [fl, fb, fi, fh], 500 ≤ z ∧ z ≤ 5000) (hk : FitOk mn mx gi [w0, w1, w2, w3]) (hc : CellsAt w aw ([w0, w1, w2, w3].map (Value.int .i64)))
    (hq : Obx w Bf qf 25 4 [.int .i64 fl, .int .i64 fb, .int .i64 fi, .int .i64 fh]) :
    Calls Tryz.prog 54 #[.slice ao xs.length co, .agg #[.int .i64 mn, .int .i64 mx, .int .i64 gi, .slice aw 4 cw], .slice (some ⟨qf, 0, none⟩) 1 cf] w
      (AllowEnd w (okN xs fl fb fi fh mn mx gi) (costN xs fl fb fi fh mn w0 w1 w2 w3) xs.length) := by
  have h7 := names_len hs
  have HA := Lib.hid (allowed_at xs hs hx fl fb fi fh mn mx gi w0 w1 w2 w3 aw cw w hf hk hc)
  generalize okN xs fl fb fi fh mn mx gi = ok at HA ⊢
  generalize costN xs fl fb fi fh mn w0 w1 w2 w3 = cost at HA ⊢
  have hll := lsC_length xs
  generalize lsC xs = ls at hr HA hll
  generalize xs.length = n at h7 hr HA hll ⊢
  have HR := Lib.hid hr
  have HQ := Lib.hid hq
  obtain ⟨W, hW⟩ : ∃ W, w.alloc (.cells #[.int .i64 mn, .int .i64 mx, .int .i64 gi, .slice aw 4 cw] 31) = W := ⟨_, rfl⟩
  have HT := Lib.hid (show Obx W w.heap.size w.heap.size 31 4 [.int .i64 mn, .int .i64 mx, .int .i64 gi, .slice aw 4 cw] by rw [← hW]; exact Obx.new w w.heap.size 31 4 #[.int .i64 mn, .int .i64 mx, .int .i64 gi, .slice aw 4 cw] (Nat.le_refl _) rfl)
  have HB := Lib.hid (show Bel w.heap.size w W by rw [← hW]; exact (Bel.refl w).alloc _)
  have HW := Lib.hid hW
  clear hs hx hr hf hk hc hq hW
  go_enter Tryz.func54, Tryz.ntmps54
  go_upto_region 1 with fail
  rw [HW.out]
  go_wp2_with fail
  have HM := Lib.hid (show AM ((W.alloc (.cells #[] 2)).alloc (.cells #[] 2)) w.heap.size (.slice (some ⟨W.heap.size, 0, none⟩) 0 0) (.slice (some ⟨W.heap.size + 1, 0, none⟩) 0 0) 0 0 [] [] from by
    have h2 := HB.out.2
    have h0 := own_none' (W.alloc (.cells #[] 2)) w.heap.size 2 1 (by simp; omega)
    have e1 : (W.alloc (.cells #[] 2)).heap.size = W.heap.size + 1 := by simp
    rw [e1] at h0
    have h3 := HT.out.lt.2
    exact ⟨own_below (own_none' W w.heap.size 2 1 h2) ((Below.refl _ _).alloc (Nat.le_refl _) _), h0, fun b hb => ⟨by simp [Value.ownBlock] at hb; omega, fun e => by simp [Value.ownBlock] at hb e; omega⟩, fun b hb => by simp [Value.ownBlock] at hb; omega⟩)
  have HBM := Lib.hid ((HB.out.alloc (.cells #[] 2)).alloc (.cells #[] 2))
  have HTM := Lib.hid ((HT.out.alloc (.cells #[] 2)).alloc (.cells #[] 2))
  generalize (W.alloc (.cells #[] 2)).alloc (.cells #[] 2) = W1 at HM HBM HTM ⊢
  generalize W.heap.size = g1 at HM ⊢
  go_loopw [8, 9, 22] (fun o c i wr => ∃ k : Nat, k ≤ n ∧ i = .int .i64 (k : Int) ∧ ∃ (a1 : Option Addr) (c1 : Nat) (a2 : Option Addr) (c2 L : Nat), o = .slice a1 L c1 ∧ c = .slice a2 L c2 ∧ L ≤ k ∧ Hid ((allowTo ok k).length = L ∧ AM wr w.heap.size (.slice a1 L c1) (.slice a2 L c2) L L (idsC (allowTo ok k)) (costsC cost (allowTo ok k)) ∧ Obx wr w.heap.size w.heap.size 31 4 [.int .i64 mn, .int .i64 mx, .int .i64 gi, .slice aw 4 cw] ∧ Bel w.heap.size w wr)) (fun _ _ i _ => n - (intOf i).toNat)
  case atStart => exact ⟨0, Nat.zero_le _, rfl, _, 0, _, 0, 0, rfl, rfl, Nat.le_refl _, Lib.hid ⟨rfl, (show AM _ _ _ _ 0 0 [] [] from HM.out), HTM.out, HBM.out⟩⟩
  case round =>
    clear HM HBM HTM
    obtain ⟨k, hk, rfl, a1, c1, a2, c2, L, rfl, rfl, hLk, HM⟩ := hrel
    by_cases hlt : k < n
    · have hlt' : (k : Int) < (n : Int) := by omega
      obtain ⟨b, rfl⟩ : ∃ b, ao = some ⟨b, 0, none⟩ := by
        rcases own_form HR.out with h0 | h0
        · omega
        · exact h0
      obtain ⟨s, vl, vb, vi, vh, vq, ⟨x0, x1, x2, x3, x4, x5⟩, hcb, hfit⟩ := HA.out k hlt
      have HFit := Lib.hid hfit
      have hrw := own_below HR.out HM.out.2.2.2.1
      have d0 := (hrw.cellAt (k * 6) (by omega)).trans x0
      have d1 := (hrw.cellAt (k * 6 + 1) (by omega)).trans x1
      have d2 := (hrw.cellAt (k * 6 + 2) (by omega)).trans x2
      have d3 := (hrw.cellAt (k * 6 + 3) (by omega)).trans x3
      have d4 := (hrw.cellAt (k * 6 + 4) (by omega)).trans x4
      have d5 := (hrw.cellAt (k * 6 + 5) (by omega)).trans x5
      have hbl := (own_block (b := b) hrw rfl).2
      clear hfit hrw x0 x1 x2 x3 x4 x5
      go_upto_region 5 with fail
      have HX := Lib.hid (Obx.new wr w.heap.size 37 6 #[.string s, .int .i64 vl, .int .i64 vb, .int .i64 vi, .int .i64 vh, .int .i64 vq] HM.out.2.2.2.2 rfl)
      have HM1 := Lib.hid (show AM (wr.alloc (.cells #[.string s, .int .i64 vl, .int .i64 vb, .int .i64 vi, .int .i64 vh, .int .i64 vq] 37)) w.heap.size (.slice a1 L c1) (.slice a2 L c2) L L (idsC (allowTo ok k)) (costsC cost (allowTo ok k)) ∧ Obx (wr.alloc (.cells #[.string s, .int .i64 vl, .int .i64 vb, .int .i64 vi, .int .i64 vh, .int .i64 vq] 37)) w.heap.size w.heap.size 31 4 [.int .i64 mn, .int .i64 mx, .int .i64 gi, .slice aw 4 cw] ∧ Bel w.heap.size w (wr.alloc (.cells #[.string s, .int .i64 vl, .int .i64 vb, .int .i64 vi, .int .i64 vh, .int .i64 vq] 37)) from ⟨HM.out.2.1.alloc _, HM.out.2.2.1.alloc _, HM.out.2.2.2.alloc _⟩)
      have HLn := Lib.hid HM.out.1
      clear d0 d1 d2 d3 d4 d5 hbl HM
      generalize wr.alloc (.cells #[.string s, .int .i64 vl, .int .i64 vb, .int .i64 vi, .int .i64 vh, .int .i64 vq] 37) = W4 at HX HM1 ⊢
      generalize wr.heap.size = qx at HX ⊢
      obtain ⟨C, hC⟩ : ∃ C, cost k = C := ⟨_, rfl⟩
      obtain ⟨O, hO⟩ : ∃ O, ok k = O := ⟨_, rfl⟩
      rw [hC] at hcb HFit
      rw [hO] at HFit
      have HC := Lib.hid hC
      have HO := Lib.hid hO
      clear hC hO
      go_wp2_with fail
      go_loopw [12, 13, 29] (fun t v i wx => ∃ j : Nat, j ≤ 1 ∧ i = .int .i64 (j : Int) ∧ (∃ (S : Int) (Q : Bool), t = .int .i64 S ∧ v = .bool Q ∧ ((j = 0 ∧ S = 0 ∧ Q = true) ∨ (j = 1 ∧ S = C ∧ Q = O))) ∧ Hid (Below W4.heap.size W4 wx)) (fun _ _ i _ => 1 - (intOf i).toNat)
      case atStart => exact ⟨0, by omega, rfl, ⟨0, true, rfl, rfl, .inl ⟨rfl, rfl, rfl⟩⟩, Lib.hid (Below.refl _ _)⟩
      case round =>
        obtain ⟨j, hj, rfl, ⟨S, Q, rfl, rfl, hSQ⟩, hbx⟩ := hrel
        rcases hSQ with ⟨rfl, rfl, rfl⟩ | ⟨rfl, rfl, rfl⟩
        · clear hj
          have hbxx := HM1.out.2.2.1.trans (hbx.out.mono HM1.out.2.2.2)
          obtain ⟨y0, y1, y2, y3⟩ := (HQ.out.below hbxx).four0
          have yl := (HQ.out.below hbxx).lt.2
          go_upto_region 9 with fail
          have HQ5 := Lib.hid (Obx.new wr w.heap.size 25 4 #[.int .i64 fl, .int .i64 fb, .int .i64 fi, .int .i64 fh] hbxx.size rfl)
          have HX5 := Lib.hid ((HX.out.below hbx.out).alloc (.cells #[.int .i64 fl, .int .i64 fb, .int .i64 fi, .int .i64 fh] 25))
          have HT5 := Lib.hid ((HM1.out.2.1.below hbx.out).alloc (.cells #[.int .i64 fl, .int .i64 fb, .int .i64 fi, .int .i64 fh] 25))
          have HB5 := Lib.hid (((Bel.of hbx.out).alloc (.cells #[.int .i64 fl, .int .i64 fb, .int .i64 fi, .int .i64 fh] 25)).1)
          clear y0 y1 y2 y3 yl hbxx hbx
          generalize wr.alloc (.cells #[.int .i64 fl, .int .i64 fb, .int .i64 fi, .int .i64 fh] 25) = W5 at HQ5 HX5 HT5 HB5 ⊢
          generalize wr.heap.size = q5 at HQ5 ⊢
          obtain ⟨⟨x0, x1, x2, x3, x4, x5⟩, _, _⟩ := HX5.out.six
          obtain ⟨y0, y1, y2, y3⟩ := HQ5.out.four0
          obtain ⟨t0, t1, t2, t3⟩ := HT5.out.four0
          go_wp2_with fail
          refine (HFit.out W5 (HM1.out.2.2.1.trans (HB5.out.mono HM1.out.2.2.2))).mono ?_
          rintro e w6 ⟨rfl, hb6⟩
          have HB6 := Lib.hid (HB5.out.trans (hb6.mono HB5.out.size))
          clear hb6 x0 x1 x2 x3 x4 x5 y0 y1 y2 y3 t0 t1 t2 t3
          go_wp2_with fail
          go_roundw
          case rel => exact ⟨1, by omega, by go_num, ⟨C, O, by first | rfl | (congr 1; omega), by first | rfl | (cases O <;> rfl), .inr ⟨rfl, rfl, rfl⟩⟩, HB6⟩
          case measure => simp [intOf]
        · clear hj
          have HM5 := Lib.hid (show AM wr w.heap.size (.slice a1 L c1) (.slice a2 L c2) L L (idsC (allowTo ok k)) (costsC cost (allowTo ok k)) ∧ Obx wr w.heap.size w.heap.size 31 4 [.int .i64 mn, .int .i64 mx, .int .i64 gi, .slice aw 4 cw] ∧ Bel w.heap.size w wr from ⟨HM1.out.1.below hbx.out, HM1.out.2.1.below hbx.out, HM1.out.2.2.step hbx.out⟩)
          clear hbx HX HM1
          cases Q
          · go_wp2_with fail
            go_roundw
            case rel =>
              have e : allowTo ok (k + 1) = allowTo ok k := by show allowTo ok k ++ (if ok k = true then [k] else []) = _; rw [HO.out]; simp
              refine ⟨k + 1, by omega, by go_num, a1, c1, a2, c2, L, rfl, rfl, by omega, Lib.hid ?_⟩
              rw [e]
              exact ⟨HLn.out, HM5.out⟩
            case measure => simp [intOf]; omega
          · have hA := HM5.out.1
            go_wp2_with (at_builtin; first
              | (refine appJ (by rfl) _ _ (by rfl) w.heap.size _ _ _ (by rfl) HM5.out.1.1 _ 1 wr.heap.size (by simp) (by rfl) (by omega) HM5.out.2.2 ?_; intro g7 cap7 w7 ho7 hb7 hg7 hat7; have HM7 := Lib.hid (And.intro ho7 (And.intro hb7 (And.intro hg7 hat7))); clear ho7 hb7 hg7 hat7)
              | (refine appJ (by rfl) _ _ (by rfl) w.heap.size _ _ _ (by rfl) (own_grown_ne HM5.out.1.2.1 HM7.out.2.2.1 (fun b hb e => (HM5.out.1.2.2.1 b e).2 hb)) _ 1 w7.heap.size (by simp) (by rfl) (by omega) HM7.out.2.1 ?_; intro g8 cap8 w8 ho8 hb8 hg8 hat8; have HM8 := Lib.hid (And.intro ho8 (And.intro hb8 (And.intro hg8 hat8))); clear ho8 hb8 hg8 hat8)
              | fail)
            go_roundw
            case rel =>
              have e : allowTo ok (k + 1) = allowTo ok k ++ [k] := by show allowTo ok k ++ (if ok k = true then [k] else []) = _; rw [HO.out]; rfl
              obtain ⟨p1, p2, p3, p4⟩ := HM7.out
              obtain ⟨r1, r2, r3, r4⟩ := HM8.out
              refine ⟨k + 1, by omega, by go_num, some ⟨g7, 0, none⟩, cap7, some ⟨g8, 0, none⟩, cap8, L + 1, rfl, rfl, by omega, Lib.hid ?_⟩
              rw [e, idsC_app, costsC_app, HC.out]
              have hq := HM5.out.2.1.lt.2
              exact ⟨by rw [List.length_append, HLn.out]; rfl, HM5.out.1.more hq p1 p3 p4 r1 r3 r4, (HM5.out.2.1.grown p3 (fun e => (HM5.out.1.2.2.1 _ e).1 rfl)).grown r3 (fun e => HM5.out.1.2.2.2 _ e rfl), r2⟩
            case measure => simp [intOf]; omega
    · obtain rfl : k = n := by omega
      go_wp2_with fail
      go_ret2
      have hl := HM.out.1
      subst hl
      exact ⟨a1, c1, a2, c2, rfl, HM.out.2.1.1, HM.out.2.1.2.1, HM.out.2.2.2.1⟩
end Go.Proofs.YthemlamdchcicaaGreatDoor

namespace Go.Proofs.YthemlamdchcicaaGreatDoor
open Go.ChangeShapes Go.WideShapes Go.ChangeAt Go.RowKit Go.Deep Go.Shelf Go.Sort

theorem names_size {xs : List Lst} (h : (xs.map Lst.name).Sublist names7) {i : Nat} (hi : i < xs.length) : (xs[i].name).size ≤ maxLen := by
  have h1 := h.subset (List.mem_map_of_mem (f := Lst.name) (List.getElem_mem hi))
  have h2 : ∀ s ∈ names7, s.size ≤ 20 := by decide +kernel
  have := h2 _ h1
  unfold maxLen
  omega
set_option maxRecDepth 100000 in
set_option maxHeartbeats 6400000 in
theorem validLasts_ok (xs : List Lst) (hs : (xs.map Lst.name).Sublist names7) (hx : ∀ x ∈ xs, x.Ok) (ao : Option Addr) (co B : Nat) (w : World) (hr : w.ownsRow B 37 6 (.slice ao xs.length co) xs.length (lsC xs)) :
    Calls Tryz.prog 24 #[.slice ao xs.length co] w fun e w' => e = .returned (.bool true) ∧ Below w.heap.size w w' := by
  have HS := Lib.hid hs
  have HX := Lib.hid hx
  have h7 := names_len hs
  have HR := Lib.hid hr
  obtain ⟨n, hn⟩ : ∃ n, xs.length = n := ⟨_, rfl⟩
  have HN := Lib.hid hn
  rw [hn] at h7 ⊢
  clear hs hx hr hn
  go_enter Tryz.func24, Tryz.ntmps24
  go_wp2_with fail
  go_loopw [7] (fun i wr => ∃ k : Nat, k ≤ n ∧ i = .int .i64 (k : Int) ∧ Hid (Below w.heap.size w wr)) (fun i _ => n - (intOf i).toNat)
  case atStart => exact ⟨0, Nat.zero_le _, rfl, Lib.hid (Below.refl _ _)⟩
  case round =>
    obtain ⟨k, hk, rfl, hbw⟩ := hrel
    by_cases hlt : k < n
    · have hlt' : (k : Int) < (n : Int) := by omega
      have hkx : k < xs.length := by rw [HN.out]; exact hlt
      obtain ⟨b, rfl⟩ : ∃ b, ao = some ⟨b, 0, none⟩ := by
        rcases own_form HR.out with h0 | h0
        · have := HN.out; omega
        · exact h0
      have hrw := own_below HR.out hbw.out
      obtain ⟨a0, a1, a2, a3, a4, a5⟩ := lsC_at xs k hkx
      have c0 := (hrw.cellAt (k * 6) (by omega)).trans a0
      have c1 := (hrw.cellAt (k * 6 + 1) (by omega)).trans a1
      have c2 := (hrw.cellAt (k * 6 + 2) (by omega)).trans a2
      have c3 := (hrw.cellAt (k * 6 + 3) (by omega)).trans a3
      have c4 := (hrw.cellAt (k * 6 + 4) (by omega)).trans a4
      have c5 := (hrw.cellAt (k * 6 + 5) (by omega)).trans a5
      have hbl := (own_block (b := b) hrw rfl).2
      have HV := Lib.hid (fun X => validLast_any xs[k].name xs[k].l xs[k].b xs[k].i xs[k].h xs[k].q X (names_size HS.out hkx))
      rw [lst_valid HS.out HX.out hkx] at HV
      clear a0 a1 a2 a3 a4 a5 hrw
      have HRise := Lib.hid (fun (hk0 : 0 < k) => (show ∃ s, (lsC xs)[(k - 1) * 6]? = some (.string s) ∧ Op.bytesLess s.toList xs[k].name.toList = true from by
        obtain ⟨j, rfl⟩ : ∃ j, k = j + 1 := ⟨k - 1, by omega⟩
        exact ⟨_, (lsC_at xs j (by omega)).1, names_rise HS.out hkx⟩))
      generalize xs[k].name = s at c0 HV HRise
      generalize xs[k].l = vl at c1 HV
      generalize xs[k].b = vb at c2 HV
      generalize xs[k].i = vi at c3 HV
      generalize xs[k].h = vh at c4 HV
      generalize xs[k].q = vq at c5 HV
      go_upto_region 4 with fail
      have HK := Lib.hid (show Obx (wr.alloc (.cells #[.string s, .int .i64 vl, .int .i64 vb, .int .i64 vi, .int .i64 vh, .int .i64 vq] 37)) w.heap.size wr.heap.size 37 6 [.string s, .int .i64 vl, .int .i64 vb, .int .i64 vi, .int .i64 vh, .int .i64 vq] from Obx.new wr w.heap.size 37 6 #[.string s, .int .i64 vl, .int .i64 vb, .int .i64 vi, .int .i64 vh, .int .i64 vq] hbw.out.size rfl)
      have hba := ((Bel.refl wr).alloc (.cells #[.string s, .int .i64 vl, .int .i64 vb, .int .i64 vi, .int .i64 vh, .int .i64 vq] 37)).1
      have HBa := Lib.hid (hbw.out.trans (hba.mono hbw.out.size))
      have HRa := Lib.hid (own_below HR.out HBa.out)
      have HLa := Lib.hid (own_block (b := b) HRa.out rfl)
      clear c0 c1 c2 c3 c4 c5 hbl hba
      generalize wr.alloc (.cells #[.string s, .int .i64 vl, .int .i64 vb, .int .i64 vi, .int .i64 vh, .int .i64 vq] 37) = W4 at HK HBa HRa HLa ⊢
      generalize wr.heap.size = qx at HK ⊢
      obtain ⟨⟨x0, x1, x2, x3, x4, x5⟩, _, _⟩ := HK.out.six
      have k0 := cell_regrown x0
      have k1 := cell_regrown x1
      have k2 := cell_regrown x2
      have k3 := cell_regrown x3
      have k4 := cell_regrown x4
      have k5 := cell_regrown x5
      have cV : ∀ q os, Calls Tryz.prog 28 #[.agg #[.string s, .int .i64 vl, .int .i64 vb, .int .i64 vi, .int .i64 vh, .int .i64 vq]] (grow (redrawn W4 q) os) fun e w'' => e = .returned (.bool true) ∧ ∃ p : Regrown, w'' = grow (redrawn W4 p.d) p.os := fun q os => Calls.regrown_of (HV.out _)
      clear x0 x1 x2 x3 x4 x5
      by_cases hk0 : 0 < k
      · obtain ⟨s', hs', hlt9⟩ := HRise.out hk0
        obtain ⟨j, rfl⟩ : ∃ j, k = j + 1 := ⟨k - 1, by omega⟩
        have c9 : W4.cell? ⟨b, j * 6, none⟩ = some (.string s') := (HRa.out.cellAt (j * 6) (by omega)).trans hs'
        have k9 := cell_regrown c9
        have hk0' : (0 : Int) < (j : Int) + 1 := by omega
        have hjn : (j : Int) < (n : Int) := by omega
        have v2 : IntKind.i64.wrap ((j : Int) + 1 - 1) = (j : Int) := by rw [IntWalk.i64_in _ (by omega)]; omega
        have v3 : IntKind.i64.wrap (j : Int) = (j : Int) := IntWalk.i64_in _ (by omega)
        clear hs' c9
        refine wp_region_quiet_below (by kernel_rfl) (by kernel_rfl) ?_
        repeat (quiet_step (with_reducible exact cV _ _))
        refine wpQuiet_nil ?_
        intro _ hw'
        obtain ⟨⟨dq, osq⟩, hw''⟩ := hw'
        subst hw''
        have HBz := Lib.hid (HBa.out.trans ((below_regrown W4 dq osq).mono HBa.out.size))
        clear k0 k1 k2 k3 k4 k5 k9 cV
        go_wp2_with fail
        go_roundw
        case rel => exact ⟨j + 1 + 1, by omega, by go_num, HBz⟩
        case measure => simp [intOf]; omega
      · obtain rfl : k = 0 := by omega
        refine wp_region_quiet_below (by kernel_rfl) (by kernel_rfl) ?_
        repeat (go_big_quiet_step (with_reducible exact cV _ _))
        refine wpQuiet_nil ?_
        intro _ hw'
        obtain ⟨⟨dq, osq⟩, hw''⟩ := hw'
        subst hw''
        have HBz := Lib.hid (HBa.out.trans ((below_regrown W4 dq osq).mono HBa.out.size))
        clear k0 k1 k2 k3 k4 k5 cV
        go_wp2_with fail
        go_roundw
        case rel => exact ⟨0 + 1, by omega, by go_num, HBz⟩
        case measure => simp [intOf]; omega
    · obtain rfl : k = n := by omega
      have hn30 : (k : Int) ≤ 30 := by omega
      go_wp2_with fail
      go_ret
      exact ⟨rfl, hbw.out⟩
end Go.Proofs.YthemlamdchcicaaGreatDoor

namespace Go.Proofs.YthemlamdchcicaaGreatDoor
open Go.ChangeShapes Go.WideShapes Go.ChangeAt Go.RowKit Go.Deep Go.Shelf

/-- The first of the allowed ones with the least cost, or none is allowed. -/
def BestSo (ok : Nat → Bool) (cost : Nat → Int) (n : Nat) (v c : Int) : Prop :=
  (c = 10 ∧ ∀ j, j < n → ok j = false) ∨ (∃ q : Nat, v = (q : Int) ∧ c = 0 ∧ q < n ∧ ok q = true ∧ ∀ j, j < n → ok j = true → cost q ≤ cost j)
def BestEnd (w : World) (ok : Nat → Bool) (cost : Nat → Int) (n : Nat) (e : Ending) (w' : World) : Prop :=
  ∃ v c : Int, e = .returned (.tuple #[.int .i64 v, .int .i64 c]) ∧ BestSo ok cost n v c ∧ Below w.heap.size w w'
set_option maxRecDepth 100000 in
set_option maxHeartbeats 6400000 in
theorem cheapest_any (ok : Nat → Bool) (cost : Nat → Int) (n : Nat) (hn : n ≤ 7) (ao : Option Addr) (co : Nat) (mn mx gi : Int) (aw : Option Addr) (cw qf cf : Nat) (w : World)
    (hA : ∀ W, Below w.heap.size w W → Calls Tryz.prog 54 #[.slice ao n co, .agg #[.int .i64 mn, .int .i64 mx, .int .i64 gi, .slice aw 4 cw], .slice (some ⟨qf, 0, none⟩) 1 cf] W (AllowEnd W ok cost n)) :
    Calls Tryz.prog 27 #[.slice ao n co, .agg #[.int .i64 mn, .int .i64 mx, .int .i64 gi, .slice aw 4 cw], .slice (some ⟨qf, 0, none⟩) 1 cf] w (BestEnd w ok cost n) := by
  have HA := Lib.hid hA
  obtain ⟨W, hW⟩ : ∃ W, w.alloc (.cells #[.int .i64 mn, .int .i64 mx, .int .i64 gi, .slice aw 4 cw] 31) = W := ⟨_, rfl⟩
  have HT := Lib.hid (show Obx W w.heap.size w.heap.size 31 4 [.int .i64 mn, .int .i64 mx, .int .i64 gi, .slice aw 4 cw] by rw [← hW]; exact Obx.new w w.heap.size 31 4 #[.int .i64 mn, .int .i64 mx, .int .i64 gi, .slice aw 4 cw] (Nat.le_refl _) rfl)
  have HB := Lib.hid (show Bel w.heap.size w W by rw [← hW]; exact (Bel.refl w).alloc _)
  have HW := Lib.hid hW
  clear hA hW
  go_enter Tryz.func27, Tryz.ntmps27
  go_upto_region 1 with fail
  rw [HW.out]
  obtain ⟨t0, t1, t2, t3⟩ := HT.out.four0
  go_wp2_with fail
  refine (HA.out W HB.out.1).mono ?_
  rintro e w2 ⟨a1, c1, a2, c2, rfl, ho1, ho2, hb2⟩
  clear t0 t1 t2 t3
  have HB2 := Lib.hid (HB.out.step hb2)
  have HO := Lib.hid (And.intro ho1 ho2)
  have hle := allowTo_len ok n
  obtain ⟨l, hl⟩ : ∃ l, allowTo ok n = l := ⟨_, rfl⟩
  have HLl := Lib.hid hl
  rw [hl] at HO hle ⊢
  obtain ⟨L, hL⟩ : ∃ L, l.length = L := ⟨_, rfl⟩
  have HL := Lib.hid hL
  rw [hL] at HO hle ⊢
  clear ho1 ho2 hb2 hl hL
  by_cases h0 : L = 0
  · subst h0
    have hnone : ∀ j, j < n → ok j = false := fun j hj => by
      cases h : ok j with
      | false => rfl
      | true =>
        have h1 := (mem_allowTo ok j n).2 ⟨hj, h⟩
        rw [HLl.out, List.eq_nil_of_length_eq_zero HL.out] at h1
        cases h1
    have HN := Lib.hid hnone
    clear hnone
    go_wp2_with fail
    go_ret2
    exact ⟨0, 10, rfl, .inl ⟨rfl, HN.out⟩, HB2.out.1⟩
  · have h0' : ((L : Int) == 0) = false := by simp; omega
    obtain ⟨b1, rfl⟩ : ∃ b, a1 = some ⟨b, 0, none⟩ := by
      rcases own_form HO.out.1 with h | h
      · omega
      · exact h
    obtain ⟨b2, rfl⟩ : ∃ b, a2 = some ⟨b, 0, none⟩ := by
      rcases own_form HO.out.2 with h | h
      · omega
      · exact h
    obtain ⟨J, hJ, hJm, hJf⟩ := first_least (fun i => cost (l.getD i 0)) L (by omega)
    have hcells : ∀ j, j < L → w2.cell? ⟨b2, j, none⟩ = some (.int .i64 ((fun i => cost (l.getD i 0)) j)) := fun j hj => by
      have h := HO.out.2.cellAt j (by omega)
      rw [h]
      have hj2 : j < l.length := by rw [HL.out]; exact hj
      simp [costsC, List.getD, List.getElem?_eq_getElem hj2]
    obtain ⟨x, hx⟩ : ∃ x, l.getD J 0 = x := ⟨_, rfl⟩
    have c0 : w2.cell? ⟨b1, J, none⟩ = some (.int .i64 (x : Int)) := by
      have h := HO.out.1.cellAt J (by omega)
      rw [h]
      have hj2 : J < l.length := by rw [HL.out]; exact hJ
      rw [← hx]
      simp [idsC, List.getD, List.getElem?_eq_getElem hj2]
    have hbest : x < n ∧ ok x = true ∧ ∀ j, j < n → ok j = true → cost x ≤ cost j := by
      have hj2 : J < (allowTo ok n).length := by rw [HLl.out, HL.out]; exact hJ
      have e : (allowTo ok n)[J] = x := by
        rw [← hx, ← HLl.out, List.getD_eq_getElem?_getD, List.getElem?_eq_getElem hj2]; rfl
      have h := best_allowed ok cost n J hj2 (by
        have h2 : cost (l.getD J 0) = minTo (fun i => cost (l.getD i 0)) (L - 1) := hJm
        rw [hx] at h2
        rw [e, HLl.out, HL.out]
        exact h2)
      rw [e] at h
      exact h
    have HBe := Lib.hid hbest
    have HMin := Lib.hid (min_any b2 L c2 (fun i => cost (l.getD i 0)) w2 ⟨by omega, by omega⟩ hcells)
    have HIdx := Lib.hid (index_any b2 L c2 J (fun i => cost (l.getD i 0)) _ w2 (by omega) hJ hJm hJf hcells)
    have hJi : (J : Int) < (L : Int) := by omega
    generalize minTo (fun i => cost (l.getD i 0)) (L - 1) = m at HMin HIdx
    clear hcells hJm hJf hx hbest
    go_wp2_with (first
      | (go_at_call 56; refine HMin.out.mono ?_; rintro e w3 ⟨rfl, rfl⟩)
      | (go_at_call 55; refine HIdx.out.mono ?_; rintro e w3 ⟨rfl, rfl⟩)
      | fail)
    go_ret2
    exact ⟨x, 0, rfl, .inr ⟨x, rfl, rfl, HBe.out⟩, HB2.out.1⟩
set_option maxRecDepth 100000 in
set_option maxHeartbeats 6400000 in
theorem bestLast_any (xs : List Lst) (hs : (xs.map Lst.name).Sublist names7) (hx : ∀ x ∈ xs, x.Ok) (ao : Option Addr) (co B : Nat) (fl fb fi fh mn mx gi w0 w1 w2 w3 : Int) (aw : Option Addr) (cw : Nat) (w : World)
    (hr : w.ownsRow B 37 6 (.slice ao xs.length co) xs.length (lsC xs)) (hf : ∀ z ∈ [fl, fb, fi, fh], 500 ≤ z ∧ z ≤ 5000) (hk : FitOk mn mx gi [w0, w1, w2, w3]) (hc : CellsAt w aw ([w0, w1, w2, w3].map (Value.int .i64))) :
    Calls Tryz.prog 8 #[.slice ao xs.length co, .agg #[.int .i64 fl, .int .i64 fb, .int .i64 fi, .int .i64 fh], .agg #[.int .i64 mn, .int .i64 mx, .int .i64 gi, .slice aw 4 cw]] w
      (BestEnd w (okN xs fl fb fi fh mn mx gi) (costN xs fl fb fi fh mn w0 w1 w2 w3) xs.length) := by
  have h7 := names_len hs
  have H1 := Lib.hid (fun W (hb : Below w.heap.size w W) => validLasts_ok xs hs hx ao co B W (own_below hr hb))
  have H2 := Lib.hid (fun W => validFoot_any fl fb fi fh W)
  rw [footB_of hf] at H2
  have H3 := Lib.hid (fun W (hb : Below w.heap.size w W) => validFit_ok mn mx gi aw cw [w0, w1, w2, w3] W hk (hc.below hb))
  have H4 := Lib.hid (fun (W : World) (Bf qf cf : Nat) (hb : Below w.heap.size w W) (hq : Obx W Bf qf 25 4 [.int .i64 fl, .int .i64 fb, .int .i64 fi, .int .i64 fh]) =>
    cheapest_any (okN xs fl fb fi fh mn mx gi) (costN xs fl fb fi fh mn w0 w1 w2 w3) xs.length h7 ao co mn mx gi aw cw qf cf W (fun X hX => allowed_any xs hs hx ao co B fl fb fi fh mn mx gi w0 w1 w2 w3 aw cw qf Bf cf X (own_below hr (hb.trans (hX.mono hb.size))) hf hk (hc.below (hb.trans (hX.mono hb.size))) (hq.below hX)))
  generalize okN xs fl fb fi fh mn mx gi = ok at H4 ⊢
  generalize costN xs fl fb fi fh mn w0 w1 w2 w3 = cost at H4 ⊢
  clear hr hf hk hc hs hx
  generalize xs.length = n at h7 H1 H4 ⊢
  obtain ⟨W, hW⟩ : ∃ W, (w.alloc (.cells #[.int .i64 fl, .int .i64 fb, .int .i64 fi, .int .i64 fh] 25)).alloc (.cells #[.int .i64 mn, .int .i64 mx, .int .i64 gi, .slice aw 4 cw] 31) = W := ⟨_, rfl⟩
  have HF := Lib.hid (show Obx W w.heap.size w.heap.size 25 4 [.int .i64 fl, .int .i64 fb, .int .i64 fi, .int .i64 fh] by rw [← hW]; exact (Obx.new w w.heap.size 25 4 #[.int .i64 fl, .int .i64 fb, .int .i64 fi, .int .i64 fh] (Nat.le_refl _) rfl).alloc _)
  have HT := Lib.hid (show Obx W w.heap.size (w.heap.size + 1) 31 4 [.int .i64 mn, .int .i64 mx, .int .i64 gi, .slice aw 4 cw] by
    rw [← hW]
    have h := Obx.new (w.alloc (.cells #[.int .i64 fl, .int .i64 fb, .int .i64 fi, .int .i64 fh] 25)) w.heap.size 31 4 #[.int .i64 mn, .int .i64 mx, .int .i64 gi, .slice aw 4 cw] (by simp) rfl
    simpa using h)
  have HB := Lib.hid (show Bel w.heap.size w W by rw [← hW]; exact ((Bel.refl w).alloc _).alloc _)
  have HW := Lib.hid hW
  clear hW
  go_enter Tryz.func8, Tryz.ntmps8
  go_upto_region 1 with fail
  rw [HW.out]
  go_wp2_with fail
  refine (H1.out W HB.out.1).mono ?_
  rintro e w1 ⟨rfl, hb1⟩
  have HB1 := Lib.hid (HB.out.step hb1)
  have HF1 := Lib.hid (HF.out.below hb1)
  have HT1 := Lib.hid (HT.out.below hb1)
  clear hb1
  obtain ⟨f0, f1, f2, f3⟩ := HF1.out.four0
  go_wp2_with fail
  refine (H2.out w1).mono ?_
  rintro e w2 ⟨rfl, hb2⟩
  have HB2 := Lib.hid (HB1.out.step hb2)
  have HF2 := Lib.hid (HF1.out.below hb2)
  have HT2 := Lib.hid (HT1.out.below hb2)
  clear hb2 f0 f1 f2 f3
  obtain ⟨t0, t1, t2, t3⟩ := HT2.out.four0
  go_wp2_with fail
  refine (H3.out w2 HB2.out.1).mono ?_
  rintro e w3 ⟨rfl, hb3⟩
  have HB3 := Lib.hid (HB2.out.step hb3)
  have HF3 := Lib.hid (HF2.out.below hb3)
  have HT3 := Lib.hid (HT2.out.below hb3)
  clear hb3 t0 t1 t2 t3
  obtain ⟨t0, t1, t2, t3⟩ := HT3.out.four0
  obtain ⟨f0, f1, f2, f3⟩ := HF3.out.four0
  go_wp2_with fail
  refine (H4.out (w3.alloc (.cells #[.int .i64 fl, .int .i64 fb, .int .i64 fi, .int .i64 fh] 25)) w.heap.size w3.heap.size 1 (HB3.out.alloc _).1 (Obx.new w3 w.heap.size 25 4 #[.int .i64 fl, .int .i64 fb, .int .i64 fi, .int .i64 fh] HB3.out.2 rfl)).mono ?_
  rintro e w4 ⟨v, c, rfl, hso, hb4⟩
  have HE := Lib.hid (And.intro hso ((HB3.out.alloc _).step hb4))
  clear hso hb4 t0 t1 t2 t3 f0 f1 f2 f3
  go_wp2_with fail
  go_ret2
  exact ⟨v, c, rfl, HE.out.1, HE.out.2.1⟩
end Go.Proofs.YthemlamdchcicaaGreatDoor
