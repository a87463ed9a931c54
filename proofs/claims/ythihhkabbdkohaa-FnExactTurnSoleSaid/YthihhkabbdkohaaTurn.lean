/-
  Contracts of TurnSole, both sides. No condition of its own.
-/
import Derived.Test.YthihhkabbdkohaaSole
import Derived.Test.YthihhkabbdkohaaReverse
import Derived.Test.YthihhkabbdkohaaClone
import Derived.Test.YthihhkabbdkohaaStep
import Derived.Deep.AppendLies
import Derived.Deep.RegionLaw
namespace Go.Proofs.Ythihhkabbdkohaa
open Go.ChangeShapes Go.WideShapes Go.ChangeAt Go.RowKit Go.Deep Go.Shelf

def tuC (S : Nat → ByteArray × Int × Int × Int × Int) (n : Nat) (zs : List Int) (m : Nat) : Int := if soleB S n zs m then 0 else 1
def tuF (S : Nat → ByteArray × Int × Int × Int × Int) (n : Nat) (zs : List Int) (m : Nat) : List Int := if soleB S n zs m then zs.reverse else []
/-- What a function answers with a new sole and a code. -/
def SoleEnd (w : World) (ds : List Int) (c : Int) (e : Ending) (w' : World) : Prop :=
  ∃ a n cap, e = .returned (.tuple #[.agg #[.slice a n cap], .int .i64 c]) ∧ ds.length = n ∧ n ≤ 1048576 ∧ w'.ownsRow w.heap.size 2 1 (.slice a n cap) n (ds.map (Value.int .i64)) ∧ Below w.heap.size w w'
theorem soleEnd_fail {w w' : World} {c : Int} (hb : Below w.heap.size w w') : SoleEnd w [] c (.returned (.tuple #[.agg #[.slice none 0 0], .int .i64 c])) w' :=
  ⟨none, 0, 0, rfl, rfl, by omega, World.ownsRow_nil _ _ _ _, hb⟩

/-- A variable of one cell. -/
def Cel (W : World) (B q E : Nat) (v : Value) : Prop := W.ownsRow B E 1 (.slice (some ⟨q, 0, none⟩) 1 1) 1 [v]
theorem cel_new (W : World) (B E : Nat) (v : Value) (hB : B ≤ W.heap.size) : Cel (W.alloc (.cells #[v] E)) B W.heap.size E v :=
  own_base (World.ownsRow_lit (base := W.heap.size) (size := 1) (e := E) W #[v] 1 (Nat.le_refl _) (by unfold maxLen; omega) (by simp)) hB
theorem Cel.cell {W : World} {B q E : Nat} {v : Value} (h : Cel W B q E v) : W.cell? ⟨q, 0, none⟩ = some v ∧ W.frozen? ⟨q, 0, none⟩ = false ∧ B ≤ q ∧ q < W.heap.size := by
  unfold Cel at h
  exact ⟨by rw [h.cellAt 0 (by omega)]; rfl, h.frozenAt 0, own_block h rfl⟩
theorem Cel.set {W : World} {B q E : Nat} {v : Value} (h : Cel W B q E v) (u : Value) : Cel (W.setCell ⟨q, 0, none⟩ u) B q E u ∧ W.grownBy (W.setCell ⟨q, 0, none⟩ u) (some q) := by
  unfold Cel at h ⊢
  exact h.stored 0 u
theorem Cel.below {W W' : World} {B q E : Nat} {v : Value} (h : Cel W B q E v) (hb : Below W.heap.size W W') : Cel W' B q E v := own_below h hb
theorem Cel.grown {W W' : World} {B q E : Nat} {v : Value} {row : Option Nat} (h : Cel W B q E v) (hg : W.grownBy W' row) (hr : row ≠ some q) : Cel W' B q E v :=
  own_grown_ne h hg (fun b hb e => hr (by have h1 : q = b := (by simpa [Value.ownBlock] using hb); rw [e, h1]))
theorem Cel.set_other {W : World} {B q E q' : Nat} {v : Value} (h : Cel W B q E v) (u : Value) (hq : q' ≠ q) : Cel (W.setCell ⟨q', 0, none⟩ u) B q E v :=
  h.grown (grown_set W q' 0 u) (fun e => hq (by simpa using e))

set_option maxRecDepth 100000 in
set_option maxHeartbeats 3200000 in
theorem implTurn (a : Option Addr) (n c : Nat) (S : Nat → ByteArray × Int × Int × Int × Int) (gb m d : Nat) (zs : List Int) (w : World) (hnc : n ≤ c) (hn : n ≤ 1048576) (hok : StfOk S n) (ha : CellsAt w a (stfC S n)) (hl : zs.length = m) (hm : m ≤ 1048576) (hb : CellsAt w (some ⟨gb, 0, none⟩) (zs.map (Value.int .i64))) :
    Calls Try.prog 21 #[.slice a n c, .agg #[.slice (some ⟨gb, 0, none⟩) m d]] w (SoleEnd w (tuF S n zs m) (tuC S n zs m)) := by
  have H1 := Lib.hid (fun W (h : Below w.heap.size w W) => implSole a n c S (some ⟨gb, 0, none⟩) m d zs W hnc hn hok (ha.below h) hl hm (hb.below h))
  have H2 := Lib.hid (fun W (h : Below w.heap.size w W) => cloneI_any gb m d zs W hl (by omega) (hb.below h))
  have HB := Lib.hid (((Bel.refl w).alloc (.cells #[.slice (some ⟨gb, 0, none⟩) m d] 34)).alloc (.cells #[.slice none 0 0] 34))
  have HL := Lib.hid hl
  clear hok ha hl hb
  cases q1 : soleB S n zs m with
  | false =>
    rw [show tuF S n zs m = [] by simp [tuF, q1], show tuC S n zs m = 1 by simp [tuC, q1]]
    have K1 := Lib.hid (fun W h => callsB (H1.out W h) q1)
    clear q1 H1
    go_enter Try.func21, Try.ntmps21
    go_wp2_with fail
    refine (K1.out _ HB.out.1).mono ?_
    rintro e w1 ⟨rfl, hb1⟩
    have HB1 := Lib.hid (HB.out.step hb1)
    have c1 : w1.cell? ⟨w.heap.size + 1, 0, none⟩ = some (.slice none 0 0) := (hb1.cell (p := ⟨w.heap.size + 1, 0, none⟩) (by simp)).trans (by simp [go_sem])
    have f1 : w1.frozen? ⟨w.heap.size + 1, 0, none⟩ = false := (hb1.frozen (p := ⟨w.heap.size + 1, 0, none⟩) (by simp)).trans (by simp [go_sem])
    have s1 := World.block_lt_of_cell? w1 _ c1
    clear hb1
    go_wp2_with fail
    refine bodyPost_ret (v := .tuple #[.agg #[.slice none 0 0], .int .i64 1]) (by simp [results, Try.results21, go_sem, c1]) rfl ?_
    exact soleEnd_fail (HB1.out.setCell (by simp) _).1
  | true =>
    obtain ⟨_, _, m1, m6, _⟩ := soleB_ok q1 HL.out
    rw [show tuF S n zs m = zs.reverse by simp [tuF, q1], show tuC S n zs m = 0 by simp [tuC, q1]]
    have K1 := Lib.hid (fun W h => callsB (H1.out W h) q1)
    clear q1 H1
    go_enter Try.func21, Try.ntmps21
    go_wp2_with fail
    refine (K1.out _ HB.out.1).mono ?_
    rintro e w1 ⟨rfl, hb1⟩
    have HB1 := Lib.hid (HB.out.step hb1)
    have c0 : w1.cell? ⟨w.heap.size, 0, none⟩ = some (.slice (some ⟨gb, 0, none⟩) m d) := (hb1.cell (p := ⟨w.heap.size, 0, none⟩) (by simp; try omega)).trans (by simp [go_sem])
    have C1 := Lib.hid (Cel.below (show Cel ((w.alloc (.cells #[.slice (some ⟨gb, 0, none⟩) m d] 34)).alloc (.cells #[.slice none 0 0] 34)) w.heap.size (w.heap.size + 1) 34 (.slice none 0 0) from by have h := cel_new (w.alloc (.cells #[.slice (some ⟨gb, 0, none⟩) m d] 34)) w.heap.size 34 (.slice none 0 0) (by simp); simpa using h) hb1)
    have s0 := World.block_lt_of_cell? w1 _ c0
    clear hb1
    go_wp2_with fail
    refine (H2.out _ HB1.out.1).mono ?_
    rintro e w2 ⟨ag, cap, rfl, ho2, hb2⟩
    obtain ⟨g, rfl⟩ : ∃ g, ag = some ⟨g, 0, none⟩ := by
      rcases own_form ho2 with h | h
      · omega
      · exact h
    have HG := Lib.hid (own_block ho2 rfl)
    have HB3 := Lib.hid ((HB1.out.step hb2).alloc (.cells #[.slice (some ⟨g, 0, none⟩) m cap] 34))
    have HC3 := Lib.hid ((C1.out.below hb2).below ((Below.refl _ _).alloc (Nat.le_refl _) (.cells #[.slice (some ⟨g, 0, none⟩) m cap] 34)))
    have HO3 := Lib.hid (own_base (ho2.alloc (.cells #[.slice (some ⟨g, 0, none⟩) m cap] 34)) HB1.out.2)
    clear ho2 hb2 c0 s0
    go_wp2_with fail
    refine (reverse_any g m cap w.heap.size zs _ HL.out hm HO3.out).mono ?_
    rintro e w4 ⟨rfl, ho4, hg4⟩
    have hg := HG.out
    have hq4 : w4.cell? ⟨w2.heap.size, 0, none⟩ = some (.slice (some ⟨g, 0, none⟩) m cap) := (hg4.cell_far ⟨w2.heap.size, 0, none⟩ (by simp) (fun e => by have h1 : w2.heap.size = g := (by simpa [Value.ownBlock] using e); omega)).trans (by simp [go_sem])
    have HC4 := Lib.hid (HC3.out.grown hg4 (fun e => by have h1 : g = w.heap.size + 1 := (by simpa [Value.ownBlock] using e); have := HB1.out.2; have := C1.out.cell.2.2.2; omega))
    have HB4 := Lib.hid (HB3.out.grown hg4 (fun k h => by have h1 : g = k := (by simpa [Value.ownBlock] using h); have := HB1.out.2; omega))
    have HO4 := Lib.hid ho4
    obtain ⟨c4, f4, b4, s4⟩ := HC4.out.cell
    have s4' := World.block_lt_of_cell? w4 _ hq4
    clear hg4 ho4 b4 hg
    go_wp2_with fail
    refine bodyPost_ret (v := .tuple #[.agg #[.slice (some ⟨g, 0, none⟩) m cap], .int .i64 0]) (by simp [results, Try.results21, go_sem, c4]) rfl ?_
    exact ⟨_, _, _, rfl, by rw [List.length_reverse, HL.out], hm, own_set HO4.out _ _ _ (fun e => by have h1 : g = w.heap.size + 1 := (by simpa [Value.ownBlock] using e); have := HG.out; have := HB1.out.2; have := C1.out.cell.2.2.2; omega), (HB4.out.setCell (by simp) _).1⟩
/-- The first k numbers from behind. -/
def backL (zs : List Int) (k : Nat) : List Int := zs.reverse.take k
theorem backL_step {zs : List Int} {m k J : Nat} {x : Int} (hl : zs.length = m) (hk : k + J + 1 = m) (hx : zs.getD J 0 = x) : backL zs k ++ [x] = backL zs (k + 1) := by
  unfold backL
  rw [List.take_add_one]
  congr 1
  have hlt : k < zs.reverse.length := by simp; omega
  rw [List.getElem?_eq_getElem hlt, List.getElem_reverse]
  have e : zs.length - 1 - k = J := by omega
  simp only [e, Option.toList]
  rw [← hx]
  simp [List.getElem?_eq_getElem (show J < zs.length by omega)]
theorem backL_end {zs : List Int} {m : Nat} (hl : zs.length = m) : backL zs m = zs.reverse := by
  unfold backL
  rw [List.take_of_length_le (by simp; omega)]
theorem backL_length {zs : List Int} {m k : Nat} (hl : zs.length = m) (hk : k ≤ m) : (backL zs k).length = k := by
  unfold backL
  simp; omega
set_option maxRecDepth 100000 in
set_option maxHeartbeats 6400000 in
theorem specTurn (a : Option Addr) (n c : Nat) (S : Nat → ByteArray × Int × Int × Int × Int) (gb m d : Nat) (zs : List Int) (w : World) (hn : n ≤ 1048576) (hok : StfOk S n) (ha : CellsAt w a (stfC S n)) (hl : zs.length = m) (hm : m ≤ 1048576) (hb : CellsAt w (some ⟨gb, 0, none⟩) (zs.map (Value.int .i64))) :
    Calls Try.prog 20 #[.slice a n c, .agg #[.slice (some ⟨gb, 0, none⟩) m d]] w (SoleEnd w (tuF S n zs m) (tuC S n zs m)) := by
  have HB := Lib.hid (((Bel.refl w).alloc (.cells #[.slice (some ⟨gb, 0, none⟩) m d] 34)).alloc (.cells #[.slice none 0 0] 34))
  have H1 := Lib.hid (l17Sole_any a n c S (some ⟨gb, 0, none⟩) m d w.heap.size zs _ hn hok (ha.below HB.out.1) hl hm (hb.below HB.out.1) (by simp [go_sem]))
  have HZ := Lib.hid hb
  have HL := Lib.hid hl
  clear hok ha hl hb
  cases q1 : soleB S n zs m with
  | false =>
    rw [show tuF S n zs m = [] by simp [tuF, q1], show tuC S n zs m = 1 by simp [tuC, q1]]
    have K1 := Lib.hid (callsB H1.out q1)
    clear q1 H1
    go_enter Try.func20, Try.ntmps20
    go_wp2_with fail
    refine K1.out.mono ?_
    rintro e w1 ⟨rfl, hb1⟩
    have HB1 := Lib.hid (HB.out.step hb1)
    have c1 : w1.cell? ⟨w.heap.size + 1, 0, none⟩ = some (.slice none 0 0) := (hb1.cell (p := ⟨w.heap.size + 1, 0, none⟩) (by simp)).trans (by simp [go_sem])
    have f1 : w1.frozen? ⟨w.heap.size + 1, 0, none⟩ = false := (hb1.frozen (p := ⟨w.heap.size + 1, 0, none⟩) (by simp)).trans (by simp [go_sem])
    have s1 := World.block_lt_of_cell? w1 _ c1
    clear hb1
    go_wp2_with fail
    refine bodyPost_ret (v := .tuple #[.agg #[.slice none 0 0], .int .i64 1]) (by simp [results, Try.results20, go_sem, c1]) rfl ?_
    exact soleEnd_fail (HB1.out.setCell (by simp) _).1
  | true =>
    obtain ⟨_, _, m1, m6, _⟩ := soleB_ok q1 HL.out
    rw [show tuF S n zs m = zs.reverse by simp [tuF, q1], show tuC S n zs m = 0 by simp [tuC, q1]]
    have K1 := Lib.hid (callsB H1.out q1)
    clear q1 H1
    go_enter Try.func20, Try.ntmps20
    go_wp2_with fail
    refine K1.out.mono ?_
    rintro e w1 ⟨rfl, hb1⟩
    have HB1 := Lib.hid (HB.out.step hb1)
    have c0 : w1.cell? ⟨w.heap.size, 0, none⟩ = some (.slice (some ⟨gb, 0, none⟩) m d) := (hb1.cell (p := ⟨w.heap.size, 0, none⟩) (by simp; try omega)).trans (by simp [go_sem])
    have C1 := Lib.hid (Cel.below (show Cel ((w.alloc (.cells #[.slice (some ⟨gb, 0, none⟩) m d] 34)).alloc (.cells #[.slice none 0 0] 34)) w.heap.size (w.heap.size + 1) 34 (.slice none 0 0) from by have h := cel_new (w.alloc (.cells #[.slice (some ⟨gb, 0, none⟩) m d] 34)) w.heap.size 34 (.slice none 0 0) (by simp); simpa using h) hb1)
    have D1 := Lib.hid (Cel.below (show Cel ((w.alloc (.cells #[.slice (some ⟨gb, 0, none⟩) m d] 34)).alloc (.cells #[.slice none 0 0] 34)) w.heap.size w.heap.size 34 (.slice (some ⟨gb, 0, none⟩) m d) from (cel_new w w.heap.size 34 (.slice (some ⟨gb, 0, none⟩) m d) (Nat.le_refl _)).below ((Below.refl _ _).alloc (Nat.le_refl _) _)) hb1)
    have s0 := World.block_lt_of_cell? w1 _ c0
    have s1 := C1.out.cell.2.2.2
    have hz1 := HZ.out.below HB1.out.1
    obtain ⟨bb, ob, hbe, hbb, hcc⟩ := HZ.out.at_ (by have := HL.out; simp; omega)
    obtain ⟨rfl, rfl⟩ : gb = bb ∧ 0 = ob := by simpa using hbe
    have HCC := Lib.hid hcc
    have v0 : IntKind.i64.wrap ((m : Int) - 1) = (m : Int) - 1 := IntWalk.i64_in _ (by omega)
    clear hb1 hbe hcc hz1
    go_wp2_with fail
    have HW := Lib.hid (show w.heap.size + 1 < w1.heap.size from s1)
    have CA := Lib.hid ((C1.out.below ((Below.refl _ _).alloc (Nat.le_refl _) (.cells #[] 2))).below ((Below.refl _ _).alloc (Nat.le_refl _) (.cells #[.slice (some ⟨w1.heap.size, 0, none⟩) 0 0] 34)))
    have DA := Lib.hid ((D1.out.below ((Below.refl _ _).alloc (Nat.le_refl _) (.cells #[] 2))).below ((Below.refl _ _).alloc (Nat.le_refl _) (.cells #[.slice (some ⟨w1.heap.size, 0, none⟩) 0 0] 34)))
    have BA := Lib.hid ((HB1.out.alloc (.cells #[] 2)).alloc (.cells #[.slice (some ⟨w1.heap.size, 0, none⟩) 0 0] 34))
    have QA := Lib.hid (show Cel ((w1.alloc (.cells #[] 2)).alloc (.cells #[.slice (some ⟨w1.heap.size, 0, none⟩) 0 0] 34)) w.heap.size (w1.heap.size + 1) 34 (.slice (some ⟨w1.heap.size, 0, none⟩) 0 0) from by have h := cel_new (w1.alloc (.cells #[] 2)) w.heap.size 34 (.slice (some ⟨w1.heap.size, 0, none⟩) 0 0) (by simp; omega); simpa using h)
    have OA := Lib.hid (own_base ((own_none' w1 w1.heap.size 2 1 (Nat.le_refl _)).alloc (.cells #[.slice (some ⟨w1.heap.size, 0, none⟩) 0 0] 34)) HB1.out.2)
    go_loopw [7] (fun u wr => ∃ k : Nat, k ≤ m ∧ (∃ z : Int, u = .int .i64 z ∧ Hid (z = (m : Int) - 1 - k)) ∧ ∃ (ao : Option Addr) (co : Nat), Hid (Cel wr w.heap.size (w1.heap.size + 1) 34 (.slice ao k co)) ∧ Hid (Cel wr w.heap.size w.heap.size 34 (.slice (some ⟨gb, 0, none⟩) m d)) ∧ Hid (Cel wr w.heap.size (w.heap.size + 1) 34 (.slice none 0 0)) ∧ Hid (wr.ownsRow w.heap.size 2 1 (.slice ao k co) k ((backL zs k).map (Value.int .i64))) ∧ Hid (∀ b, (Value.slice ao k co).ownBlock = some b → b ≠ w1.heap.size + 1 ∧ w.heap.size + 1 < b) ∧ Hid (Bel w.heap.size w wr)) (fun u _ => (intOf u + 1).toNat)
    case atStart => exact ⟨0, Nat.zero_le _, ⟨_, rfl, Lib.hid (by omega)⟩, some ⟨w1.heap.size, 0, none⟩, 0, QA, DA, CA, OA, Lib.hid (fun b hb => by have h1 : w1.heap.size = b := (by simpa [Value.ownBlock] using hb); have := HW.out; omega), BA⟩
    case round =>
      obtain ⟨k, hk, ⟨z, rfl, hz⟩, ao, co, hq, hd, hc, hown, hfar, hbw⟩ := hrel
      clear CA DA BA QA OA c0 s0 s1
      by_cases hlt : k < m
      · obtain ⟨J, hJ⟩ : ∃ J : Nat, k + J + 1 = m := ⟨m - 1 - k, by omega⟩
        obtain rfl : z = (J : Int) := by rw [hz.out]; omega
        obtain ⟨x, hx⟩ : ∃ x, zs.getD J 0 = x := ⟨_, rfl⟩
        have kx := cell_int hbb hbw.out.1 HCC.out (by rw [HL.out]; omega) hx
        rw [Nat.zero_add] at kx
        obtain ⟨q1, q2, q3, q4⟩ := hq.out.cell
        obtain ⟨d1, _, _, d4⟩ := hd.out.cell
        have e1 := World.new_ne wr _ kx
        have e2 := World.new_ne wr _ q1
        have e3 := World.new_ne wr _ d1
        have iJ : (J : Int) < (m : Int) := by omega
        have HX := Lib.hid hx
        clear hx hz
        have HQn := Lib.hid (show Cel (wr.alloc (.cells #[.int .i64 x] 2)).drew w.heap.size (w1.heap.size + 1) 34 (.slice ao k co) from hq.out.below ((Below.refl _ _).alloc (Nat.le_refl _) _).drew)
        have HDn := Lib.hid (show Cel (wr.alloc (.cells #[.int .i64 x] 2)).drew w.heap.size w.heap.size 34 (.slice (some ⟨gb, 0, none⟩) m d) from hd.out.below ((Below.refl _ _).alloc (Nat.le_refl _) _).drew)
        have HCn := Lib.hid (show Cel (wr.alloc (.cells #[.int .i64 x] 2)).drew w.heap.size (w.heap.size + 1) 34 (.slice none 0 0) from hc.out.below ((Below.refl _ _).alloc (Nat.le_refl _) _).drew)
        have HN1 := Lib.hid (show (Value.slice ao k co).ownBlock ≠ some (w1.heap.size + 1) from fun e => (hfar.out _ e).1 rfl)
        have HN2 := Lib.hid (show (Value.slice ao k co).ownBlock ≠ some w.heap.size from fun e => by have := (hfar.out _ e).2; omega)
        have HN3 := Lib.hid (show (Value.slice ao k co).ownBlock ≠ some (w.heap.size + 1) from fun e => by have := (hfar.out _ e).2; omega)
        go_wp2_with fail
        go_region_law (first | (refine stepI (by rfl) _ _ (by rfl) w.heap.size _ _ _ (by rfl) ((hown.out.alloc _).drew) [.int .i64 x] (by rfl) (by simp [Value.oneCell']) 1 wr.heap.size (new_cells (w := wr) (cs := #[.int .i64 x]) (t := 2) rfl rfl) (by rfl) (by omega) (hbw.out.alloc _).drew ?_; intro g5 cap5 w5 ho5 hb5 hg5 hat5; have Hq5 := Lib.hid (HQn.out.grown hg5 HN1.out); have Hd5 := Lib.hid (HDn.out.grown hg5 HN2.out); have Hc5 := Lib.hid (HCn.out.grown hg5 HN3.out); have c5 := Hq5.out.cell.1; have f5 := Hq5.out.cell.2.1; have s5 := Hq5.out.cell.2.2.2; have Ho5 := Lib.hid ho5; have Hb5 := Lib.hid hb5; have Hat5 := Lib.hid hat5; clear ho5 hb5 hg5 hat5))
        all_goals
          have v2 : IntKind.i64.wrap ((J : Int) - 1) = (J : Int) - 1 := IntWalk.i64_in _ (by omega)
          go_wp2_with fail
          have HF5 := Lib.hid (show g5 ≠ w1.heap.size + 1 ∧ w.heap.size + 1 < g5 from by
            have h1 := HW.out
            rcases Hat5.out with h | h
            · exact hfar.out _ h
            · simp at h
              omega)
          go_roundw
          case rel =>
            have h1 := HW.out
            have h2 := HF5.out
            have HR := Lib.hid (show w5.ownsRow w.heap.size 2 1 (.slice (some ⟨g5, 0, none⟩) (k + 1) cap5) (k + 1) ((backL zs (k + 1)).map (Value.int .i64)) from by
              have h := Ho5.out
              rw [show (backL zs k).map (Value.int .i64) ++ [Value.int .i64 x] = (backL zs (k + 1)).map (Value.int .i64) from by rw [← backL_step HL.out hJ HX.out, List.map_append]; rfl] at h
              exact h)
            exact ⟨k + 1, by omega, ⟨_, rfl, Lib.hid (by omega)⟩, some ⟨g5, 0, none⟩, cap5, Lib.hid (Hq5.out.set _).1, Lib.hid (Hd5.out.set_other _ (by omega)), Lib.hid (Hc5.out.set_other _ (by omega)), Lib.hid (own_set HR.out _ _ _ (fun e => by have h3 : g5 = w1.heap.size + 1 := (by simpa [Value.ownBlock] using e); omega)), Lib.hid (fun b hb => by have h3 : g5 = b := (by simpa [Value.ownBlock] using hb); omega), Lib.hid (Hb5.out.setCell (by omega) _)⟩
          case measure => simp [intOf]
      · obtain rfl : k = m := by omega
        obtain rfl : z = -1 := by rw [hz.out]; omega
        have HR := Lib.hid (show wr.ownsRow w.heap.size 2 1 (.slice ao k co) k (zs.reverse.map (Value.int .i64)) from by
          have h := hown.out
          rw [backL_end HL.out] at h
          exact h)
        obtain ⟨q1, q2, q3, q4⟩ := hq.out.cell
        obtain ⟨c1, c2, c3, c4⟩ := hc.out.cell
        have HN := Lib.hid (show (Value.slice ao k co).ownBlock ≠ some (w.heap.size + 1) from fun e => by have := (hfar.out _ e).2; omega)
        clear hz
        go_wp2_with fail
        refine bodyPost_ret (v := .tuple #[.agg #[.slice ao k co], .int .i64 0]) (by simp [results, Try.results20, go_sem, c1]) rfl ?_
        exact ⟨_, _, _, rfl, by rw [List.length_reverse, HL.out], hm, own_set HR.out _ _ _ HN.out, (hbw.out.setCell (by simp) _).1⟩
end Go.Proofs.Ythihhkabbdkohaa
