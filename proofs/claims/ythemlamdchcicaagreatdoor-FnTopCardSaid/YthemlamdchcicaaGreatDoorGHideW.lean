/-
  Memory of a search for the best plan: what it owns, what it leaves alone. The contract of the reference's search for the best plan. Contracts of the tests of hides and of pieces, the reference. Contracts of the tests of pieces, both sides. No condition of its own.
-/
import Derived.Test.YthemlamdchcicaaGreatDoorGHideS
import Derived.Test.YthemlamdchcicaaGreatDoorGName
import Derived.WalkSmall
import Derived.Deep.DeepCutAuto

namespace Go.Proofs.YthemlamdchcicaaGreatDoor
open Go.ChangeShapes Go.WideShapes Go.ChangeAt Go.RowKit Go.Deep

/-- What lay below a world's end stands in a later world, but for the blocks of S. -/
def Kept (W W' : World) (S : Nat → Prop) : Prop := W.heap.size ≤ W'.heap.size ∧ ∀ b, b < W.heap.size → ¬ S b → W'.heap[b]? = W.heap[b]?
theorem Kept.refl (W : World) (S : Nat → Prop) : Kept W W S := ⟨Nat.le_refl _, fun _ _ _ => rfl⟩
theorem Kept.drewN {W W' : World} {S : Nat → Prop} (h : Kept W W' S) (q : Nat) : Kept W (W'.drewN q) S := h
theorem Kept.drew {W W' : World} {S : Nat → Prop} (h : Kept W W' S) : Kept W W'.drew S := h
theorem Kept.grown {W W' W2 : World} {S : Nat → Prop} {g : Nat} (h : Kept W W' S) (hg : W'.grownBy W2 (some g)) (hS : S g ∨ W.heap.size ≤ g) : Kept W W2 S :=
  ⟨Nat.le_trans h.1 hg.size, fun b hb hn => (hg.block b (Nat.lt_of_lt_of_le hb h.1) (fun e => by
    have : b = g := by simpa using e
    subst this
    rcases hS with hS | hS
    · exact hn hS
    · omega)).trans (h.2 b hb hn)⟩
theorem Kept.below {W W' W2 : World} {S : Nat → Prop} (h : Kept W W' S) (hb : Below W'.heap.size W' W2) : Kept W W2 S :=
  ⟨Nat.le_trans h.1 hb.size, fun b hlt hn => (hb.block b (Nat.lt_of_lt_of_le hlt h.1)).trans (h.2 b hlt hn)⟩
theorem Kept.cell {W W' : World} {S : Nat → Prop} (h : Kept W W' S) {b o : Nat} (hb : b < W.heap.size) (hn : ¬ S b) : W'.cell? ⟨b, o, none⟩ = W.cell? ⟨b, o, none⟩ := by
  have e := h.2 b hb hn
  simp only [World.cell?, e]
theorem own_no {w w' : World} {B E k n g : Nat} {v : Value} {cs : List Value} (h : w.ownsRow B E k v n cs) (hg : w.grownBy w' (some g)) (hne : v.ownBlock ≠ some g) : w'.ownsRow B E k v n cs :=
  own_grown_ne h hg (fun b hb e => hne (by rw [hb, e]))
theorem blk_ne {a b : Nat} {n m c : Nat} (h : a ≠ b) : (Value.slice (some ⟨a, 0, none⟩) n c).ownBlock ≠ some b := fun e => by
  have := m
  exact h (by simpa [Value.ownBlock] using e)
/-- Cells at an address, none of them in a block of S. -/
def CellsOff (w : World) (a : Option Addr) (cs : List Value) (S : Nat → Prop) : Prop :=
  cs = [] ∨ ∃ b off, a = some ⟨b, off, none⟩ ∧ b < w.heap.size ∧ ¬ S b ∧ ∀ i, i < cs.length → w.cell? ⟨b, off + i, none⟩ = cs[i]?
theorem CellsOff.at_ {w : World} {a : Option Addr} {cs : List Value} {S : Nat → Prop} (h : CellsOff w a cs S) : CellsAt w a cs := by
  rcases h with h | ⟨b, off, h1, h2, _, h3⟩
  · exact .inl h
  · exact .inr ⟨b, off, h1, h2, h3⟩
theorem CellsOff.kept {w w' : World} {a : Option Addr} {cs : List Value} {S : Nat → Prop} (h : CellsOff w a cs S) (hk : Kept w w' S) : CellsOff w' a cs S := by
  rcases h with h | ⟨b, off, h1, h2, h3, h4⟩
  · exact .inl h
  · exact .inr ⟨b, off, h1, Nat.lt_of_lt_of_le h2 hk.1, h3, fun i hi => (hk.cell h2 h3).trans (h4 i hi)⟩
theorem CellsOff.old {w w' : World} {a : Option Addr} {cs : List Value} {S : Nat → Prop} (h : CellsAt w a cs) (hb : Below w.heap.size w w') (hS : ∀ b, b < w.heap.size → ¬ S b) : CellsOff w' a cs S := by
  rcases h with h | ⟨b, off, h1, h2, h3⟩
  · exact .inl h
  · exact .inr ⟨b, off, h1, Nat.lt_of_lt_of_le h2 hb.size, hS b h2, fun i hi => (hb.cell (p := ⟨b, off + i, none⟩) h2).trans (h3 i hi)⟩
theorem CellsOff.own {w : World} {B E k n m cap : Nat} {a : Option Addr} {cs : List Value} {S : Nat → Prop} (h : w.ownsRow B E k (.slice a m cap) n cs) (hS : ∀ b, (Value.slice a m cap).ownBlock = some b → ¬ S b) : CellsOff w a cs S := by
  have hc := CellsAt.of_own h
  rcases h.2 with ⟨_, hn⟩ | ⟨g, cap', cur, hv, _, hg, _, _, _, htake⟩
  · left
    have := h.1
    rw [hn] at this
    simpa using this
  · rcases hc with h0 | ⟨b, off, h1, h2, h3⟩
    · exact .inl h0
    · refine .inr ⟨b, off, h1, h2, hS b ?_, h3⟩
      rw [hv] at hS ⊢
      simp only [Value.slice.injEq] at hv
      obtain ⟨rfl, rfl, rfl⟩ := hv
      simp only [Option.some.injEq, Addr.mk.injEq] at h1
      simp [Value.ownBlock, h1.1]
section
variable {rows : List ByteArray} {zs : List Int} {n m nl : Nat} {a al : Option Addr}
/-- The hide, the pieces and a row of lists in memory, off the blocks of S. -/
structure FixAt (W : World) (S : Nat → Prop) (a al ap : Option Addr) (rows : List ByteArray) (zs : List Int) (nl : Nat) (PL : Nat → List Value) (PA : Nat → Option Addr) (PC : Nat → Nat) : Prop where
  rows : CellsOff W a (strs rows) S
  cuts : CellsOff W al (zs.map (Value.int .i64)) S
  outer : CellsOff W ap ((List.range nl).map fun k => .slice (PA k) (PL k).length (PC k)) S
  inner : ∀ k, k < nl → CellsOff W (PA k) (PL k) S
theorem FixAt.kept {W W' : World} {S : Nat → Prop} {ap : Option Addr} {PL : Nat → List Value} {PA : Nat → Option Addr} {PC : Nat → Nat} (h : FixAt W S a al ap rows zs nl PL PA PC) (hk : Kept W W' S) : FixAt W' S a al ap rows zs nl PL PA PC :=
  ⟨h.rows.kept hk, h.cuts.kept hk, h.outer.kept hk, fun k hlt => (h.inner k hlt).kept hk⟩
/-- What a walk reads at the piece k. -/
theorem FixAt.outerAt {W : World} {S : Nat → Prop} {ap : Option Addr} {PL : Nat → List Value} {PA : Nat → Option Addr} {PC : Nat → Nat} (h : FixAt W S a al ap rows zs nl PL PA PC) {k : Nat} (hk : k < nl) :
    ∃ b o, ap = some ⟨b, o, none⟩ ∧ b < W.heap.size ∧ W.cell? ⟨b, o + k, none⟩ = some (.slice (PA k) (PL k).length (PC k)) := by
  rcases h.outer with h0 | ⟨b, o, h1, h2, _, h3⟩
  · have := congrArg List.length h0
    simp at this
    omega
  · refine ⟨b, o, h1, h2, ?_⟩
    rw [h3 k (by simpa using hk)]
    simp [hk]
theorem FixAt.cutAt_ {W : World} {S : Nat → Prop} {ap : Option Addr} {PL : Nat → List Value} {PA : Nat → Option Addr} {PC : Nat → Nat} (h : FixAt W S a al ap rows zs nl PL PA PC) {k : Nat} (hk : k < nl) (hz : zs.length = nl * 4) (hc : cutsB zs nl = true) :
    ∃ b o, al = some ⟨b, o, none⟩ ∧ b < W.heap.size ∧ W.cell? ⟨b, o + k * 4 + 3, none⟩ = some (.int .i64 (cutAt zs k).v) := by
  obtain ⟨b, o, h1, h2, h3⟩ := h.cuts.at_.at_ (by simp; omega)
  obtain ⟨_, _, e0, e1⟩ := cutsB_at hc hk
  exact ⟨b, o, h1, h2, (cut_cells h2 (Below.refl _ W) h3 hz hk e0 e1).2.2.2⟩
end
theorem doneL_app {zs pre : List Int} {i : Nat} {x : Int} (h : pre.length = i) : doneL zs (pre ++ [x]) (i + 1) = doneL zs pre i ++ [(cutAt zs i, x)] := by
  rw [doneL_succ]
  have e1 : (pre ++ [x]).getD i 0 = x := by simp [← h]
  rw [e1]
  congr 1
  apply List.map_congr_left
  intro k hk
  have hk' := List.mem_range.1 hk
  have : (pre ++ [x]).getD k 0 = pre.getD k 0 := by
    rw [List.getD_eq_getElem?_getD, List.getElem?_append_left (by omega), List.getD_eq_getElem?_getD]
  rw [this]
theorem doneL_pre {zs pre : List Int} {i : Nat} {x : Int} (h : pre.length = i) : doneL zs (pre ++ [x]) i = doneL zs pre i := by
  apply List.map_congr_left
  intro k hk
  have hk' := List.mem_range.1 hk
  have : (pre ++ [x]).getD k 0 = pre.getD k 0 := by
    rw [List.getD_eq_getElem?_getD, List.getElem?_append_left (by omega), List.getD_eq_getElem?_getD]
  rw [this]
theorem doneL_snd {zs pre : List Int} {i : Nat} (h : pre.length = i) : (doneL zs pre i).map (·.2) = pre := by
  apply List.ext_getElem
  · simp [doneL, h]
  · intro k h1 h2
    simp [doneL, List.getElem?_eq_getElem h2]
theorem plI_at {rows : List ByteArray} {n m k : Nat} {c : Cut} (h : k < (plI rows n m c (n * m)).length) : ∃ f : Nat, (placesL rows n m c)[k]? = some f ∧ (plI rows n m c (n * m)).getD k 0 = (f : Int) ∧ f < n * m ∧ fitsB rows n m c f = true := by
  have hl : k < (placesL rows n m c).length := by simpa [plI, placesL] using h
  have e : (placesL rows n m c)[k]? = some ((placesL rows n m c)[k]) := List.getElem?_eq_getElem hl
  obtain ⟨f1, f2⟩ := places_fit e
  refine ⟨_, e, ?_, f1, f2⟩
  have : (plI rows n m c (n * m))[k]? = some (((placesL rows n m c)[k] : Nat) : Int) := by
    show (((placesL rows n m c).map fun (x : Nat) => (x : Int)))[k]? = _
    rw [List.getElem?_map, e]; rfl
  rw [List.getD_eq_getElem?_getD, this]; rfl
theorem plI_places (rows : List ByteArray) (n m : Nat) (c : Cut) : (plI rows n m c (n * m)).length = (placesL rows n m c).length := by simp [plI, placesL]
end Go.Proofs.YthemlamdchcicaaGreatDoor

namespace Go.Proofs.YthemlamdchcicaaGreatDoor
open Go.ChangeShapes Go.WideShapes Go.ChangeAt Go.RowKit Go.Deep Go.Shelf

theorem set_last {pre : List Int} {i : Nat} (x y : Int) (h : pre.length = i) : (pre ++ [x]).set i y = pre ++ [y] := by
  subst h
  simp
theorem okB_free {rows : List ByteArray} {n m f : Nat} {c : Cut} {done : List (Cut × Int)} (h1 : f < n * m) (h2 : fitsB rows n m c f = true) : okB rows n m done (c, (f : Int)) = freeB m done c f := by
  have e : ((f : Nat) : Int).toNat = f := by omega
  unfold okB
  simp only [e]
  rw [decide_eq_false (show ¬ ((f : Nat) : Int) < 0 by omega), decide_eq_true h1, h2]
  simp
theorem getD_last {pre : List Int} {i : Nat} {x : Int} (h : pre.length = i) : (pre ++ [x]).getD i 0 = x := by
  subst h
  simp
theorem getD_app_lt {pre : List Int} {x : Int} {N : Int} (h : ∀ k, pre.getD k 0 < N) (hx : x < N) (h0 : 0 < N) (k : Nat) : (pre ++ [x]).getD k 0 < N := by
  rcases Nat.lt_trichotomy k pre.length with hk | hk | hk
  · rw [List.getD_eq_getElem?_getD, List.getElem?_append_left hk, ← List.getD_eq_getElem?_getD]; exact h k
  · rw [getD_last hk.symm]; exact hx
  · rw [List.getD_eq_getElem?_getD, List.getElem?_eq_none (by simp; omega)]; exact h0
/-- The blocks that a search writes. -/
def In2 (p gp : Nat) (b : Nat) : Prop := b = p ∨ b = gp
end Go.Proofs.YthemlamdchcicaaGreatDoor

namespace Go.Proofs.YthemlamdchcicaaGreatDoor
open Go.ChangeShapes Go.WideShapes Go.ChangeAt Go.RowKit Go.Deep Go.Shelf

/-- A row of a hide, as long as the first one. -/
def rowB (z : Nat) (r : ByteArray) : Bool := decide (r.size = z) && (decide (1 ≤ r.size) && (decide (r.size ≤ 6) && r.data.toList.all fun b => decide (0 ≤ qualU b)))
theorem hideB_eq (rows : List ByteArray) : hideB rows = (inB (rows.length : Int) 1 6 && rows.all (rowB (rows.getD 0 ⟨#[]⟩).size)) := by
  have e : inB (rows.length : Int) 1 6 = (decide (1 ≤ rows.length) && decide (rows.length ≤ 6)) := by
    unfold inB
    congr 1 <;> (congr 1; apply propext; omega)
  rw [e, Bool.and_assoc]
  rfl
theorem hideB_bad {rows : List ByteArray} {k : Nat} {r : ByteArray} {q : Bool} (hq : hideB rows = q) (hk : rows[k]? = some r) (h : rowB (rows.getD 0 ⟨#[]⟩).size r = false) : q = false := by
  rw [← hq, hideB_eq]
  have : rows.all (rowB (rows.getD 0 ⟨#[]⟩).size) = false := by
    rw [List.all_eq_false]
    exact ⟨r, List.mem_of_getElem? hk, by rw [h]; exact Bool.false_ne_true⟩
  rw [this, Bool.and_false]
theorem hideB_end {rows : List ByteArray} (h : ∀ (k : Nat) (r : ByteArray), rows[k]? = some r → rowB (rows.getD 0 ⟨#[]⟩).size r = true) : hideB rows = inB (rows.length : Int) 1 6 := by
  rw [hideB_eq]
  have : rows.all (rowB (rows.getD 0 ⟨#[]⟩).size) = true := by
    rw [List.all_eq_true]
    intro r hr
    obtain ⟨k, hk⟩ := List.mem_iff_getElem?.1 hr
    exact h k r hk
  rw [this, Bool.and_true]
theorem rowB_len {z : Nat} {r : ByteArray} (h : r.size ≠ z) : rowB z r = false := by simp [rowB, h]
theorem rowB_out {z : Nat} {r : ByteArray} (h : inB (r.size : Int) 1 6 = false) : rowB z r = false := by
  have := inB_false.1 h
  by_cases h1 : 1 ≤ r.size
  · have h2 : ¬ r.size ≤ 6 := by omega
    simp [rowB, h2]
  · simp [rowB, h1]
theorem rowB_q {z : Nat} {r : ByteArray} {x : Nat} (hx : x < r.size) (h : qualU r[x] < 0) : rowB z r = false := by
  have : r.data.toList.all (fun b => decide (0 ≤ qualU b)) = false := by
    rw [List.all_eq_false]
    exact ⟨r[x], byte_mem hx, by simp; omega⟩
  simp [rowB, this]
theorem rowB_yes {r : ByteArray} {z : Nat} (h0 : r.size = z) (h : inB (r.size : Int) 1 6 = true) (hq : ∀ x (hx : x < r.size), 0 ≤ qualU r[x]) : rowB z r = true := by
  have := inB_true.1 h
  simp only [rowB, Bool.and_eq_true, decide_eq_true_eq, List.all_eq_true]
  refine ⟨h0, by omega, by omega, fun b hb => ?_⟩
  obtain ⟨x, hx, rfl⟩ := List.mem_iff_getElem.1 hb
  have hx' : x < r.size := by rw [Lib.size_eq]; exact hx
  have := hq x hx'
  exact this
end Go.Proofs.YthemlamdchcicaaGreatDoor

namespace Go.Proofs.YthemlamdchcicaaGreatDoor
open Go.ChangeShapes Go.WideShapes Go.ChangeAt Go.RowKit Go.Deep Go.Shelf

theorem cutB_in (x0 x1 x2 x3 : Int) : cutB x0 x1 x2 x3 = (inB x0 1 6 && (inB x1 1 6 && (inB x2 1 3 && inB x3 0 1000))) := by
  simp only [cutB, inB, Bool.decide_and]
theorem cutsB_bad {zs : List Int} {n k : Nat} {q : Bool} (hq : cutsB zs n = q) (hk : k < n) (h : cutB (zs.getD (k * 4) 0) (zs.getD (k * 4 + 1) 0) (zs.getD (k * 4 + 2) 0) (zs.getD (k * 4 + 3) 0) = false) : q = false := by
  rw [← hq]
  unfold cutsB
  have : ((List.range n).all fun k => cutB (zs.getD (k * 4) 0) (zs.getD (k * 4 + 1) 0) (zs.getD (k * 4 + 2) 0) (zs.getD (k * 4 + 3) 0)) = false := by
    rw [List.all_eq_false]
    exact ⟨k, List.mem_range.2 hk, by rw [h]; exact Bool.false_ne_true⟩
  rw [this, Bool.and_false]
theorem cutsB_end {zs : List Int} {n : Nat} (h : ∀ k, k < n → cutB (zs.getD (k * 4) 0) (zs.getD (k * 4 + 1) 0) (zs.getD (k * 4 + 2) 0) (zs.getD (k * 4 + 3) 0) = true) : cutsB zs n = decide (n ≤ 4) := by
  unfold cutsB
  have : ((List.range n).all fun k => cutB (zs.getD (k * 4) 0) (zs.getD (k * 4 + 1) 0) (zs.getD (k * 4 + 2) 0) (zs.getD (k * 4 + 3) 0)) = true := by
    rw [List.all_eq_true]
    intro k hk
    exact h k (List.mem_range.1 hk)
  rw [this, Bool.and_true]
set_option maxHeartbeats 1600000 in
theorem validCut_any (x0 x1 x2 x3 : Int) (w : World) : Calls Tryz.prog 84 #[.agg #[.int .i64 x0, .int .i64 x1, .int .i64 x2, .int .i64 x3]] w fun e w' => e = .returned (.bool (cutB x0 x1 x2 x3)) ∧ Below w.heap.size w w' := by
  rw [cutB_in]
  cases q0 : inB x0 1 6 with
  | false =>
    have K0 := Lib.hid (fun W => callsB (within_any x0 1 6 W) q0)
    clear q0
    go_enter Tryz.func84, Tryz.ntmps84
    go_wp2_with (go_at_call 53; (first | with_reducible refine (K0.out _).mono ?_); rintro e w1 ⟨rfl, rfl⟩)
    go_ret
    exact ⟨ret_bool (by simp), (by repeat (first | exact Below.refl _ _ | assumption | refine Below.drew ?_ | refine below_drewN ?_ _ | refine Below.alloc ?_ (by simp; try omega) _ | refine Below.setCell ?_ (by simp; try omega) _))⟩
  | true =>
    have K0 := Lib.hid (fun W => callsB (within_any x0 1 6 W) q0)
    clear q0
    cases q1 : inB x1 1 6 with
    | false =>
      have K1 := Lib.hid (fun W => callsB (within_any x1 1 6 W) q1)
      clear q1
      go_enter Tryz.func84, Tryz.ntmps84
      go_wp2_with (go_at_call 53; (first | with_reducible refine (K0.out _).mono ?_ | with_reducible refine (K1.out _).mono ?_); rintro e w1 ⟨rfl, rfl⟩)
      go_ret
      exact ⟨ret_bool (by simp), (by repeat (first | exact Below.refl _ _ | assumption | refine Below.drew ?_ | refine below_drewN ?_ _ | refine Below.alloc ?_ (by simp; try omega) _ | refine Below.setCell ?_ (by simp; try omega) _))⟩
    | true =>
      have K1 := Lib.hid (fun W => callsB (within_any x1 1 6 W) q1)
      clear q1
      cases q2 : inB x2 1 3 with
      | false =>
        have K2 := Lib.hid (fun W => callsB (within_any x2 1 3 W) q2)
        clear q2
        go_enter Tryz.func84, Tryz.ntmps84
        go_wp2_with (go_at_call 53; (first | with_reducible refine (K0.out _).mono ?_ | with_reducible refine (K1.out _).mono ?_ | with_reducible refine (K2.out _).mono ?_); rintro e w1 ⟨rfl, rfl⟩)
        go_ret
        exact ⟨ret_bool (by simp), (by repeat (first | exact Below.refl _ _ | assumption | refine Below.drew ?_ | refine below_drewN ?_ _ | refine Below.alloc ?_ (by simp; try omega) _ | refine Below.setCell ?_ (by simp; try omega) _))⟩
      | true =>
        have K2 := Lib.hid (fun W => callsB (within_any x2 1 3 W) q2)
        clear q2
        cases q3 : inB x3 0 1000 with
        | false =>
          have K3 := Lib.hid (fun W => callsB (within_any x3 0 1000 W) q3)
          clear q3
          go_enter Tryz.func84, Tryz.ntmps84
          go_wp2_with (go_at_call 53; (first | with_reducible refine (K0.out _).mono ?_ | with_reducible refine (K1.out _).mono ?_ | with_reducible refine (K2.out _).mono ?_ | with_reducible refine (K3.out _).mono ?_); rintro e w1 ⟨rfl, rfl⟩)
          go_ret
          exact ⟨ret_bool (by simp), (by repeat (first | exact Below.refl _ _ | assumption | refine Below.drew ?_ | refine below_drewN ?_ _ | refine Below.alloc ?_ (by simp; try omega) _ | refine Below.setCell ?_ (by simp; try omega) _))⟩
        | true =>
          have K3 := Lib.hid (fun W => callsB (within_any x3 0 1000 W) q3)
          clear q3
          go_enter Tryz.func84, Tryz.ntmps84
          go_wp2_with (go_at_call 53; (first | with_reducible refine (K0.out _).mono ?_ | with_reducible refine (K1.out _).mono ?_ | with_reducible refine (K2.out _).mono ?_ | with_reducible refine (K3.out _).mono ?_); rintro e w1 ⟨rfl, rfl⟩)
          go_ret
          exact ⟨ret_bool (by simp), (by repeat (first | exact Below.refl _ _ | assumption | refine Below.drew ?_ | refine below_drewN ?_ _ | refine Below.alloc ?_ (by simp; try omega) _ | refine Below.setCell ?_ (by simp; try omega) _))⟩
end Go.Proofs.YthemlamdchcicaaGreatDoor
