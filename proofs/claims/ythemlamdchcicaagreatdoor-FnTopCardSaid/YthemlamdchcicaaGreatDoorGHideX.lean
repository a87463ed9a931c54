/-
  Rows of rows that a call owns: appends, what they keep. The contract of the reference's BestPlan. No condition of its own.
-/
import Derived.Test.YthemlamdchcicaaGreatDoorGHideW
import Derived.Test.YthemlamdchcicaaGreatDoorGBox
import Derived.Deep.RegionHeld3
import Derived.Deep.RegionLaw

namespace Go.Proofs.YthemlamdchcicaaGreatDoor
open Go.ChangeShapes Go.WideShapes Go.ChangeAt Go.RowKit Go.Deep Go.Shelf

/-- A slice of slices: v its value, k the number of its rows, L the rows, U the blocks that it takes up. -/
def LL (W : World) (B E1 E2 : Nat) (v : Value) (k : Nat) (L : Nat → List Value) (PA : Nat → Option Addr) (PC : Nat → Nat) (U : Nat → Prop) : Prop :=
  W.ownsRow B E1 1 v k ((List.range k).map fun j => .slice (PA j) (L j).length (PC j)) ∧ (∀ b, v.ownBlock = some b → U b) ∧ (∀ b, U b → b < W.heap.size) ∧
    ∀ j, j < k → W.ownsRow B E2 1 (.slice (PA j) (L j).length (PC j)) (L j).length (L j) ∧ ∀ b, (Value.slice (PA j) (L j).length (PC j)).ownBlock = some b → U b ∧ v.ownBlock ≠ some b
section
variable {W W' : World} {B E1 E2 k : Nat} {v : Value} {L : Nat → List Value} {PA : Nat → Option Addr} {PC : Nat → Nat} {U : Nat → Prop}
theorem LL.grown {g : Nat} (h : LL W B E1 E2 v k L PA PC U) (hg : W.grownBy W' (some g)) (hn : ¬ U g) : LL W' B E1 E2 v k L PA PC U :=
  ⟨own_no h.1 hg (fun e => hn (h.2.1 g e)), h.2.1, fun b hb => Nat.lt_of_lt_of_le (h.2.2.1 b hb) hg.size, fun j hj => ⟨own_no (h.2.2.2 j hj).1 hg (fun e => hn ((h.2.2.2 j hj).2 g e).1), (h.2.2.2 j hj).2⟩⟩
theorem LL.below (h : LL W B E1 E2 v k L PA PC U) (hb : Below W.heap.size W W') : LL W' B E1 E2 v k L PA PC U :=
  ⟨own_below h.1 hb, h.2.1, fun b hu => Nat.lt_of_lt_of_le (h.2.2.1 b hu) hb.size, fun j hj => ⟨own_below (h.2.2.2 j hj).1 hb, (h.2.2.2 j hj).2⟩⟩
theorem LL.alloc (h : LL W B E1 E2 v k L PA PC U) (o : Obj) : LL (W.alloc o) B E1 E2 v k L PA PC U := h.below ((Below.refl _ _).alloc (Nat.le_refl _) o)
theorem LL.drew (h : LL W B E1 E2 v k L PA PC U) : LL W.drew B E1 E2 v k L PA PC U := h
/-- One row more: the outer row has been appended to, over its block or a new one. -/
theorem LL.app {g cap : Nat} {ai : Option Addr} {ci : Nat} {xs : List Value} (h : LL W B E1 E2 v k L PA PC U) (hg : W.grownBy W' v.ownBlock) (hat : v.ownBlock = some g ∨ W.heap.size ≤ g)
    (ho : W'.ownsRow B E1 1 (.slice (some ⟨g, 0, none⟩) (k + 1) cap) (k + 1) (((List.range k).map fun j => .slice (PA j) (L j).length (PC j)) ++ [.slice ai xs.length ci])) (hL : L k = xs)
    (hi : W.ownsRow B E2 1 (.slice ai xs.length ci) xs.length xs) (hni : ∀ b, (Value.slice ai xs.length ci).ownBlock = some b → ¬ U b) :
    LL W' B E1 E2 (.slice (some ⟨g, 0, none⟩) (k + 1) cap) (k + 1) L (fun j => if j = k then ai else PA j) (fun j => if j = k then ci else PC j) (fun b => U b ∨ b = g ∨ (Value.slice ai xs.length ci).ownBlock = some b) := by
  have hgb : ∀ b, (Value.slice (some ⟨g, 0, none⟩) (k + 1) cap).ownBlock = some b → b = g := fun b e => by
    have : g = b := by simpa [Value.ownBlock] using e
    exact this.symm
  have hgl : g < W'.heap.size := (own_block (b := g) ho rfl).2
  have hsz := hg.size
  have hni2 : ∀ b, (Value.slice ai xs.length ci).ownBlock = some b → v.ownBlock ≠ some b := fun b e e2 => hni b e (h.2.1 b e2)
  refine ⟨?_, fun b e => .inr (.inl (hgb b e)), fun b hb => ?_, fun j hj => ?_⟩
  · have e : ((List.range (k + 1)).map fun j => Value.slice ((fun j => if j = k then ai else PA j) j) (L j).length ((fun j => if j = k then ci else PC j) j)) = ((List.range k).map fun j => .slice (PA j) (L j).length (PC j)) ++ [.slice ai xs.length ci] := by
      rw [List.range_succ, List.map_append]
      congr 1
      · apply List.map_congr_left
        intro j hj
        have := List.mem_range.1 hj
        have e : ¬ j = k := by omega
        simp [e]
      · simp [hL]
    rw [e]
    exact ho
  · rcases hb with hb | hb | hb
    · exact Nat.lt_of_lt_of_le (h.2.2.1 b hb) hsz
    · rw [hb]; exact hgl
    · exact Nat.lt_of_lt_of_le (own_block hi hb).2 hsz
  · by_cases e : j = k
    · subst e
      simp only [if_pos, hL]
      refine ⟨own_grown_ne hi hg (fun b hb e2 => hni2 b hb e2), fun b hb => ⟨.inr (.inr hb), fun e2 => ?_⟩⟩
      have e3 := hgb b e2
      subst e3
      rcases hat with h1 | h1
      · exact hni2 b hb h1
      · have := (own_block hi hb).2
        omega
    · have hj' : j < k := by omega
      obtain ⟨i1, i2⟩ := h.2.2.2 j hj'
      simp only [if_neg e]
      refine ⟨own_grown_ne i1 hg (fun b hb e2 => (i2 b hb).2 e2), fun b hb => ⟨.inl (i2 b hb).1, fun e2 => ?_⟩⟩
      have e3 := hgb b e2
      subst e3
      rcases hat with h1 | h1
      · exact (i2 b hb).2 h1
      · have := h.2.2.1 b (i2 b hb).1
        omega
theorem LL.none {E : Nat} (hB : B ≤ W.heap.size) : LL W B E1 E2 (.slice none 0 0) 0 L PA PC (fun _ => False) := by
  have _ := E
  have _ := hB
  exact ⟨⟨rfl, .inl ⟨rfl, rfl⟩⟩, fun b e => by simp [Value.ownBlock] at e, fun b h => h.elim, fun j hj => absurd hj (Nat.not_lt_zero _)⟩
theorem LL.form (h : LL W B E1 E2 v k L PA PC U) : ∃ a c, v = .slice a k c := own_cap h.1
end
end Go.Proofs.YthemlamdchcicaaGreatDoor

namespace Go.Proofs.YthemlamdchcicaaGreatDoor
open Go.ChangeShapes Go.WideShapes Go.ChangeAt Go.RowKit Go.Deep Go.Shelf

theorem infoLI : (Tryz.prog.info? 29).map (fun i => (i.zero, i.size, i.bytes)) = some (some (.slice none 0 0), 1, 24) := by kernel_rfl
set_option maxHeartbeats 800000 in
theorem appLIW {w0 W : World} {ops : Array Oper} {rest : List Oper} {o : Oper} {a : Act} {Q : Exit → Act → World → Prop} (hgd : o.guard = none) (s x : Operand)
    (ho : o.op = .call { callee := .builtin .append, args := #[s, x], argTypes := #[79, 79] }) (B : Nat) (v : Value) (n : Nat) (xs : List Value) (hs : a.eval s = v) (hown : W.ownsRow B 29 1 v n xs)
    (news : List Value) (hl : news.length = 1) (h1 : ∀ u ∈ news, u.oneCell' = true) (c H : Nat) (hnews : ∀ (j : Nat) u, news[j]? = some u → W.cell? ((⟨H, 0, none⟩ : Addr).add j) = some u) (hx : a.eval x = .slice (some ⟨H, 0, none⟩) 1 c) (hn : n ≤ 1099511627776) (hb : Bel B w0 W)
    (h : ∀ g cap w', w'.ownsRow B 29 1 (.slice (some ⟨g, 0, none⟩) (n + 1) cap) (n + 1) (xs ++ news) → Bel B w0 w' → W.grownBy w' v.ownBlock → (v.ownBlock = some g ∨ W.heap.size ≤ g) → wpList Tryz.prog ops Q rest (a.put o.dst (.slice (some ⟨g, 0, none⟩) (n + 1) cap)) w') :
    wpList Tryz.prog ops Q (o :: rest) a W := by
  obtain ⟨i, hi, q0, q1, q2⟩ := info_parts infoLI
  refine wpList_append_lies _ hgd s x 79 ho B 29 i (.slice none 0 0) 1 24 Tryz.underlying79 hi q0 q1 q2 rfl (by omega) v n xs hs hown ⟨H, 0, none⟩ 1 c news hx (by omega) hnews h1 (by omega) (by unfold maxLen; omega) (by omega) hb.2 _ rfl ?_
  intro g cap w' h3 h4 h5 _
  refine h g cap w' h3 (hb.grown h4 (fun k hk => (own_block hown hk).1)) h4 ?_
  rcases h5 with h5 | h5
  · exact .inl h5
  · exact .inr (by omega)

set_option maxHeartbeats 800000 in
theorem stepLI {w0 W : World} {ops : Array Oper} {o : Oper} {a : Act} {K : Act → World → Prop} {Q : Exit → Act → World → Prop} {E : Prop} (hgd : o.guard = none) (s x : Operand)
    (ho : o.op = .call { callee := .builtin .append, args := #[s, x], argTypes := #[79, 79] }) (B : Nat) (v : Value) (n : Nat) (xs : List Value) (hs : a.eval s = v) (hown : W.ownsRow B 29 1 v n xs)
    (news : List Value) (hl : news.length = 1) (h1 : ∀ u ∈ news, u.oneCell' = true) (c H : Nat) (hnews : ∀ (j : Nat) u, news[j]? = some u → W.cell? ((⟨H, 0, none⟩ : Addr).add j) = some u) (hx : a.eval x = .slice (some ⟨H, 0, none⟩) 1 c) (hn : n ≤ 1099511627776) (hb : Bel B w0 W)
    (h : ∀ g cap w', w'.ownsRow B 29 1 (.slice (some ⟨g, 0, none⟩) (n + 1) cap) (n + 1) (xs ++ news) → Bel B w0 w' → W.grownBy w' v.ownBlock → (v.ownBlock = some g ∨ W.heap.size ≤ g) → K (a.put o.dst (.slice (some ⟨g, 0, none⟩) (n + 1) cap)) w') :
    if Region.wanted o (yielded ops a.tmps) = true then Oper.wp Tryz.prog o a W K Q else E := by
  obtain ⟨i, hi, q0, q1, q2⟩ := info_parts infoLI
  refine step_append_lies _ hgd s x 79 ho B 29 i (.slice none 0 0) 1 24 Tryz.underlying79 hi q0 q1 q2 rfl (by omega) v n xs hs hown ⟨H, 0, none⟩ 1 c news hx (by omega) hnews h1 (by omega) (by unfold maxLen; omega) (by omega) hb.2 _ rfl ?_
  intro g cap w' h3 h4 h5 _
  refine h g cap w' h3 (hb.grown h4 (fun k hk => (own_block hown hk).1)) h4 ?_
  rcases h5 with h5 | h5
  · exact .inl h5
  · exact .inr (by omega)


theorem grown_cell {w w' : World} {row : Option Nat} {b o : Nat} (hg : w.grownBy w' row) (hb : b < w.heap.size) (hne : row ≠ some b) : w'.cell? ⟨b, o, none⟩ = w.cell? ⟨b, o, none⟩ := by
  have e := hg.block b hb (fun e => hne e.symm)
  simp only [World.cell?, e]
theorem grown_frozen {w w' : World} {row : Option Nat} {b o : Nat} (hg : w.grownBy w' row) (hb : b < w.heap.size) (hne : row ≠ some b) : w'.frozen? ⟨b, o, none⟩ = w.frozen? ⟨b, o, none⟩ := by
  have e := hg.block b hb (fun e => hne e.symm)
  simp only [World.frozen?, e]
theorem worths_app (l : List Cut) (c : Cut) : worths (l ++ [c]) = worths l + c.v := by
  induction l with
  | nil => simp [worths]
  | cons d l ih =>
    have e1 : worths (d :: l ++ [c]) = d.v + worths (l ++ [c]) := rfl
    have e2 : worths (d :: l) = d.v + worths l := rfl
    rw [e1, e2, ih]
    omega
theorem cuts_take {zs : List Int} {n k : Nat} (hk : k < n) : (cutsL zs n).take (k + 1) = (cutsL zs n).take k ++ [cutAt zs k] := by
  rw [List.take_add_one, cutsL_at hk]
  rfl
/-- What BestPlan answers. -/
def PlanEnd (w : World) (L : List Int) (s c : Int) (e : Ending) (w' : World) : Prop :=
  ∃ (a : Option Addr) (k cap : Nat), e = .returned (.tuple #[.slice a k cap, .int .i64 s, .int .i64 c]) ∧ L.length = k ∧ k ≤ 1048576 ∧ w'.ownsRow w.heap.size 2 1 (.slice a k cap) k (nints L) ∧ Below w.heap.size w w'
theorem planEnd_fail {w w' : World} (h : Below w.heap.size w w') : PlanEnd w [] 0 1 (.returned (.tuple #[.slice none 0 0, .int .i64 0, .int .i64 1])) w' :=
  ⟨none, 0, 0, rfl, rfl, by omega, ⟨rfl, .inl ⟨rfl, rfl⟩⟩, h⟩
theorem own_box6 (W : World) (B E : Nat) (c0 c1 c2 c3 c4 c5 : Value) (hB : B ≤ W.heap.size) : (W.alloc (.cells #[c0, c1, c2, c3, c4, c5] E)).ownsRow B E 6 (.slice (some ⟨W.heap.size, 0, none⟩) 1 1) 1 [c0, c1, c2, c3, c4, c5] :=
  own_base (World.ownsRow_lit (base := W.heap.size) (size := 6) (e := E) W #[c0, c1, c2, c3, c4, c5] 1 (Nat.le_refl _) (by unfold maxLen; omega) (by simp)) hB
end Go.Proofs.YthemlamdchcicaaGreatDoor
