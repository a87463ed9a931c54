/-
  Contracts of the laws' own helpers on slices of fractions, and appends of fractions. No condition of its own.
-/
import Derived.Test.YtfkojbkgpbpjhaaDoorApp2
import Derived.Test.YtfkojbkgpbpjhaaDoorFrac
import Derived.StillTailTactics
import Derived.Deep.RegionHeld3
namespace Go.Proofs.YtfkojbkgpbpjhaaDoor
open Go.ChangeShapes Go.WideShapes Go.ChangeAt Go.RowKit Go.Deep

theorem infoFraction : (Tryd.prog.info? 69).map (fun i => (i.zero, i.size, i.bytes)) = some (some (.agg #[.int .i64 0, .int .i64 0]), 2, 16) := by kernel_rfl

set_option maxHeartbeats 800000 in
theorem appFraction {w0 W : World} {ops : Array Oper} {rest : List Oper} {o : Oper} {a : Act} {Q : Exit → Act → World → Prop} (hgd : o.guard = none) (s x : Operand)
    (ho : o.op = .call { callee := .builtin .append, args := #[s, x], argTypes := #[58, 58] }) (B : Nat) (v : Value) (n : Nat) (xs : List Value) (hs : a.eval s = v) (hown : W.ownsRow B 69 2 v n xs)
    (x0 x1 : Int) (c H : Nat) (hH : W.heap.size = H) (hx : a.eval x = .slice (some ⟨H, 0, none⟩) 1 c) (hn : n ≤ 1099511627776) (hb : Bel B w0 W)
    (h : ∀ g cap w', w'.ownsRow B 69 2 (.slice (some ⟨g, 0, none⟩) (n + 1) cap) (n + 1) (xs ++ [.int .i64 x0, .int .i64 x1]) → Bel B w0 w' → W.grownBy w' v.ownBlock → (v.ownBlock = some g ∨ W.heap.size ≤ g) → wpList Tryd.prog ops Q rest (a.put o.dst (.slice (some ⟨g, 0, none⟩) (n + 1) cap)) w') :
    wpList Tryd.prog ops Q (o :: rest) a (W.alloc (.cells #[.int .i64 x0, .int .i64 x1] 69)) := by
  subst hH
  obtain ⟨i, hi, h0, h1, h2⟩ := info_parts infoFraction
  refine wpList_append_lies _ hgd s x 58 ho B 69 i (.agg #[.int .i64 0, .int .i64 0]) 2 16 Tryd.underlying58 hi h0 h1 h2 rfl (by omega) v n xs hs (hown.alloc _) ⟨W.heap.size, 0, none⟩ 1 c [.int .i64 x0, .int .i64 x1] hx rfl ?_ ?_ (by omega) (by unfold maxLen; omega) (by omega) (by have := hb.2; simp; omega) _ rfl ?_
  · intro j u hj
    match j, hj with
    | 0, hj => simp at hj; subst hj; simp [Addr.add]
    | 1, hj => simp at hj; subst hj; simp [Addr.add]
  · intro u hu
    simp only [List.mem_cons, List.not_mem_nil, or_false] at hu
    rcases hu with rfl | rfl <;> rfl
  · intro g cap w' h3 h4 h5 _
    refine h g cap w' h3 ((hb.alloc _).grown h4 (fun k hk => (own_block hown hk).1)) ?_ ?_
    · exact ⟨h4.os, h4.tape, h4.output, Nat.le_trans (by simp) h4.size, fun i hi hne => (h4.block i (by simp; omega) hne).trans ((World.grownBy_alloc W _ none).block i hi (by simp))⟩
    · rcases h5 with h5 | h5
      · exact .inl h5
      · exact .inr (by rw [h5]; simp)


set_option maxHeartbeats 800000 in
theorem appFractionW {w0 W : World} {ops : Array Oper} {rest : List Oper} {o : Oper} {a : Act} {Q : Exit → Act → World → Prop} (hgd : o.guard = none) (s x : Operand)
    (ho : o.op = .call { callee := .builtin .append, args := #[s, x], argTypes := #[58, 58] }) (B : Nat) (v : Value) (n : Nat) (xs : List Value) (hs : a.eval s = v) (hown : W.ownsRow B 69 2 v n xs)
    (news : List Value) (hl : news.length = 2) (h1 : ∀ u ∈ news, u.oneCell' = true) (c H : Nat) (hnews : ∀ (j : Nat) u, news[j]? = some u → W.cell? ((⟨H, 0, none⟩ : Addr).add j) = some u) (hx : a.eval x = .slice (some ⟨H, 0, none⟩) 1 c) (hn : n ≤ 1099511627776) (hb : Bel B w0 W)
    (h : ∀ g cap w', w'.ownsRow B 69 2 (.slice (some ⟨g, 0, none⟩) (n + 1) cap) (n + 1) (xs ++ news) → Bel B w0 w' → W.grownBy w' v.ownBlock → (v.ownBlock = some g ∨ W.heap.size ≤ g) → wpList Tryd.prog ops Q rest (a.put o.dst (.slice (some ⟨g, 0, none⟩) (n + 1) cap)) w') :
    wpList Tryd.prog ops Q (o :: rest) a W := by
  obtain ⟨i, hi, q0, q1, q2⟩ := info_parts infoFraction
  refine wpList_append_lies _ hgd s x 58 ho B 69 i (.agg #[.int .i64 0, .int .i64 0]) 2 16 Tryd.underlying58 hi q0 q1 q2 rfl (by omega) v n xs hs hown ⟨H, 0, none⟩ 1 c news hx (by omega) hnews h1 (by omega) (by unfold maxLen; omega) (by omega) hb.2 _ rfl ?_
  intro g cap w' h3 h4 h5 _
  refine h g cap w' h3 (hb.grown h4 (fun k hk => (own_block hown hk).1)) h4 ?_
  rcases h5 with h5 | h5
  · exact .inl h5
  · exact .inr (by omega)

set_option maxHeartbeats 800000 in
theorem stepFraction {w0 W : World} {ops : Array Oper} {o : Oper} {a : Act} {K : Act → World → Prop} {Q : Exit → Act → World → Prop} {E : Prop} (hgd : o.guard = none) (s x : Operand)
    (ho : o.op = .call { callee := .builtin .append, args := #[s, x], argTypes := #[58, 58] }) (B : Nat) (v : Value) (n : Nat) (xs : List Value) (hs : a.eval s = v) (hown : W.ownsRow B 69 2 v n xs)
    (news : List Value) (hl : news.length = 2) (h1 : ∀ u ∈ news, u.oneCell' = true) (c H : Nat) (hnews : ∀ (j : Nat) u, news[j]? = some u → W.cell? ((⟨H, 0, none⟩ : Addr).add j) = some u) (hx : a.eval x = .slice (some ⟨H, 0, none⟩) 1 c) (hn : n ≤ 1099511627776) (hb : Bel B w0 W)
    (h : ∀ g cap w', w'.ownsRow B 69 2 (.slice (some ⟨g, 0, none⟩) (n + 1) cap) (n + 1) (xs ++ news) → Bel B w0 w' → W.grownBy w' v.ownBlock → (v.ownBlock = some g ∨ W.heap.size ≤ g) → K (a.put o.dst (.slice (some ⟨g, 0, none⟩) (n + 1) cap)) w') :
    if Region.wanted o (yielded ops a.tmps) = true then Oper.wp Tryd.prog o a W K Q else E := by
  obtain ⟨i, hi, q0, q1, q2⟩ := info_parts infoFraction
  refine step_append_lies _ hgd s x 58 ho B 69 i (.agg #[.int .i64 0, .int .i64 0]) 2 16 Tryd.underlying58 hi q0 q1 q2 rfl (by omega) v n xs hs hown ⟨H, 0, none⟩ 1 c news hx (by omega) hnews h1 (by omega) (by unfold maxLen; omega) (by omega) hb.2 _ rfl ?_
  intro g cap w' h3 h4 h5 _
  refine h g cap w' h3 (hb.grown h4 (fun k hk => (own_block hown hk).1)) h4 ?_
  rcases h5 with h5 | h5
  · exact .inl h5
  · exact .inr (by omega)


theorem new_cells {w w' : World} {cs : Array Value} {t H : Nat} (hH : w.heap.size = H) (hw : (w.alloc (.cells cs t)).heap = w'.heap) : ∀ (j : Nat) (u : Value), cs.toList[j]? = some u → w'.cell? ((⟨H, 0, none⟩ : Addr).add j) = some u := by
  subst hH
  intro j u hj
  have h := heap_alloc_new w (.cells cs t)
  rw [hw] at h
  exact World.news_of_block h j u hj
end Go.Proofs.YtfkojbkgpbpjhaaDoor
