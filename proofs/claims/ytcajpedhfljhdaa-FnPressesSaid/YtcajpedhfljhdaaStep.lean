/-
  Appends of one element in regions that draw their order. No condition of its own.
-/
import Derived.Test.YtcajpedhfljhdaaApp2
import Derived.Deep.RegionHeld3
namespace Go.Proofs.Ytcajpedhfljhdaa
open Go.ChangeShapes Go.WideShapes Go.ChangeAt Go.RowKit Go.Deep

theorem new_cells {w w' : World} {cs : Array Value} {t H : Nat} (hH : w.heap.size = H) (hw : (w.alloc (.cells cs t)).heap = w'.heap) : ∀ (j : Nat) (u : Value), cs.toList[j]? = some u → w'.cell? ((⟨H, 0, none⟩ : Addr).add j) = some u := by
  subst hH
  intro j u hj
  have h := heap_alloc_new w (.cells cs t)
  rw [hw] at h
  exact World.news_of_block h j u hj
set_option maxHeartbeats 800000 in
theorem appIW {w0 W : World} {ops : Array Oper} {rest : List Oper} {o : Oper} {a : Act} {Q : Exit → Act → World → Prop} (hgd : o.guard = none) (s x : Operand)
    (ho : o.op = .call { callee := .builtin .append, args := #[s, x], argTypes := #[58, 58] }) (B : Nat) (v : Value) (n : Nat) (xs : List Value) (hs : a.eval s = v) (hown : W.ownsRow B 2 1 v n xs)
    (news : List Value) (hl : news.length = 1) (h1 : ∀ u ∈ news, u.oneCell' = true) (c H : Nat) (hnews : ∀ (j : Nat) u, news[j]? = some u → W.cell? ((⟨H, 0, none⟩ : Addr).add j) = some u) (hx : a.eval x = .slice (some ⟨H, 0, none⟩) 1 c) (hn : n ≤ 1099511627776) (hb : Bel B w0 W)
    (h : ∀ g cap w', w'.ownsRow B 2 1 (.slice (some ⟨g, 0, none⟩) (n + 1) cap) (n + 1) (xs ++ news) → Bel B w0 w' → W.grownBy w' v.ownBlock → (v.ownBlock = some g ∨ W.heap.size ≤ g) → wpList Try.prog ops Q rest (a.put o.dst (.slice (some ⟨g, 0, none⟩) (n + 1) cap)) w') :
    wpList Try.prog ops Q (o :: rest) a W := by
  obtain ⟨i, hi, q0, q1, q2⟩ := info_parts infoI
  refine wpList_append_lies _ hgd s x 58 ho B 2 i (.int .i64 0) 1 8 Try.underlying58 hi q0 q1 q2 rfl (by omega) v n xs hs hown ⟨H, 0, none⟩ 1 c news hx (by omega) hnews h1 (by omega) (by unfold maxLen; omega) (by omega) hb.2 _ rfl ?_
  intro g cap w' h3 h4 h5 _
  refine h g cap w' h3 (hb.grown h4 (fun k hk => (own_block hown hk).1)) h4 ?_
  rcases h5 with h5 | h5
  · exact .inl h5
  · exact .inr (by omega)

set_option maxHeartbeats 800000 in
theorem stepI {w0 W : World} {ops : Array Oper} {o : Oper} {a : Act} {K : Act → World → Prop} {Q : Exit → Act → World → Prop} {E : Prop} (hgd : o.guard = none) (s x : Operand)
    (ho : o.op = .call { callee := .builtin .append, args := #[s, x], argTypes := #[58, 58] }) (B : Nat) (v : Value) (n : Nat) (xs : List Value) (hs : a.eval s = v) (hown : W.ownsRow B 2 1 v n xs)
    (news : List Value) (hl : news.length = 1) (h1 : ∀ u ∈ news, u.oneCell' = true) (c H : Nat) (hnews : ∀ (j : Nat) u, news[j]? = some u → W.cell? ((⟨H, 0, none⟩ : Addr).add j) = some u) (hx : a.eval x = .slice (some ⟨H, 0, none⟩) 1 c) (hn : n ≤ 1099511627776) (hb : Bel B w0 W)
    (h : ∀ g cap w', w'.ownsRow B 2 1 (.slice (some ⟨g, 0, none⟩) (n + 1) cap) (n + 1) (xs ++ news) → Bel B w0 w' → W.grownBy w' v.ownBlock → (v.ownBlock = some g ∨ W.heap.size ≤ g) → K (a.put o.dst (.slice (some ⟨g, 0, none⟩) (n + 1) cap)) w') :
    if Region.wanted o (yielded ops a.tmps) = true then Oper.wp Try.prog o a W K Q else E := by
  obtain ⟨i, hi, q0, q1, q2⟩ := info_parts infoI
  refine step_append_lies _ hgd s x 58 ho B 2 i (.int .i64 0) 1 8 Try.underlying58 hi q0 q1 q2 rfl (by omega) v n xs hs hown ⟨H, 0, none⟩ 1 c news hx (by omega) hnews h1 (by omega) (by unfold maxLen; omega) (by omega) hb.2 _ rfl ?_
  intro g cap w' h3 h4 h5 _
  refine h g cap w' h3 (hb.grown h4 (fun k hk => (own_block hown hk).1)) h4 ?_
  rcases h5 with h5 | h5
  · exact .inl h5
  · exact .inr (by omega)


set_option maxHeartbeats 800000 in
theorem appJoinW {w0 W : World} {ops : Array Oper} {rest : List Oper} {o : Oper} {a : Act} {Q : Exit → Act → World → Prop} (hgd : o.guard = none) (s x : Operand)
    (ho : o.op = .call { callee := .builtin .append, args := #[s, x], argTypes := #[38, 38] }) (B : Nat) (v : Value) (n : Nat) (xs : List Value) (hs : a.eval s = v) (hown : W.ownsRow B 45 4 v n xs)
    (news : List Value) (hl : news.length = 4) (h1 : ∀ u ∈ news, u.oneCell' = true) (c H : Nat) (hnews : ∀ (j : Nat) u, news[j]? = some u → W.cell? ((⟨H, 0, none⟩ : Addr).add j) = some u) (hx : a.eval x = .slice (some ⟨H, 0, none⟩) 1 c) (hn : n ≤ 1099511627776) (hb : Bel B w0 W)
    (h : ∀ g cap w', w'.ownsRow B 45 4 (.slice (some ⟨g, 0, none⟩) (n + 1) cap) (n + 1) (xs ++ news) → Bel B w0 w' → W.grownBy w' v.ownBlock → (v.ownBlock = some g ∨ W.heap.size ≤ g) → wpList Try.prog ops Q rest (a.put o.dst (.slice (some ⟨g, 0, none⟩) (n + 1) cap)) w') :
    wpList Try.prog ops Q (o :: rest) a W := by
  obtain ⟨i, hi, q0, q1, q2⟩ := info_parts infoJoin
  refine wpList_append_lies _ hgd s x 38 ho B 45 i (.agg #[.int .i64 0, .int .i64 0, .int .i64 0, .int .i64 0]) 4 32 Try.underlying38 hi q0 q1 q2 rfl (by omega) v n xs hs hown ⟨H, 0, none⟩ 1 c news hx (by omega) hnews h1 (by omega) (by unfold maxLen; omega) (by omega) hb.2 _ rfl ?_
  intro g cap w' h3 h4 h5 _
  refine h g cap w' h3 (hb.grown h4 (fun k hk => (own_block hown hk).1)) h4 ?_
  rcases h5 with h5 | h5
  · exact .inl h5
  · exact .inr (by omega)

set_option maxHeartbeats 800000 in
theorem stepJoin {w0 W : World} {ops : Array Oper} {o : Oper} {a : Act} {K : Act → World → Prop} {Q : Exit → Act → World → Prop} {E : Prop} (hgd : o.guard = none) (s x : Operand)
    (ho : o.op = .call { callee := .builtin .append, args := #[s, x], argTypes := #[38, 38] }) (B : Nat) (v : Value) (n : Nat) (xs : List Value) (hs : a.eval s = v) (hown : W.ownsRow B 45 4 v n xs)
    (news : List Value) (hl : news.length = 4) (h1 : ∀ u ∈ news, u.oneCell' = true) (c H : Nat) (hnews : ∀ (j : Nat) u, news[j]? = some u → W.cell? ((⟨H, 0, none⟩ : Addr).add j) = some u) (hx : a.eval x = .slice (some ⟨H, 0, none⟩) 1 c) (hn : n ≤ 1099511627776) (hb : Bel B w0 W)
    (h : ∀ g cap w', w'.ownsRow B 45 4 (.slice (some ⟨g, 0, none⟩) (n + 1) cap) (n + 1) (xs ++ news) → Bel B w0 w' → W.grownBy w' v.ownBlock → (v.ownBlock = some g ∨ W.heap.size ≤ g) → K (a.put o.dst (.slice (some ⟨g, 0, none⟩) (n + 1) cap)) w') :
    if Region.wanted o (yielded ops a.tmps) = true then Oper.wp Try.prog o a W K Q else E := by
  obtain ⟨i, hi, q0, q1, q2⟩ := info_parts infoJoin
  refine step_append_lies _ hgd s x 38 ho B 45 i (.agg #[.int .i64 0, .int .i64 0, .int .i64 0, .int .i64 0]) 4 32 Try.underlying38 hi q0 q1 q2 rfl (by omega) v n xs hs hown ⟨H, 0, none⟩ 1 c news hx (by omega) hnews h1 (by omega) (by unfold maxLen; omega) (by omega) hb.2 _ rfl ?_
  intro g cap w' h3 h4 h5 _
  refine h g cap w' h3 (hb.grown h4 (fun k hk => (own_block hown hk).1)) h4 ?_
  rcases h5 with h5 | h5
  · exact .inl h5
  · exact .inr (by omega)


end Go.Proofs.Ytcajpedhfljhdaa
