/-
  The contract of the program's search for the best rows. No condition of its own.
-/
import Derived.Test.YtoomkeicfdmdoaaNestP
import Derived.Test.YtoomkeicfdmdoaaApp2
import Derived.Test.YtoomkeicfdmdoaaClone
import Derived.StillTailTactics
import Derived.BigQuiet
import Derived.Deep.DeepCutAuto
namespace Go.Proofs.Ytoomkeicfdmdoaa
open Go.ChangeShapes Go.WideShapes Go.ChangeAt Go.RowKit Go.Deep Go.Shelf

abbrev nints (zs : List Int) : List Value := zs.map (Value.int .i64)
/-- What lay below a world's end stands in a later world, but for the blocks of S. -/
def Kept (W W' : World) (S : Nat → Prop) : Prop := W.heap.size ≤ W'.heap.size ∧ ∀ b, b < W.heap.size → ¬ S b → W'.heap[b]? = W.heap[b]?
theorem Kept.refl (W : World) (S : Nat → Prop) : Kept W W S := ⟨Nat.le_refl _, fun _ _ _ => rfl⟩
theorem Kept.drewN {W W' : World} {S : Nat → Prop} (h : Kept W W' S) (q : Nat) : Kept W (W'.drewN q) S := h
theorem Kept.drew {W W' : World} {S : Nat → Prop} (h : Kept W W' S) : Kept W W'.drew S := h
theorem Kept.grown {W W' W2 : World} {S : Nat → Prop} {g : Nat} (h : Kept W W' S) (hg : W'.grownBy W2 (some g)) (hS : S g ∨ W.heap.size ≤ g) : Kept W W2 S :=
  ⟨Nat.le_trans h.1 hg.size, fun b hb hn => (hg.block b (Nat.lt_of_lt_of_le hb h.1) (fun e => by
    have : b = g := by simpa using e
    subst this
    rcases hS with hS | hS
    · exact hn hS
    · omega)).trans (h.2 b hb hn)⟩
theorem Kept.below {W W' W2 : World} {S : Nat → Prop} (h : Kept W W' S) (hb : Below W'.heap.size W' W2) : Kept W W2 S :=
  ⟨Nat.le_trans h.1 hb.size, fun b hlt hn => (hb.block b (Nat.lt_of_lt_of_le hlt h.1)).trans (h.2 b hlt hn)⟩
theorem Kept.trans {W W' W2 : World} {S S' : Nat → Prop} (h : Kept W W' S) (k : Kept W' W2 S') (hs : ∀ b, b < W.heap.size → S' b → S b) : Kept W W2 S :=
  ⟨Nat.le_trans h.1 k.1, fun b hb hn => (k.2 b (Nat.lt_of_lt_of_le hb h.1) (fun e => hn (hs b hb e))).trans (h.2 b hb hn)⟩
theorem own_kept {W W' : World} {B E k n : Nat} {v : Value} {cs : List Value} {S : Nat → Prop} (h : W.ownsRow B E k v n cs) (hk : Kept W W' S) (hn : ∀ b, v.ownBlock = some b → ¬ S b) : W'.ownsRow B E k v n cs := by
  refine ⟨h.1, ?_⟩
  rcases h.2 with h0 | ⟨g, cap, cur, hv, hB, hg, r⟩
  · exact .inl h0
  · subst hv
    exact .inr ⟨g, cap, cur, rfl, hB, (hk.2 g (Array.getElem?_eq_some_iff.1 hg).1 (hn g rfl)).trans hg, r⟩
theorem own_no {w w' : World} {B E k n g : Nat} {v : Value} {cs : List Value} (h : w.ownsRow B E k v n cs) (hg : w.grownBy w' (some g)) (hne : v.ownBlock ≠ some g) : w'.ownsRow B E k v n cs :=
  own_grown_ne h hg (fun b hb e => hne (by rw [hb, e]))
theorem blk_ne {a b : Nat} {n m c : Nat} (h : a ≠ b) : (Value.slice (some ⟨a, 0, none⟩) n c).ownBlock ≠ some b := fun e => by
  have := m
  exact h (by simpa [Value.ownBlock] using e)
/-- Four blocks that lie apart. -/
def Apart4 (p gp gw gh : Nat) : Prop := p ≠ gp ∧ p ≠ gw ∧ p ≠ gh ∧ gp ≠ gw ∧ gp ≠ gh ∧ gw ≠ gh
def In4 (p gp gw gh b : Nat) : Prop := b = p ∨ b = gp ∨ b = gw ∨ b = gh
/-- The memory of a search. -/
def NestMem (W : World) (B p gp gw gh : Nat) (nd : Value) (roll : Int) (n cp cw ch : Nat) (plan ws hs best : List Int) (least : Int) : Prop :=
  ∃ (bv : Value) (nb : Nat), W.ownsRow B 97 7 (.slice (some ⟨p, 0, none⟩) 1 1) 1 [nd, .int .i64 roll, .slice (some ⟨gp, 0, none⟩) n cp, .slice (some ⟨gw, 0, none⟩) 9 cw, .slice (some ⟨gh, 0, none⟩) 9 ch, bv, .int .i64 least]
    ∧ W.ownsRow B 2 1 (.slice (some ⟨gp, 0, none⟩) n cp) n (nints plan) ∧ W.ownsRow B 2 1 (.slice (some ⟨gw, 0, none⟩) 9 cw) 9 (nints ws) ∧ W.ownsRow B 2 1 (.slice (some ⟨gh, 0, none⟩) 9 ch) 9 (nints hs)
    ∧ W.ownsRow B 2 1 bv nb (nints best) ∧ (∀ b, bv.ownBlock = some b → ¬ In4 p gp gw gh b) ∧ Apart4 p gp gw gh
section
variable {W : World} {B p gp gw gh n cp cw ch : Nat} {nd : Value} {roll : Int} {plan ws hs best : List Int} {least : Int}
theorem NestMem.plan_ (h : NestMem W B p gp gw gh nd roll n cp cw ch plan ws hs best least) (k : Nat) (x : Int) :
    NestMem (W.setCell ⟨gp, k, none⟩ (.int .i64 x)) B p gp gw gh nd roll n cp cw ch (plan.set k x) ws hs best least ∧ W.grownBy (W.setCell ⟨gp, k, none⟩ (.int .i64 x)) (some gp) := by
  obtain ⟨bv, nb, h1, h2, h3, h4, h5, h6, s1, s2, s3, s4, s5, s6⟩ := h
  have hs' := h2.stored k (.int .i64 x)
  refine ⟨⟨bv, nb, own_no h1 hs'.2 (blk_ne (m := 0) s1), by rw [nints, List.map_set]; exact hs'.1, own_no h3 hs'.2 (blk_ne (m := 0) s4.symm), own_no h4 hs'.2 (blk_ne (m := 0) s5.symm), own_no h5 hs'.2 (fun e => h6 _ e (.inr (.inl rfl))), h6, s1, s2, s3, s4, s5, s6⟩, hs'.2⟩
theorem NestMem.wid_ (h : NestMem W B p gp gw gh nd roll n cp cw ch plan ws hs best least) (k : Nat) (x : Int) :
    NestMem (W.setCell ⟨gw, k, none⟩ (.int .i64 x)) B p gp gw gh nd roll n cp cw ch plan (ws.set k x) hs best least ∧ W.grownBy (W.setCell ⟨gw, k, none⟩ (.int .i64 x)) (some gw) := by
  obtain ⟨bv, nb, h1, h2, h3, h4, h5, h6, s1, s2, s3, s4, s5, s6⟩ := h
  have hs' := h3.stored k (.int .i64 x)
  refine ⟨⟨bv, nb, own_no h1 hs'.2 (blk_ne (m := 0) s2), own_no h2 hs'.2 (blk_ne (m := 0) s4), by rw [nints, List.map_set]; exact hs'.1, own_no h4 hs'.2 (blk_ne (m := 0) s6.symm), own_no h5 hs'.2 (fun e => h6 _ e (.inr (.inr (.inl rfl)))), h6, s1, s2, s3, s4, s5, s6⟩, hs'.2⟩
theorem NestMem.hei_ (h : NestMem W B p gp gw gh nd roll n cp cw ch plan ws hs best least) (k : Nat) (x : Int) :
    NestMem (W.setCell ⟨gh, k, none⟩ (.int .i64 x)) B p gp gw gh nd roll n cp cw ch plan ws (hs.set k x) best least ∧ W.grownBy (W.setCell ⟨gh, k, none⟩ (.int .i64 x)) (some gh) := by
  obtain ⟨bv, nb, h1, h2, h3, h4, h5, h6, s1, s2, s3, s4, s5, s6⟩ := h
  have hs' := h4.stored k (.int .i64 x)
  refine ⟨⟨bv, nb, own_no h1 hs'.2 (blk_ne (m := 0) s3), own_no h2 hs'.2 (blk_ne (m := 0) s5), own_no h3 hs'.2 (blk_ne (m := 0) s6), by rw [nints, List.map_set]; exact hs'.1, own_no h5 hs'.2 (fun e => h6 _ e (.inr (.inr (.inr rfl)))), h6, s1, s2, s3, s4, s5, s6⟩, hs'.2⟩
theorem NestMem.best_ {W' : World} {av : Value} {na : Nat} (h : NestMem W B p gp gw gh nd roll n cp cw ch plan ws hs best least) {zs : List Int} (hn : W'.ownsRow W.heap.size 2 1 av na (nints zs)) (hb : Below W.heap.size W W') (hB : B ≤ W.heap.size) (x : Int) :
    NestMem ((W'.setCell ⟨p, 5, none⟩ av).setCell ⟨p, 6, none⟩ (.int .i64 x)) B p gp gw gh nd roll n cp cw ch plan ws hs zs x ∧ W'.grownBy ((W'.setCell ⟨p, 5, none⟩ av).setCell ⟨p, 6, none⟩ (.int .i64 x)) (some p) := by
  obtain ⟨bv, nb, h1, h2, h3, h4, h5, h6, s1, s2, s3, s4, s5, s6⟩ := h
  have k1 := own_below h1 hb
  have k2 := k1.stored 5 av
  have k3 := k2.1.stored 6 (.int .i64 x)
  have hg := grown_trans_row k2.2 k3.2
  have bp := (own_block (b := p) h1 rfl).2
  have bgp := (own_block (b := gp) h2 rfl).2
  have bgw := (own_block (b := gw) h3 rfl).2
  have bgh := (own_block (b := gh) h4 rfl).2
  have hnew : ∀ b, av.ownBlock = some b → ¬ In4 p gp gw gh b := fun b e hi => by
    have := (own_block hn e).1
    rcases hi with e1 | e1 | e1 | e1 <;> omega
  exact ⟨⟨av, na, k3.1, own_no (own_below h2 hb) hg (blk_ne (m := 0) s1.symm), own_no (own_below h3 hb) hg (blk_ne (m := 0) s2.symm), own_no (own_below h4 hb) hg (blk_ne (m := 0) s3.symm), own_no (own_base hn hB) hg (fun e => hnew _ e (.inl rfl)), hnew, s1, s2, s3, s4, s5, s6⟩, hg⟩
theorem NestMem.head_ (h : NestMem W B p gp gw gh nd roll n cp cw ch plan ws hs best least) :
    ∃ bv, W.cell? ⟨p, 0, none⟩ = some nd ∧ W.cell? ⟨p, 1, none⟩ = some (.int .i64 roll) ∧ W.cell? ⟨p, 2, none⟩ = some (.slice (some ⟨gp, 0, none⟩) n cp) ∧ W.cell? ⟨p, 3, none⟩ = some (.slice (some ⟨gw, 0, none⟩) 9 cw) ∧ W.cell? ⟨p, 4, none⟩ = some (.slice (some ⟨gh, 0, none⟩) 9 ch) ∧ W.cell? ⟨p, 5, none⟩ = some bv ∧ W.cell? ⟨p, 6, none⟩ = some (.int .i64 least) ∧ W.frozen? ⟨p, 5, none⟩ = false ∧ W.frozen? ⟨p, 6, none⟩ = false := by
  obtain ⟨bv, nb, h1, _⟩ := h
  refine ⟨bv, ?_, ?_, ?_, ?_, ?_, ?_, ?_, h1.frozenAt 5, h1.frozenAt 6⟩
  all_goals
    rw [h1.cellAt _ (by omega)]
    rfl
theorem own_at {g c m k : Nat} {zs : List Int} {u : Int} (h : W.ownsRow B 2 1 (.slice (some ⟨g, 0, none⟩) m c) m (nints zs)) (hk : k < m) (hu : zs.getD k 0 = u) : W.cell? ⟨g, k, none⟩ = some (.int .i64 u) ∧ W.frozen? ⟨g, k, none⟩ = false := by
  have hl : zs.length = m := by have := h.1; simpa using this
  refine ⟨?_, h.frozenAt k⟩
  rw [h.cellAt k (by omega), ← hu]
  simp [List.getElem?_eq_getElem (show k < zs.length by omega)]
theorem NestMem.planAt (h : NestMem W B p gp gw gh nd roll n cp cw ch plan ws hs best least) {k : Nat} (hk : k < n) : (∃ u, W.cell? ⟨gp, k, none⟩ = some (.int .i64 u)) ∧ W.frozen? ⟨gp, k, none⟩ = false := by
  obtain ⟨bv, nb, h1, h2, _⟩ := h
  exact ⟨⟨_, (own_at h2 hk rfl).1⟩, h2.frozenAt k⟩
theorem NestMem.widAt (h : NestMem W B p gp gw gh nd roll n cp cw ch plan ws hs best least) {k : Nat} {u : Int} (hk : k < 9) (hu : ws.getD k 0 = u) : W.cell? ⟨gw, k, none⟩ = some (.int .i64 u) ∧ W.frozen? ⟨gw, k, none⟩ = false := by
  obtain ⟨bv, nb, h1, h2, h3, _⟩ := h
  exact own_at h3 hk hu
theorem NestMem.heiAt (h : NestMem W B p gp gw gh nd roll n cp cw ch plan ws hs best least) {k : Nat} {u : Int} (hk : k < 9) (hu : hs.getD k 0 = u) : W.cell? ⟨gh, k, none⟩ = some (.int .i64 u) ∧ W.frozen? ⟨gh, k, none⟩ = false := by
  obtain ⟨bv, nb, h1, h2, h3, h4, _⟩ := h
  exact own_at h4 hk hu
theorem NestMem.base (h : NestMem W B p gp gw gh nd roll n cp cw ch plan ws hs best least) : B ≤ p ∧ B ≤ gp ∧ B ≤ gw ∧ B ≤ gh ∧ p < W.heap.size ∧ gp < W.heap.size ∧ gw < W.heap.size ∧ gh < W.heap.size := by
  obtain ⟨bv, nb, h1, h2, h3, h4, _⟩ := h
  have a := own_block (b := p) h1 rfl
  have b := own_block (b := gp) h2 rfl
  have c := own_block (b := gw) h3 rfl
  have d := own_block (b := gh) h4 rfl
  exact ⟨a.1, b.1, c.1, d.1, a.2, b.2, c.2, d.2⟩
theorem NestMem.alloc (h : NestMem W B p gp gw gh nd roll n cp cw ch plan ws hs best least) (o : Obj) : NestMem (W.alloc o) B p gp gw gh nd roll n cp cw ch plan ws hs best least := by
  obtain ⟨bv, nb, h1, h2, h3, h4, h5, h6, h7⟩ := h
  exact ⟨bv, nb, h1.alloc o, h2.alloc o, h3.alloc o, h4.alloc o, h5.alloc o, h6, h7⟩
end
/-- What the search leaves. -/
def NestEnd (w0 w : World) (p gp gw gh : Nat) (nd : Value) (roll : Int) (n cp cw ch : Nat) (plan ws hs : List Int) (k : Nat) (st : List Int × Int) (e : Ending) (w' : World) : Prop :=
  e = .returned (.tuple #[]) ∧ Bel w0.heap.size w0 w' ∧ Kept w w' (In4 p gp gw gh) ∧ ∃ plan' : List Int, plan'.length = n ∧ plan'.take k = plan.take k ∧ NestMem w' w0.heap.size p gp gw gh nd roll n cp cw ch plan' (pad9 ws) (pad9 hs) st.1 st.2
theorem box2 (W : World) (B x E : Nat) (a b : Int) (hB : B ≤ W.heap.size) (hx : x = W.heap.size) : (W.alloc (.cells #[.int .i64 a, .int .i64 b] E)).ownsRow B E 2 (.slice (some ⟨x, 0, none⟩) 1 1) 1 [.int .i64 a, .int .i64 b] := by
  subst hx
  exact own_base (World.ownsRow_lit (base := W.heap.size) (size := 2) (e := E) W #[.int .i64 a, .int .i64 b] 1 (Nat.le_refl _) (by unfold maxLen; omega) (by simp)) hB
theorem box2_at {W : World} {B x E : Nat} {a b : Int} (h : W.ownsRow B E 2 (.slice (some ⟨x, 0, none⟩) 1 1) 1 [.int .i64 a, .int .i64 b]) : W.cell? ⟨x, 0, none⟩ = some (.int .i64 a) ∧ W.cell? ⟨x, 1, none⟩ = some (.int .i64 b) :=
  ⟨by rw [h.cellAt 0 (by omega)]; rfl, by rw [h.cellAt 1 (by omega)]; rfl⟩
theorem nset_at {l : List Int} {k : Nat} (x : Int) (hk : k < l.length) : (l.set k x).getD k 0 = x := by simp [hk]
theorem nset_back {l : List Int} {k : Nat} {u : Int} (x : Int) (hk : k < l.length) (hu : l.getD k 0 = u) : (l.set k x).set k u = l := by
  rw [List.set_set, ← hu]
  simp [List.getElem?_eq_getElem hk]
theorem ntake_step {l : List Int} {i : Nat} (x : Int) (hi : i < l.length) : (l.set i x).take (i + 1) = l.take i ++ [x] := by
  rw [List.take_succ_eq_append_getElem (by simpa using hi), List.take_set_of_le (Nat.le_refl i)]
  simp
theorem cell_pair {w W : World} {a : Option Addr} {b o j n : Nat} {zs : List Int} {x y : Int} (hl : zs.length = n * 2) (hbw : Below w.heap.size w W) (hb : b < w.heap.size) (hc : ∀ i, i < (zs.map (Value.int .i64)).length → w.cell? ⟨b, o + i, none⟩ = (zs.map (Value.int .i64))[i]?) (hj : j < n) (hx : zs.getD (j * 2) 0 = x) (hy : zs.getD (j * 2 + 1) 0 = y) :
    W.cell? ⟨b, o + j * 2, none⟩ = some (.int .i64 x) ∧ W.cell? ⟨b, o + j * 2 + 1, none⟩ = some (.int .i64 y) := by
  have _ := a
  constructor
  · rw [(hbw.cell (p := ⟨b, o + j * 2, none⟩) hb).trans (hc (j * 2) (by simp; omega)), ← hx]
    simp [List.getElem?_eq_getElem (show j * 2 < zs.length by omega)]
  · rw [(hbw.cell (p := ⟨b, o + j * 2 + 1, none⟩) hb)]
    have h := hc (j * 2 + 1) (by simp; omega)
    rw [← Nat.add_assoc] at h
    rw [h, ← hy]
    simp [List.getElem?_eq_getElem (show j * 2 + 1 < zs.length by omega)]
theorem drop_pair {zs : List Int} {k n : Nat} {x y : Int} (hl : zs.length = n * 2) (hk : k < n) (hx : zs.getD (k * 2) 0 = x) (hy : zs.getD (k * 2 + 1) 0 = y) : zs.drop (k * 2) = x :: y :: zs.drop ((k + 1) * 2) := by
  rw [List.drop_eq_getElem_cons (show k * 2 < zs.length by omega), List.drop_eq_getElem_cons (show k * 2 + 1 < zs.length by omega)]
  have e1 : zs[k * 2]'(by omega) = x := by rw [← hx]; simp [List.getElem?_eq_getElem (show k * 2 < zs.length by omega)]
  have e2 : zs[k * 2 + 1]'(by omega) = y := by rw [← hy]; simp [List.getElem?_eq_getElem (show k * 2 + 1 < zs.length by omega)]
  rw [e1, e2, show k * 2 + 1 + 1 = (k + 1) * 2 by omega]

set_option maxRecDepth 100000 in
set_option maxHeartbeats 12800000 in
theorem nestFrom_any (w0 : World) (p gp gw gh n cp cw ch cn : Nat) (an : Option Addr) (zs : List Int) (roll : Int) (hN : zs.length = n * 2) (hn : n ≤ 9) (hc : CellsAt w0 an (zs.map (Value.int .i64))) (hzb : Between zs 5000) (hr0 : 1 ≤ roll) (hr1 : roll ≤ 5000) (d : Nat) :
    ∀ (k used : Nat) (kv uv sum : Int) (ws hs plan best : List Int) (least : Int) (w : World), kv = (k : Int) → uv = (used : Int) → k + d = n → ws.length = used → hs.length = used → used ≤ k → Between ws 5000 → Between hs 5000 → plan.length = n → 0 ≤ sum → sum ≤ 5000 * k → -1 ≤ least → least ≤ 45000 →
      Bel w0.heap.size w0 w → NestMem w w0.heap.size p gp gw gh (.slice an n cn) roll n cp cw ch plan (pad9 ws) (pad9 hs) best least →
      Calls Try.prog 87 #[.pointer (some ⟨p, 0, none⟩), .int .i64 kv, .int .i64 uv, .int .i64 sum] w (NestEnd w0 w p gp gw gh (.slice an n cn) roll n cp cw ch plan ws hs k (nestTo roll (zs.drop (k * 2)) ws hs (plan.take k) sum (best, least))) := by
  induction d with
  | zero =>
    intro k used kv uv sum ws hs plan best least w hkv huv hi hwl hhl huk hwb hhb hpl h0 h1 h2 h3 hb hmem
    subst hkv huv
    obtain rfl : k = n := by omega
    obtain ⟨bv, c0, c1, c2, c3, c4, c5, c6, f5, f6⟩ := hmem.head_
    rw [List.drop_of_length_le (by omega)]
    by_cases hcut : 0 ≤ least ∧ least ≤ sum
    · rw [nestTo_cut0 (st := (best, least)) hcut.1 hcut.2]
      have HE := Lib.hid (show NestEnd w0 w p gp gw gh (.slice an k cn) roll k cp cw ch plan ws hs k (best, least) (.returned (.tuple #[])) w from ⟨rfl, hb, Kept.refl _ _, plan, hpl, rfl, hmem⟩)
      obtain ⟨g1, g2⟩ := hcut
      clear hb hmem hc hN hzb hwl hhl hpl hwb hhb
      go_enter Try.func87, Try.ntmps87
      go_wp2_with fail
      go_end0
      exact HE.out
    · rw [nestTo_end (st := (best, least)) hcut, List.take_of_length_le (by omega)]
      have hcl := cloneI_any gp k cp plan w hpl (by omega) (by obtain ⟨bv, nb, h1, h2, _⟩ := hmem; exact CellsAt.of_own h2)
      have HCl := Lib.hid hcl
      have HM := Lib.hid hmem
      have HB := Lib.hid hb
      have Hpl := Lib.hid hpl
      have hii : ((k : Int) == (k : Int)) = true := by simp
      have hp4 := hmem.base.2.2.2.2.1
      clear hcl hb hmem hc hN hzb hwl hhl hpl hwb hhb
      by_cases hneg : 0 ≤ least
      all_goals
        try have hlt : sum < least := by omega
        clear hcut
        go_enter Try.func87, Try.ntmps87
        go_wp2_with fail
        refine HCl.out.mono ?_
        rintro e w1 ⟨aL, capL, rfl, ho, hb1⟩
        have hbest := HM.out.best_ ho hb1 HB.out.2 sum
        have HE := Lib.hid (show NestEnd w0 w p gp gw gh (.slice an k cn) roll k cp cw ch plan ws hs k (plan, sum) (.returned (.tuple #[])) _ from ⟨rfl, (HB.out.step hb1).grown hbest.2 (fun k h => by cases h; exact HM.out.base.1), ((Kept.refl w _).below hb1).grown hbest.2 (.inl (.inl rfl)), plan, Hpl.out, by rw [List.take_of_length_le (by rw [Hpl.out]; omega)], hbest.1⟩)
        obtain ⟨hc1, hf1, hl1⟩ := bcell hb1
        have k5 : w1.cell? ⟨p, 5, none⟩ = some bv := by rw [hc1 _ _ hp4]; exact c5
        have k6 : w1.cell? ⟨p, 6, none⟩ = some (.int .i64 least) := by rw [hc1 _ _ hp4]; exact c6
        have q5 : w1.frozen? ⟨p, 5, none⟩ = false := by rw [hf1 _ _ hp4]; exact f5
        have q6 : w1.frozen? ⟨p, 6, none⟩ = false := by rw [hf1 _ _ hp4]; exact f6
        clear hbest hc1 hf1 hl1 hb1 ho
        go_wp2_with fail
        go_end0
        exact HE.out
  | succ d ih =>
    intro k used kv uv sum ws hs plan best least w hkv huv hi hwl hhl huk hwb hhb hpl h0 h1 h2 h3 hb hmem
    subst hkv huv
    obtain ⟨bv, c0, c1, c2, c3, c4, c5, c6, _, _⟩ := hmem.head_
    obtain ⟨bw, hbw⟩ : ∃ z, zs.getD (k * 2) 0 = z := ⟨_, rfl⟩
    obtain ⟨bh, hbh⟩ : ∃ z, zs.getD (k * 2 + 1) 0 = z := ⟨_, rfl⟩
    have hdrop := drop_pair hN (show k < n by omega) hbw hbh
    have hbwb := hzb (k * 2)
    have hbhb := hzb (k * 2 + 1)
    rw [hbw] at hbwb
    rw [hbh] at hbhb
    obtain ⟨bw0, bw1⟩ := hbwb
    obtain ⟨bh0, bh1⟩ := hbhb
    rw [hdrop]
    by_cases hcut : 0 ≤ least ∧ least ≤ sum
    · rw [nestTo_cut (st := (best, least)) hcut.1 hcut.2]
      have HE := Lib.hid (show NestEnd w0 w p gp gw gh (.slice an n cn) roll n cp cw ch plan ws hs k (best, least) (.returned (.tuple #[])) w from ⟨rfl, hb, Kept.refl _ _, plan, hpl, rfl, hmem⟩)
      obtain ⟨g1, g2⟩ := hcut
      clear hb hmem hc hN hzb hwl hhl hpl hwb hhb hbw hbh hdrop
      go_enter Try.func87, Try.ntmps87
      go_wp2_with fail
      go_end0
      exact HE.out
    · rw [nestTo_more (st := (best, least)) hcut, hwl]
      obtain ⟨bN, oN, rfl, hbN, hcN⟩ := hc.at_ (by simp; omega)
      obtain ⟨cx, cy⟩ := cell_pair (a := none) hN hb.1 hbN hcN (show k < n by omega) hbw hbh
      have HN := Lib.hid hN
      have Hzb := Lib.hid hzb
      have Hwl := Lib.hid hwl
      have Hhl := Lib.hid hhl
      have Hwb := Lib.hid hwb
      have Hhb := Lib.hid hhb
      have Hpl := Lib.hid hpl
      have HB := Lib.hid (hb.alloc (.cells #[.int .i64 bw, .int .i64 bh] 72))
      have HM := Lib.hid (hmem.alloc (.cells #[.int .i64 bw, .int .i64 bh] 72))
      have HX := Lib.hid (box2 w w0.heap.size w.heap.size 72 bw bh hb.2 rfl)
      have HKe := Lib.hid ((Kept.refl w (In4 p gp gw gh)).below ((Below.refl _ _).alloc (Nat.le_refl _) (.cells #[.int .i64 bw, .int .i64 bh] 72)))
      have HI := Lib.hid ih
      have Hp := Lib.hid hmem.base
      obtain ⟨bx, hbx⟩ : ∃ q, q = w.heap.size := ⟨_, rfl⟩
      rw [← hbx] at HX
      have HXn := Lib.hid (show ∀ b, (Value.slice (some ⟨bx, 0, none⟩) 1 1).ownBlock = some b → ¬ In4 p gp gw gh b from fun b e hi => by
        have e1 : bx = b := by simpa [Value.ownBlock] using e
        have := hmem.base
        rcases hi with e2 | e2 | e2 | e2 <;> omega)
      have Hbx := Lib.hid hbx
      have hkn : k < n := by omega
      have hkn' : (k : Int) < (n : Int) := by omega
      have hne : ((k : Int) == (n : Int)) = false := by simp; omega
      have hu8 : used ≤ 8 := by omega
      have hlt : ¬ 0 ≤ least ∨ sum < least := by omega
      have hkk : (k : Int) * 2 = ((k * 2 : Nat) : Int) := by omega
      clear hbw hbh hdrop hcN hc hb hmem hN hzb hwl hhl hpl hwb hhb ih hcut hbx
      go_enter Try.func87, Try.ntmps87
      go_upto_region 0 with fail
      go_cut [23] (fun t23 W => t23 = .bool false ∧ Hid (w = W))
      case first =>
        by_cases hneg : 0 ≤ least
        · have hlt2 : sum < least := by omega
          go_wp2_with fail
          go_meet
          exact ⟨by first | rfl | (simp; omega), Lib.hid rfl⟩
        · go_wp2_with fail
          go_meet
          exact ⟨by first | rfl | (simp; omega), Lib.hid rfl⟩
      case rest =>
        obtain ⟨rfl, hw⟩ := hcut
        have e := hw.out
        subst e
        clear hw hlt
        go_wp2_with fail
        rw [← Hbx.out]
        go_loopw [9, 10] (fun s _ wr => ∃ r : Nat, r ≤ used + 1 ∧ s = .int .i64 r ∧ ∃ (plan1 : List Int), Hid (plan1.length = n ∧ plan1.take k = plan.take k ∧ NestMem wr w0.heap.size p gp gw gh (.slice (some ⟨bN, oN, none⟩) n cn) roll n cp cw ch plan1 (pad9 ws) (pad9 hs) (nestAt roll bw bh (zs.drop ((k + 1) * 2)) ws hs (plan.take k) sum (best, least) r).1 (nestAt roll bw bh (zs.drop ((k + 1) * 2)) ws hs (plan.take k) sum (best, least) r).2) ∧ Hid (wr.ownsRow w0.heap.size 72 2 (.slice (some ⟨bx, 0, none⟩) 1 1) 1 [.int .i64 bw, .int .i64 bh]) ∧ Hid (Bel w0.heap.size w0 wr) ∧ Hid (Kept w wr (In4 p gp gw gh))) (fun s _ _ => used + 1 - (intOf s).toNat)
        case atStart => exact ⟨0, Nat.zero_le _, rfl, plan, Lib.hid ⟨Hpl.out, rfl, HM.out⟩, HX, HB, HKe⟩
        case round =>
          obtain ⟨r, hr, rfl, plan1, hst, hbox, hbw, hkp⟩ := hrel
          by_cases hlt2 : r ≤ used
          · obtain ⟨⟨kb, kl⟩, hkst⟩ : ∃ q, nestAt roll bw bh (zs.drop ((k + 1) * 2)) ws hs (plan.take k) sum (best, least) r = q := ⟨_, rfl⟩
            have hbd := nestAt_bd (roll := roll) (bw := bw) (bh := bh) (n := d) (bs := zs.drop ((k + 1) * 2)) (ws := ws) (hs := hs) (pre := plan.take k) (sum := sum) (st := (best, least)) (M := 45000) (by have := HN.out; simp; omega) (fun j => by have h := Hzb.out ((k + 1) * 2 + j); simpa using h) Hhb.out (by rw [Hhl.out, Hwl.out]) bh0 bh1 h0 (by omega) h2 h3 r (by rw [Hwl.out]; omega)
            rw [hkst] at hbd hst
            obtain ⟨hbd1, hbd2⟩ := hbd
            obtain ⟨v, hv⟩ : ∃ z, ws.getD r 0 = z := ⟨_, rfl⟩
            obtain ⟨q, hq⟩ : ∃ z, hs.getD r 0 = z := ⟨_, rfl⟩
            have hvb := Hwb.out r
            rw [hv] at hvb
            have hqb := Hhb.out r
            rw [hq] at hqb
            obtain ⟨hv0, hv1⟩ := hvb
            obtain ⟨hq0, hq1⟩ := hqb
            have hr9 : r < 9 := by omega
            have hr9' : (r : Int) < 9 := by omega
            have hru : (r : Int) ≤ (used : Int) := by omega
            obtain ⟨bv1, d0, d1, d2, d3, d4, d5, d6, _, _⟩ := hst.out.2.2.head_
            obtain ⟨ew, fw⟩ := hst.out.2.2.widAt hr9 (pad9_getD.trans hv)
            obtain ⟨x0, x1⟩ := box2_at hbox.out
            have Hv := Lib.hid hv
            have Hq := Lib.hid hq
            have Hkst := Lib.hid hkst
            clear hv hq hkst c0 c1 c2 c3 c4 c5 c6 cx cy
            by_cases hneg2 : roll < v + bw
            · go_wp2_with fail
              go_big_quiet (fail)
              go_wp2_with fail
              go_roundw
              case rel => exact ⟨r + 1, by omega, by go_num, plan1, Lib.hid ⟨hst.out.1, hst.out.2.1, by rw [nestAt_skip Hv.out hneg2, Hkst.out]; exact hst.out.2.2⟩, Lib.hid hbox.out, Lib.hid (hbw.out.drewN _), Lib.hid (hkp.out.drewN _)⟩
              case measure => simp [intOf]; omega
            · obtain ⟨J, hJ⟩ : ∃ J, J = max q bh := ⟨_, rfl⟩
              have hJb : q ≤ J ∧ bh ≤ J ∧ J ≤ 5000 := by omega
              obtain ⟨hJ0, hJ1, hJ2⟩ := hJb
              obtain ⟨x, hx⟩ : ∃ x, x = v + bw := ⟨_, rfl⟩
              have hxb : 0 ≤ x ∧ x ≤ 5000 := by omega
              obtain ⟨hxb0, hxb1⟩ := hxb
              obtain ⟨U, hU⟩ : ∃ U : Nat, U = max used (r + 1) := ⟨_, rfl⟩
              have hUb : U ≤ k + 1 := by omega
              have HJ := Lib.hid hJ
              have Hx := Lib.hid hx
              have HU := Lib.hid hU
              clear hJ hx hU
              go_wp2_with fail
              go_big_quiet (fail)
              go_upto_region 8 with fail
              generalize hwq : wr.drewN _ = wq
              have hMq : NestMem wq w0.heap.size p gp gw gh (.slice (some ⟨bN, oN, none⟩) n cn) roll n cp cw ch plan1 (pad9 ws) (pad9 hs) kb kl := by rw [← hwq]; exact hst.out.2.2
              have HBq := Lib.hid (show Bel w0.heap.size w0 wq by rw [← hwq]; exact hbw.out.drewN _)
              have HKq := Lib.hid (show Kept w wq (In4 p gp gw gh) by rw [← hwq]; exact hkp.out.drewN _)
              have HXq := Lib.hid (show wq.ownsRow w0.heap.size 72 2 (.slice (some ⟨bx, 0, none⟩) 1 1) 1 [.int .i64 bw, .int .i64 bh] by rw [← hwq]; exact hbox.out)
              clear hwq d0 d1 d2 d3 d4 d5 d6 ew fw x0 x1
              obtain ⟨bv2, d0, d1, d2, d3, d4, d5, d6, _, _⟩ := hMq.head_
              obtain ⟨eh, fh⟩ := hMq.heiAt hr9 (pad9_getD.trans Hq.out)
              obtain ⟨⟨up, ep⟩, fp⟩ := hMq.planAt hkn
              have hs1 := hMq.plan_ k (r : Int)
              have HM1 := Lib.hid hs1.1
              have HB1 := Lib.hid (HBq.out.grown hs1.2 (fun j h => by cases h; exact Hp.out.2.1))
              have HK1 := Lib.hid (HKq.out.grown hs1.2 (.inl (.inr (.inl rfl))))
              have HX1 := Lib.hid (own_no HXq.out hs1.2 (fun e => HXn.out _ e (.inr (.inl rfl))))
              clear hs1 hMq
              go_upto_region 10 with fail
              generalize wq.setCell _ _ = w1 at HM1 HB1 HK1 HX1 ⊢
              clear d0 d1 d2 d3 d4 d5 d6 eh fh ep fp
              obtain ⟨bv3, d0, d1, d2, d3, d4, d5, d6, _, _⟩ := HM1.out.head_
              obtain ⟨ew, fw⟩ := HM1.out.widAt hr9 (pad9_getD.trans Hv.out)
              obtain ⟨x0, x1⟩ := box2_at HX1.out
              have hs2 := NestMem.wid_ (W := w1.drew) HM1.out r x
              have hM2 := hs2.1
              rw [pad9_set (by rw [Hwl.out]; omega) hr9 (by rw [Hwl.out]; omega)] at hM2
              have HM2 := Lib.hid hM2
              have HB2 := Lib.hid (HB1.out.drew.grown hs2.2 (fun j h => by cases h; exact Hp.out.2.2.1))
              have HK2 := Lib.hid (HK1.out.drew.grown hs2.2 (.inl (.inr (.inr (.inl rfl)))))
              have HX2 := Lib.hid (own_no (w := w1.drew) HX1.out hs2.2 (fun e => HXn.out _ e (.inr (.inr (.inl rfl)))))
              have hvw : IntKind.i64.wrap (v + bw) = x := by rw [IntWalk.i64_in _ (by omega)]; exact Hx.out.symm
              have hvw2 : v + bw = x := Hx.out.symm
              clear hs2 hM2
              go_still_tail 11, (by kernel_rfl)
              go_upto_region 11 with fail
              generalize hw2 : (w1.setCell _ _).drew = w2
              replace HM2 := Lib.hid (show NestMem w2 w0.heap.size p gp gw gh (.slice (some ⟨bN, oN, none⟩) n cn) roll n cp cw ch (plan1.set k (r : Int)) (pad9 (putW ws r x)) (pad9 hs) kb kl by rw [← hw2]; exact HM2.out)
              replace HB2 := Lib.hid (show Bel w0.heap.size w0 w2 by rw [← hw2]; exact HB2.out)
              replace HK2 := Lib.hid (show Kept w w2 (In4 p gp gw gh) by rw [← hw2]; exact HK2.out)
              replace HX2 := Lib.hid (show w2.ownsRow w0.heap.size 72 2 (.slice (some ⟨bx, 0, none⟩) 1 1) 1 [.int .i64 bw, .int .i64 bh] by rw [← hw2]; exact HX2.out)
              clear hw2 hvw hvw2 d0 d1 d2 d3 d4 d5 d6 ew fw x0 x1
              obtain ⟨bv4, d0, d1, d2, d3, d4, d5, d6, _, _⟩ := HM2.out.head_
              obtain ⟨eh, fh⟩ := HM2.out.heiAt hr9 (pad9_getD.trans Hq.out)
              obtain ⟨x0, x1⟩ := box2_at HX2.out
              have hs3 := NestMem.hei_ (W := w2.drew) HM2.out r J
              have hM3 := hs3.1
              rw [pad9_set (by rw [Hhl.out]; omega) hr9 (by rw [Hhl.out]; omega)] at hM3
              have HM3 := Lib.hid hM3
              have HB3 := Lib.hid (HB2.out.drew.grown hs3.2 (fun j h => by cases h; exact Hp.out.2.2.2.1))
              have HK3 := Lib.hid (HK2.out.drew.grown hs3.2 (.inl (.inr (.inr (.inr rfl)))))
              have HX3 := Lib.hid (own_no (w := w2.drew) HX2.out hs3.2 (fun e => HXn.out _ e (.inr (.inr (.inr rfl)))))
              clear hs3 hM3
              by_cases hqj : q < bh
              all_goals
                first
                  | (have hmx : J = bh := by have := HJ.out; omega)
                  | (have hmx : J = q := by have := HJ.out; omega)
                have Hmx := Lib.hid hmx
                clear hmx
                go_still_tail 10, (by kernel_rfl)
                go_upto_region 12 with fail
                generalize hw3 : (w2.setCell _ _).drew = w3
                replace HM3 := Lib.hid (show NestMem w3 w0.heap.size p gp gw gh (.slice (some ⟨bN, oN, none⟩) n cn) roll n cp cw ch (plan1.set k (r : Int)) (pad9 (putW ws r x)) (pad9 (putW hs r J)) kb kl by rw [← hw3]; have h := HM3.out; rw [Hmx.out] at h ⊢; exact h)
                replace HB3 := Lib.hid (show Bel w0.heap.size w0 w3 by rw [← hw3]; have h := HB3.out; rw [Hmx.out] at h; exact h)
                replace HK3 := Lib.hid (show Kept w w3 (In4 p gp gw gh) by rw [← hw3]; have h := HK3.out; rw [Hmx.out] at h; exact h)
                replace HX3 := Lib.hid (show w3.ownsRow w0.heap.size 72 2 (.slice (some ⟨bx, 0, none⟩) 1 1) 1 [.int .i64 bw, .int .i64 bh] by rw [← hw3]; have h := HX3.out; rw [Hmx.out] at h; exact h)
                clear hw3 d0 d1 d2 d3 d4 d5 d6 eh fh x0 x1
                obtain ⟨bv5, d0, d1, d2, d3, d4, d5, d6, _, _⟩ := HM3.out.head_
                obtain ⟨eh, fh⟩ := HM3.out.heiAt (u := J) hr9 (pad9_getD.trans (by rw [putW_getD (by rw [Hhl.out]; omega), if_pos rfl]))
                have HF := Lib.hid (show nestAt roll bw bh (zs.drop ((k + 1) * 2)) ws hs (plan.take k) sum (best, least) (r + 1) = nestTo roll (zs.drop ((k + 1) * 2)) (putW ws r x) (putW hs r J) ((plan1.set k (r : Int)).take (k + 1)) (sum + J - q) (kb, kl) from by
                  rw [ntake_step _ (by rw [hst.out.1]; exact hkn), hst.out.2.1, ← Hkst.out, show sum + J - q = sum + (J - q) by omega, Hx.out]
                  exact nestAt_go Hv.out (by omega) Hq.out HJ.out)
                have HP9 := Lib.hid (show (putW ws r x).length = U ∧ (putW hs r J).length = U ∧ Between (putW ws r x) 5000 ∧ Between (putW hs r J) 5000 ∧ (plan1.set k (r : Int)).length = n from
                  ⟨by rw [putW_len (by rw [Hwl.out]; omega), Hwl.out, HU.out], by rw [putW_len (by rw [Hhl.out]; omega), Hhl.out, HU.out], Hwb.out.put (by rw [Hwl.out]; omega) hxb0 hxb1, Hhb.out.put (by rw [Hhl.out]; omega) (by omega) hJ2, by simp [hst.out.1]⟩)
                by_cases hur : used < r + 1
                all_goals
                  first
                    | (have hux : U = r + 1 := by have := HU.out; omega)
                    | (have hux : U = used := by have := HU.out; omega)
                  have Hux := Lib.hid hux
                  clear hux
                  go_wp2_with fail
                  refine (HI.out (k + 1) U _ _ _ (putW ws r x) (putW hs r J) (plan1.set k (r : Int)) kb kl _ (by omega) (by have := Hux.out; omega) (by omega) HP9.out.1 HP9.out.2.1 (by omega) HP9.out.2.2.1 HP9.out.2.2.2.1 HP9.out.2.2.2.2 (by omega) (by omega) hbd1 hbd2 HB3.out HM3.out).mono ?_
                  rintro e w4 ⟨rfl, hb4, hk4, plan2, hp2, ht2, hm4⟩
                  have HP2 := Lib.hid (show plan2.length = n ∧ plan2.take k = plan.take k from ⟨hp2, by
                    have h := congrArg (List.take k) ht2
                    rw [List.take_take, List.take_take, Nat.min_eq_left (by omega)] at h
                    rw [h, List.take_set_of_le (Nat.le_refl k), hst.out.2.1]⟩)
                  have HX4 := Lib.hid (own_kept HX3.out hk4 HXn.out)
                  have HK4 := Lib.hid (HK3.out.trans hk4 (fun _ _ h => h))
                  rw [← HF.out, ← pad9_set (ws := ws) (k := r) (x := x) (by rw [Hwl.out]; omega) hr9 (by rw [Hwl.out]; omega), ← pad9_set (ws := hs) (k := r) (x := J) (by rw [Hhl.out]; omega) hr9 (by rw [Hhl.out]; omega)] at hm4
                  obtain ⟨kb2, hkb2⟩ : ∃ q, q = nestAt roll bw bh (zs.drop ((k + 1) * 2)) ws hs (plan.take k) sum (best, least) (r + 1) := ⟨_, rfl⟩
                  rw [← hkb2] at hm4
                  have Hkb2 := Lib.hid hkb2
                  have HM4 := Lib.hid hm4
                  have HB4 := Lib.hid hb4
                  clear hkb2 hm4 hb4 hk4 hp2 ht2 HF HP9 HM3 HB3 HK3 HX3 d0 d1 d2 d3 d4 d5 d6 eh fh
                  obtain ⟨bv6, d0, d1, d2, d3, d4, d5, d6, _, _⟩ := HM4.out.head_
                  obtain ⟨ew, fw⟩ := HM4.out.widAt (u := x) hr9 (nset_at x (by rw [pad9_len (by rw [Hwl.out]; omega)]; exact hr9))
                  obtain ⟨x0, x1⟩ := box2_at HX4.out
                  have hs5 := NestMem.wid_ (W := w4.drew) HM4.out r v
                  have hM5 := hs5.1
                  rw [nset_back x (by rw [pad9_len (by rw [Hwl.out]; omega)]; exact hr9) (pad9_getD.trans Hv.out)] at hM5
                  have HM5 := Lib.hid hM5
                  have HB5 := Lib.hid (HB4.out.drew.grown hs5.2 (fun j h => by cases h; exact Hp.out.2.2.1))
                  have HK5 := Lib.hid (HK4.out.drew.grown hs5.2 (.inl (.inr (.inr (.inl rfl)))))
                  have HX5 := Lib.hid (own_no (w := w4.drew) HX4.out hs5.2 (fun e => HXn.out _ e (.inr (.inr (.inl rfl)))))
                  have hvw : IntKind.i64.wrap (x - bw) = v := by rw [IntWalk.i64_in _ (by omega)]; have := Hx.out; omega
                  have hvw2 : x - bw = v := by have := Hx.out; omega
                  clear hs5 hM5
                  go_wp2_with fail
                  go_still_tail 11, (by kernel_rfl)
                  go_upto_region 14 with fail
                  generalize hw5 : (w4.setCell _ _).drew = w5
                  replace HM5 := Lib.hid (show NestMem w5 w0.heap.size p gp gw gh (.slice (some ⟨bN, oN, none⟩) n cn) roll n cp cw ch plan2 (pad9 ws) ((pad9 hs).set r J) kb2.1 kb2.2 by rw [← hw5]; exact HM5.out)
                  replace HB5 := Lib.hid (show Bel w0.heap.size w0 w5 by rw [← hw5]; exact HB5.out)
                  replace HK5 := Lib.hid (show Kept w w5 (In4 p gp gw gh) by rw [← hw5]; exact HK5.out)
                  replace HX5 := Lib.hid (show w5.ownsRow w0.heap.size 72 2 (.slice (some ⟨bx, 0, none⟩) 1 1) 1 [.int .i64 bw, .int .i64 bh] by rw [← hw5]; exact HX5.out)
                  clear hw5 hvw hvw2 d0 d1 d2 d3 d4 d5 d6 ew fw x0 x1
                  obtain ⟨bv7, d0, d1, d2, d3, d4, d5, d6, _, _⟩ := HM5.out.head_
                  obtain ⟨eh, fh⟩ := HM5.out.heiAt (u := J) hr9 (nset_at J (by rw [pad9_len (by rw [Hhl.out]; omega)]; exact hr9))
                  have hs6 := HM5.out.hei_ r q
                  rw [nset_back J (by rw [pad9_len (by rw [Hhl.out]; omega)]; exact hr9) (pad9_getD.trans Hq.out)] at hs6
                  have HM6 := Lib.hid hs6.1
                  have HB6 := Lib.hid (HB5.out.grown hs6.2 (fun j h => by cases h; exact Hp.out.2.2.2.1))
                  have HK6 := Lib.hid (HK5.out.grown hs6.2 (.inl (.inr (.inr (.inr rfl)))))
                  have HX6 := Lib.hid (own_no HX5.out hs6.2 (fun e => HXn.out _ e (.inr (.inr (.inr rfl)))))
                  clear hs6
                  go_wp2_with fail
                  go_roundw
                  case rel => exact ⟨r + 1, by omega, by go_num, plan2, Lib.hid ⟨HP2.out.1, HP2.out.2, by rw [← Hkb2.out]; exact HM6.out⟩, HX6, HB6, HK6⟩
                  case measure => simp [intOf]; omega
          · obtain rfl : r = used + 1 := by omega
            have HE := Lib.hid (show NestEnd w0 w p gp gw gh (.slice (some ⟨bN, oN, none⟩) n cn) roll n cp cw ch plan ws hs k (nestAt roll bw bh (zs.drop ((k + 1) * 2)) ws hs (plan.take k) sum (best, least) (used + 1)) (.returned (.tuple #[])) wr from ⟨rfl, hbw.out, hkp.out, plan1, hst.out.1, hst.out.2.1, hst.out.2.2⟩)
            go_wp2_with fail
            go_end0
            exact HE.out
end Go.Proofs.Ytoomkeicfdmdoaa
