/-
  The memory of the reference's copy of a pattern. No condition of its own.
-/
import Derived.Test.YthemlamdchcicaaGreatDoorGBox
import Derived.Test.YthemlamdchcicaaGreatDoorPatZ
namespace Go.Proofs.YthemlamdchcicaaGreatDoor
open Go.ChangeShapes Go.WideShapes Go.ChangeAt Go.RowKit Go.Deep Go.Shelf Go.ChangeMaps

theorem set3_far (W : World) (q x j : Nat) (a b c : Value) (h : q ≠ x) : (((W.setCell ⟨q, 0, none⟩ a).setCell ⟨q, 1, none⟩ b).setCell ⟨q, 2, none⟩ c).cell? ⟨x, j, none⟩ = W.cell? ⟨x, j, none⟩ := by
  rw [World.cell?_setCell_far _ _ _ _ h, World.cell?_setCell_far _ _ _ _ h, World.cell?_setCell_far _ _ _ _ h]
theorem Obx.set3 {W : World} {B q E : Nat} {x0 x1 x2 a b c : Value} (h : Obx W B q E 3 [x0, x1, x2]) : Obx (((W.setCell ⟨q, 0, none⟩ a).setCell ⟨q, 1, none⟩ b).setCell ⟨q, 2, none⟩ c) B q E 3 [a, b, c] := ((h.set 0 a).set 1 b).set 2 c
theorem set3_grown (W : World) (q : Nat) (a b c : Value) : W.grownBy (((W.setCell ⟨q, 0, none⟩ a).setCell ⟨q, 1, none⟩ b).setCell ⟨q, 2, none⟩ c) (some q) :=
  grown_trans_row (grown_trans_row (setCell_grown _ q 0 a) (setCell_grown _ q 1 b)) (setCell_grown _ q 2 c)
theorem Obx.drew_ {W : World} {B q E k : Nat} {vs : List Value} (h : Obx W B q E k vs) : Obx W.drew B q E k vs := h
/-- The memory of a copy: the first k pieces are copied. -/
structure OwnMem (W wr : World) (p : Pat) (k q3 : Nat) (a : Option Addr) (c : Nat) (a5 : Option Addr) (m c5 : Nat) (op : Int) (g cE : Nat → Nat) : Prop where
  out : Obx wr W.heap.size q3 41 3 [.slice a k c, .slice a5 m c5, .int .i64 op]
  pcs : PcsOwn wr W.heap.size p k a c g cE
  sms : wr.ownsRow W.heap.size 110 4 (.slice a5 m c5) m (smC p m)
  n1 : ∀ b, (Value.slice a k c).ownBlock = some b → b ≠ q3 ∧ (Value.slice a5 m c5).ownBlock ≠ some b
  n2 : ∀ i, i < k → g i ≠ q3 ∧ (Value.slice a5 m c5).ownBlock ≠ some (g i)
  n3 : ∀ b, (Value.slice a5 m c5).ownBlock = some b → b ≠ q3
  bel : Bel W.heap.size W wr
theorem OwnMem.more {W wr w5 w6 : World} {p : Pat} {k q3 : Nat} {a a' a5 : Option Addr} {c c' m c5 x capE : Nat} {op : Int} {g cE : Nat → Nat} {o : Obj} (h : OwnMem W wr p k q3 a c a5 m c5 op g cE) (hb : Below wr.heap.size wr w5)
    (hoE : w5.ownsRow wr.heap.size 2 1 (.slice (some ⟨x, 0, none⟩) (p.len k) capE) (p.len k) (edL p k)) (hg : (w5.alloc o).grownBy w6 (Value.slice a k c).ownBlock)
    (ho : w6.ownsRow W.heap.size 107 2 (.slice a' (k + 1) c') (k + 1) (pcC p g cE k ++ [.string (p.name k), .slice (some ⟨x, 0, none⟩) (p.len k) capE]))
    (hat : (Value.slice a' (k + 1) c').ownBlock = (Value.slice a k c).ownBlock ∨ (Value.slice a' (k + 1) c').ownBlock = some (w5.alloc o).heap.size) :
    OwnMem W (w6.setCell ⟨q3, 0, none⟩ (.slice a' (k + 1) c')) p (k + 1) q3 a' c' a5 m c5 op (upd g k x) (upd cE k capE) := by
  have hx := own_block (b := x) hoE rfl
  have hs := hb.size
  have hq := h.out.lt
  have hP6 := h.pcs.more h.bel.2 hb hoE hg ho hat
  have hg7 := setCell_grown w6 q3 0 (.slice a' (k + 1) c')
  have h5 : (w5.alloc o).heap.size = w5.heap.size + 1 := by simp
  have hbn : ∀ b, (Value.slice a' (k + 1) c').ownBlock = some b → (Value.slice a k c).ownBlock = some b ∨ b = w5.heap.size + 1 := fun b hbb => by
    rcases hat with h1 | h1
    · rw [hbb] at h1; exact .inl h1.symm
    · rw [hbb] at h1; exact .inr (by rw [← h5]; exact Option.some.inj h1)
  have hO6 : Obx w6 W.heap.size q3 41 3 [.slice a k c, .slice a5 m c5, .int .i64 op] := Obx.grown ((h.out.below hb).alloc o) hg (fun e => (h.n1 q3 e).1 rfl)
  have hS6 := own_grown_ne ((own_below h.sms hb).alloc o) hg (fun b hb' e => (h.n1 b e).2 hb')
  have hB6 : Bel W.heap.size W w6 := ((h.bel.step hb).alloc o).grown hg (fun b e => (own_block h.pcs.row e).1)
  refine ⟨hO6.set 0 _, hP6.grown hg7 (fun b hbb e => ?_) (fun i hi e => ?_), own_grown_ne hS6 hg7 (fun b hb' e => h.n3 b hb' (Option.some.inj e).symm), fun b hbb => ?_, fun i hi => ?_, h.n3, hB6.setCell (p := ⟨q3, 0, none⟩) hq.1 _⟩
  · rcases hbn b hbb with h1 | h1
    · exact (h.n1 b h1).1 e.symm
    · omega
  · by_cases e2 : i = k
    · subst e2; rw [upd_at] at e; omega
    · rw [upd_ne g (show i < k by omega)] at e
      exact (h.n2 i (by omega)).1 e.symm
  · rcases hbn b hbb with h1 | h1
    · exact h.n1 b h1
    · exact ⟨by omega, fun e => by have := (own_block h.sms e).2; omega⟩
  · by_cases e2 : i = k
    · subst e2
      rw [upd_at]
      exact ⟨by omega, fun e => by have := (own_block h.sms e).2; omega⟩
    · rw [upd_ne g (show i < k by omega)]
      exact h.n2 i (by omega)
set_option maxHeartbeats 800000 in
/-- The append of a new piece to a row that lies in a field of a box of the call's own, in a region that draws. -/
theorem step_append_piece {ops : Array Oper} {o : Oper} {a : Act} {W : World} {K : Act → World → Prop} {Q : Exit → Act → World → Prop} {E : Prop} (hgd : o.guard = none) (s x : Operand)
    (ho : o.op = .call { callee := .builtin .append, args := #[s, x], argTypes := #[38, 38] }) (B n c q g L cE : Nat) (nm : ByteArray) (ao : Option Addr) (xs : List Value) (z1 z2 : Value) (B' : Nat)
    (hs : a.eval s = .slice ao n c) (hx : a.eval x = .slice (some ⟨W.heap.size, 0, none⟩) 1 1) (hown : Hid (W.ownsRow B 107 2 (.slice ao n c) n xs)) (hn : n ≤ 1000) (hB : B ≤ W.heap.size)
    (hX : Hid (Obx W B' q 41 3 [.slice ao n c, z1, z2] ∧ ∀ b, (Value.slice ao n c).ownBlock = some b → b ≠ q))
    (h : ∀ a' c' w6, Hid (w6.ownsRow B 107 2 (.slice a' (n + 1) c') (n + 1) (xs ++ [.string nm, .slice (some ⟨g, 0, none⟩) L cE]) ∧ (W.alloc (.cells #[.string nm, .slice (some ⟨g, 0, none⟩) L cE] 107)).grownBy w6 (Value.slice ao n c).ownBlock ∧
        ((Value.slice a' (n + 1) c').ownBlock = (Value.slice ao n c).ownBlock ∨ (Value.slice a' (n + 1) c').ownBlock = some (W.alloc (.cells #[.string nm, .slice (some ⟨g, 0, none⟩) L cE] 107)).heap.size)) →
      w6.cell? ⟨q, 0, none⟩ = some (.slice ao n c) → w6.frozen? ⟨q, 0, none⟩ = false → q < w6.heap.size → K (a.put o.dst (.slice a' (n + 1) c')) w6) :
    if Region.wanted o (yielded ops a.tmps) = true then Oper.wp Tryz.prog o a (W.alloc (.cells #[.string nm, .slice (some ⟨g, 0, none⟩) L cE] 107)) K Q else E := by
  obtain ⟨ip, hip, i0, i1, i2⟩ := info_parts infoPiece
  refine step_append_any hgd s x 38 ho B 107 ip (.agg #[.string ByteArray.empty, .slice none 0 0]) 2 40 Tryz.underlying38 hip i0 i1 i2 rfl (by omega) (.slice ao n c) n xs hs (hown.out.alloc _) (some ⟨W.heap.size, 0, none⟩) 1 1 [.string nm, .slice (some ⟨g, 0, none⟩) L cE] hx rfl (fun h => by cases h)
    (fun ad had => by cases had; exact new_cells (w := W) (cs := #[.string nm, .slice (some ⟨g, 0, none⟩) L cE]) (t := 107) rfl rfl) (fun u hu => by simp only [List.mem_cons, List.not_mem_nil, or_false] at hu; rcases hu with rfl | rfl <;> rfl) (by unfold maxLen; omega) (by omega) (by simp; omega) ?_
  intro a' c' w6 ho6 hg6 hat6
  have HX6 := Obx.grown (hX.out.1.alloc (.cells #[.string nm, .slice (some ⟨g, 0, none⟩) L cE] 107)) hg6 (fun e => hX.out.2 q e rfl)
  exact h a' c' w6 (Lib.hid ⟨ho6, hg6, hat6⟩) (HX6.cell 0 (by omega)) (HX6.fr 0) HX6.lt.2
/-- A pattern with one seam more. -/
def Pat.add (p : Pat) (a b : Ed) : Pat := { p with m := p.m + 1, a := fun k => if k = p.m then a else p.a k, b := fun k => if k = p.m then b else p.b k }
theorem Pat.add_a (p : Pat) (a b : Ed) : (p.add a b).a p.m = a ∧ (p.add a b).b p.m = b := ⟨if_pos rfl, if_pos rfl⟩
theorem Pat.add_lt (p : Pat) (a b : Ed) {k : Nat} (h : k < p.m) : (p.add a b).a k = p.a k ∧ (p.add a b).b k = p.b k := ⟨if_neg (by omega), if_neg (by omega)⟩
theorem Pat.Ok.add {p : Pat} (h : p.Ok) {a b : Ed} (hm : p.m < 8) (ha : p.on a) (hb : p.on b) (hab : a ≠ b) (ta : p.times a = 0) (tb : p.times b = 0) : (p.add a b).Ok := by
  have na := Pat.mateTo_none.1 ((p.timesTo_zero a p.m).1 ta)
  have nb := Pat.mateTo_none.1 ((p.timesTo_zero b p.m).1 tb)
  refine ⟨h.n1, h.n2, h.len, h.name, h.val, ?_, fun k hk => ?_, fun k hk => ?_, fun j k hj hk => ?_⟩
  · show p.m + 1 ≤ 8
    omega
  · have hk : k < p.m + 1 := hk
    by_cases e : k = p.m
    · subst e
      rw [(p.add_a a b).1, (p.add_a a b).2]
      exact ⟨ha, hb⟩
    · rw [(p.add_lt a b (show k < p.m by omega)).1, (p.add_lt a b (show k < p.m by omega)).2]
      exact h.on k (by omega)
  · have hk : k < p.m + 1 := hk
    by_cases e : k = p.m
    · subst e
      rw [(p.add_a a b).1, (p.add_a a b).2]
      exact hab
    · rw [(p.add_lt a b (show k < p.m by omega)).1, (p.add_lt a b (show k < p.m by omega)).2]
      exact h.ab k (by omega)
  · have hk : k < p.m + 1 := hk
    rw [(p.add_lt a b (show j < p.m by omega)).1, (p.add_lt a b (show j < p.m by omega)).2]
    by_cases e : k = p.m
    · subst e
      rw [(p.add_a a b).1, (p.add_a a b).2]
      exact ⟨fun x => (na j hj).1 x.symm, fun x => (nb j hj).1 x.symm, fun x => (na j hj).2 x.symm, fun x => (nb j hj).2 x.symm⟩
    · rw [(p.add_lt a b (show k < p.m by omega)).1, (p.add_lt a b (show k < p.m by omega)).2]
      exact h.aa j k hj (by omega)
theorem smC_add (p : Pat) (a b : Ed) : smC (p.add a b) (p.m + 1) = smC p p.m ++ [.int .i64 (a.1 : Int), .int .i64 (a.2 : Int), .int .i64 (b.1 : Int), .int .i64 (b.2 : Int)] := by
  rw [smC_succ, (p.add_a a b).1, (p.add_a a b).2]
  congr 1
  have : ∀ k, k ≤ p.m → smC (p.add a b) k = smC p k := fun k => by
    induction k with
    | zero => exact fun _ => rfl
    | succ k ih => exact fun hk => by rw [smC_succ, smC_succ, ih (by omega), (p.add_lt a b (show k < p.m by omega)).1, (p.add_lt a b (show k < p.m by omega)).2]
  exact this p.m (Nat.le_refl _)
end Go.Proofs.YthemlamdchcicaaGreatDoor
