/-
  The contract of the reference's search for the best rows. No condition of its own.
-/
import Derived.Test.YtoomkeicfdmdoaaNestI
import Derived.WalkSmall
namespace Go.Proofs.Ytoomkeicfdmdoaa
open Go.ChangeShapes Go.WideShapes Go.ChangeAt Go.RowKit Go.Deep Go.Shelf

theorem l00Max_n (x y : Int) (w : World) : Calls Try.prog 69 #[.int .i64 x, .int .i64 y] w fun e w' => e = .returned (.int .i64 (max x y)) ∧ w = w' := by
  go_enter Try.func69, Try.ntmps69
  go_wp2
  all_goals
    go_ret
    exact ⟨ret_int (by omega), rfl⟩
/-- The memory of the reference's search. -/
def NestX (W : World) (B p gp gw gh : Nat) (nd : Value) (roll : Int) (jw jh i cp cw ch : Nat) (pre ws hs best : List Int) (least : Int) : Prop :=
  ∃ (bv : Value) (nb : Nat), W.ownsRow B 68 7 (.slice (some ⟨p, 0, none⟩) 1 1) 1 [nd, .int .i64 roll, .slice (some ⟨gw, 0, none⟩) jw cw, .slice (some ⟨gh, 0, none⟩) jh ch, .slice (some ⟨gp, 0, none⟩) i cp, bv, .int .i64 least]
    ∧ W.ownsRow B 2 1 (.slice (some ⟨gp, 0, none⟩) i cp) i (nints pre) ∧ W.ownsRow B 2 1 (.slice (some ⟨gw, 0, none⟩) jw cw) jw (nints ws) ∧ W.ownsRow B 2 1 (.slice (some ⟨gh, 0, none⟩) jh ch) jh (nints hs)
    ∧ W.ownsRow B 2 1 bv nb (nints best) ∧ (∀ b, bv.ownBlock = some b → ¬ In4 p gp gw gh b) ∧ Apart4 p gp gw gh
section
variable {W : World} {B p gp gw gh jw jh i cp cw ch : Nat} {nd : Value} {roll : Int} {pre ws hs best : List Int} {least : Int}
theorem NestX.wid_ (h : NestX W B p gp gw gh nd roll jw jh i cp cw ch pre ws hs best least) (k : Nat) (x : Int) :
    NestX (W.setCell ⟨gw, k, none⟩ (.int .i64 x)) B p gp gw gh nd roll jw jh i cp cw ch pre (ws.set k x) hs best least ∧ W.grownBy (W.setCell ⟨gw, k, none⟩ (.int .i64 x)) (some gw) := by
  obtain ⟨bv, nb, h1, h2, h3, h4, h5, h6, s1, s2, s3, s4, s5, s6⟩ := h
  have hs' := h3.stored k (.int .i64 x)
  refine ⟨⟨bv, nb, own_no h1 hs'.2 (blk_ne (m := 0) s2), own_no h2 hs'.2 (blk_ne (m := 0) s4), by rw [nints, List.map_set]; exact hs'.1, own_no h4 hs'.2 (blk_ne (m := 0) s6.symm), own_no h5 hs'.2 (fun e => h6 _ e (.inr (.inr (.inl rfl)))), h6, s1, s2, s3, s4, s5, s6⟩, hs'.2⟩
theorem NestX.hei_ (h : NestX W B p gp gw gh nd roll jw jh i cp cw ch pre ws hs best least) (k : Nat) (x : Int) :
    NestX (W.setCell ⟨gh, k, none⟩ (.int .i64 x)) B p gp gw gh nd roll jw jh i cp cw ch pre ws (hs.set k x) best least ∧ W.grownBy (W.setCell ⟨gh, k, none⟩ (.int .i64 x)) (some gh) := by
  obtain ⟨bv, nb, h1, h2, h3, h4, h5, h6, s1, s2, s3, s4, s5, s6⟩ := h
  have hs' := h4.stored k (.int .i64 x)
  refine ⟨⟨bv, nb, own_no h1 hs'.2 (blk_ne (m := 0) s3), own_no h2 hs'.2 (blk_ne (m := 0) s5), own_no h3 hs'.2 (blk_ne (m := 0) s6), by rw [nints, List.map_set]; exact hs'.1, own_no h5 hs'.2 (fun e => h6 _ e (.inr (.inr (.inr rfl)))), h6, s1, s2, s3, s4, s5, s6⟩, hs'.2⟩
theorem NestX.widF {W' : World} {g j cap : Nat} {xs : List Int} (h : NestX W B p gp gw gh nd roll jw jh i cp cw ch pre ws hs best least) (hg : W.grownBy W' (some gw)) (hat : gw = g ∨ W.heap.size ≤ g)
    (ho : W'.ownsRow B 2 1 (.slice (some ⟨g, 0, none⟩) j cap) j (nints xs)) :
    NestX (W'.setCell ⟨p, 2, none⟩ (.slice (some ⟨g, 0, none⟩) j cap)) B p gp g gh nd roll j jh i cp cap ch pre xs hs best least ∧ W'.grownBy (W'.setCell ⟨p, 2, none⟩ (.slice (some ⟨g, 0, none⟩) j cap)) (some p)
      ∧ (∃ v, W'.cell? ⟨p, 2, none⟩ = some v) ∧ W'.frozen? ⟨p, 2, none⟩ = false := by
  obtain ⟨bv, nb, h1, h2, h3, h4, h5, h6, s1, s2, s3, s4, s5, s6⟩ := h
  have bp := (own_block (b := p) h1 rfl).2
  have bgp := (own_block (b := gp) h2 rfl).2
  have bgw := (own_block (b := gw) h3 rfl).2
  have bgh := (own_block (b := gh) h4 rfl).2
  have hbb : ∀ b, bv.ownBlock = some b → b < W.heap.size := fun b e => (own_block h5 e).2
  have q1 : p ≠ g := by rcases hat with rfl | hh <;> omega
  have q2 : gp ≠ g := by rcases hat with rfl | hh <;> omega
  have q3 : g ≠ gh := by rcases hat with rfl | hh <;> omega
  have k1 := own_no h1 hg (blk_ne (m := 0) s2)
  have k2 := own_no h2 hg (blk_ne (m := 0) s4)
  have k4 := own_no h4 hg (blk_ne (m := 0) s6.symm)
  have k5 := own_no h5 hg (fun e => h6 _ e (.inr (.inr (.inl rfl))))
  have hs' := k1.stored 2 (.slice (some ⟨g, 0, none⟩) j cap)
  have hnb : ∀ b, bv.ownBlock = some b → ¬ In4 p gp g gh b := fun b e hi => by
    have hb1 := hbb b e
    rcases hi with e1 | e1 | e1 | e1
    · exact h6 b e (.inl e1)
    · exact h6 b e (.inr (.inl e1))
    · rcases hat with e2 | e2
      · exact h6 b e (.inr (.inr (.inl (e1.trans e2.symm))))
      · omega
    · exact h6 b e (.inr (.inr (.inr e1)))
  exact ⟨⟨bv, nb, hs'.1, own_no k2 hs'.2 (blk_ne (m := 0) s1.symm), own_no ho hs'.2 (blk_ne (m := 0) q1.symm), own_no k4 hs'.2 (blk_ne (m := 0) s3.symm), own_no k5 hs'.2 (fun e => h6 _ e (.inl rfl)), hnb, s1, q1, s3, q2, s5, q3⟩, hs'.2, ⟨_, by rw [k1.cellAt 2 (by omega)]; rfl⟩, k1.frozenAt 2⟩
theorem NestX.heiF {W' : World} {g j cap : Nat} {xs : List Int} (h : NestX W B p gp gw gh nd roll jw jh i cp cw ch pre ws hs best least) (hg : W.grownBy W' (some gh)) (hat : gh = g ∨ W.heap.size ≤ g)
    (ho : W'.ownsRow B 2 1 (.slice (some ⟨g, 0, none⟩) j cap) j (nints xs)) :
    NestX (W'.setCell ⟨p, 3, none⟩ (.slice (some ⟨g, 0, none⟩) j cap)) B p gp gw g nd roll jw j i cp cw cap pre ws xs best least ∧ W'.grownBy (W'.setCell ⟨p, 3, none⟩ (.slice (some ⟨g, 0, none⟩) j cap)) (some p)
      ∧ (∃ v, W'.cell? ⟨p, 3, none⟩ = some v) ∧ W'.frozen? ⟨p, 3, none⟩ = false := by
  obtain ⟨bv, nb, h1, h2, h3, h4, h5, h6, s1, s2, s3, s4, s5, s6⟩ := h
  have bp := (own_block (b := p) h1 rfl).2
  have bgp := (own_block (b := gp) h2 rfl).2
  have bgw := (own_block (b := gw) h3 rfl).2
  have bgh := (own_block (b := gh) h4 rfl).2
  have hbb : ∀ b, bv.ownBlock = some b → b < W.heap.size := fun b e => (own_block h5 e).2
  have q1 : p ≠ g := by rcases hat with rfl | hh <;> omega
  have q2 : gp ≠ g := by rcases hat with rfl | hh <;> omega
  have q3 : gw ≠ g := by rcases hat with rfl | hh <;> omega
  have k1 := own_no h1 hg (blk_ne (m := 0) s3)
  have k2 := own_no h2 hg (blk_ne (m := 0) s5)
  have k3 := own_no h3 hg (blk_ne (m := 0) s6)
  have k5 := own_no h5 hg (fun e => h6 _ e (.inr (.inr (.inr rfl))))
  have hs' := k1.stored 3 (.slice (some ⟨g, 0, none⟩) j cap)
  have hnb : ∀ b, bv.ownBlock = some b → ¬ In4 p gp gw g b := fun b e hi => by
    have hb1 := hbb b e
    rcases hi with e1 | e1 | e1 | e1
    · exact h6 b e (.inl e1)
    · exact h6 b e (.inr (.inl e1))
    · exact h6 b e (.inr (.inr (.inl e1)))
    · rcases hat with e2 | e2
      · exact h6 b e (.inr (.inr (.inr (e1.trans e2.symm))))
      · omega
  exact ⟨⟨bv, nb, hs'.1, own_no k2 hs'.2 (blk_ne (m := 0) s1.symm), own_no k3 hs'.2 (blk_ne (m := 0) s2.symm), own_no ho hs'.2 (blk_ne (m := 0) q1.symm), own_no k5 hs'.2 (fun e => h6 _ e (.inl rfl)), hnb, s1, s2, q1, s4, q2, q3⟩, hs'.2, ⟨_, by rw [k1.cellAt 3 (by omega)]; rfl⟩, k1.frozenAt 3⟩
theorem NestX.rowF {W' : World} {g j cap : Nat} {xs : List Int} (h : NestX W B p gp gw gh nd roll jw jh i cp cw ch pre ws hs best least) (hg : W.grownBy W' (some gp)) (hat : gp = g ∨ W.heap.size ≤ g)
    (ho : W'.ownsRow B 2 1 (.slice (some ⟨g, 0, none⟩) j cap) j (nints xs)) :
    NestX (W'.setCell ⟨p, 4, none⟩ (.slice (some ⟨g, 0, none⟩) j cap)) B p g gw gh nd roll jw jh j cap cw ch xs ws hs best least ∧ W'.grownBy (W'.setCell ⟨p, 4, none⟩ (.slice (some ⟨g, 0, none⟩) j cap)) (some p)
      ∧ (∃ v, W'.cell? ⟨p, 4, none⟩ = some v) ∧ W'.frozen? ⟨p, 4, none⟩ = false := by
  obtain ⟨bv, nb, h1, h2, h3, h4, h5, h6, s1, s2, s3, s4, s5, s6⟩ := h
  have bp := (own_block (b := p) h1 rfl).2
  have bgp := (own_block (b := gp) h2 rfl).2
  have bgw := (own_block (b := gw) h3 rfl).2
  have bgh := (own_block (b := gh) h4 rfl).2
  have hbb : ∀ b, bv.ownBlock = some b → b < W.heap.size := fun b e => (own_block h5 e).2
  have q1 : p ≠ g := by rcases hat with rfl | hh <;> omega
  have q2 : g ≠ gw := by rcases hat with rfl | hh <;> omega
  have q3 : g ≠ gh := by rcases hat with rfl | hh <;> omega
  have k1 := own_no h1 hg (blk_ne (m := 0) s1)
  have k3 := own_no h3 hg (blk_ne (m := 0) s4.symm)
  have k4 := own_no h4 hg (blk_ne (m := 0) s5.symm)
  have k5 := own_no h5 hg (fun e => h6 _ e (.inr (.inl rfl)))
  have hs' := k1.stored 4 (.slice (some ⟨g, 0, none⟩) j cap)
  have hnb : ∀ b, bv.ownBlock = some b → ¬ In4 p g gw gh b := fun b e hi => by
    have hb1 := hbb b e
    rcases hi with e1 | e1 | e1 | e1
    · exact h6 b e (.inl e1)
    · rcases hat with e2 | e2
      · exact h6 b e (.inr (.inl (e1.trans e2.symm)))
      · omega
    · exact h6 b e (.inr (.inr (.inl e1)))
    · exact h6 b e (.inr (.inr (.inr e1)))
  exact ⟨⟨bv, nb, hs'.1, own_no ho hs'.2 (blk_ne (m := 0) q1.symm), own_no k3 hs'.2 (blk_ne (m := 0) s2.symm), own_no k4 hs'.2 (blk_ne (m := 0) s3.symm), own_no k5 hs'.2 (fun e => h6 _ e (.inl rfl)), hnb, q1, s2, s3, q2, q3, s6⟩, hs'.2, ⟨_, by rw [k1.cellAt 4 (by omega)]; rfl⟩, k1.frozenAt 4⟩
theorem NestX.best_ {W' : World} {av : Value} {na : Nat} (h : NestX W B p gp gw gh nd roll jw jh i cp cw ch pre ws hs best least) {zs : List Int} (hn : W'.ownsRow W.heap.size 2 1 av na (nints zs)) (hb : Below W.heap.size W W') (hB : B ≤ W.heap.size) (x : Int) :
    NestX ((W'.setCell ⟨p, 5, none⟩ av).setCell ⟨p, 6, none⟩ (.int .i64 x)) B p gp gw gh nd roll jw jh i cp cw ch pre ws hs zs x ∧ W'.grownBy ((W'.setCell ⟨p, 5, none⟩ av).setCell ⟨p, 6, none⟩ (.int .i64 x)) (some p) := by
  obtain ⟨bv, nb, h1, h2, h3, h4, h5, h6, s1, s2, s3, s4, s5, s6⟩ := h
  have k1 := own_below h1 hb
  have k2 := k1.stored 5 av
  have k3 := k2.1.stored 6 (.int .i64 x)
  have hg := grown_trans_row k2.2 k3.2
  have bp := (own_block (b := p) h1 rfl).2
  have bgp := (own_block (b := gp) h2 rfl).2
  have bgw := (own_block (b := gw) h3 rfl).2
  have bgh := (own_block (b := gh) h4 rfl).2
  have hnew : ∀ b, av.ownBlock = some b → ¬ In4 p gp gw gh b := fun b e hi => by
    have := (own_block hn e).1
    rcases hi with e1 | e1 | e1 | e1 <;> omega
  exact ⟨⟨av, na, k3.1, own_no (own_below h2 hb) hg (blk_ne (m := 0) s1.symm), own_no (own_below h3 hb) hg (blk_ne (m := 0) s2.symm), own_no (own_below h4 hb) hg (blk_ne (m := 0) s3.symm), own_no (own_base hn hB) hg (fun e => hnew _ e (.inl rfl)), hnew, s1, s2, s3, s4, s5, s6⟩, hg⟩
theorem NestX.head_ (h : NestX W B p gp gw gh nd roll jw jh i cp cw ch pre ws hs best least) :
    ∃ bv, W.cell? ⟨p, 0, none⟩ = some nd ∧ W.cell? ⟨p, 1, none⟩ = some (.int .i64 roll) ∧ W.cell? ⟨p, 2, none⟩ = some (.slice (some ⟨gw, 0, none⟩) jw cw) ∧ W.cell? ⟨p, 3, none⟩ = some (.slice (some ⟨gh, 0, none⟩) jh ch) ∧ W.cell? ⟨p, 4, none⟩ = some (.slice (some ⟨gp, 0, none⟩) i cp) ∧ W.cell? ⟨p, 5, none⟩ = some bv ∧ W.cell? ⟨p, 6, none⟩ = some (.int .i64 least)
      ∧ W.frozen? ⟨p, 2, none⟩ = false ∧ W.frozen? ⟨p, 3, none⟩ = false ∧ W.frozen? ⟨p, 4, none⟩ = false ∧ W.frozen? ⟨p, 5, none⟩ = false ∧ W.frozen? ⟨p, 6, none⟩ = false := by
  obtain ⟨bv, nb, h1, _⟩ := h
  refine ⟨bv, ?_, ?_, ?_, ?_, ?_, ?_, ?_, h1.frozenAt 2, h1.frozenAt 3, h1.frozenAt 4, h1.frozenAt 5, h1.frozenAt 6⟩
  all_goals
    rw [h1.cellAt _ (by omega)]
    rfl
theorem NestX.widAt (h : NestX W B p gp gw gh nd roll jw jh i cp cw ch pre ws hs best least) {k : Nat} {u : Int} (hk : k < jw) (hu : ws.getD k 0 = u) : W.cell? ⟨gw, k, none⟩ = some (.int .i64 u) ∧ W.frozen? ⟨gw, k, none⟩ = false := by
  obtain ⟨bv, nb, h1, h2, h3, _⟩ := h
  exact own_at h3 hk hu
theorem NestX.heiAt (h : NestX W B p gp gw gh nd roll jw jh i cp cw ch pre ws hs best least) {k : Nat} {u : Int} (hk : k < jh) (hu : hs.getD k 0 = u) : W.cell? ⟨gh, k, none⟩ = some (.int .i64 u) ∧ W.frozen? ⟨gh, k, none⟩ = false := by
  obtain ⟨bv, nb, h1, h2, h3, h4, _⟩ := h
  exact own_at h4 hk hu
theorem NestX.rows (h : NestX W B p gp gw gh nd roll jw jh i cp cw ch pre ws hs best least) : W.ownsRow B 2 1 (.slice (some ⟨gp, 0, none⟩) i cp) i (nints pre) ∧ W.ownsRow B 2 1 (.slice (some ⟨gw, 0, none⟩) jw cw) jw (nints ws) ∧ W.ownsRow B 2 1 (.slice (some ⟨gh, 0, none⟩) jh ch) jh (nints hs) := by
  obtain ⟨bv, nb, h1, h2, h3, h4, _⟩ := h
  exact ⟨h2, h3, h4⟩
theorem NestX.base (h : NestX W B p gp gw gh nd roll jw jh i cp cw ch pre ws hs best least) : B ≤ p ∧ B ≤ gp ∧ B ≤ gw ∧ B ≤ gh ∧ p < W.heap.size ∧ gp < W.heap.size ∧ gw < W.heap.size ∧ gh < W.heap.size := by
  obtain ⟨bv, nb, h1, h2, h3, h4, _⟩ := h
  have a := own_block (b := p) h1 rfl
  have b := own_block (b := gp) h2 rfl
  have c := own_block (b := gw) h3 rfl
  have d := own_block (b := gh) h4 rfl
  exact ⟨a.1, b.1, c.1, d.1, a.2, b.2, c.2, d.2⟩
theorem NestX.alloc (h : NestX W B p gp gw gh nd roll jw jh i cp cw ch pre ws hs best least) (o : Obj) : NestX (W.alloc o) B p gp gw gh nd roll jw jh i cp cw ch pre ws hs best least := by
  obtain ⟨bv, nb, h1, h2, h3, h4, h5, h6, h7⟩ := h
  exact ⟨bv, nb, h1.alloc o, h2.alloc o, h3.alloc o, h4.alloc o, h5.alloc o, h6, h7⟩
theorem own_room {g m c : Nat} {cs : List Value} {E k : Nat} (h : W.ownsRow B E k (.slice (some ⟨g, 0, none⟩) m c) m cs) : m ≤ c := by
  rcases h.2 with ⟨h0, _⟩ | ⟨g', cap, cur, hv, _, _, h1, _⟩
  · cases h0
  · cases hv
    exact h1
theorem NestX.rowPop {x : Int} (h : NestX W B p gp gw gh nd roll jw jh (i + 1) cp cw ch (pre ++ [x]) ws hs best least) (hl : pre.length = i) :
    NestX (W.setCell ⟨p, 4, none⟩ (.slice (some ⟨gp, 0, none⟩) i cp)) B p gp gw gh nd roll jw jh i cp cw ch pre ws hs best least ∧ W.grownBy (W.setCell ⟨p, 4, none⟩ (.slice (some ⟨gp, 0, none⟩) i cp)) (some p) := by
  have hr := h.rows.1
  rw [nints, List.map_append] at hr
  have hf := h.rowF (World.grownBy.refl W (some gp)) (.inl rfl) (ownsRow_pop (xs := nints pre) (by simp [hl]) hr)
  exact ⟨hf.1, hf.2.1⟩
theorem NestX.widPop {x : Int} (h : NestX W B p gp gw gh nd roll (jw + 1) jh i cp cw ch pre (ws ++ [x]) hs best least) (hl : ws.length = jw) :
    NestX (W.setCell ⟨p, 2, none⟩ (.slice (some ⟨gw, 0, none⟩) jw cw)) B p gp gw gh nd roll jw jh i cp cw ch pre ws hs best least ∧ W.grownBy (W.setCell ⟨p, 2, none⟩ (.slice (some ⟨gw, 0, none⟩) jw cw)) (some p) := by
  have hr := h.rows.2.1
  rw [nints, List.map_append] at hr
  have hf := h.widF (World.grownBy.refl W (some gw)) (.inl rfl) (ownsRow_pop (xs := nints ws) (by simp [hl]) hr)
  exact ⟨hf.1, hf.2.1⟩
theorem NestX.heiPop {x : Int} (h : NestX W B p gp gw gh nd roll jw (jh + 1) i cp cw ch pre ws (hs ++ [x]) best least) (hl : hs.length = jh) :
    NestX (W.setCell ⟨p, 3, none⟩ (.slice (some ⟨gh, 0, none⟩) jh ch)) B p gp gw gh nd roll jw jh i cp cw ch pre ws hs best least ∧ W.grownBy (W.setCell ⟨p, 3, none⟩ (.slice (some ⟨gh, 0, none⟩) jh ch)) (some p) := by
  have hr := h.rows.2.2
  rw [nints, List.map_append] at hr
  have hf := h.heiF (World.grownBy.refl W (some gh)) (.inl rfl) (ownsRow_pop (xs := nints hs) (by simp [hl]) hr)
  exact ⟨hf.1, hf.2.1⟩
end
/-- A block is the old one, or new. -/
def Old (w : World) (a b : Nat) : Prop := a = b ∨ w.heap.size ≤ a
theorem Old.grow {w W : World} {a b g : Nat} {n c : Nat} (h : Old w a b) (hs : w.heap.size ≤ W.heap.size) (hat : (Value.slice (some ⟨a, 0, none⟩) n c).ownBlock = some g ∨ W.heap.size ≤ g) : Old w g b := by
  rcases hat with e | e
  · have : a = g := by simpa [Value.ownBlock] using e
    rw [← this]; exact h
  · exact .inr (Nat.le_trans hs e)
theorem Old.trans {w W : World} {a b c : Nat} (h : Old w a b) (hs : w.heap.size ≤ W.heap.size) (k : Old W c a) : Old w c b := by
  rcases k with rfl | k
  · exact h
  · exact .inr (Nat.le_trans hs k)
theorem old_in {w : World} {p gp gw gh gp1 gw1 gh1 b : Nat} (h1 : Old w gp1 gp) (h2 : Old w gw1 gw) (h3 : Old w gh1 gh) (hb : b < w.heap.size) (hi : In4 p gp1 gw1 gh1 b) : In4 p gp gw gh b := by
  rcases hi with rfl | rfl | rfl | rfl
  · exact .inl rfl
  · rcases h1 with rfl | h1
    · exact .inr (.inl rfl)
    · omega
  · rcases h2 with rfl | h2
    · exact .inr (.inr (.inl rfl))
    · omega
  · rcases h3 with rfl | h3
    · exact .inr (.inr (.inr rfl))
    · omega
theorem old_or {w : World} {p gp gw gh g : Nat} (h : Old w g gp ∨ Old w g gw ∨ Old w g gh) : In4 p gp gw gh g ∨ w.heap.size ≤ g := by
  rcases h with h | h | h
  · rcases h with rfl | h
    · exact .inl (.inr (.inl rfl))
    · exact .inr h
  · rcases h with rfl | h
    · exact .inl (.inr (.inr (.inl rfl)))
    · exact .inr h
  · rcases h with rfl | h
    · exact .inl (.inr (.inr (.inr rfl)))
    · exact .inr h
theorem not_in_new {p gp gw gh gp1 gw1 gh1 bx : Nat} {w W : World} (hbx : bx = w.heap.size) (hs : w.heap.size < W.heap.size) (h : ¬ In4 p gp1 gw1 gh1 bx) (hgp : W.heap.size ≤ gp ∨ gp = gp1) (hgw : W.heap.size ≤ gw ∨ gw = gw1) (hgh : W.heap.size ≤ gh ∨ gh = gh1) : ¬ In4 p gp gw gh bx := by
  intro hi
  rcases hi with e | e | e | e
  · exact h (.inl e)
  · rcases hgp with h1 | h1
    · omega
    · exact h (.inr (.inl (e.trans h1)))
  · rcases hgw with h1 | h1
    · omega
    · exact h (.inr (.inr (.inl (e.trans h1))))
  · rcases hgh with h1 | h1
    · omega
    · exact h (.inr (.inr (.inr (e.trans h1))))
/-- What the search leaves. -/
def NestEndS (w0 w : World) (p gp gw gh : Nat) (nd : Value) (roll : Int) (m i : Nat) (pre ws hs : List Int) (st : List Int × Int) (e : Ending) (w' : World) : Prop :=
  e = .returned (.tuple #[]) ∧ Bel w0.heap.size w0 w' ∧ Kept w w' (In4 p gp gw gh) ∧ ∃ gp' gw' gh' cp cw ch : Nat, (Old w gp' gp ∧ Old w gw' gw ∧ Old w gh' gh) ∧ NestX w' w0.heap.size p gp' gw' gh' nd roll m m i cp cw ch pre ws hs st.1 st.2

set_option maxRecDepth 100000 in
set_option maxHeartbeats 25600000 in
theorem nestWalk_any (w0 : World) (p n cn : Nat) (an : Option Addr) (zs : List Int) (roll : Int) (hN : zs.length = n * 2) (hn : n ≤ 9) (hc : CellsAt w0 an (zs.map (Value.int .i64))) (hzb : Between zs 5000) (hr0 : 1 ≤ roll) (hr1 : roll ≤ 5000) (d : Nat) :
    ∀ (i m : Nat) (sum : Int) (ws hs pre best : List Int) (least : Int) (gp gw gh cp cw ch : Nat) (w : World), i + d = n → ws.length = m → hs.length = m → m ≤ i → Between ws 5000 → Between hs 5000 → pre.length = i → 0 ≤ sum → sum ≤ 5000 * i → -1 ≤ least → least ≤ 45000 →
      Bel w0.heap.size w0 w → NestX w w0.heap.size p gp gw gh (.slice an n cn) roll m m i cp cw ch pre ws hs best least →
      Calls Try.prog 86 #[.pointer (some ⟨p, 0, none⟩), .int .i64 sum] w (NestEndS w0 w p gp gw gh (.slice an n cn) roll m i pre ws hs (nestTo roll (zs.drop (i * 2)) ws hs pre sum (best, least))) := by
  induction d with
  | zero =>
    intro i m sum ws hs pre best least gp gw gh cp cw ch w hi hwl hhl hmi hwb hhb hpl h0 h1 h2 h3 hb hmem
    obtain rfl : i = n := by omega
    obtain ⟨bv, c0, c1, c2, c3, c4, c5, c6, _, _, _, f5, f6⟩ := hmem.head_
    rw [List.drop_of_length_le (by omega)]
    by_cases hcut : 0 ≤ least ∧ least ≤ sum
    · rw [nestTo_cut0 (st := (best, least)) hcut.1 hcut.2]
      have HE := Lib.hid (show NestEndS w0 w p gp gw gh (.slice an i cn) roll m i pre ws hs (best, least) (.returned (.tuple #[])) w from ⟨rfl, hb, Kept.refl _ _, gp, gw, gh, cp, cw, ch, ⟨.inl rfl, .inl rfl, .inl rfl⟩, hmem⟩)
      obtain ⟨g1, g2⟩ := hcut
      clear hb hmem hc hN hzb hwl hhl hpl hwb hhb
      go_enter Try.func86, Try.ntmps86
      go_wp2_with fail
      go_end0
      exact HE.out
    · rw [nestTo_end (st := (best, least)) hcut]
      have hcl := l00Own_any gp i cp pre w hpl (by omega) (CellsAt.of_own hmem.rows.1)
      have HCl := Lib.hid hcl
      have HM := Lib.hid hmem
      have HB := Lib.hid hb
      have hii : ((i : Int) == (i : Int)) = true := by simp
      have hp4 := hmem.base.2.2.2.2.1
      clear hcl hb hmem hc hN hzb hwl hhl hpl hwb hhb
      by_cases hneg : 0 ≤ least
      all_goals
        try have hlt : sum < least := by omega
        clear hcut
        go_enter Try.func86, Try.ntmps86
        go_wp2_with fail
        refine HCl.out.mono ?_
        rintro e w1 ⟨aL, capL, rfl, ho, hb1⟩
        have hbest := HM.out.best_ ho hb1 HB.out.2 sum
        have HE := Lib.hid (show NestEndS w0 w p gp gw gh (.slice an i cn) roll m i pre ws hs (pre, sum) (.returned (.tuple #[])) _ from ⟨rfl, (HB.out.step hb1).grown hbest.2 (fun k h => by cases h; exact HM.out.base.1), ((Kept.refl w _).below hb1).grown hbest.2 (.inl (.inl rfl)), gp, gw, gh, cp, cw, ch, ⟨.inl rfl, .inl rfl, .inl rfl⟩, hbest.1⟩)
        obtain ⟨hc1, hf1, hl1⟩ := bcell hb1
        have k5 : w1.cell? ⟨p, 5, none⟩ = some bv := by rw [hc1 _ _ hp4]; exact c5
        have k6 : w1.cell? ⟨p, 6, none⟩ = some (.int .i64 least) := by rw [hc1 _ _ hp4]; exact c6
        have q5 : w1.frozen? ⟨p, 5, none⟩ = false := by rw [hf1 _ _ hp4]; exact f5
        have q6 : w1.frozen? ⟨p, 6, none⟩ = false := by rw [hf1 _ _ hp4]; exact f6
        clear hbest hc1 hf1 hl1 hb1 ho
        go_wp2_with fail
        go_end0
        exact HE.out
  | succ d ih =>
    intro i m sum ws hs pre best least gp gw gh cp cw ch w hi hwl hhl hmi hwb hhb hpl h0 h1 h2 h3 hb hmem
    obtain ⟨bv, c0, c1, c2, c3, c4, c5, c6, _, _, _, _, _⟩ := hmem.head_
    obtain ⟨bw, hbw⟩ : ∃ z, zs.getD (i * 2) 0 = z := ⟨_, rfl⟩
    obtain ⟨bh, hbh⟩ : ∃ z, zs.getD (i * 2 + 1) 0 = z := ⟨_, rfl⟩
    have hdrop := drop_pair hN (show i < n by omega) hbw hbh
    have hbwb := hzb (i * 2)
    have hbhb := hzb (i * 2 + 1)
    rw [hbw] at hbwb
    rw [hbh] at hbhb
    obtain ⟨bw0, bw1⟩ := hbwb
    obtain ⟨bh0, bh1⟩ := hbhb
    rw [hdrop]
    by_cases hcut : 0 ≤ least ∧ least ≤ sum
    · rw [nestTo_cut (st := (best, least)) hcut.1 hcut.2]
      have HE := Lib.hid (show NestEndS w0 w p gp gw gh (.slice an n cn) roll m i pre ws hs (best, least) (.returned (.tuple #[])) w from ⟨rfl, hb, Kept.refl _ _, gp, gw, gh, cp, cw, ch, ⟨.inl rfl, .inl rfl, .inl rfl⟩, hmem⟩)
      obtain ⟨g1, g2⟩ := hcut
      clear hb hmem hc hN hzb hwl hhl hpl hwb hhb hbw hbh hdrop
      go_enter Try.func86, Try.ntmps86
      go_wp2_with fail
      go_end0
      exact HE.out
    · rw [nestTo_more (st := (best, least)) hcut, hwl]
      obtain ⟨bN, oN, rfl, hbN, hcN⟩ := hc.at_ (by simp; omega)
      obtain ⟨cx, cy⟩ := cell_pair (a := none) hN hb.1 hbN hcN (show i < n by omega) hbw hbh
      have HN := Lib.hid hN
      have Hzb := Lib.hid hzb
      have Hwl := Lib.hid hwl
      have Hhl := Lib.hid hhl
      have Hwb := Lib.hid hwb
      have Hhb := Lib.hid hhb
      have Hpl := Lib.hid hpl
      have HI := Lib.hid ih
      have Hp := Lib.hid hmem.base
      obtain ⟨bx, hbx⟩ : ∃ q, q = w.heap.size := ⟨_, rfl⟩
      obtain ⟨wA, hwA⟩ : ∃ W, W = w.alloc (.cells #[.int .i64 bw, .int .i64 bh] 72) := ⟨_, rfl⟩
      have HB := Lib.hid (show Bel w0.heap.size w0 wA by rw [hwA]; exact hb.alloc _)
      have HM := Lib.hid (show NestX wA w0.heap.size p gp gw gh (.slice (some ⟨bN, oN, none⟩) n cn) roll m m i cp cw ch pre ws hs best least by rw [hwA]; exact hmem.alloc _)
      have HX := Lib.hid (show wA.ownsRow w0.heap.size 72 2 (.slice (some ⟨bx, 0, none⟩) 1 1) 1 [.int .i64 bw, .int .i64 bh] by rw [hwA, hbx]; exact box2 w w0.heap.size w.heap.size 72 bw bh hb.2 rfl)
      have HKw := Lib.hid (show Kept w wA (In4 p gp gw gh) by rw [hwA]; exact (Kept.refl w _).below ((Below.refl _ _).alloc (Nat.le_refl _) _))
      have hwAs : w.heap.size + 1 = wA.heap.size := by rw [hwA]; simp
      have HXn := Lib.hid (show ∀ b, (Value.slice (some ⟨bx, 0, none⟩) 1 1).ownBlock = some b → ¬ In4 p gp gw gh b from fun b e hi => by
        have e1 : bx = b := by simpa [Value.ownBlock] using e
        have := hmem.base
        rcases hi with e2 | e2 | e2 | e2 <;> omega)
      have Hbx := Lib.hid hbx
      have HwA := Lib.hid hwA
      have HwAs := Lib.hid (show w.heap.size ≤ wA.heap.size by omega)
      have hin : i < n := by omega
      have hin' : (i : Int) < (n : Int) := by omega
      have hne : ((i : Int) == (n : Int)) = false := by simp; omega
      have hm8 : m ≤ 8 := by omega
      have hlt : ¬ 0 ≤ least ∨ sum < least := by omega
      clear hbw hbh hdrop hcN hc hb hmem hN hzb hwl hhl hpl hwb hhb ih hcut hbx hwA hwAs
      go_enter Try.func86, Try.ntmps86
      go_upto_region 0 with fail
      go_cut [22] (fun t22 W => t22 = .bool false ∧ Hid (w = W))
      case first =>
        by_cases hneg : 0 ≤ least
        · have hlt2 : sum < least := by omega
          go_wp2_with fail
          go_meet
          exact ⟨by first | rfl | (simp; omega), Lib.hid rfl⟩
        · go_wp2_with fail
          go_meet
          exact ⟨by first | rfl | (simp; omega), Lib.hid rfl⟩
      case rest =>
        obtain ⟨rfl, hw⟩ := hcut
        have e := hw.out
        subst e
        clear hw hlt
        have hpw := Hp.out.2.2.2.2.1
        go_wp2_with fail
        clear hpw
        rw [← Hbx.out, ← HwA.out]
        go_loopw [7, 8, 9] (fun s _ _ wr => ∃ k : Nat, k ≤ m + 1 ∧ s = .int .i64 k ∧ ∃ (gp1 gw1 gh1 cp1 cw1 ch1 jE : Nat) (wsE hsE : List Int), Hid (Old wA gp1 gp ∧ Old wA gw1 gw ∧ Old wA gh1 gh) ∧ Hid ((k ≤ m ∧ jE = m ∧ wsE = ws ∧ hsE = hs) ∨ (k = m + 1 ∧ jE = m + 1 ∧ wsE = ws ++ [0] ∧ hsE = hs ++ [0])) ∧ Hid (NestX wr w0.heap.size p gp1 gw1 gh1 (.slice (some ⟨bN, oN, none⟩) n cn) roll jE jE i cp1 cw1 ch1 pre wsE hsE (nestAt roll bw bh (zs.drop ((i + 1) * 2)) ws hs pre sum (best, least) k).1 (nestAt roll bw bh (zs.drop ((i + 1) * 2)) ws hs pre sum (best, least) k).2) ∧ Hid (Bel w0.heap.size w0 wr) ∧ Hid (Kept wA wr (In4 p gp gw gh))) (fun s _ _ _ => m + 1 - (intOf s).toNat)
        case atStart => exact ⟨0, Nat.zero_le _, rfl, gp, gw, gh, cp, cw, ch, m, ws, hs, Lib.hid ⟨.inl rfl, .inl rfl, .inl rfl⟩, Lib.hid (.inl ⟨Nat.zero_le _, rfl, rfl, rfl⟩), HM, HB, Lib.hid (Kept.refl _ _)⟩
        case round =>
          obtain ⟨k, hk, rfl, gp0, gw0, gh0, cp0, cw0, ch0, j0, ws0, hs0, hold, hcase, hst, hbw, hkp⟩ := hrel
          by_cases hlt2 : k ≤ m
          · obtain ⟨hj0, hws0, hhs0⟩ : j0 = m ∧ ws0 = ws ∧ hs0 = hs := by rcases hcase.out with h | h; exact h.2; omega
            subst hj0 hws0 hhs0
            obtain ⟨⟨kb, kl⟩, hkst⟩ : ∃ q, nestAt roll bw bh (zs.drop ((i + 1) * 2)) ws0 hs0 pre sum (best, least) k = q := ⟨_, rfl⟩
            have hbd := nestAt_bd (roll := roll) (bw := bw) (bh := bh) (n := d) (bs := zs.drop ((i + 1) * 2)) (ws := ws0) (hs := hs0) (pre := pre) (sum := sum) (st := (best, least)) (M := 45000) (by have := HN.out; simp; omega) (fun j => by have h := Hzb.out ((i + 1) * 2 + j); simpa using h) Hhb.out (by rw [Hhl.out, Hwl.out]) bh0 bh1 h0 (by omega) h2 h3 k (by rw [Hwl.out]; omega)
            rw [hkst] at hbd hst
            obtain ⟨hbd1, hbd2⟩ := hbd
            obtain ⟨v, hv⟩ : ∃ z, ws0.getD k 0 = z := ⟨_, rfl⟩
            obtain ⟨q, hq⟩ : ∃ z, hs0.getD k 0 = z := ⟨_, rfl⟩
            have hvb := Hwb.out k
            rw [hv] at hvb
            have hqb := Hhb.out k
            rw [hq] at hqb
            obtain ⟨hv0, hv1⟩ := hvb
            obtain ⟨hq0, hq1⟩ := hqb
            have hkm : (k : Int) ≤ (j0 : Int) := by omega
            obtain ⟨bv1, d0, d1, d2, d3, d4, d5, d6, f2, f3, _, _, _⟩ := hst.out.head_
            have Hv := Lib.hid hv
            have Hq := Lib.hid hq
            have Hkst := Lib.hid hkst
            clear hv hq hkst c0 c1 c2 c3 c4 c5 c6 cx cy hcase
            go_upto_if 66 with fail
            go_cut [] (fun W => ∃ (gp1 gw1 gh1 cp1 cw1 ch1 jE : Nat) (wsE hsE : List Int), k < jE ∧ jE ≤ 9 ∧ Hid (jE = max j0 (k + 1) ∧ wsE.length = jE ∧ hsE.length = jE ∧ (∀ y, wsE.set k y = putW ws0 k y) ∧ (∀ y, hsE.set k y = putW hs0 k y) ∧ wsE.getD k 0 = v ∧ hsE.getD k 0 = q ∧ ((k + 1 ≤ j0 ∧ jE = j0 ∧ wsE = ws0 ∧ hsE = hs0) ∨ (k + 1 = j0 + 1 ∧ jE = j0 + 1 ∧ wsE = ws0 ++ [0] ∧ hsE = hs0 ++ [0]))) ∧ Hid (Old wA gp1 gp ∧ Old wA gw1 gw ∧ Old wA gh1 gh) ∧ Hid (NestX W w0.heap.size p gp1 gw1 gh1 (.slice (some ⟨bN, oN, none⟩) n cn) roll jE jE i cp1 cw1 ch1 pre wsE hsE kb kl) ∧ Hid (Bel w0.heap.size w0 W) ∧ Hid (Kept wA W (In4 p gp gw gh)))
            case first =>
              by_cases hkE : k < j0
              · have hkf : ((k : Int) == (j0 : Int)) = false := by simp; omega
                go_wp2_with fail
                go_meet
                exact ⟨gp0, gw0, gh0, cp0, cw0, ch0, j0, ws0, hs0, hkE, by omega, Lib.hid ⟨by omega, Hwl.out, Hhl.out, fun y => by unfold putW; rw [if_pos (by rw [Hwl.out]; exact hkE)], fun y => by unfold putW; rw [if_pos (by rw [Hhl.out]; exact hkE)], Hv.out, Hq.out, .inl ⟨by omega, rfl, rfl, rfl⟩⟩, hold, hst, hbw, hkp⟩
              · obtain rfl : k = j0 := by omega
                have hkf : ((k : Int) == (k : Int)) = true := by simp
                have hpl := hst.out.base.2.2.2.2.1
                go_upto_region 12 with (at_builtin; refine appJ (by rfl) _ _ (by rfl) w0.heap.size _ _ _ (by rfl) hst.out.rows.2.1 _ 1 wr.heap.size (by simp) (by rfl) (by omega) hbw.out ?_; intro g5 cap5 w5 ho5 hb5 hg5 hat5; obtain ⟨hm5, hg55, ⟨vv5, k5⟩, q5⟩ := hst.out.widF (xs := ws0 ++ [0]) hg5 (by rcases hat5 with h | h; exact .inl (by simpa [Value.ownBlock] using h); exact .inr h) (by rw [nints, List.map_append]; exact ho5); have HM5 := Lib.hid hm5; have HB5 := Lib.hid (hb5.grown hg55 (fun j h => by cases h; exact Hp.out.1)); have HK5 := Lib.hid ((hkp.out.grown hg5 (old_or (.inr (.inl hold.out.2.1)))).grown hg55 (.inl (.inl rfl))); have HO5 := Lib.hid (hold.out.2.1.grow hkp.out.1 hat5); clear hm5 ho5 hb5 hg5 hat5 hg55)
                generalize w5.setCell _ _ = w6 at HM5 HB5 HK5 ⊢
                clear k5 q5 d0 d1 d2 d3 d4 d5 d6 f2 f3 hpl
                obtain ⟨bv2, d0, d1, d2, d3, d4, d5, d6, f2, f3, _, _, _⟩ := HM5.out.head_
                have hpl := HM5.out.base.2.2.2.2.1
                go_wp2_with (at_builtin; refine appJ (by rfl) _ _ (by rfl) w0.heap.size _ _ _ (by rfl) HM5.out.rows.2.2 _ 1 w6.heap.size (by simp) (by rfl) (by omega) HB5.out ?_; intro g7 cap7 w7 ho7 hb7 hg7 hat7; obtain ⟨hm7, hg77, ⟨vv7, k7⟩, q7⟩ := HM5.out.heiF (xs := hs0 ++ [0]) hg7 (by rcases hat7 with h | h; exact .inl (by simpa [Value.ownBlock] using h); exact .inr h) (by rw [nints, List.map_append]; exact ho7); have HM7 := Lib.hid hm7; have HB7 := Lib.hid (hb7.grown hg77 (fun j h => by cases h; exact Hp.out.1)); have HK7 := Lib.hid ((HK5.out.grown hg7 (old_or (.inr (.inr hold.out.2.2)))).grown hg77 (.inl (.inl rfl))); have HO7 := Lib.hid (hold.out.2.2.grow HK5.out.1 hat7); clear hm7 ho7 hb7 hg7 hat7 hg77)
                go_meet
                have hv0 : v = 0 := by rw [← Hv.out]; simp [List.getElem?_eq_none (show ws0.length ≤ k by rw [Hwl.out]; omega)]
                have hq0 : q = 0 := by rw [← Hq.out]; simp [List.getElem?_eq_none (show hs0.length ≤ k by rw [Hhl.out]; omega)]
                exact ⟨gp0, g5, g7, cp0, cap5, cap7, k + 1, ws0 ++ [0], hs0 ++ [0], by omega, by omega, Lib.hid ⟨by omega, by simp [Hwl.out], by simp [Hhl.out], fun y => by unfold putW; rw [if_neg (by rw [Hwl.out]; omega), List.set_append_right _ _ (by rw [Hwl.out]; omega), Hwl.out, Nat.sub_self]; rfl, fun y => by unfold putW; rw [if_neg (by rw [Hhl.out]; omega), List.set_append_right _ _ (by rw [Hhl.out]; omega), Hhl.out, Nat.sub_self]; rfl, by rw [hv0]; simp [Hwl.out], by rw [hq0]; simp [Hhl.out], by first | exact .inr ⟨rfl, rfl, rfl, rfl⟩ | simp⟩, Lib.hid ⟨hold.out.1, HO5.out, HO7.out⟩, HM7, HB7, HK7⟩
            case rest =>
              obtain ⟨gp1, gw1, gh1, cp1, cw1, ch1, jE, wsE, hsE, hkj, hj9, hfa, hold1, hst1, hbw1, hkp1⟩ := hcut
              clear hold hst hbw hkp d0 d1 d2 d3 d4 d5 d6 f2 f3
              have HXc := Lib.hid (own_kept HX.out hkp1.out HXn.out)
              obtain ⟨bv1, d0, d1, d2, d3, d4, d5, d6, _, _, _, _, _⟩ := hst1.out.head_
              obtain ⟨ew, fw⟩ := hst1.out.widAt hkj hfa.out.2.2.2.2.2.1
              obtain ⟨x0, x1⟩ := box2_at HXc.out
              have hkj' : (k : Int) < (jE : Int) := by omega
              by_cases hneg2 : roll < v + bw
              · go_wp2_with fail
                go_big_quiet (fail)
                go_wp2_with fail
                go_roundw
                case rel => exact ⟨k + 1, by omega, by go_num, gp1, gw1, gh1, cp1, cw1, ch1, jE, wsE, hsE, hold1, Lib.hid hfa.out.2.2.2.2.2.2.2, Lib.hid (by rw [nestAt_skip Hv.out hneg2, Hkst.out]; exact hst1.out), Lib.hid (hbw1.out.drewN _), Lib.hid (hkp1.out.drewN _)⟩
                case measure => simp [intOf]; omega
              · obtain ⟨J, hJ⟩ : ∃ J, J = max q bh := ⟨_, rfl⟩
                have hJb : q ≤ J ∧ bh ≤ J ∧ J ≤ 5000 := by omega
                obtain ⟨hJ0, hJ1, hJ2⟩ := hJb
                obtain ⟨x, hx⟩ : ∃ x, x = v + bw := ⟨_, rfl⟩
                have hxb : 0 ≤ x ∧ x ≤ 5000 := by omega
                obtain ⟨hxb0, hxb1⟩ := hxb
                have HJ := Lib.hid hJ
                have Hx := Lib.hid hx
                have hjU : jE ≤ i + 1 := by have := hfa.out.1; omega
                clear hJ hx
                go_wp2_with fail
                go_big_quiet (fail)
                go_upto_region 14 with fail
                generalize hwq : wc.drewN _ = wq
                have hMq : NestX wq w0.heap.size p gp1 gw1 gh1 (.slice (some ⟨bN, oN, none⟩) n cn) roll jE jE i cp1 cw1 ch1 pre wsE hsE kb kl := by rw [← hwq]; exact hst1.out
                have HBq := Lib.hid (show Bel w0.heap.size w0 wq by rw [← hwq]; exact hbw1.out.drewN _)
                have HKq := Lib.hid (show Kept wA wq (In4 p gp gw gh) by rw [← hwq]; exact hkp1.out.drewN _)
                have HMq := Lib.hid hMq
                clear hwq d0 d1 d2 d3 d4 d5 d6 ew fw x0 x1 hst1 hbw1 hkp1 HXc hMq
                have HXq := Lib.hid (own_kept HX.out HKq.out HXn.out)
                obtain ⟨bv2, d0, d1, d2, d3, d4, d5, d6, _, _, _, _, _⟩ := HMq.out.head_
                obtain ⟨eh, fh⟩ := HMq.out.heiAt hkj hfa.out.2.2.2.2.2.2.1
                obtain ⟨ew, fw⟩ := HMq.out.widAt hkj hfa.out.2.2.2.2.2.1
                obtain ⟨x0, x1⟩ := box2_at HXq.out
                go_wp2_with fail
                refine (l00Max_n q bh _).mono ?_
                rw [← HJ.out]
                rintro e wz ⟨rfl, rfl⟩
                have hs2 := NestX.wid_ (W := wq.drew) HMq.out k x
                have HM2 := Lib.hid hs2.1
                have HB2 := Lib.hid (HBq.out.drew.grown hs2.2 (fun j h => by cases h; exact HMq.out.base.2.2.1))
                have HK2 := Lib.hid (HKq.out.drew.grown hs2.2 (old_or (.inr (.inl hold1.out.2.1))))
                have hvw : IntKind.i64.wrap (v + bw) = x := by rw [IntWalk.i64_in _ (by omega)]; exact Hx.out.symm
                have hvw2 : v + bw = x := Hx.out.symm
                clear hs2
                go_wp2_with fail
                go_still_tail 11, (by kernel_rfl)
                go_upto_region 17 with fail
                generalize hw2 : (wq.setCell _ _).drew = w2
                replace HM2 := Lib.hid (show NestX w2 w0.heap.size p gp1 gw1 gh1 (.slice (some ⟨bN, oN, none⟩) n cn) roll jE jE i cp1 cw1 ch1 pre (putW ws0 k x) hsE kb kl by rw [← hw2, ← hfa.out.2.2.2.1 x]; exact HM2.out)
                replace HB2 := Lib.hid (show Bel w0.heap.size w0 w2 by rw [← hw2]; exact HB2.out)
                replace HK2 := Lib.hid (show Kept wA w2 (In4 p gp gw gh) by rw [← hw2]; exact HK2.out)
                clear hw2 hvw hvw2 d0 d1 d2 d3 d4 d5 d6 eh fh ew fw x0 x1 HMq HBq HKq HXq
                obtain ⟨bv3, d0, d1, d2, d3, d4, d5, d6, _, _, _, _, _⟩ := HM2.out.head_
                obtain ⟨eh, fh⟩ := HM2.out.heiAt hkj hfa.out.2.2.2.2.2.2.1
                have hs3 := HM2.out.hei_ k J
                have hM3 := hs3.1
                rw [hfa.out.2.2.2.2.1 J] at hM3
                have HM3 := Lib.hid hM3
                have HB3 := Lib.hid (HB2.out.grown hs3.2 (fun j h => by cases h; exact HM2.out.base.2.2.2.1))
                have HK3 := Lib.hid (HK2.out.grown hs3.2 (old_or (.inr (.inr hold1.out.2.2))))
                clear hs3 hM3
                go_upto_region 18 with fail
                generalize w2.setCell _ _ = w3 at HM3 HB3 HK3 ⊢
                clear d0 d1 d2 d3 d4 d5 d6 eh fh HM2 HB2 HK2
                obtain ⟨bv4, d0, d1, d2, d3, d4, d5, d6, _, _, _, _, _⟩ := HM3.out.head_
                have hpl := HM3.out.base.2.2.2.2.1
                go_wp2_with (at_builtin; refine appJ (by rfl) _ _ (by rfl) w0.heap.size _ _ _ (by rfl) HM3.out.rows.1 _ 1 w3.heap.size (by simp) (by rfl) (by omega) HB3.out ?_; intro g5 cap5 w5 ho5 hb5 hg5 hat5; obtain ⟨hm5, hg55, ⟨vv5, k5⟩, q5⟩ := HM3.out.rowF (xs := pre ++ [(k : Int)]) hg5 (by rcases hat5 with h | h; exact .inl (by simpa [Value.ownBlock] using h); exact .inr h) (by rw [nints, List.map_append]; exact ho5); have HM5 := Lib.hid hm5; have HB5 := Lib.hid (hb5.grown hg55 (fun j h => by cases h; exact Hp.out.1)); have HK5 := Lib.hid ((HK3.out.grown hg5 (old_or (.inl hold1.out.1))).grown hg55 (.inl (.inl rfl))); have HO5 := Lib.hid (hold1.out.1.grow HK3.out.1 hat5); clear hm5 ho5 hb5 hg5 hat5 hg55)
                have HF := Lib.hid (show nestAt roll bw bh (zs.drop ((i + 1) * 2)) ws0 hs0 pre sum (best, least) (k + 1) = nestTo roll (zs.drop ((i + 1) * 2)) (putW ws0 k x) (putW hs0 k J) (pre ++ [(k : Int)]) (sum - q + J) (kb, kl) from by
                  rw [← Hkst.out, show sum - q + J = sum + (J - q) by omega, Hx.out]
                  exact nestAt_go Hv.out (by omega) Hq.out HJ.out)
                have HP9 := Lib.hid (show (putW ws0 k x).length = jE ∧ (putW hs0 k J).length = jE ∧ Between (putW ws0 k x) 5000 ∧ Between (putW hs0 k J) 5000 ∧ (pre ++ [(k : Int)]).length = i + 1 from
                  ⟨by rw [putW_len (by rw [Hwl.out]; omega), Hwl.out, hfa.out.1], by rw [putW_len (by rw [Hhl.out]; omega), Hhl.out, hfa.out.1], Hwb.out.put (by rw [Hwl.out]; omega) hxb0 hxb1, Hhb.out.put (by rw [Hhl.out]; omega) (by omega) hJ2, by simp [Hpl.out]⟩)
                refine (HI.out (i + 1) jE _ (putW ws0 k x) (putW hs0 k J) (pre ++ [(k : Int)]) kb kl g5 gw1 gh1 cap5 cw1 ch1 _ (by omega) HP9.out.1 HP9.out.2.1 hjU HP9.out.2.2.1 HP9.out.2.2.2.1 HP9.out.2.2.2.2 (by omega) (by omega) hbd1 hbd2 HB5.out HM5.out).mono ?_
                rintro e w6 ⟨rfl, hb6, hk6, gp6, gw6, gh6, cp6, cw6, ch6, hold6, hm6⟩
                have HK6 := Lib.hid (HK5.out.trans hk6 (fun b hb hi => old_in HO5.out hold1.out.2.1 hold1.out.2.2 hb hi))
                have HO6 := Lib.hid (show Old wA gp6 gp ∧ Old wA gw6 gw ∧ Old wA gh6 gh from ⟨HO5.out.trans HK5.out.1 hold6.1, hold1.out.2.1.trans HK5.out.1 hold6.2.1, hold1.out.2.2.trans HK5.out.1 hold6.2.2⟩)
                rw [← HF.out, ← hfa.out.2.2.2.1 x, ← hfa.out.2.2.2.2.1 J] at hm6
                obtain ⟨kb2, hkb2⟩ : ∃ q, q = nestAt roll bw bh (zs.drop ((i + 1) * 2)) ws0 hs0 pre sum (best, least) (k + 1) := ⟨_, rfl⟩
                rw [← hkb2] at hm6
                have Hkb2 := Lib.hid hkb2
                have HM6 := Lib.hid hm6
                have HB6 := Lib.hid hb6
                clear hkb2 hm6 hb6 hk6 hold6 HF HP9 HM5 HB5 HK5 HO5 HM3 HB3 HK3 k5 q5 d0 d1 d2 d3 d4 d5 d6 hpl
                have hroom := own_room HM6.out.rows.1
                have hroom2 : (i : Int) ≤ (cp6 : Int) := by omega
                obtain ⟨bv6, d0, d1, d2, d3, d4, d5, d6, _, _, f4, _, _⟩ := HM6.out.head_
                have hs7 := HM6.out.rowPop Hpl.out
                have HM7 := Lib.hid hs7.1
                have HB7 := Lib.hid (HB6.out.grown hs7.2 (fun j h => by cases h; exact Hp.out.1))
                have HK7 := Lib.hid (HK6.out.grown hs7.2 (.inl (.inl rfl)))
                clear hs7
                go_upto_region 21 with fail
                generalize w6.setCell _ _ = w7 at HM7 HB7 HK7 ⊢
                clear d0 d1 d2 d3 d4 d5 d6 f4 hroom hroom2 HM6 HB6 HK6
                have HX7 := Lib.hid (own_kept HX.out HK7.out HXn.out)
                obtain ⟨bv7, d0, d1, d2, d3, d4, d5, d6, _, _, _, _, _⟩ := HM7.out.head_
                obtain ⟨ew, fw⟩ := HM7.out.widAt (u := x) hkj (nset_at x (by rw [hfa.out.2.1]; exact hkj))
                obtain ⟨x0, x1⟩ := box2_at HX7.out
                have hs8 := NestX.wid_ (W := w7.drew) HM7.out k v
                have hM8 := hs8.1
                rw [nset_back x (by rw [hfa.out.2.1]; exact hkj) hfa.out.2.2.2.2.2.1] at hM8
                have HM8 := Lib.hid hM8
                have HB8 := Lib.hid (HB7.out.drew.grown hs8.2 (fun j h => by cases h; exact HM7.out.base.2.2.1))
                have HK8 := Lib.hid (HK7.out.drew.grown hs8.2 (old_or (.inr (.inl HO6.out.2.1))))
                have hvw : IntKind.i64.wrap (x - bw) = v := by rw [IntWalk.i64_in _ (by omega)]; have := Hx.out; omega
                have hvw2 : x - bw = v := by have := Hx.out; omega
                clear hs8 hM8
                go_still_tail 11, (by kernel_rfl)
                go_upto_region 22 with fail
                generalize hw8 : (w7.setCell _ _).drew = w8
                replace HM8 := Lib.hid (show NestX w8 w0.heap.size p gp6 gw6 gh6 (.slice (some ⟨bN, oN, none⟩) n cn) roll jE jE i cp6 cw6 ch6 pre wsE (hsE.set k J) kb2.1 kb2.2 by rw [← hw8]; exact HM8.out)
                replace HB8 := Lib.hid (show Bel w0.heap.size w0 w8 by rw [← hw8]; exact HB8.out)
                replace HK8 := Lib.hid (show Kept wA w8 (In4 p gp gw gh) by rw [← hw8]; exact HK8.out)
                clear hw8 hvw hvw2 d0 d1 d2 d3 d4 d5 d6 ew fw x0 x1 HM7 HB7 HK7 HX7
                obtain ⟨bv8, d0, d1, d2, d3, d4, d5, d6, _, _, _, _, _⟩ := HM8.out.head_
                obtain ⟨eh, fh⟩ := HM8.out.heiAt (u := J) hkj (nset_at J (by rw [hfa.out.2.2.1]; exact hkj))
                have hs9 := HM8.out.hei_ k q
                have hM9 := hs9.1
                rw [nset_back J (by rw [hfa.out.2.2.1]; exact hkj) hfa.out.2.2.2.2.2.2.1] at hM9
                have HM9 := Lib.hid hM9
                have HB9 := Lib.hid (HB8.out.grown hs9.2 (fun j h => by cases h; exact HM8.out.base.2.2.2.1))
                have HK9 := Lib.hid (HK8.out.grown hs9.2 (old_or (.inr (.inr HO6.out.2.2))))
                clear hs9 hM9
                go_wp2_with fail
                go_roundw
                case rel => exact ⟨k + 1, by omega, by go_num, gp6, gw6, gh6, cp6, cw6, ch6, jE, wsE, hsE, HO6, Lib.hid hfa.out.2.2.2.2.2.2.2, Lib.hid (by rw [← Hkb2.out]; exact HM9.out), HB9, HK9⟩
                case measure => simp [intOf]; omega
          · obtain ⟨hk1, hj0, hws0, hhs0⟩ : k = m + 1 ∧ j0 = m + 1 ∧ ws0 = ws ++ [0] ∧ hs0 = hs ++ [0] := by rcases hcase.out with h | h; omega; exact h
            subst hj0 hws0 hhs0
            have hk2 : ¬ (k : Int) ≤ (m : Int) := by omega
            have hr1' := own_room hst.out.rows.2.1
            have hr2' := own_room hst.out.rows.2.2
            have hr3' : (m : Int) ≤ (cw0 : Int) := by omega
            have hr4' : (m : Int) ≤ (ch0 : Int) := by omega
            obtain ⟨bv1, d0, d1, d2, d3, d4, d5, d6, f2, f3, _, _, _⟩ := hst.out.head_
            have hs1 := hst.out.widPop Hwl.out
            have HM1 := Lib.hid hs1.1
            have HB1 := Lib.hid (hbw.out.grown hs1.2 (fun j h => by cases h; exact Hp.out.1))
            have HK1 := Lib.hid (hkp.out.grown hs1.2 (.inl (.inl rfl)))
            clear hs1 c0 c1 c2 c3 c4 c5 c6 cx cy hcase
            go_upto_region 24 with fail
            generalize wr.setCell _ _ = w1 at HM1 HB1 HK1 ⊢
            clear d0 d1 d2 d3 d4 d5 d6 f2 f3
            obtain ⟨bv2, d0, d1, d2, d3, d4, d5, d6, f2, f3, _, _, _⟩ := HM1.out.head_
            have hs2 := HM1.out.heiPop Hhl.out
            have HE := Lib.hid (show NestEndS w0 w p gp gw gh (.slice (some ⟨bN, oN, none⟩) n cn) roll m i pre ws hs (nestAt roll bw bh (zs.drop ((i + 1) * 2)) ws hs pre sum (best, least) k) (.returned (.tuple #[])) _ from ⟨rfl, HB1.out.grown hs2.2 (fun j h => by cases h; exact Hp.out.1), HKw.out.trans (HK1.out.grown hs2.2 (.inl (.inl rfl))) (fun _ _ h => h), gp0, gw0, gh0, cp0, cw0, ch0, ⟨hold.out.1.imp id (Nat.le_trans HwAs.out), hold.out.2.1.imp id (Nat.le_trans HwAs.out), hold.out.2.2.imp id (Nat.le_trans HwAs.out)⟩, hs2.1⟩)
            clear hs2
            subst hk1
            go_wp2_with fail
            go_end0
            exact HE.out
end Go.Proofs.Ytoomkeicfdmdoaa
