/-
  The program's BestPlan: its memory while places and sets are laid. No condition of its own.
-/
import Derived.Test.YthemlamdchcicaaGreatDoorGHideX
import Derived.Test.YthemlamdchcicaaGreatDoorHideI
namespace Go.Proofs.YthemlamdchcicaaGreatDoor
open Go.ChangeShapes Go.WideShapes Go.ChangeAt Go.RowKit Go.Deep Go.Shelf

theorem LL.grownO {W W' : World} {B E1 E2 k : Nat} {v : Value} {L : Nat → List Value} {PA : Nat → Option Addr} {PC : Nat → Nat} {U : Nat → Prop} {row : Option Nat} (h : LL W B E1 E2 v k L PA PC U) (hg : W.grownBy W' row) (hn : ∀ b, row = some b → ¬ U b) : LL W' B E1 E2 v k L PA PC U :=
  ⟨own_grown_ne h.1 hg (fun b hb e => hn b e (h.2.1 b hb)), h.2.1, fun b hb => Nat.lt_of_lt_of_le (h.2.2.1 b hb) hg.size, fun j hj => ⟨own_grown_ne (h.2.2.2 j hj).1 hg (fun b hb e => hn b e ((h.2.2.2 j hj).2 b hb).1), (h.2.2.2 j hj).2⟩⟩
/-- The memory of a search whose rows of places and of sets grow. -/
def BuildI (W : World) (B p gp : Nat) (lv : Value) (n : Nat) (plan : List Int) (k : Nat) (L1 L2 : Nat → List Value) : Prop :=
  ∃ (pv sv : Value) (PA : Nat → Option Addr) (PC : Nat → Nat) (U1 : Nat → Prop) (SA : Nat → Option Addr) (SC : Nat → Nat) (U2 : Nat → Prop),
    W.ownsRow B 82 6 (.slice (some ⟨p, 0, none⟩) 1 1) 1 [lv, pv, sv, .slice (some ⟨gp, 0, none⟩) n n, .slice none 0 0, .int .i64 (-1)]
    ∧ W.ownsRow B 2 1 (.slice (some ⟨gp, 0, none⟩) n n) n (nints plan) ∧ LL W B 29 2 pv k L1 PA PC U1 ∧ LL W B 84 85 sv k L2 SA SC U2
    ∧ ¬ U1 p ∧ ¬ U1 gp ∧ ¬ U2 p ∧ ¬ U2 gp ∧ p ≠ gp ∧ ∀ b, U1 b → ¬ U2 b
theorem BuildI.below {W W' : World} {B p gp n k : Nat} {lv : Value} {plan : List Int} {L1 L2 : Nat → List Value} (h : BuildI W B p gp lv n plan k L1 L2) (hb : Below W.heap.size W W') : BuildI W' B p gp lv n plan k L1 L2 := by
  obtain ⟨pv, sv, PA, PC, U1, SA, SC, U2, h1, h2, h3, h4, h5⟩ := h
  exact ⟨pv, sv, PA, PC, U1, SA, SC, U2, own_below h1 hb, own_below h2 hb, h3.below hb, h4.below hb, h5⟩
theorem BuildI.head_ {W : World} {B p gp n k : Nat} {lv : Value} {plan : List Int} {L1 L2 : Nat → List Value} (h : BuildI W B p gp lv n plan k L1 L2) : p < W.heap.size ∧ B ≤ p ∧ B ≤ gp := by
  obtain ⟨pv, sv, PA, PC, U1, SA, SC, U2, h1, h2, _⟩ := h
  exact ⟨(own_block (b := p) h1 rfl).2, (own_block (b := p) h1 rfl).1, (own_block (b := gp) h2 rfl).1⟩
/-- While one row more is laid to each: k1, k2 tell which have been appended. -/
def JM (W : World) (B p gp : Nat) (lv : Value) (n : Nat) (plan : List Int) (pvS svS pv sv : Value) (k k1 k2 : Nat) (L1 L2 : Nat → List Value) (ap : Option Addr) (lp cp : Nat) (aq : Option Addr) (ls cs : Nat) : Prop :=
  ∃ (PA : Nat → Option Addr) (PC : Nat → Nat) (U1 : Nat → Prop) (SA : Nat → Option Addr) (SC : Nat → Nat) (U2 : Nat → Prop),
    W.ownsRow B 82 6 (.slice (some ⟨p, 0, none⟩) 1 1) 1 [lv, pvS, svS, .slice (some ⟨gp, 0, none⟩) n n, .slice none 0 0, .int .i64 (-1)]
    ∧ W.ownsRow B 2 1 (.slice (some ⟨gp, 0, none⟩) n n) n (nints plan) ∧ LL W B 29 2 pv k1 L1 PA PC U1 ∧ LL W B 84 85 sv k2 L2 SA SC U2
    ∧ (¬ U1 p ∧ ¬ U1 gp ∧ ¬ U2 p ∧ ¬ U2 gp ∧ p ≠ gp ∧ ∀ b, U1 b → ¬ U2 b)
    ∧ (W.ownsRow B 2 1 (.slice ap lp cp) lp (L1 k) ∧ W.ownsRow B 85 1 (.slice aq ls cs) ls (L2 k) ∧ (L1 k).length = lp ∧ (L2 k).length = ls)
    ∧ (∀ b, (Value.slice ap lp cp).ownBlock = some b → b ≠ p ∧ b ≠ gp ∧ ¬ U2 b ∧ (Value.slice aq ls cs).ownBlock ≠ some b ∧ (k1 = k → ¬ U1 b))
    ∧ (∀ b, (Value.slice aq ls cs).ownBlock = some b → b ≠ p ∧ b ≠ gp ∧ ¬ U1 b ∧ (k2 = k → ¬ U2 b))
section
variable {W W' : World} {B p gp n k k1 k2 lp cp ls cs : Nat} {lv pvS svS pv sv : Value} {plan : List Int} {L1 L2 : Nat → List Value} {ap aq : Option Addr}
theorem JM.below (h : JM W B p gp lv n plan pvS svS pv sv k k1 k2 L1 L2 ap lp cp aq ls cs) (hb : Below W.heap.size W W') : JM W' B p gp lv n plan pvS svS pv sv k k1 k2 L1 L2 ap lp cp aq ls cs := by
  obtain ⟨PA, PC, U1, SA, SC, U2, h1, h2, h3, h4, h5, ⟨h6, h7, h8⟩, h9⟩ := h
  exact ⟨PA, PC, U1, SA, SC, U2, own_below h1 hb, own_below h2 hb, h3.below hb, h4.below hb, h5, ⟨own_below h6 hb, own_below h7 hb, h8⟩, h9⟩
theorem JM.alloc (h : JM W B p gp lv n plan pvS svS pv sv k k1 k2 L1 L2 ap lp cp aq ls cs) (o : Obj) : JM (W.alloc o) B p gp lv n plan pvS svS pv sv k k1 k2 L1 L2 ap lp cp aq ls cs := h.below ((Below.refl _ _).alloc (Nat.le_refl _) o)
theorem JM.capP (h : JM W B p gp lv n plan pvS svS pv sv k k k2 L1 L2 ap lp cp aq ls cs) : ∃ xs, W.ownsRow B 29 1 pv k xs ∧ ∀ (g cap : Nat) (W' : World), W.grownBy W' pv.ownBlock → (pv.ownBlock = some g ∨ W.heap.size ≤ g) →
    W'.ownsRow B 29 1 (.slice (some ⟨g, 0, none⟩) (k + 1) cap) (k + 1) (xs ++ [.slice ap lp cp]) → JM W' B p gp lv n plan pvS svS (.slice (some ⟨g, 0, none⟩) (k + 1) cap) sv k (k + 1) k2 L1 L2 ap lp cp aq ls cs := by
  obtain ⟨PA, PC, U1, SA, SC, U2, h1, h2, h3, h4, ⟨s1, s2, s3, s4, s5, s6⟩, ⟨h6, h7, h8, h9⟩, hP, hS⟩ := h
  refine ⟨_, h3.1, fun g cap W' hg hat ho => ?_⟩
  have hp := (own_block (b := p) h1 rfl).2
  have hgp := (own_block (b := gp) h2 rfl).2
  have hU : ∀ b, pv.ownBlock = some b → U1 b := h3.2.1
  have hgU : ∀ b, b < W.heap.size → ¬ U1 b → b ≠ g := fun b hb hn e => by
    rcases hat with h | h
    · exact hn (e ▸ hU g h)
    · omega
  have hL := h3.app (ai := ap) (ci := cp) (xs := L1 k) hg hat (by rw [h8]; exact ho) rfl (by rw [h8]; exact h6) (fun b e => by rw [h8] at e; exact (hP b e).2.2.2.2 rfl)
  rw [h8] at hL
  refine ⟨_, _, _, SA, SC, U2, own_grown_ne h1 hg (fun b hb e => ?_), own_grown_ne h2 hg (fun b hb e => ?_), hL, h4.grownO hg (fun b e => s6 b (hU b e)), ⟨?_, ?_, s3, s4, s5, ?_⟩, ⟨?_, own_grown_ne h7 hg (fun b hb e => (hS b hb).2.2.1 (hU b e)), h8, h9⟩, fun b e => ⟨(hP b e).1, (hP b e).2.1, (hP b e).2.2.1, (hP b e).2.2.2.1, fun e2 => by omega⟩, fun b e => ⟨(hS b e).1, (hS b e).2.1, ?_, (hS b e).2.2.2⟩⟩
  · have : p = b := by simpa [Value.ownBlock] using hb
    exact s1 (this ▸ hU b e)
  · have : gp = b := by simpa [Value.ownBlock] using hb
    exact s2 (this ▸ hU b e)
  · rintro (h | h | h)
    · exact s1 h
    · exact hgU p hp s1 h
    · exact (hP p h).1 rfl
  · rintro (h | h | h)
    · exact s2 h
    · exact hgU gp hgp s2 h
    · exact (hP gp h).2.1 rfl
  · rintro b (h | h | h) h'
    · exact s6 b h h'
    · subst h
      rcases hat with h | h
      · exact s6 _ (hU _ h) h'
      · have := h4.2.2.1 _ h'; omega
    · exact (hP b h).2.2.1 h'
  · exact own_grown_ne h6 hg (fun b hb e => (hP b hb).2.2.2.2 rfl (hU b e))
  · rintro (h | h | h)
    · exact (hS b e).2.2.1 h
    · exact hgU b (own_block h7 e).2 (hS b e).2.2.1 h
    · exact (hP b h).2.2.2.1 e
theorem JM.capS (h : JM W B p gp lv n plan pvS svS pv sv k k1 k L1 L2 ap lp cp aq ls cs) : ∃ xs, W.ownsRow B 84 1 sv k xs ∧ ∀ (g cap : Nat) (W' : World), W.grownBy W' sv.ownBlock → (sv.ownBlock = some g ∨ W.heap.size ≤ g) →
    W'.ownsRow B 84 1 (.slice (some ⟨g, 0, none⟩) (k + 1) cap) (k + 1) (xs ++ [.slice aq ls cs]) → JM W' B p gp lv n plan pvS svS pv (.slice (some ⟨g, 0, none⟩) (k + 1) cap) k k1 (k + 1) L1 L2 ap lp cp aq ls cs := by
  obtain ⟨PA, PC, U1, SA, SC, U2, h1, h2, h3, h4, ⟨s1, s2, s3, s4, s5, s6⟩, ⟨h6, h7, h8, h9⟩, hP, hS⟩ := h
  refine ⟨_, h4.1, fun g cap W' hg hat ho => ?_⟩
  have hp := (own_block (b := p) h1 rfl).2
  have hgp := (own_block (b := gp) h2 rfl).2
  have hU : ∀ b, sv.ownBlock = some b → U2 b := h4.2.1
  have hgU : ∀ b, b < W.heap.size → ¬ U2 b → b ≠ g := fun b hb hn e => by
    rcases hat with h | h
    · exact hn (e ▸ hU g h)
    · omega
  have hL := h4.app (ai := aq) (ci := cs) (xs := L2 k) hg hat (by rw [h9]; exact ho) rfl (by rw [h9]; exact h7) (fun b e => by rw [h9] at e; exact (hS b e).2.2.2 rfl)
  rw [h9] at hL
  refine ⟨PA, PC, U1, _, _, _, own_grown_ne h1 hg (fun b hb e => ?_), own_grown_ne h2 hg (fun b hb e => ?_), h3.grownO hg (fun b e h => s6 b h (hU b e)), hL, ⟨s1, s2, ?_, ?_, s5, ?_⟩, ⟨own_grown_ne h6 hg (fun b hb e => (hP b hb).2.2.1 (hU b e)), ?_, h8, h9⟩, fun b e => ⟨(hP b e).1, (hP b e).2.1, ?_, (hP b e).2.2.2.1, (hP b e).2.2.2.2⟩, fun b e => ⟨(hS b e).1, (hS b e).2.1, (hS b e).2.2.1, fun e2 => by omega⟩⟩
  · have : p = b := by simpa [Value.ownBlock] using hb
    exact s3 (this ▸ hU b e)
  · have : gp = b := by simpa [Value.ownBlock] using hb
    exact s4 (this ▸ hU b e)
  · rintro (h | h | h)
    · exact s3 h
    · exact hgU p hp s3 h
    · exact (hS p h).1 rfl
  · rintro (h | h | h)
    · exact s4 h
    · exact hgU gp hgp s4 h
    · exact (hS gp h).2.1 rfl
  · rintro b h' (h | h | h)
    · exact s6 b h' h
    · subst h
      rcases hat with h | h
      · exact s6 _ h' (hU _ h)
      · have := h3.2.2.1 _ h'; omega
    · exact (hS b h).2.2.1 h'
  · exact own_grown_ne h7 hg (fun b hb e => (hS b hb).2.2.2 rfl (hU b e))
  · rintro (h | h | h)
    · exact (hP b e).2.2.1 h
    · exact hgU b (own_block h6 e).2 (hP b e).2.2.1 h
    · exact (hP b e).2.2.2.1 h
theorem JM.done (h : JM W B p gp lv n plan pvS svS pv sv k (k + 1) (k + 1) L1 L2 ap lp cp aq ls cs) : BuildI ((W.setCell ⟨p, 1, none⟩ pv).setCell ⟨p, 2, none⟩ sv) B p gp lv n plan (k + 1) L1 L2 ∧ W.grownBy ((W.setCell ⟨p, 1, none⟩ pv).setCell ⟨p, 2, none⟩ sv) (some p) := by
  obtain ⟨PA, PC, U1, SA, SC, U2, h1, h2, h3, h4, ⟨s1, s2, s3, s4, s5, s6⟩, _⟩ := h
  have r1 := h1.stored 1 pv
  have r2 := r1.1.stored 2 sv
  have hg := grown_trans_row r1.2 r2.2
  exact ⟨⟨pv, sv, PA, PC, U1, SA, SC, U2, r2.1, own_no h2 hg (blk_ne (m := 0) s5.symm), h3.grown hg s1, h4.grown hg s3, s1, s2, s3, s4, s5, s6⟩, hg⟩
theorem JM.head_ (h : JM W B p gp lv n plan pvS svS pv sv k k1 k2 L1 L2 ap lp cp aq ls cs) : W.cell? ⟨p, 1, none⟩ = some pvS ∧ W.cell? ⟨p, 2, none⟩ = some svS ∧ W.frozen? ⟨p, 1, none⟩ = false ∧ W.frozen? ⟨p, 2, none⟩ = false ∧ p < W.heap.size := by
  obtain ⟨PA, PC, U1, SA, SC, U2, h1, _⟩ := h
  refine ⟨?_, ?_, h1.frozenAt 1, h1.frozenAt 2, (own_block (b := p) h1 rfl).2⟩
  all_goals
    rw [h1.cellAt _ (by omega)]
    rfl
/-- A cell that the call itself has made and that is in none of these rows. -/
theorem JM.farP (h : JM W B p gp lv n plan pvS svS pv sv k k1 k2 L1 L2 ap lp cp aq ls cs) {b : Nat} (hb : b < B) : pv.ownBlock ≠ some b ∧ sv.ownBlock ≠ some b := by
  obtain ⟨PA, PC, U1, SA, SC, U2, h1, h2, h3, h4, _⟩ := h
  exact ⟨fun e => by have := (own_block h3.1 e).1; omega, fun e => by have := (own_block h4.1 e).1; omega⟩
theorem BuildI.toJM (h : BuildI W B p gp lv n plan k L1 L2) (hp : W'.ownsRow W.heap.size 2 1 (.slice ap lp cp) lp (L1 k)) (hs : W'.ownsRow W.heap.size 85 1 (.slice aq ls cs) ls (L2 k)) (hl1 : (L1 k).length = lp) (hl2 : (L2 k).length = ls) (hne : ∀ b, (Value.slice ap lp cp).ownBlock = some b → (Value.slice aq ls cs).ownBlock ≠ some b) (hb : Below W.heap.size W W') (hB : B ≤ W.heap.size) :
    ∃ pv sv, JM W' B p gp lv n plan pv sv pv sv k k k L1 L2 ap lp cp aq ls cs := by
  obtain ⟨pv, sv, PA, PC, U1, SA, SC, U2, h1, h2, h3, h4, s1, s2, s3, s4, s5, s6⟩ := h
  have hp1 := (own_block (b := p) h1 rfl).2
  have hg1 := (own_block (b := gp) h2 rfl).2
  refine ⟨pv, sv, PA, PC, U1, SA, SC, U2, own_below h1 hb, own_below h2 hb, h3.below hb, h4.below hb, ⟨s1, s2, s3, s4, s5, s6⟩, ⟨own_base hp hB, own_base hs hB, hl1, hl2⟩, fun b e => ?_, fun b e => ?_⟩
  · have h := (own_block hp e).1
    exact ⟨by omega, by omega, fun u => by have := h4.2.2.1 b u; omega, hne b e, fun _ u => by have := h3.2.2.1 b u; omega⟩
  · have h := (own_block hs e).1
    exact ⟨by omega, by omega, fun u => by have := h3.2.2.1 b u; omega, fun _ u => by have := h4.2.2.1 b u; omega⟩
end
end Go.Proofs.YthemlamdchcicaaGreatDoor
