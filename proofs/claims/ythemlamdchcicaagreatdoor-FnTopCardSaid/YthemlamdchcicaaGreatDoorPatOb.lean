/-
  The reference's AddSeam at a seam of the pattern's edges. No condition of its own but the copy's contract.
-/
import Derived.Test.YthemlamdchcicaaGreatDoorPatO1
import Derived.Test.YthemlamdchcicaaGreatDoorPatX
namespace Go.Proofs.YthemlamdchcicaaGreatDoor
open Go.ChangeShapes Go.WideShapes Go.ChangeAt Go.RowKit Go.Deep Go.Shelf Go.ChangeMaps

set_option maxHeartbeats 800000 in
/-- 'append(seams, s)'. -/
theorem appSm {w0 W : World} {ops : Array Oper} {rest : List Oper} {o : Oper} {a : Act} {Q : Exit → Act → World → Prop} (hgd : o.guard = none) (s x : Operand)
    (ho : o.op = .call { callee := .builtin .append, args := #[s, x], argTypes := #[39, 39] }) (B : Nat) (v : Value) (n : Nat) (xs : List Value) (hs : a.eval s = v) (hown : W.ownsRow B 110 4 v n xs)
    (z0 z1 z2 z3 : Int) (c H : Nat) (hH : W.heap.size = H) (hx : a.eval x = .slice (some ⟨H, 0, none⟩) 1 c) (hn : n ≤ 1099511627776) (hb : Bel B w0 W)
    (h : ∀ a' cap w', w'.ownsRow B 110 4 (.slice a' (n + 1) cap) (n + 1) (xs ++ [.int .i64 z0, .int .i64 z1, .int .i64 z2, .int .i64 z3]) → Bel B w0 w' → W.grownBy w' v.ownBlock → ((Value.slice a' (n + 1) cap).ownBlock = v.ownBlock ∨ ∃ g, (Value.slice a' (n + 1) cap).ownBlock = some g ∧ W.heap.size ≤ g) → wpList Tryz.prog ops Q rest (a.put o.dst (.slice a' (n + 1) cap)) w') :
    wpList Tryz.prog ops Q (o :: rest) a (W.alloc (.cells #[.int .i64 z0, .int .i64 z1, .int .i64 z2, .int .i64 z3] 110)) := by
  subst hH
  obtain ⟨i, hi, h0, h1, h2⟩ := info_parts infoSeam
  refine wpList_append_lies _ hgd s x 39 ho B 110 i (.agg #[.int .i64 0, .int .i64 0, .int .i64 0, .int .i64 0]) 4 32 Tryz.underlying39 hi h0 h1 h2 rfl (by omega) v n xs hs (hown.alloc _) ⟨W.heap.size, 0, none⟩ 1 c [.int .i64 z0, .int .i64 z1, .int .i64 z2, .int .i64 z3] hx rfl ?_ ?_ (by omega) (by unfold maxLen; omega) (by omega) (by have := hb.2; simp; omega) _ rfl ?_
  · intro j u hj
    match j, hj with
    | 0, hj => simp at hj; subst hj; simp [Addr.add]
    | 1, hj => simp at hj; subst hj; simp [Addr.add]
    | 2, hj => simp at hj; subst hj; simp [Addr.add]
    | 3, hj => simp at hj; subst hj; simp [Addr.add]
  · intro u hu
    simp at hu
    rcases hu with rfl | rfl | rfl | rfl <;> rfl
  · intro g cap w' h3 h4 h5 _
    refine h _ cap w' h3 ((hb.alloc _).grown h4 (fun k hk => (own_block hown hk).1)) ?_ ?_
    · exact ⟨h4.os, h4.tape, h4.output, Nat.le_trans (by simp) h4.size, fun i hi hne => (h4.block i (by simp; omega) hne).trans ((World.grownBy_alloc W _ none).block i hi (by simp))⟩
    · rcases h5 with h5 | h5
      · exact .inl h5.symm
      · exact .inr ⟨g, rfl, by simp at h5; omega⟩
theorem Obx.four {W : World} {B q E : Nat} {a b c d : Value} (h : Obx W B q E 4 [a, b, c, d]) : W.cell? ⟨q, 0, none⟩ = some a ∧ W.cell? ⟨q, 1, none⟩ = some b ∧ W.cell? ⟨q, 2, none⟩ = some c ∧ W.cell? ⟨q, 3, none⟩ = some d :=
  ⟨h.cell 0 (by omega), h.cell 1 (by omega), h.cell 2 (by omega), h.cell 3 (by omega)⟩
theorem Obx.three {W : World} {B q E : Nat} {a b c : Value} (h : Obx W B q E 3 [a, b, c]) : (W.cell? ⟨q, 0, none⟩ = some a ∧ W.cell? ⟨q, 1, none⟩ = some b ∧ W.cell? ⟨q, 2, none⟩ = some c) ∧ (W.frozen? ⟨q, 0, none⟩ = false ∧ W.frozen? ⟨q, 1, none⟩ = false ∧ W.frozen? ⟨q, 2, none⟩ = false) ∧ q < W.heap.size :=
  ⟨⟨h.cell 0 (by omega), h.cell 1 (by omega), h.cell 2 (by omega)⟩, ⟨h.fr 0, h.fr 1, h.fr 2⟩, h.lt.2⟩
/-- A block that is none of the pattern's may turn. -/
theorem PatOwn.grownNe {w w' : World} {B c cS x : Nat} {p : Pat} {aP aS : Option Addr} {g cE : Nat → Nat} (h : PatOwn w B p aP c aS cS g cE) (hg : w.grownBy w' (some x)) (h1 : ∀ b, (Value.slice aP p.n c).ownBlock = some b → x ≠ b) (h2 : ∀ i, i < p.n → x ≠ g i) (h3 : ∀ b, (Value.slice aS p.m cS).ownBlock = some b → x ≠ b) : PatOwn w' B p aP c aS cS g cE :=
  ⟨h.pcs.grown hg h1 h2, own_grown_ne h.sms hg (fun b hb e => h3 b hb (by simpa using e)), h.ne1, h.ne2⟩
/-- The seams grow by one. -/
theorem PatOwn.seam {w w6 : World} {B c cS c' : Nat} {p : Pat} {aP aS a' : Option Addr} {g cE : Nat → Nat} {a b : Ed} {o : Obj} (h : PatOwn w B p aP c aS cS g cE) (hg : (w.alloc o).grownBy w6 (Value.slice aS p.m cS).ownBlock)
    (ho : w6.ownsRow B 110 4 (.slice a' (p.m + 1) c') (p.m + 1) (smC p p.m ++ [.int .i64 (a.1 : Int), .int .i64 (a.2 : Int), .int .i64 (b.1 : Int), .int .i64 (b.2 : Int)]))
    (hat : (Value.slice a' (p.m + 1) c').ownBlock = (Value.slice aS p.m cS).ownBlock ∨ ∃ g, (Value.slice a' (p.m + 1) c').ownBlock = some g ∧ (w.alloc o).heap.size ≤ g) :
    PatOwn w6 B (p.add a b) aP c a' c' g cE ∧ ∀ x, (Value.slice a' (p.m + 1) c').ownBlock = some x → x ≠ w.heap.size := by
  have hs : (w.alloc o).heap.size = w.heap.size + 1 := by simp
  have hx : ∀ x, (Value.slice a' (p.m + 1) c').ownBlock = some x → (Value.slice aS p.m cS).ownBlock = some x ∨ w.heap.size < x := fun x hx => by
    rcases hat with h1 | ⟨g, h1, h2⟩
    · rw [hx] at h1
      exact .inl h1.symm
    · rw [hx] at h1
      have h3 := Option.some.inj h1
      exact .inr (by omega)
  have hgr : ∀ {v : Value} {E k n : Nat} {cs : List Value}, w.ownsRow B E k v n cs → (∀ b, v.ownBlock = some b → (Value.slice aS p.m cS).ownBlock ≠ some b) → w6.ownsRow B E k v n cs := fun hr hne => own_grown_ne (own_below hr ((Bel.refl w).alloc o).1) hg hne
  refine ⟨⟨⟨hgr h.pcs.row (fun b hb e => h.ne1 b b hb e rfl), fun i hi => hgr (h.pcs.eds i hi) (fun b hb e => h.ne2 i hi b e (by have h3 : g i = b := (by simpa [Value.ownBlock] using hb); exact h3.symm)), h.pcs.ne, h.pcs.inj⟩, ?_, fun b0 b' hb hb' e => ?_, fun i hi b0 hb e => ?_⟩, fun x h1 e => ?_⟩
  · show w6.ownsRow B 110 4 (.slice a' (p.m + 1) c') (p.m + 1) (smC (p.add a b) (p.m + 1))
    rw [smC_add]
    exact ho
  · subst e
    rcases hx b0 hb' with h1 | h1
    · exact h.ne1 b0 b0 hb h1 rfl
    · have := (own_block h.pcs.row hb).2
      omega
  · rcases hx b0 hb with h1 | h1
    · exact h.ne2 i hi b0 h1 e
    · have := (own_block (b := g i) (h.pcs.eds i hi) rfl).2
      omega
  · rcases hx x h1 with h2 | h2
    · have := (own_block h.sms h2).2
      omega
    · omega
def AddEnd (w : World) (p : Pat) (op : Int) (a b : Ed) (e : Ending) (w' : World) : Prop :=
  Below w.heap.size w w' ∧ ((∃ c : Int, e = .returned (.tuple #[.agg #[.slice none 0 0, .slice none 0 0, .int .i64 0], .int .i64 c]) ∧ c ≠ 0) ∨
    ∃ aP' cP' aS' cS' g' cE', e = .returned (.tuple #[.agg #[.slice aP' p.n cP', .slice aS' (p.m + 1) cS', .int .i64 op], .int .i64 0]) ∧ (p.add a b).Ok ∧ PatOwn w' w.heap.size (p.add a b) aP' cP' aS' cS' g' cE')
set_option maxRecDepth 100000 in
set_option maxHeartbeats 6400000 in
theorem addSeam_with (p : Pat) (hp : p.Ok) (hm8 : p.m < 8) (aP aS : Option Addr) (cP cS : Nat) (op : Int) (hop : 0 ≤ op ∧ op ≤ 100) (a b : Ed) (ha : p.on a) (hb : p.on b) (g cE : Nat → Nat) (B0 : Nat) (w : World) (h : PatOwn w B0 p aP cP aS cS g cE)
    (hOwn : ∀ (q : Nat) (X : World), PBox X q aP p.n cP aS p.m cS op → PatOwn X B0 p aP cP aS cS g cE → Calls Tryz.prog 98 #[.pointer (some ⟨q, 0, none⟩)] X fun e w' => ∃ aP' cP' aS' cS' g' cE', e = .returned (.agg #[.slice aP' p.n cP', .slice aS' p.m cS', .int .i64 op]) ∧ PatOwn w' X.heap.size p aP' cP' aS' cS' g' cE' ∧ Below X.heap.size X w') :
    Calls Tryz.prog 61 #[.agg #[.slice aP p.n cP, .slice aS p.m cS, .int .i64 op], .agg #[.int .i64 (a.1 : Int), .int .i64 (a.2 : Int), .int .i64 (b.1 : Int), .int .i64 (b.2 : Int)]] w (AddEnd w p op a b) := by
  obtain ⟨x, y⟩ := a
  obtain ⟨u, v⟩ := b
  have HOk := Lib.hid hp
  have HPo := Lib.hid h
  have hpa := h.at_ hp
  have HAB := Lib.hid (And.intro ha hb)
  obtain ⟨W, hW⟩ : ∃ W, ((w.alloc (.cells #[.slice aP p.n cP, .slice aS p.m cS, .int .i64 op] 41)).alloc (.cells #[.int .i64 (x : Int), .int .i64 (y : Int), .int .i64 (u : Int), .int .i64 (v : Int)] 110)).alloc (.cells #[.slice none 0 0, .slice none 0 0, .int .i64 0] 41) = W := ⟨_, rfl⟩
  have HB := Lib.hid (show Bel w.heap.size w W by rw [← hW]; exact (((Bel.refl w).alloc _).alloc _).alloc _)
  have HR := Lib.hid (show Obx W w.heap.size (w.heap.size + 2) 41 3 [.slice none 0 0, .slice none 0 0, .int .i64 0] by
    rw [← hW]
    have h := Obx.new ((w.alloc (.cells #[.slice aP p.n cP, .slice aS p.m cS, .int .i64 op] 41)).alloc (.cells #[.int .i64 (x : Int), .int .i64 (y : Int), .int .i64 (u : Int), .int .i64 (v : Int)] 110)) w.heap.size 41 3 #[.slice none 0 0, .slice none 0 0, .int .i64 0] (by simp; omega) rfl
    simpa using h)
  have HS := Lib.hid (show Obx W w.heap.size (w.heap.size + 1) 110 4 [.int .i64 (x : Int), .int .i64 (y : Int), .int .i64 (u : Int), .int .i64 (v : Int)] by
    rw [← hW]
    have h := (Obx.new (w.alloc (.cells #[.slice aP p.n cP, .slice aS p.m cS, .int .i64 op] 41)) w.heap.size 110 4 #[.int .i64 (x : Int), .int .i64 (y : Int), .int .i64 (u : Int), .int .i64 (v : Int)] (by simp) rfl).alloc (.cells #[.slice none 0 0, .slice none 0 0, .int .i64 0] 41)
    simpa using h)
  have HQ := Lib.hid (show PBox W w.heap.size aP p.n cP aS p.m cS op by
    rw [← hW]
    exact ((PBox.new w aP p.n cP aS p.m cS op).below ((Bel.refl _).alloc _).1).below ((Bel.refl _).alloc _).1)
  have HPa := Lib.hid (And.intro (hpa.1.below HB.out.1) (hpa.2.below HB.out.1))
  have HPw := Lib.hid (h.below HB.out.1)
  have H1 := Lib.hid (fun X (hX : Below W.heap.size W X) => l08Ok_ok p hp aP aS cP cS op hop w.heap.size X (HQ.out.below hX) ⟨HPa.out.1.below hX, HPa.out.2.below hX⟩)
  have H2 := Lib.hid (fun X (hX : Below W.heap.size W X) => l08Seam_ok p hp aP aS cP cS op (x, y) (u, v) ha hb w.heap.size X (HQ.out.below hX) (HPa.out.1.below hX))
  have H3 := Lib.hid (fun X (hX : Below W.heap.size W X) => l08Times_any p hp.m aP aS cP cS op x y w.heap.size X (HQ.out.below hX) (HPa.out.2.below hX))
  have H4 := Lib.hid (fun X (hX : Below W.heap.size W X) => l08Times_any p hp.m aP aS cP cS op u v w.heap.size X (HQ.out.below hX) (HPa.out.2.below hX))
  have H5 := Lib.hid (fun X (hX : Below W.heap.size W X) => hOwn w.heap.size X (HQ.out.below hX) (HPw.out.below hX))
  have HWs := Lib.hid (show W.heap.size = w.heap.size + 3 by rw [← hW]; simp)
  have HAdd := Lib.hid (fun (hab : (x, y) ≠ (u, v)) (ta : p.times (x, y) = 0) (tb : p.times (u, v) = 0) => hp.add (a := (x, y)) (b := (u, v)) hm8 ha hb hab ta tb)
  obtain ⟨n, hn⟩ : ∃ n, p.n = n := ⟨_, rfl⟩
  obtain ⟨m, hmm⟩ : ∃ m, p.m = m := ⟨_, rfl⟩
  have HN := Lib.hid hn
  have HM := Lib.hid hmm
  obtain ⟨Ta, hTa⟩ : ∃ t, p.times (x, y) = t := ⟨_, rfl⟩
  obtain ⟨Tb, hTb⟩ : ∃ t, p.times (u, v) = t := ⟨_, rfl⟩
  rw [hTa] at H3
  rw [hTb] at H4
  have HTa := Lib.hid hTa
  have HTb := Lib.hid hTb
  rw [hn, hmm] at hW HQ H5 ⊢
  rw [hmm] at hm8
  have HW := Lib.hid hW
  clear hW hp h hpa ha hb hOwn hn hmm hTa hTb hop
  go_enter Tryz.func61, Tryz.ntmps61
  go_upto_region 1 with fail
  rw [HW.out]
  obtain ⟨⟨r0, r1, r2⟩, ⟨v0, v1, v2⟩, rl⟩ := HR.out.three
  have HC := Lib.hid (fun X (hX : Below W.heap.size W X) => (HR.out.below hX).three)
  have HD := Lib.hid (fun X (hX : Below W.heap.size W X) => (HS.out.below hX).four)
  clear r0 r1 r2 v0 v1 v2 rl
  go_wp2_with fail
  refine (H1.out _ (Below.refl _ _)).mono ?_
  rintro e w1 ⟨rfl, hb1⟩
  have HB1 := Lib.hid hb1
  clear hb1
  obtain ⟨d0, d1, d2, d3⟩ := HD.out w1 HB1.out
  go_wp2_with fail
  refine (H2.out _ HB1.out).mono ?_
  rintro e w2 ⟨rfl, hb2⟩
  have HB2 := Lib.hid (HB1.out.trans (hb2.mono HB1.out.size))
  clear hb2 d0 d1 d2 d3
  obtain ⟨d0, d1, d2, d3⟩ := HD.out w2 HB2.out
  go_wp2_with fail
  refine (H3.out _ HB2.out).mono ?_
  rintro e w3 ⟨rfl, hb3⟩
  have HB3 := Lib.hid (HB2.out.trans (hb3.mono HB2.out.size))
  clear hb3 d0 d1 d2 d3
  obtain ⟨d0, d1, d2, d3⟩ := HD.out w3 HB3.out
  by_cases h1 : (0 : Int) < (Ta : Int)
  · obtain ⟨⟨r0, r1, r2⟩, ⟨v0, v1, v2⟩, rl⟩ := HC.out w3 HB3.out
    go_wp2_with fail
    obtain ⟨⟨q0, q1, q2⟩, _, _⟩ := (Obx.set3 (a := .slice none 0 0) (b := .slice none 0 0) (c := .int .i64 0) (HR.out.below HB3.out)).three
    refine bodyPost_ret (v := .tuple #[.agg #[.slice none 0 0, .slice none 0 0, .int .i64 0], .int .i64 9]) (by simp [results, Tryz.results61, go_sem, q0, q1, q2]) rfl ?_
    exact ⟨((HB.out.step HB3.out).grown (set3_grown _ _ _ _ _) (fun k hk => by have h1 : w.heap.size + 2 = k := Option.some.inj hk; omega)).1, .inl ⟨9, rfl, by omega⟩⟩
  · have h1' : decide ((0 : Int) < (Ta : Int)) = false := decide_eq_false h1
    go_wp2_with fail
    refine (H4.out _ HB3.out).mono ?_
    rintro e w4 ⟨rfl, hb4⟩
    have HB4 := Lib.hid (HB3.out.trans (hb4.mono HB3.out.size))
    clear hb4 d0 d1 d2 d3
    obtain ⟨d0, d1, d2, d3⟩ := HD.out w4 HB4.out
    by_cases h2 : (0 : Int) < (Tb : Int)
    · obtain ⟨⟨r0, r1, r2⟩, ⟨v0, v1, v2⟩, rl⟩ := HC.out w4 HB4.out
      go_wp2_with fail
      obtain ⟨⟨q0, q1, q2⟩, _, _⟩ := (Obx.set3 (a := .slice none 0 0) (b := .slice none 0 0) (c := .int .i64 0) (HR.out.below HB4.out)).three
      refine bodyPost_ret (v := .tuple #[.agg #[.slice none 0 0, .slice none 0 0, .int .i64 0], .int .i64 9]) (by simp [results, Tryz.results61, go_sem, q0, q1, q2]) rfl ?_
      exact ⟨((HB.out.step HB4.out).grown (set3_grown _ _ _ _ _) (fun k hk => by have h1 : w.heap.size + 2 = k := Option.some.inj hk; omega)).1, .inl ⟨9, rfl, by omega⟩⟩
    · have h2' : decide ((0 : Int) < (Tb : Int)) = false := decide_eq_false h2
      by_cases h3 : x = u
      · by_cases h4 : y = v
        · subst h3
          subst h4
          obtain ⟨⟨r0, r1, r2⟩, ⟨v0, v1, v2⟩, rl⟩ := HC.out w4 HB4.out
          go_wp2_with fail
          obtain ⟨⟨q0, q1, q2⟩, _, _⟩ := (Obx.set3 (a := .slice none 0 0) (b := .slice none 0 0) (c := .int .i64 0) (HR.out.below HB4.out)).three
          refine bodyPost_ret (v := .tuple #[.agg #[.slice none 0 0, .slice none 0 0, .int .i64 0], .int .i64 9]) (by simp [results, Tryz.results61, go_sem, q0, q1, q2]) rfl ?_
          exact ⟨((HB.out.step HB4.out).grown (set3_grown _ _ _ _ _) (fun k hk => by have h1 : w.heap.size + 2 = k := Option.some.inj hk; omega)).1, .inl ⟨9, rfl, by omega⟩⟩
        · subst h3
          have h4' : ¬ (y : Int) = (v : Int) := by omega
          go_wp2_with fail
          refine (H5.out _ HB4.out).mono ?_
          rintro e w5 ⟨aP', cP', aS', cS', g', cE', rfl, ho5, hb5⟩
          have HO5 := Lib.hid (PatOwn.base ho5 (show w.heap.size ≤ w4.heap.size from (HB.out.step HB4.out).2))
          have hNb5 := Lib.hid (fun b (hb : (Value.slice aS' m cS').ownBlock = some b) => (show w4.heap.size ≤ b from (own_block ho5.sms (by rw [HM.out]; exact hb)).1))
          have HNp := Lib.hid (fun b (hb : (Value.slice aP' p.n cP').ownBlock = some b) (e : b = w.heap.size + 2) => (show False by have h0 := (own_block ho5.pcs.row hb).1; have h2 := HB4.out.size; have h3 := HWs.out; omega))
          have HNe := Lib.hid (fun i (hi : i < p.n) (e : g' i = w.heap.size + 2) => (show False by have h0 := (own_block (b := g' i) (ho5.pcs.eds i hi) rfl).1; have h2 := HB4.out.size; have h3 := HWs.out; omega))
          have HB5 := Lib.hid (HB4.out.trans (hb5.mono HB4.out.size))
          clear hb5 ho5 d0 d1 d2 d3
          obtain ⟨d0, d1, d2, d3⟩ := HD.out w5 HB5.out
          have hsm5 : w5.ownsRow w.heap.size 110 4 (.slice aS' m cS') m (smC p m) := by rw [← HM.out]; exact HO5.out.sms
          have HSm5 := Lib.hid hsm5
          clear hsm5
          have HBl := Lib.hid (HB.out.step HB5.out)
          have hw5 : w.heap.size + 3 ≤ w5.heap.size := by have h1 := HB5.out.size; have h2 := HWs.out; omega
          have hlt1 : w.heap.size + 1 < w5.heap.size := by omega
          have HNb := Lib.hid (show (Value.slice aS' m cS').ownBlock = some (w.heap.size + 2) → False from fun e => by have h1 := hNb5.out _ e; have h2 := HB4.out.size; have h3 := HWs.out; omega)
          go_wp2_with (at_builtin; refine appSm (by rfl) _ _ (by rfl) w.heap.size _ _ _ (by rfl) (HSm5.out.alloc (.cells #[.slice aP' n cP', .slice aS' m cS', .int .i64 op] 41)) _ _ _ _ 1 (w5.heap.size + 1) (by simp) (by rfl) (by omega) (HBl.out.alloc _) ?_; intro a' c' w6 ho6 hb6 hg6 hat6; have HX6 := Lib.hid (Obx.grown (Obx.new w5 w.heap.size 41 3 #[.slice aP' n cP', .slice aS' m cS', .int .i64 op] HBl.out.2 rfl) hg6 (fun e => by have := (own_block HSm5.out e).2; omega)); have HR6 := Lib.hid (Obx.grown ((HR.out.below HB5.out).alloc (.cells #[.slice aP' n cP', .slice aS' m cS', .int .i64 op] 41)) hg6 (HNb.out)); obtain ⟨⟨y0, y1, y2⟩, ⟨z0, z1, z2⟩, zl⟩ := HX6.out.three; obtain ⟨⟨r0, r1, r2⟩, ⟨v0, v1, v2⟩, rl⟩ := HR6.out.three; have HG6 := Lib.hid hg6; have HO6 := Lib.hid ho6; have HT6 := Lib.hid hat6; have HB6 := Lib.hid hb6; clear hg6 ho6 hat6 hb6; have hq1 : ¬ w5.heap.size = w.heap.size + 2 := (by omega); have hq2 : ¬ w.heap.size + 2 = w5.heap.size := (by omega))
          have HF := Lib.hid (HR6.out.setOther (q' := w5.heap.size) 1 (.slice a' (m + 1) c') hq1)
          obtain ⟨⟨q0, q1, q2⟩, _, _⟩ := (HF.out.set3 (a := .slice aP' n cP') (b := .slice a' (m + 1) c') (c := .int .i64 op)).three
          refine bodyPost_ret (v := .tuple #[.agg #[.slice aP' n cP', .slice a' (m + 1) c', .int .i64 op], .int .i64 0]) (by simp [results, Tryz.results61, go_sem, q0, q1, q2]) rfl ?_
          have hn := HN.out
          have hm := HM.out
          subst hn
          subst hm
          obtain ⟨k1, k2⟩ := HO5.out.seam (a := (x, y)) (b := (x, v)) HG6.out HO6.out (by simpa using HT6.out)
          have k3 := k1.grownNe (setCell_grown w6 w5.heap.size 1 (.slice a' (p.m + 1) c')) (fun b hb => by have := (own_block HO5.out.pcs.row hb).2; omega) (fun i hi => by have := (own_block (b := g' i) (HO5.out.pcs.eds i hi) rfl).2; omega) (fun b hb e => k2 b hb e.symm)
          have k4 := k3.grownNe (set3_grown _ (w.heap.size + 2) (.slice aP' p.n cP') (.slice a' (p.m + 1) c') (.int .i64 op)) (fun b hb e => HNp.out b hb e.symm) (fun i hi e => HNe.out i hi e.symm) (fun b hb e => by
            have hb : (Value.slice a' (p.m + 1) c').ownBlock = some b := hb; rcases HT6.out with h | ⟨g9, h, h5⟩
            · rw [hb] at h; exact HNb.out (by rw [← h, e])
            · rw [hb] at h
              have h6 := Option.some.inj h
              simp at h5
              omega)
          exact ⟨(((HB6.out.setCell (p := ⟨w5.heap.size, 1, none⟩) HBl.out.2 _).grown (set3_grown _ _ _ _ _) (fun k hk => by have h1 : w.heap.size + 2 = k := Option.some.inj hk; omega))).1, .inr ⟨aP', cP', a', c', g', cE', rfl, HAdd.out (fun h => h4' (by simp only [Prod.mk.injEq] at h; omega)) (by have := HTa.out; omega) (by have := HTb.out; omega), k4⟩⟩
      · have h3' : ¬ (x : Int) = (u : Int) := by omega
        go_wp2_with fail
        refine (H5.out _ HB4.out).mono ?_
        rintro e w5 ⟨aP', cP', aS', cS', g', cE', rfl, ho5, hb5⟩
        have HO5 := Lib.hid (PatOwn.base ho5 (show w.heap.size ≤ w4.heap.size from (HB.out.step HB4.out).2))
        have hNb5 := Lib.hid (fun b (hb : (Value.slice aS' m cS').ownBlock = some b) => (show w4.heap.size ≤ b from (own_block ho5.sms (by rw [HM.out]; exact hb)).1))
        have HNp := Lib.hid (fun b (hb : (Value.slice aP' p.n cP').ownBlock = some b) (e : b = w.heap.size + 2) => (show False by have h0 := (own_block ho5.pcs.row hb).1; have h2 := HB4.out.size; have h3 := HWs.out; omega))
        have HNe := Lib.hid (fun i (hi : i < p.n) (e : g' i = w.heap.size + 2) => (show False by have h0 := (own_block (b := g' i) (ho5.pcs.eds i hi) rfl).1; have h2 := HB4.out.size; have h3 := HWs.out; omega))
        have HB5 := Lib.hid (HB4.out.trans (hb5.mono HB4.out.size))
        clear hb5 ho5 d0 d1 d2 d3
        obtain ⟨d0, d1, d2, d3⟩ := HD.out w5 HB5.out
        have hsm5 : w5.ownsRow w.heap.size 110 4 (.slice aS' m cS') m (smC p m) := by rw [← HM.out]; exact HO5.out.sms
        have HSm5 := Lib.hid hsm5
        clear hsm5
        have HBl := Lib.hid (HB.out.step HB5.out)
        have hw5 : w.heap.size + 3 ≤ w5.heap.size := by have h1 := HB5.out.size; have h2 := HWs.out; omega
        have hlt1 : w.heap.size + 1 < w5.heap.size := by omega
        have HNb := Lib.hid (show (Value.slice aS' m cS').ownBlock = some (w.heap.size + 2) → False from fun e => by have h1 := hNb5.out _ e; have h2 := HB4.out.size; have h3 := HWs.out; omega)
        go_wp2_with (at_builtin; refine appSm (by rfl) _ _ (by rfl) w.heap.size _ _ _ (by rfl) (HSm5.out.alloc (.cells #[.slice aP' n cP', .slice aS' m cS', .int .i64 op] 41)) _ _ _ _ 1 (w5.heap.size + 1) (by simp) (by rfl) (by omega) (HBl.out.alloc _) ?_; intro a' c' w6 ho6 hb6 hg6 hat6; have HX6 := Lib.hid (Obx.grown (Obx.new w5 w.heap.size 41 3 #[.slice aP' n cP', .slice aS' m cS', .int .i64 op] HBl.out.2 rfl) hg6 (fun e => by have := (own_block HSm5.out e).2; omega)); have HR6 := Lib.hid (Obx.grown ((HR.out.below HB5.out).alloc (.cells #[.slice aP' n cP', .slice aS' m cS', .int .i64 op] 41)) hg6 (HNb.out)); obtain ⟨⟨y0, y1, y2⟩, ⟨z0, z1, z2⟩, zl⟩ := HX6.out.three; obtain ⟨⟨r0, r1, r2⟩, ⟨v0, v1, v2⟩, rl⟩ := HR6.out.three; have HG6 := Lib.hid hg6; have HO6 := Lib.hid ho6; have HT6 := Lib.hid hat6; have HB6 := Lib.hid hb6; clear hg6 ho6 hat6 hb6; have hq1 : ¬ w5.heap.size = w.heap.size + 2 := (by omega); have hq2 : ¬ w.heap.size + 2 = w5.heap.size := (by omega))
        have HF := Lib.hid (HR6.out.setOther (q' := w5.heap.size) 1 (.slice a' (m + 1) c') hq1)
        obtain ⟨⟨q0, q1, q2⟩, _, _⟩ := (HF.out.set3 (a := .slice aP' n cP') (b := .slice a' (m + 1) c') (c := .int .i64 op)).three
        refine bodyPost_ret (v := .tuple #[.agg #[.slice aP' n cP', .slice a' (m + 1) c', .int .i64 op], .int .i64 0]) (by simp [results, Tryz.results61, go_sem, q0, q1, q2]) rfl ?_
        have hn := HN.out
        have hm := HM.out
        subst hn
        subst hm
        obtain ⟨k1, k2⟩ := HO5.out.seam (a := (x, y)) (b := (u, v)) HG6.out HO6.out (by simpa using HT6.out)
        have k3 := k1.grownNe (setCell_grown w6 w5.heap.size 1 (.slice a' (p.m + 1) c')) (fun b hb => by have := (own_block HO5.out.pcs.row hb).2; omega) (fun i hi => by have := (own_block (b := g' i) (HO5.out.pcs.eds i hi) rfl).2; omega) (fun b hb e => k2 b hb e.symm)
        have k4 := k3.grownNe (set3_grown _ (w.heap.size + 2) (.slice aP' p.n cP') (.slice a' (p.m + 1) c') (.int .i64 op)) (fun b hb e => HNp.out b hb e.symm) (fun i hi e => HNe.out i hi e.symm) (fun b hb e => by
          have hb : (Value.slice a' (p.m + 1) c').ownBlock = some b := hb; rcases HT6.out with h | ⟨g9, h, h5⟩
          · rw [hb] at h; exact HNb.out (by rw [← h, e])
          · rw [hb] at h
            have h6 := Option.some.inj h
            simp at h5
            omega)
        exact ⟨(((HB6.out.setCell (p := ⟨w5.heap.size, 1, none⟩) HBl.out.2 _).grown (set3_grown _ _ _ _ _) (fun k hk => by have h1 : w.heap.size + 2 = k := Option.some.inj hk; omega))).1, .inr ⟨aP', cP', a', c', g', cE', rfl, HAdd.out (fun h => h3' (by simp only [Prod.mk.injEq] at h; omega)) (by have := HTa.out; omega) (by have := HTb.out; omega), k4⟩⟩
end Go.Proofs.YthemlamdchcicaaGreatDoor
