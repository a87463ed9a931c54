/-
  The reference's copy of a pattern. No condition of its own.
-/
import Derived.Test.YthemlamdchcicaaGreatDoorPatO1
namespace Go.Proofs.YthemlamdchcicaaGreatDoor
open Go.ChangeShapes Go.WideShapes Go.ChangeAt Go.RowKit Go.Deep Go.Shelf Go.ChangeMaps

theorem Obx.three0 {W : World} {B q E : Nat} {a b c : Value} (h : Obx W B q E 3 [a, b, c]) : (W.cell? ⟨q, 0, none⟩ = some a ∧ W.cell? ⟨q, 1, none⟩ = some b ∧ W.cell? ⟨q, 2, none⟩ = some c) ∧ (W.frozen? ⟨q, 0, none⟩ = false ∧ W.frozen? ⟨q, 1, none⟩ = false ∧ W.frozen? ⟨q, 2, none⟩ = false) ∧ q < W.heap.size :=
  ⟨⟨h.cell 0 (by omega), h.cell 1 (by omega), h.cell 2 (by omega)⟩, ⟨h.fr 0, h.fr 1, h.fr 2⟩, h.lt.2⟩
set_option maxRecDepth 100000 in
set_option maxHeartbeats 6400000 in
theorem l08Own_any (p : Pat) (hp : p.Ok) (aP aS : Option Addr) (cP cS : Nat) (op : Int) (g cE : Nat → Nat) (B0 q : Nat) (w : World) (hq : PBox w q aP p.n cP aS p.m cS op) (h : PatOwn w B0 p aP cP aS cS g cE) :
    Calls Tryz.prog 98 #[.pointer (some ⟨q, 0, none⟩)] w fun e w' => ∃ aP' cP' aS' cS' g' cE', e = .returned (.agg #[.slice aP' p.n cP', .slice aS' p.m cS', .int .i64 op]) ∧ PatOwn w' w.heap.size p aP' cP' aS' cS' g' cE' ∧ Below w.heap.size w w' := by
  have HOk := Lib.hid hp
  have HPo := Lib.hid h
  have HQ := Lib.hid hq
  have m8 := hp.m
  have n2 := hp.n2
  obtain ⟨is, his, s0, s1, s2⟩ := info_parts infoSeam
  have HIs := Lib.hid (And.intro his (And.intro s0 (And.intro s1 s2)))
  obtain ⟨n, hn⟩ : ∃ n, p.n = n := ⟨_, rfl⟩
  obtain ⟨m, hm⟩ : ∃ m, p.m = m := ⟨_, rfl⟩
  have HN := Lib.hid hn
  have HM := Lib.hid hm
  have hsm := h.sms
  rw [hn] at HQ n2 ⊢
  rw [hm] at HQ m8 hsm ⊢
  obtain ⟨W, hW⟩ : ∃ W, w.alloc (.cells #[.slice none 0 0, .slice none 0 0, .int .i64 0] 41) = W := ⟨_, rfl⟩
  have HB := Lib.hid (show Bel w.heap.size w W by rw [← hW]; exact (Bel.refl w).alloc _)
  have HR := Lib.hid (show Obx W w.heap.size w.heap.size 41 3 [.slice none 0 0, .slice none 0 0, .int .i64 0] by rw [← hW]; exact Obx.new w w.heap.size 41 3 #[.slice none 0 0, .slice none 0 0, .int .i64 0] (Nat.le_refl _) rfl)
  have hWs : W.heap.size = w.heap.size + 1 := by rw [← hW]; simp
  have HW := Lib.hid hW
  have HWs := Lib.hid hWs
  have HSm := Lib.hid (own_below hsm HB.out.1)
  obtain ⟨p0, p1, p2, p3⟩ := HQ.out.below HB.out.1
  have HSl := Lib.hid (smC_length p m)
  have HS1 := Lib.hid (show ∀ u ∈ smC p m, u.oneCell' = true from fun u hu => by
    unfold smC at hu
    obtain ⟨i, _, hi⟩ := List.mem_flatMap.1 hu
    simp only [List.mem_cons, List.not_mem_nil, or_false] at hi
    rcases hi with rfl | rfl | rfl | rfl <;> rfl)
  have HQs := Lib.hid (show q < W.heap.size from Nat.lt_of_lt_of_le HQ.out.2.2.2 HB.out.2)
  have HOw := Lib.hid (show (((W.alloc (.cells #[.slice none 0 0, .slice none 0 0, .int .i64 0] 41)).alloc (.cells #[] 110)).drew).ownsRow W.heap.size 110 4 (.slice (some ⟨W.heap.size + 1, 0, none⟩) 0 0) 0 [] from World.ownsRow.drew (by have h := own_none' (W.alloc (.cells #[.slice none 0 0, .slice none 0 0, .int .i64 0] 41)) W.heap.size 110 4 (by simp); simpa using h))
  have HOb := Lib.hid (show Obx ((W.alloc (.cells #[] 110)).alloc (.cells #[.slice none 0 0, .slice none 0 0, .int .i64 0] 41)) w.heap.size (W.heap.size + 1) 41 3 [.slice none 0 0, .slice none 0 0, .int .i64 0] ∧ Obx ((W.alloc (.cells #[.slice none 0 0, .slice none 0 0, .int .i64 0] 41)).alloc (.cells #[] 110)) w.heap.size W.heap.size 41 3 [.slice none 0 0, .slice none 0 0, .int .i64 0] from ⟨by have h := Obx.new (W.alloc (.cells #[] 110)) w.heap.size 41 3 #[.slice none 0 0, .slice none 0 0, .int .i64 0] (by have := HB.out.2; simp; omega) rfl; simpa using h, (Obx.new W w.heap.size 41 3 #[.slice none 0 0, .slice none 0 0, .int .i64 0] HB.out.2 rfl).alloc _⟩)
  have HAl := Lib.hid (show ((W.alloc (.cells #[] 110)).drew.cell? ⟨q, 1, none⟩ = some (.slice aS m cS) ∧ (W.alloc (.cells #[] 110)).drew.cell? ⟨q, 2, none⟩ = some (.int .i64 op)) ∧ ((((W.alloc (.cells #[] 110)).alloc (.cells #[.slice none 0 0, .slice none 0 0, .int .i64 0] 41)).drew.cell? ⟨q, 1, none⟩ = some (.slice aS m cS) ∧ ((W.alloc (.cells #[] 110)).alloc (.cells #[.slice none 0 0, .slice none 0 0, .int .i64 0] 41)).drew.cell? ⟨q, 2, none⟩ = some (.int .i64 op)) ∧ (((W.alloc (.cells #[.slice none 0 0, .slice none 0 0, .int .i64 0] 41)).alloc (.cells #[] 110)).drew.cell? ⟨q, 1, none⟩ = some (.slice aS m cS) ∧ ((W.alloc (.cells #[.slice none 0 0, .slice none 0 0, .int .i64 0] 41)).alloc (.cells #[] 110)).drew.cell? ⟨q, 2, none⟩ = some (.int .i64 op))) from
    ⟨⟨Lib.cell?_alloc_some _ p1, Lib.cell?_alloc_some _ p2⟩, ⟨Lib.cell?_alloc_some _ (Lib.cell?_alloc_some _ p1), Lib.cell?_alloc_some _ (Lib.cell?_alloc_some _ p2)⟩, ⟨Lib.cell?_alloc_some _ (Lib.cell?_alloc_some _ p1), Lib.cell?_alloc_some _ (Lib.cell?_alloc_some _ p2)⟩⟩)
  clear hp h hq hn hm hsm his s0 s1 s2 hW hWs
  go_enter Tryz.func98, Tryz.ntmps98
  go_upto_region 1 with fail
  rw [HW.out]
  go_cut [3] (fun t3 X => ∃ (q3 : Nat) (a5 : Option Addr) (c5 : Nat), t3 = .pointer (some ⟨q3, 0, none⟩) ∧ Hid (Obx X w.heap.size q3 41 3 [.slice none 0 0, .slice a5 m c5, .int .i64 op]) ∧ Hid (X.ownsRow W.heap.size 110 4 (.slice a5 m c5) m (smC p m)) ∧ Hid (∀ b, (Value.slice a5 m c5).ownBlock = some b → b ≠ q3) ∧ Hid (w.heap.size < q3) ∧ Hid (Bel W.heap.size W X))
  case first =>
    go_region_held3 (fun X => X.cell? ⟨q, 1, none⟩ = some (.slice aS m cS) ∧ X.cell? ⟨q, 2, none⟩ = some (.int .i64 op)) (first | (with_reducible exact hK2) | (with_reducible exact hK3) | go_keep)
      (first
        | (refine step_append_any (W := (W.alloc (.cells #[] 110)).drew) (by rfl) _ _ 39 (by rfl) W.heap.size 110 is (.agg #[.int .i64 0, .int .i64 0, .int .i64 0, .int .i64 0]) 4 32 Tryz.underlying39 HIs.out.1 HIs.out.2.1 HIs.out.2.2.1 HIs.out.2.2.2 rfl (by omega) (.slice (some ⟨W.heap.size, 0, none⟩) 0 0) 0 [] (by rfl) (own_none' W W.heap.size 110 4 (Nat.le_refl _)).drew aS m cS (smC p m) (by rfl) HSl.out (own_news HSm.out).1 (fun ad had j u hj => show World.cell? _ _ = _ from Lib.cell?_alloc_some _ ((own_news HSm.out).2 ad had j u hj)) HS1.out (by unfold maxLen; omega) (by omega) (by simp; try omega) ?_; intro a' c' w5 ho5 hg5 hat5; have hqs := HQs.out; have hK2 : w5.cell? ⟨q, 1, none⟩ = some (.slice aS m cS) ∧ w5.cell? ⟨q, 2, none⟩ = some (.int .i64 op) := ⟨(hg5.cell_far ⟨q, 1, none⟩ (by simp; omega) (fun e => by have h1 : q = W.heap.size := Option.some.inj e; omega)).trans (HAl.out.1.1), (hg5.cell_far ⟨q, 2, none⟩ (by simp; omega) (fun e => by have h1 : q = W.heap.size := Option.some.inj e; omega)).trans (HAl.out.1.2)⟩; have hq5 : q < w5.heap.size := Nat.lt_of_lt_of_le (by simp; omega) hg5.size)
        | (refine step_append_any (W := ((W.alloc (.cells #[] 110)).alloc (.cells #[.slice none 0 0, .slice none 0 0, .int .i64 0] 41)).drew) (by rfl) _ _ 39 (by rfl) W.heap.size 110 is (.agg #[.int .i64 0, .int .i64 0, .int .i64 0, .int .i64 0]) 4 32 Tryz.underlying39 HIs.out.1 HIs.out.2.1 HIs.out.2.2.1 HIs.out.2.2.2 rfl (by omega) (.slice (some ⟨W.heap.size, 0, none⟩) 0 0) 0 [] (by rfl) ((own_none' W W.heap.size 110 4 (Nat.le_refl _)).alloc _).drew aS m cS (smC p m) (by rfl) HSl.out (own_news HSm.out).1 (fun ad had j u hj => show World.cell? _ _ = _ from Lib.cell?_alloc_some _ (Lib.cell?_alloc_some _ ((own_news HSm.out).2 ad had j u hj))) HS1.out (by unfold maxLen; omega) (by omega) (by simp; try omega) ?_; intro a' c' w5 ho5 hg5 hat5; have hqs := HQs.out; have hK2 : w5.cell? ⟨q, 1, none⟩ = some (.slice aS m cS) ∧ w5.cell? ⟨q, 2, none⟩ = some (.int .i64 op) := ⟨(hg5.cell_far ⟨q, 1, none⟩ (by simp; omega) (fun e => by have h1 : q = W.heap.size := Option.some.inj e; omega)).trans (HAl.out.2.1.1), (hg5.cell_far ⟨q, 2, none⟩ (by simp; omega) (fun e => by have h1 : q = W.heap.size := Option.some.inj e; omega)).trans (HAl.out.2.1.2)⟩; have hq5 : q < w5.heap.size := Nat.lt_of_lt_of_le (by simp; omega) hg5.size; have hK3 : (((w5.setCell ⟨W.heap.size + 1, 0, none⟩ (.slice none 0 0)).setCell ⟨W.heap.size + 1, 1, none⟩ (.slice a' m c')).setCell ⟨W.heap.size + 1, 2, none⟩ (.int .i64 op)).cell? ⟨q, 1, none⟩ = some (.slice aS m cS) ∧ (((w5.setCell ⟨W.heap.size + 1, 0, none⟩ (.slice none 0 0)).setCell ⟨W.heap.size + 1, 1, none⟩ (.slice a' m c')).setCell ⟨W.heap.size + 1, 2, none⟩ (.int .i64 op)).cell? ⟨q, 2, none⟩ = some (.int .i64 op) := ⟨(set3_far w5 (W.heap.size + 1) q 1 _ _ _ (by omega)).trans hK2.1, (set3_far w5 (W.heap.size + 1) q 2 _ _ _ (by omega)).trans hK2.2⟩; have HO3 := Lib.hid (show Obx w5 w.heap.size (W.heap.size + 1) 41 3 [.slice none 0 0, .slice none 0 0, .int .i64 0] from Obx.grown (Obx.drew_ HOb.out.1) hg5 (fun e => by have h1 : W.heap.size = W.heap.size + 1 := Option.some.inj e; omega)); have HN3 := Lib.hid (show ∀ b, (Value.slice a' m c').ownBlock = some b → b ≠ W.heap.size + 1 from fun b hb => by (rcases hat5 with h | h <;> (rw [Nat.zero_add] at h; rw [hb] at h; simp [Value.ownBlock] at h; omega))); have u0 := HO3.out.cell 0 (by omega); have u1 := HO3.out.cell 1 (by omega); have u2 := HO3.out.cell 2 (by omega); have v0 := HO3.out.fr 0; have v1 := HO3.out.fr 1; have v2 := HO3.out.fr 2; have z3 := HO3.out.lt.2)
        | (refine step_append_any (W := ((W.alloc (.cells #[.slice none 0 0, .slice none 0 0, .int .i64 0] 41)).alloc (.cells #[] 110)).drew) (by rfl) _ _ 39 (by rfl) W.heap.size 110 is (.agg #[.int .i64 0, .int .i64 0, .int .i64 0, .int .i64 0]) 4 32 Tryz.underlying39 HIs.out.1 HIs.out.2.1 HIs.out.2.2.1 HIs.out.2.2.2 rfl (by omega) (.slice (some ⟨W.heap.size + 1, 0, none⟩) 0 0) 0 [] (by rfl) HOw.out aS m cS (smC p m) (by rfl) HSl.out (own_news HSm.out).1 (fun ad had j u hj => show World.cell? _ _ = _ from Lib.cell?_alloc_some _ (Lib.cell?_alloc_some _ ((own_news HSm.out).2 ad had j u hj))) HS1.out (by unfold maxLen; omega) (by omega) (by simp; try omega) ?_; intro a' c' w5 ho5 hg5 hat5; have hqs := HQs.out; have hK2 : w5.cell? ⟨q, 1, none⟩ = some (.slice aS m cS) ∧ w5.cell? ⟨q, 2, none⟩ = some (.int .i64 op) := ⟨(hg5.cell_far ⟨q, 1, none⟩ (by simp; omega) (fun e => by have h1 : q = W.heap.size + 1 := Option.some.inj e; omega)).trans (HAl.out.2.2.1), (hg5.cell_far ⟨q, 2, none⟩ (by simp; omega) (fun e => by have h1 : q = W.heap.size + 1 := Option.some.inj e; omega)).trans (HAl.out.2.2.2)⟩; have hq5 : q < w5.heap.size := Nat.lt_of_lt_of_le (by simp; omega) hg5.size; have hK3 : (((w5.setCell ⟨W.heap.size, 0, none⟩ (.slice none 0 0)).setCell ⟨W.heap.size, 1, none⟩ (.slice a' m c')).setCell ⟨W.heap.size, 2, none⟩ (.int .i64 op)).cell? ⟨q, 1, none⟩ = some (.slice aS m cS) ∧ (((w5.setCell ⟨W.heap.size, 0, none⟩ (.slice none 0 0)).setCell ⟨W.heap.size, 1, none⟩ (.slice a' m c')).setCell ⟨W.heap.size, 2, none⟩ (.int .i64 op)).cell? ⟨q, 2, none⟩ = some (.int .i64 op) := ⟨(set3_far w5 (W.heap.size) q 1 _ _ _ (by omega)).trans hK2.1, (set3_far w5 (W.heap.size) q 2 _ _ _ (by omega)).trans hK2.2⟩; have HO3 := Lib.hid (show Obx w5 w.heap.size (W.heap.size) 41 3 [.slice none 0 0, .slice none 0 0, .int .i64 0] from Obx.grown (Obx.drew_ HOb.out.2) hg5 (fun e => by have h1 : W.heap.size + 1 = W.heap.size := Option.some.inj e; omega)); have HN3 := Lib.hid (show ∀ b, (Value.slice a' m c').ownBlock = some b → b ≠ W.heap.size from fun b hb => by (rcases hat5 with h | h <;> (rw [Nat.zero_add] at h; rw [hb] at h; simp [Value.ownBlock] at h; omega))); have u0 := HO3.out.cell 0 (by omega); have u1 := HO3.out.cell 1 (by omega); have u2 := HO3.out.cell 2 (by omega); have v0 := HO3.out.fr 0; have v1 := HO3.out.fr 1; have v2 := HO3.out.fr 2; have z3 := HO3.out.lt.2)
        | fail)
    all_goals
      go_wp2_with fail
      go_meet
    · have hO : w5.ownsRow W.heap.size 110 4 (.slice a' m c') m (smC p m) := by simpa using ho5
      have hBl : Bel W.heap.size W w5 := (((Bel.refl W).alloc (.cells #[] 110)).drew).grown hg5 (fun k h => by have h1 : W.heap.size = k := Option.some.inj h; omega)
      exact ⟨w5.heap.size, a', c', rfl, Lib.hid (Obx.new w5 w.heap.size 41 3 #[.slice none 0 0, .slice a' m c', .int .i64 op] (by have := hBl.2; have := HWs.out; omega) rfl), Lib.hid (hO.alloc _), Lib.hid (fun b hb e => by have := (own_block hO hb).2; omega), Lib.hid (by have := hBl.2; have := HWs.out; omega), Lib.hid (hBl.alloc _)⟩
    · have hO : w5.ownsRow W.heap.size 110 4 (.slice a' m c') m (smC p m) := by simpa using ho5
      have hBl : Bel W.heap.size W w5 := ((((Bel.refl W).alloc (.cells #[] 110)).alloc (.cells #[.slice none 0 0, .slice none 0 0, .int .i64 0] 41)).drew).grown hg5 (fun k h => by have h1 : W.heap.size = k := Option.some.inj h; omega)
      exact ⟨W.heap.size + 1, a', c', rfl, Lib.hid (Obx.set3 HO3.out), Lib.hid (own_grown_ne hO (set3_grown _ _ _ _ _) (fun b hb e => HN3.out b hb (Option.some.inj e).symm)), HN3, Lib.hid (by have := HWs.out; omega), Lib.hid (hBl.grown (set3_grown _ _ _ _ _) (fun k h => by have h1 := Option.some.inj h; omega))⟩
    · have hO : w5.ownsRow W.heap.size 110 4 (.slice a' m c') m (smC p m) := by simpa using ho5
      have hBl : Bel W.heap.size W w5 := ((((Bel.refl W).alloc (.cells #[.slice none 0 0, .slice none 0 0, .int .i64 0] 41)).alloc (.cells #[] 110)).drew).grown hg5 (fun k h => by have h1 : W.heap.size + 1 = k := Option.some.inj h; omega)
      exact ⟨W.heap.size, a', c', rfl, Lib.hid (Obx.set3 HO3.out), Lib.hid (own_grown_ne hO (set3_grown _ _ _ _ _) (fun b hb e => HN3.out b hb (Option.some.inj e).symm)), HN3, Lib.hid (by have := HWs.out; omega), Lib.hid (hBl.grown (set3_grown _ _ _ _ _) (fun k h => by have h1 := Option.some.inj h; omega))⟩
  case rest =>
    clear HOw HOb HAl p0 p1 p2
    obtain ⟨q3, a5, c5, rfl, hOut, hSms, hNe, hq3, hBw⟩ := hcut
    have HNe := Lib.hid hNe.out
    have hq3W : W.heap.size ≤ q3 := by have := hq3.out; have := HWs.out; omega
    have HOut0 := Lib.hid (show Obx wc W.heap.size q3 41 3 [.slice none 0 0, .slice a5 m c5, .int .i64 op] from ⟨hOut.out.1, by
      rcases hOut.out.2 with h0 | ⟨g0, cap0, cur0, hv, _, r⟩
      · exact .inl h0
      · refine .inr ⟨g0, cap0, cur0, hv, ?_, r⟩
        have h1 : q3 = g0 := by
          simp only [Value.slice.injEq, Option.some.injEq, Addr.mk.injEq] at hv
          exact hv.1.1
        omega⟩)
    go_wp2_with fail
    go_loopw [4] (fun i wr => ∃ k : Nat, k ≤ n ∧ i = .int .i64 k ∧ ∃ (a : Option Addr) (c : Nat) (g' cE' : Nat → Nat), Hid (OwnMem W wr p k q3 a c a5 m c5 op g' cE')) (fun i _ => n - (intOf i).toNat)
    case atStart => exact ⟨0, Nat.zero_le _, rfl, none, 0, fun _ => 0, fun _ => 0, Lib.hid ⟨HOut0.out, ⟨World.ownsRow_nil _ _ _ _, fun i hi => absurd hi (Nat.not_lt_zero _), fun i hi => absurd hi (Nat.not_lt_zero _), fun i j _ hj => absurd hj (Nat.not_lt_zero _)⟩, hSms.out, fun b hb => by simp [Value.ownBlock] at hb, fun i hi => absurd hi (Nat.not_lt_zero _), HNe.out, hBw.out⟩⟩
    case round =>
      clear hOut hSms hBw HOut0
      obtain ⟨k, hk, rfl, a, c, g', cE', hMm⟩ := hrel
      have hOut := Lib.hid hMm.out.out
      have hPc := Lib.hid hMm.out.pcs
      have hBw := Lib.hid hMm.out.bel
      obtain ⟨p0, p1, p2, p3⟩ := (HQ.out.below HB.out.1).below hBw.out.1
      by_cases hlt : k < n
      · have hlt' : (k : Int) < (n : Int) := by omega
        have hkn : k < p.n := by rw [HN.out]; exact hlt
        have hPs := (HPo.out.below HB.out.1).below hBw.out.1
        obtain ⟨bP, haP⟩ : ∃ b, aP = some ⟨b, 0, none⟩ := by
          rcases own_form hPs.pcs.row with h0 | h0
          · omega
          · exact h0
        subst haP
        have hr := hPs.pcs.row
        rw [HN.out] at hr
        obtain ⟨t0, t1⟩ := pcC_at p g cE n k hlt
        have c0 : wr.cell? ⟨bP, k * 2, none⟩ = some (.string (p.name k)) := (hr.cellAt (k * 2) (by omega)).trans t0
        have c1 : wr.cell? ⟨bP, k * 2 + 1, none⟩ = some (.slice (some ⟨g k, 0, none⟩) (p.len k) (cE k)) := (hr.cellAt (k * 2 + 1) (by omega)).trans t1
        have hed := hPs.pcs.eds k hkn
        have HLo := Lib.hid (l00Own_any (g k) (p.len k) (cE k) ((List.range (p.len k)).map (p.val k)) wr.drew (by simp) (by have := (HOk.out.len k hkn).2; omega) (CellsAt.of_own hed))
        have e0 : wr.cell? ⟨q3, 0, none⟩ = some (.slice a k c) := hOut.out.cell 0 (by omega)
        have hL3 := (HOk.out.len k hkn).1
        have hq3s := hOut.out.lt.2
        have hbPs := (own_block (b := bP) hr rfl).2
        have HC := Lib.hid (show ∀ X, Below wr.heap.size wr X → X.cell? ⟨bP, k * 2, none⟩ = some (.string (p.name k)) ∧ X.cell? ⟨bP, k * 2 + 1, none⟩ = some (.slice (some ⟨g k, 0, none⟩) (p.len k) (cE k)) ∧ X.cell? ⟨q, 0, none⟩ = some (.slice (some ⟨bP, 0, none⟩) n cP) ∧ X.cell? ⟨q3, 0, none⟩ = some (.slice a k c) ∧ q3 < X.heap.size ∧ q < X.heap.size ∧ bP < X.heap.size from fun X hX =>
          ⟨(hX.cell (p := ⟨bP, k * 2, none⟩) hbPs).trans c0, (hX.cell (p := ⟨bP, k * 2 + 1, none⟩) hbPs).trans c1, (hX.cell (p := ⟨q, 0, none⟩) p3).trans p0, (hX.cell (p := ⟨q3, 0, none⟩) hq3s).trans e0, Nat.lt_of_lt_of_le hq3s hX.size, Nat.lt_of_lt_of_le p3 hX.size, Nat.lt_of_lt_of_le hbPs hX.size⟩)
        obtain ⟨nm, hnm⟩ : ∃ s, p.name k = s := ⟨_, rfl⟩
        obtain ⟨L, hL⟩ : ∃ L, p.len k = L := ⟨_, rfl⟩
        obtain ⟨gk, hgk⟩ : ∃ x, g k = x := ⟨_, rfl⟩
        obtain ⟨ck, hck⟩ : ∃ x, cE k = x := ⟨_, rfl⟩
        have HL := Lib.hid (And.intro hnm hL)
        rw [hL, hgk, hck] at c1 HLo
        rw [hnm] at c0
        rw [hnm, hL, hgk, hck] at HC
        rw [hL] at hL3
        have HCall := Lib.hid (HLo.out.mono (R' := fun e w5 => ∃ x capE, e = .returned (.slice (some ⟨x, 0, none⟩) L capE) ∧ w5.cell? ⟨bP, k * 2, none⟩ = some (.string nm) ∧ w5.cell? ⟨q, 0, none⟩ = some (.slice (some ⟨bP, 0, none⟩) n cP) ∧ w5.cell? ⟨q3, 0, none⟩ = some (.slice a k c) ∧ q3 < w5.heap.size ∧ q < w5.heap.size ∧ bP < w5.heap.size ∧ Hid (w5.ownsRow wr.heap.size 2 1 (.slice (some ⟨x, 0, none⟩) L capE) L (edL p k)) ∧ Hid (Below wr.heap.size wr w5) ∧ Hid (w5.ownsRow W.heap.size 107 2 (.slice a k c) k (pcC p g' cE' k)) ∧ Hid (Obx w5 W.heap.size q3 41 3 [.slice a k c, .slice a5 m c5, .int .i64 op] ∧ ∀ b, (Value.slice a k c).ownBlock = some b → b ≠ q3) ∧ W.heap.size ≤ w5.heap.size) (fun e w5 ⟨aE, capE, he, hoE, hbE⟩ => by
          have hbE' : Below wr.heap.size wr w5 := (Below.refl _ _).drew.trans hbE
          obtain ⟨x, rfl⟩ : ∃ x, aE = some ⟨x, 0, none⟩ := by
            rcases own_form hoE with h0 | h0
            · omega
            · exact h0
          obtain ⟨s0, s1, s2, s3, s4, s5, s6⟩ := HC.out w5 hbE'
          exact ⟨x, capE, he, s0, s2, s3, s4, s5, s6, Lib.hid (by unfold edL; rw [HL.out.2]; exact hoE), Lib.hid hbE', Lib.hid (own_below hPc.out.row hbE'), Lib.hid ⟨hOut.out.below hbE', fun b hb => (hMm.out.n1 b hb).1⟩, Nat.le_trans hBw.out.2 hbE'.size⟩))
        have hk1 : k ≤ 1000 := by omega
        clear hPs hr t0 t1 hed hnm hL hgk hck p1 p2 HLo HC hL3 hbPs m8 n2 hq3s
        go_upto_region 5 with fail
        go_region_law (first
          | (go_simp; go_at_call 120; (with_reducible refine HCall.out.mono ?_); rintro e w5 ⟨x, capE, rfl, s0, s2, s3, s4, s5, s6, H1, H2, H3, H4, H5⟩)
          | (refine step_append_piece (by rfl) _ _ (by rfl) W.heap.size k c q3 x L capE nm a (pcC p g' cE' k) _ _ W.heap.size (by rfl) (by rfl) H3 hk1 H5 H4 ?_; intro a' c' w6 H6 y0 y1 y2)
          | fail)
        all_goals
          have HM7 := Lib.hid (hMm.out.more (x := x) (capE := capE) H2.out (by rw [HL.out.2]; exact H1.out) H6.out.2.1 (by rw [HL.out.1, HL.out.2]; exact H6.out.1) H6.out.2.2)
          clear s0 s2 s3 s4 s5 s6 y0 y1 y2 H1 H2 H3 H4 H5 H6
          go_wp2_with fail
          go_roundw
          case rel => exact ⟨k + 1, by omega, by go_num, a', c', _, _, HM7⟩
          case measure => simp [intOf]; omega
      · obtain rfl : k = n := by omega
        have HRw := Lib.hid (HR.out.below hBw.out.1)
        obtain ⟨⟨e0, e1, e2⟩, _, el⟩ := (hOut.out).three0
        obtain ⟨⟨r0, r1, r2⟩, ⟨v0, v1, v2⟩, rl⟩ := HRw.out.three0
        obtain ⟨⟨z0, z1, z2⟩, _, _⟩ := (HRw.out.set3 (a := .slice a k c) (b := .slice a5 m c5) (c := .int .i64 op)).three0
        have n1 : ¬ q3 = w.heap.size := by have := hq3.out; omega
        have n2' : ¬ w.heap.size = q3 := by omega
        go_wp2_with fail
        refine bodyPost_ret (v := .agg #[.slice a k c, .slice a5 m c5, .int .i64 op]) (by simp [results, Tryz.results98, go_sem, z0, z1, z2]) rfl ?_
        have hn := HN.out
        have hm := HM.out
        have hM := hMm.out
        subst hm
        subst hn
        have hPO : PatOwn wr W.heap.size p a c a5 c5 g' cE' := ⟨hM.pcs, hM.sms, fun b b' hb hb' e => (hM.n1 b hb).2 (by rw [e]; exact hb'), fun i hi b hb e => (hM.n2 i hi).2 (by rw [← e]; exact hb)⟩
        have hg := set3_grown wr w.heap.size (.slice a p.n c) (.slice a5 p.m c5) (.int .i64 op)
        have hWw := HWs.out
        exact ⟨a, c, a5, c5, g', cE', rfl, (hPO.grown hg (by omega)).base (by omega), ((HB.out.step hBw.out.1).grown hg (fun k e => by have h1 : w.heap.size = k := Option.some.inj e; omega)).1⟩
end Go.Proofs.YthemlamdchcicaaGreatDoor
