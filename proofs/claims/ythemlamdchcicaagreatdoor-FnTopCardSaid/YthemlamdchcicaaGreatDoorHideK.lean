/-
  The contract of the program's BestPlan. No condition of its own.
-/
import Derived.Test.YthemlamdchcicaaGreatDoorHideJ
namespace Go.Proofs.YthemlamdchcicaaGreatDoor
open Go.ChangeShapes Go.WideShapes Go.ChangeAt Go.RowKit Go.Deep Go.Shelf

theorem infoU : (Tryz.prog.info? 85).map (fun i => (i.zero, i.size, i.bytes)) = some (some (.int .u64 0), 1, 8) := by kernel_rfl
theorem infoLU : (Tryz.prog.info? 84).map (fun i => (i.zero, i.size, i.bytes)) = some (some (.slice none 0 0), 1, 24) := by kernel_rfl
set_option maxHeartbeats 800000 in
theorem appUW {w0 W : World} {ops : Array Oper} {rest : List Oper} {o : Oper} {a : Act} {Q : Exit → Act → World → Prop} (hgd : o.guard = none) (s x : Operand)
    (ho : o.op = .call { callee := .builtin .append, args := #[s, x], argTypes := #[84, 84] }) (B : Nat) (v : Value) (n : Nat) (xs : List Value) (hs : a.eval s = v) (hown : W.ownsRow B 85 1 v n xs)
    (news : List Value) (hl : news.length = 1) (h1 : ∀ u ∈ news, u.oneCell' = true) (c H : Nat) (hnews : ∀ (j : Nat) u, news[j]? = some u → W.cell? ((⟨H, 0, none⟩ : Addr).add j) = some u) (hx : a.eval x = .slice (some ⟨H, 0, none⟩) 1 c) (hn : n ≤ 1099511627776) (hb : Bel B w0 W)
    (h : ∀ g cap w', w'.ownsRow B 85 1 (.slice (some ⟨g, 0, none⟩) (n + 1) cap) (n + 1) (xs ++ news) → Bel B w0 w' → W.grownBy w' v.ownBlock → (v.ownBlock = some g ∨ W.heap.size ≤ g) → wpList Tryz.prog ops Q rest (a.put o.dst (.slice (some ⟨g, 0, none⟩) (n + 1) cap)) w') :
    wpList Tryz.prog ops Q (o :: rest) a W := by
  obtain ⟨i, hi, q0, q1, q2⟩ := info_parts infoU
  refine wpList_append_lies _ hgd s x 84 ho B 85 i (.int .u64 0) 1 8 Tryz.underlying84 hi q0 q1 q2 rfl (by omega) v n xs hs hown ⟨H, 0, none⟩ 1 c news hx (by omega) hnews h1 (by omega) (by unfold maxLen; omega) (by omega) hb.2 _ rfl ?_
  intro g cap w' h3 h4 h5 _
  refine h g cap w' h3 (hb.grown h4 (fun k hk => (own_block hown hk).1)) h4 ?_
  rcases h5 with h5 | h5
  · exact .inl h5
  · exact .inr (by omega)

set_option maxHeartbeats 800000 in
theorem stepU {w0 W : World} {ops : Array Oper} {o : Oper} {a : Act} {K : Act → World → Prop} {Q : Exit → Act → World → Prop} {E : Prop} (hgd : o.guard = none) (s x : Operand)
    (ho : o.op = .call { callee := .builtin .append, args := #[s, x], argTypes := #[84, 84] }) (B : Nat) (v : Value) (n : Nat) (xs : List Value) (hs : a.eval s = v) (hown : W.ownsRow B 85 1 v n xs)
    (news : List Value) (hl : news.length = 1) (h1 : ∀ u ∈ news, u.oneCell' = true) (c H : Nat) (hnews : ∀ (j : Nat) u, news[j]? = some u → W.cell? ((⟨H, 0, none⟩ : Addr).add j) = some u) (hx : a.eval x = .slice (some ⟨H, 0, none⟩) 1 c) (hn : n ≤ 1099511627776) (hb : Bel B w0 W)
    (h : ∀ g cap w', w'.ownsRow B 85 1 (.slice (some ⟨g, 0, none⟩) (n + 1) cap) (n + 1) (xs ++ news) → Bel B w0 w' → W.grownBy w' v.ownBlock → (v.ownBlock = some g ∨ W.heap.size ≤ g) → K (a.put o.dst (.slice (some ⟨g, 0, none⟩) (n + 1) cap)) w') :
    if Region.wanted o (yielded ops a.tmps) = true then Oper.wp Tryz.prog o a W K Q else E := by
  obtain ⟨i, hi, q0, q1, q2⟩ := info_parts infoU
  refine step_append_lies _ hgd s x 84 ho B 85 i (.int .u64 0) 1 8 Tryz.underlying84 hi q0 q1 q2 rfl (by omega) v n xs hs hown ⟨H, 0, none⟩ 1 c news hx (by omega) hnews h1 (by omega) (by unfold maxLen; omega) (by omega) hb.2 _ rfl ?_
  intro g cap w' h3 h4 h5 _
  refine h g cap w' h3 (hb.grown h4 (fun k hk => (own_block hown hk).1)) h4 ?_
  rcases h5 with h5 | h5
  · exact .inl h5
  · exact .inr (by omega)


set_option maxHeartbeats 800000 in
theorem appLUW {w0 W : World} {ops : Array Oper} {rest : List Oper} {o : Oper} {a : Act} {Q : Exit → Act → World → Prop} (hgd : o.guard = none) (s x : Operand)
    (ho : o.op = .call { callee := .builtin .append, args := #[s, x], argTypes := #[80, 80] }) (B : Nat) (v : Value) (n : Nat) (xs : List Value) (hs : a.eval s = v) (hown : W.ownsRow B 84 1 v n xs)
    (news : List Value) (hl : news.length = 1) (h1 : ∀ u ∈ news, u.oneCell' = true) (c H : Nat) (hnews : ∀ (j : Nat) u, news[j]? = some u → W.cell? ((⟨H, 0, none⟩ : Addr).add j) = some u) (hx : a.eval x = .slice (some ⟨H, 0, none⟩) 1 c) (hn : n ≤ 1099511627776) (hb : Bel B w0 W)
    (h : ∀ g cap w', w'.ownsRow B 84 1 (.slice (some ⟨g, 0, none⟩) (n + 1) cap) (n + 1) (xs ++ news) → Bel B w0 w' → W.grownBy w' v.ownBlock → (v.ownBlock = some g ∨ W.heap.size ≤ g) → wpList Tryz.prog ops Q rest (a.put o.dst (.slice (some ⟨g, 0, none⟩) (n + 1) cap)) w') :
    wpList Tryz.prog ops Q (o :: rest) a W := by
  obtain ⟨i, hi, q0, q1, q2⟩ := info_parts infoLU
  refine wpList_append_lies _ hgd s x 80 ho B 84 i (.slice none 0 0) 1 24 Tryz.underlying80 hi q0 q1 q2 rfl (by omega) v n xs hs hown ⟨H, 0, none⟩ 1 c news hx (by omega) hnews h1 (by omega) (by unfold maxLen; omega) (by omega) hb.2 _ rfl ?_
  intro g cap w' h3 h4 h5 _
  refine h g cap w' h3 (hb.grown h4 (fun k hk => (own_block hown hk).1)) h4 ?_
  rcases h5 with h5 | h5
  · exact .inl h5
  · exact .inr (by omega)

set_option maxHeartbeats 800000 in
theorem stepLU {w0 W : World} {ops : Array Oper} {o : Oper} {a : Act} {K : Act → World → Prop} {Q : Exit → Act → World → Prop} {E : Prop} (hgd : o.guard = none) (s x : Operand)
    (ho : o.op = .call { callee := .builtin .append, args := #[s, x], argTypes := #[80, 80] }) (B : Nat) (v : Value) (n : Nat) (xs : List Value) (hs : a.eval s = v) (hown : W.ownsRow B 84 1 v n xs)
    (news : List Value) (hl : news.length = 1) (h1 : ∀ u ∈ news, u.oneCell' = true) (c H : Nat) (hnews : ∀ (j : Nat) u, news[j]? = some u → W.cell? ((⟨H, 0, none⟩ : Addr).add j) = some u) (hx : a.eval x = .slice (some ⟨H, 0, none⟩) 1 c) (hn : n ≤ 1099511627776) (hb : Bel B w0 W)
    (h : ∀ g cap w', w'.ownsRow B 84 1 (.slice (some ⟨g, 0, none⟩) (n + 1) cap) (n + 1) (xs ++ news) → Bel B w0 w' → W.grownBy w' v.ownBlock → (v.ownBlock = some g ∨ W.heap.size ≤ g) → K (a.put o.dst (.slice (some ⟨g, 0, none⟩) (n + 1) cap)) w') :
    if Region.wanted o (yielded ops a.tmps) = true then Oper.wp Tryz.prog o a W K Q else E := by
  obtain ⟨i, hi, q0, q1, q2⟩ := info_parts infoLU
  refine step_append_lies _ hgd s x 80 ho B 84 i (.slice none 0 0) 1 24 Tryz.underlying80 hi q0 q1 q2 rfl (by omega) v n xs hs hown ⟨H, 0, none⟩ 1 c news hx (by omega) hnews h1 (by omega) (by unfold maxLen; omega) (by omega) hb.2 _ rfl ?_
  intro g cap w' h3 h4 h5 _
  refine h g cap w' h3 (hb.grown h4 (fun k hk => (own_block hown hk).1)) h4 ?_
  rcases h5 with h5 | h5
  · exact .inl h5
  · exact .inr (by omega)


theorem new_cells2 {w : World} {cs ds : Array Value} {t t' H : Nat} (hH : w.heap.size = H) : ∀ (j : Nat) (u : Value), cs.toList[j]? = some u → ((w.alloc (.cells cs t)).alloc (.cells ds t')).cell? ((⟨H, 0, none⟩ : Addr).add j) = some u := by
  intro j u hj
  have h := new_cells (w := w) (cs := cs) (t := t) hH rfl j u hj
  rw [addr_add] at h ⊢
  have hlt : H < (w.alloc (.cells cs t)).heap.size := by simp; omega
  exact (((Below.refl _ (w.alloc (.cells cs t))).alloc (Nat.le_refl _) (.cells ds t')).cell (p := ⟨H, 0 + j, none⟩) hlt).trans h
theorem keep_lit {W w6 : World} {row : Option Nat} {F H : Nat} {news : List Value} (hg : W.grownBy w6 row) (hrow : ∀ b, row = some b → b < F) (hF : F ≤ H) (hH : H < W.heap.size) (h : ∀ (j : Nat) (u : Value), news[j]? = some u → W.cell? ((⟨H, 0, none⟩ : Addr).add j) = some u) :
    ∀ (j : Nat) (u : Value), news[j]? = some u → w6.cell? ((⟨H, 0, none⟩ : Addr).add j) = some u := by
  intro j u hj
  have h1 := h j u hj
  rw [addr_add] at h1 ⊢
  exact (grown_cell hg hH (fun e => by have := hrow H e; omega)).trans h1
theorem keep_litF {W w6 : World} {row : Option Nat} {F : Nat} (hg : W.grownBy w6 row) (hrow : ∀ b, row = some b → b < F) (news : List Value) : ∀ (H : Nat), F ≤ H → H < W.heap.size → (∀ (j : Nat) (u : Value), news[j]? = some u → W.cell? ((⟨H, 0, none⟩ : Addr).add j) = some u) →
    ∀ (j : Nat) (u : Value), news[j]? = some u → w6.cell? ((⟨H, 0, none⟩ : Addr).add j) = some u := fun _ h0 h1 h => keep_lit hg hrow h0 h1 h
theorem seL_at {rows : List ByteArray} {n m i f : Nat} {c : Cut} (h : (placesL rows n m c)[i]? = some f) : (seL rows n m c).take (i + 1) = (seL rows n m c).take i ++ [.int .u64 ((maskN m c f : Nat) : Int)] := by
  have e : (seL rows n m c)[i]? = some (.int .u64 ((maskN m c f : Nat) : Int)) := by simp [seL, h]
  rw [List.take_add_one, e]
  rfl
theorem JM.drew {W : World} {B p gp n k k1 k2 lp cp ls cs : Nat} {lv pvS svS pv sv : Value} {plan : List Int} {L1 L2 : Nat → List Value} {ap aq : Option Addr} (h : JM W B p gp lv n plan pvS svS pv sv k k1 k2 L1 L2 ap lp cp aq ls cs) : JM W.drew B p gp lv n plan pvS svS pv sv k k1 k2 L1 L2 ap lp cp aq ls cs := h
theorem JM.stepP {w0 W : World} {B p gp n k k2 lp cp ls cs : Nat} {lv pvS svS pv sv : Value} {plan : List Int} {L1 L2 : Nat → List Value} {ap aq : Option Addr} {ops : Array Oper} {o : Oper} {a : Act} {K : Act → World → Prop} {Q : Exit → Act → World → Prop} {E : Prop} (hgd : o.guard = none) (s x : Operand)
    (ho : o.op = .call { callee := .builtin .append, args := #[s, x], argTypes := #[79, 79] }) (hs : a.eval s = pv) (c H : Nat) (hx : a.eval x = .slice (some ⟨H, 0, none⟩) 1 c) (hk : k ≤ 1099511627776)
    (hJ : JM W B p gp lv n plan pvS svS pv sv k k k2 L1 L2 ap lp cp aq ls cs) (hlit : ∀ (j : Nat) (u : Value), [Value.slice ap lp cp][j]? = some u → W.cell? ((⟨H, 0, none⟩ : Addr).add j) = some u) (hb : Bel B w0 W)
    (h : ∀ g cap w', JM w' B p gp lv n plan pvS svS (.slice (some ⟨g, 0, none⟩) (k + 1) cap) sv k (k + 1) k2 L1 L2 ap lp cp aq ls cs → Bel B w0 w' → W.grownBy w' pv.ownBlock → K (a.put o.dst (.slice (some ⟨g, 0, none⟩) (k + 1) cap)) w') :
    if Region.wanted o (yielded ops a.tmps) = true then Oper.wp Tryz.prog o a W K Q else E := by
  obtain ⟨xs, hown, hcont⟩ := hJ.capP
  exact stepLI hgd s x ho B _ k xs hs hown [Value.slice ap lp cp] (by rfl) (by simp [Value.oneCell']) c H hlit hx hk hb (fun g cap w' ho' hb' hg' hat' => h g cap w' (hcont g cap w' hg' hat' ho') hb' hg')
theorem JM.stepS {w0 W : World} {B p gp n k k1 lp cp ls cs : Nat} {lv pvS svS pv sv : Value} {plan : List Int} {L1 L2 : Nat → List Value} {ap aq : Option Addr} {ops : Array Oper} {o : Oper} {a : Act} {K : Act → World → Prop} {Q : Exit → Act → World → Prop} {E : Prop} (hgd : o.guard = none) (s x : Operand)
    (ho : o.op = .call { callee := .builtin .append, args := #[s, x], argTypes := #[80, 80] }) (hs : a.eval s = sv) (c H : Nat) (hx : a.eval x = .slice (some ⟨H, 0, none⟩) 1 c) (hk : k ≤ 1099511627776)
    (hJ : JM W B p gp lv n plan pvS svS pv sv k k1 k L1 L2 ap lp cp aq ls cs) (hlit : ∀ (j : Nat) (u : Value), [Value.slice aq ls cs][j]? = some u → W.cell? ((⟨H, 0, none⟩ : Addr).add j) = some u) (hb : Bel B w0 W)
    (h : ∀ g cap w', JM w' B p gp lv n plan pvS svS pv (.slice (some ⟨g, 0, none⟩) (k + 1) cap) k k1 (k + 1) L1 L2 ap lp cp aq ls cs → Bel B w0 w' → W.grownBy w' sv.ownBlock → K (a.put o.dst (.slice (some ⟨g, 0, none⟩) (k + 1) cap)) w') :
    if Region.wanted o (yielded ops a.tmps) = true then Oper.wp Tryz.prog o a W K Q else E := by
  obtain ⟨xs, hown, hcont⟩ := hJ.capS
  exact stepLU hgd s x ho B _ k xs hs hown [Value.slice aq ls cs] (by rfl) (by simp [Value.oneCell']) c H hlit hx hk hb (fun g cap w' ho' hb' hg' hat' => h g cap w' (hcont g cap w' hg' hat' ho') hb' hg')
theorem made_row (W : World) (n x B : Nat) (hn : n ≤ 1048576) (hx : x = W.heap.size) (hB : B ≤ W.heap.size) : (W.alloc (.cells (madeCells #[Value.int .i64 0] n) 2)).ownsRow B 2 1 (.slice (some ⟨x, 0, none⟩) n n) n (nints (List.replicate n 0)) := by
  subst hx
  have := World.ownsRow_lit (size := 1) (e := 2) W (madeCells #[Value.int .i64 0] n) n (Nat.le_refl _) (by unfold maxLen; omega) (by rw [size_madeCells]; omega)
  rw [toList_madeCells_one] at this
  rw [nints, List.map_replicate]
  exact own_base this hB
set_option maxRecDepth 100000 in
set_option maxHeartbeats 6400000 in
theorem impl_BestPlan (w : World) (a : Option Addr) (nr ca : Nat) (rows : List ByteArray) (hn : rows.length = nr) (hn2 : nr ≤ 1048576) (hs : ∀ r ∈ rows, r.size ≤ maxLen) (hc : CellsAt w a (strs rows)) (al : Option Addr) (n cl : Nat) (zs : List Int) (hz : zs.length = n * 4) (hn3 : n ≤ 1048576) (hcl : CellsAt w al (zs.map (Value.int .i64))) :
    Calls Tryz.prog 16 #[.slice a nr ca, .slice al n cl] w (PlanEnd w (planL rows zs n) (planW rows zs n) (planC rows zs n)) := by
  have H1 := Lib.hid (validHide_any a rows nr ca w hn hn2 hs hc)
  have H2 := Lib.hid (fun W (hb : Below w.heap.size w W) => validCuts_any al n cl zs W hz hn3 (hcl.below hb))
  cases hh : hideB rows with
  | false =>
    have e : planOk rows zs n = false := by simp [planOk, hh]
    rw [show planL rows zs n = [] by simp [planL, e], show planW rows zs n = 0 by simp [planW, e], show planC rows zs n = 1 by simp [planC, e]]
    rw [hh] at H1
    clear hh e hn hs hc hz hcl
    go_enter Tryz.func16, Tryz.ntmps16
    go_wp2_with (go_at_call 38; (with_reducible refine H1.out.mono ?_); rintro e w1 ⟨rfl, hb1⟩; have HB1 := Lib.hid hb1; clear hb1)
    go_ret3
    exact planEnd_fail HB1.out
  | true =>
    rw [hh] at H1
    cases hk : cutsB zs n with
    | false =>
      have e : planOk rows zs n = false := by simp [planOk, hk]
      rw [show planL rows zs n = [] by simp [planL, e], show planW rows zs n = 0 by simp [planW, e], show planC rows zs n = 1 by simp [planC, e]]
      rw [hk] at H2
      clear hh hk e hn hs hc hz hcl
      go_enter Tryz.func16, Tryz.ntmps16
      go_wp2_with (first | (go_at_call 38; (with_reducible refine H1.out.mono ?_); rintro e w1 ⟨rfl, hb1⟩; have HB1 := Lib.hid hb1; clear hb1) | (go_at_call 39; (with_reducible refine (H2.out _ HB1.out).mono ?_); rintro e w2 ⟨rfl, hb2⟩; have HB2 := Lib.hid (HB1.out.trans (hb2.mono HB1.out.size)); clear hb2))
      go_ret3
      exact planEnd_fail HB2.out
    | true =>
      have hOk := hideB_ok hh
      rw [hn] at hOk
      have e : planOk rows zs n = true := by simp [planOk, hh, hk]
      obtain ⟨m, hm⟩ : ∃ m, (rows.getD 0 ⟨#[]⟩).size = m := ⟨_, rfl⟩
      rw [hm] at hOk
      rw [show planL rows zs n = (best0 rows nr m (cutsL zs n)).1 by simp only [planL, e, if_true, hn, hm], show planW rows zs n = (best0 rows nr m (cutsL zs n)).2 by simp only [planW, e, if_true, hn, hm], show planC rows zs n = 0 by simp [planC, e]]
      have hbl := best0_len rows nr m (cutsL zs n)
      rw [cutsL_len] at hbl
      have hn4 := cutsB_n hk
      rw [hk] at H2
      have HOk := Lib.hid hOk
      have HZ := Lib.hid hz
      have HCu := Lib.hid hk
      have HC := Lib.hid hc
      have HCL := Lib.hid hcl
      have hmk := run_make_row' (P := Tryz.prog) 29 2 (.int .i64 0) 8 Tryz.underlying29 infoI rfl .i64 .i64 n (by omega) (by omega)
      clear hh hk e hn hs hc hz hcl hm hOk
      go_enter Tryz.func16, Tryz.ntmps16
      go_wp2_with fail
      refine H1.out.mono ?_
      rintro e w1 ⟨rfl, hb1⟩
      have HB1 := Lib.hid hb1
      clear hb1
      go_wp2_with fail
      refine (H2.out w1 HB1.out).mono ?_
      rintro e w2 ⟨rfl, hb2⟩
      have HB2 := Lib.hid ((Bel.of HB1.out).step hb2)
      clear hb2
      go_upto_region 4 with fail
      obtain ⟨L1, hL1⟩ : ∃ L1 : Nat → List Value, L1 = fun k => nints (plI rows nr m (cutAt zs k) (nr * m)) := ⟨_, rfl⟩
      obtain ⟨L2, hL2⟩ : ∃ L2 : Nat → List Value, L2 = fun k => seL rows nr m (cutAt zs k) := ⟨_, rfl⟩
      have hW := show BuildI ((w2.alloc (.cells (madeCells #[.int .i64 0] n) 2)).alloc (.cells #[.slice al n cl, .slice none 0 0, .slice none 0 0, .slice (some ⟨w2.heap.size, 0, none⟩) n n, .slice none 0 0, .int .i64 (-1)] 82)) w.heap.size (w2.heap.size + 1) w2.heap.size (.slice al n cl) n (List.replicate n 0) 0 L1 L2 from by
        have hb : w.heap.size ≤ w2.heap.size := HB2.out.2
        have h1 := own_box6 (w2.alloc (.cells (madeCells #[.int .i64 0] n) 2)) w.heap.size 82 (.slice al n cl) (.slice none 0 0) (.slice none 0 0) (.slice (some ⟨w2.heap.size, 0, none⟩) n n) (.slice none 0 0) (.int .i64 (-1)) (by simp; omega)
        rw [show (w2.alloc (.cells (madeCells #[.int .i64 0] n) 2)).heap.size = w2.heap.size + 1 by simp] at h1
        exact ⟨.slice none 0 0, .slice none 0 0, fun _ => none, fun _ => 0, fun _ => False, fun _ => none, fun _ => 0, fun _ => False, h1, (made_row w2 n _ _ (by omega) rfl hb).alloc _, LL.none (E := 0) (by simp; omega), LL.none (E := 0) (by simp; omega), id, id, id, id, by omega, fun _ h => h.elim⟩
      have hB3 := ((HB2.out.alloc (.cells (madeCells #[.int .i64 0] n) 2)).alloc (.cells #[.slice al n cl, .slice none 0 0, .slice none 0 0, .slice (some ⟨w2.heap.size, 0, none⟩) n n, .slice none 0 0, .int .i64 (-1)] 82))
      generalize ((w2.alloc (.cells (madeCells #[.int .i64 0] n) 2)).alloc (.cells #[.slice al n cl, .slice none 0 0, .slice none 0 0, .slice (some ⟨w2.heap.size, 0, none⟩) n n, .slice none 0 0, .int .i64 (-1)] 82)) = w3 at hW hB3 ⊢
      generalize hp : w2.heap.size + 1 = p at hW ⊢
      generalize hgp : w2.heap.size = gp at hW ⊢
      have HW := Lib.hid hW
      have HB3 := Lib.hid hB3
      have Hpg := Lib.hid (show w.heap.size ≤ gp ∧ w.heap.size ≤ p from ⟨by rw [← hgp]; exact HB2.out.2, by have := HB2.out.2; omega⟩)
      have HPl := Lib.hid (fun (c : Cut) (hc : CutOk c) (W : World) (hW : Below w.heap.size w W) => placesOf_any a rows nr m ca c W HOk.out (HC.out.below hW) hc)
      have HFl := Lib.hid (fun (c : Cut) (hc : CutOk c) (f : Nat) (hf : f < nr * m) (W : World) (hW : Below w.heap.size w W) => fieldsOf_any a rows nr m ca c f W HOk.out (HC.out.below hW) hc hf)
      have HL1 := Lib.hid hL1
      have HL2 := Lib.hid hL2
      clear hW hB3 hp hgp HB2 hmk hL1 hL2
      go_wp2_with fail
      go_loopw [31] (fun v W => ∃ k : Nat, k ≤ n ∧ v = .int .i64 (k : Int) ∧ Hid (BuildI W w.heap.size p gp (.slice al n cl) n (List.replicate n 0) k L1 L2) ∧ Hid (Bel w.heap.size w W)) (fun v _ => n - (intOf v).toNat)
      case atStart => exact ⟨0, Nat.zero_le _, rfl, HW, HB3⟩
      case round =>
        obtain ⟨k, hk, rfl, hst, hbw⟩ := hrel
        obtain ⟨wo, rfl⟩ : ∃ wo : World, wo = wr := ⟨_, rfl⟩
        by_cases hlt : k < n
        · have hkn : (k : Int) < (n : Int) := by omega
          obtain ⟨bL, oL, e, hbL, hcL⟩ := HCL.out.at_ (by have := HZ.out; simp; omega)
          subst e
          obtain ⟨_, hck, e0, e1⟩ := cutsB_at HCu.out hlt
          obtain ⟨x0, x1, x2, x3⟩ := cut_cells hbL hbw.out.1 hcL HZ.out hlt e0 e1
          obtain ⟨c, hc⟩ : ∃ c, cutAt zs k = c := ⟨_, rfl⟩
          rw [hc] at x0 x1 x2 x3 hck
          have hbL2 : bL < wo.heap.size := Nat.lt_of_lt_of_le hbL hbw.out.2
          obtain ⟨ps, hps⟩ : ∃ ps, plI rows nr m c (nr * m) = ps := ⟨_, rfl⟩
          obtain ⟨l, hl⟩ : ∃ l, ps.length = l := ⟨_, rfl⟩
          have HP := Lib.hid (fun (W : World) (hW : Below w.heap.size w W) => by have h := HPl.out c hck W hW; rw [hps, hl] at h; exact h)
          have HFd := Lib.hid (fun (f : Nat) (hf : f < nr * m) (W : World) (hW : Below w.heap.size w W) => HFl.out c hck f hf W hW)
          have hnm : nr * m ≤ 36 := Nat.mul_le_mul HOk.out.n6 HOk.out.m6
          have hl36 : l ≤ 36 := by rw [← hl, ← hps]; exact Nat.le_trans (plI_len _ _ _ _ _) hnm
          have hsl : (seL rows nr m c).length = l := by rw [← hl, ← hps, plI_places]; simp [seL]
          have HPs := Lib.hid (fun i (hi : i < l) => show ∃ f : Nat, (placesL rows nr m c)[i]? = some f ∧ ps.getD i 0 = (f : Int) ∧ f < nr * m ∧ fitsB rows nr m c f = true from by rw [← hps]; exact plI_at (by rw [hps, hl]; exact hi))
          have Hk1 := Lib.hid (show L1 k = nints ps by rw [HL1.out]; simp only [hc, hps])
          have Hk2 := Lib.hid (show L2 k = seL rows nr m c by rw [HL2.out]; simp only [hc])
          have Hsl := Lib.hid hsl
          have Hl := Lib.hid (show (nints ps).length = l by simp [hl])
          have Hl0 := Lib.hid hl
          clear hc e0 e1 hcL hps hl hsl
          obtain ⟨wb, hwb⟩ : ∃ wb, wb = wo.alloc (.cells #[.int .i64 (c.w : Int), .int .i64 (c.h : Int), .int .i64 c.q, .int .i64 c.v] 75) := ⟨_, rfl⟩
          have HD0 := Lib.hid (show wb.cell? ⟨wo.heap.size, 0, none⟩ = some (.int .i64 (c.w : Int)) by rw [hwb]; simp)
          have HD1 := Lib.hid (show wb.cell? ⟨wo.heap.size, 1, none⟩ = some (.int .i64 (c.h : Int)) by rw [hwb]; simp)
          have HD2 := Lib.hid (show wb.cell? ⟨wo.heap.size, 2, none⟩ = some (.int .i64 c.q) by rw [hwb]; simp)
          have HD3 := Lib.hid (show wb.cell? ⟨wo.heap.size, 3, none⟩ = some (.int .i64 c.v) by rw [hwb]; simp)
          have HDs := Lib.hid (show wo.heap.size < wb.heap.size by rw [hwb]; simp)
          have HDw := Lib.hid (show Bel wo.heap.size wo wb by rw [hwb]; exact (Bel.refl _).alloc _)
          have HDb := Lib.hid (show Bel w.heap.size w wb by rw [hwb]; exact hbw.out.alloc _)
          have HWb := Lib.hid hwb
          clear hwb
          go_wp2_with fail
          rw [← HWb.out]
          refine (HP.out wb HDb.out.1).mono ?_
          rintro e w5 ⟨aP, cP, rfl, ho5, hb5⟩
          have HO5 := Lib.hid ho5
          have HB5 := Lib.hid hb5
          have HC5 := Lib.hid (CellsAt.of_own ho5)
          have HE5 := Lib.hid (HDb.out.step hb5)
          have Hs5 := Lib.hid (Nat.lt_of_lt_of_le HDs.out hb5.size)
          clear ho5 hb5 x0 x1 x2 x3
          go_wp2_with fail
          go_loopw [11, 41] (fun v u W => ∃ i : Nat, i ≤ l ∧ u = .int .i64 (i : Int) ∧ Hid (W.ownsRow w5.heap.size 85 1 v i ((seL rows nr m c).take i)) ∧ Hid (Bel w5.heap.size w5 W)) (fun _ u _ => l - (intOf u).toNat)
          case atStart => exact ⟨0, Nat.zero_le _, rfl, Lib.hid (own_none' w5 _ _ _ (Nat.le_refl _)), Lib.hid ((Bel.refl w5).alloc _)⟩
          case round =>
            obtain ⟨i, hi, rfl, hown, hbq⟩ := hrel
            obtain ⟨ao, co, rfl⟩ := own_cap hown.out
            have hb7 := HB5.out.trans (hbq.out.1.mono HB5.out.size)
            by_cases hil : i < l
            · have hin : (i : Int) < (l : Int) := by omega
              obtain ⟨f, hf1, hf2, hf3, hf4⟩ := HPs.out i hil
              obtain ⟨bI, oI, e, hbI, hcI⟩ := HC5.out.at_ (by have := Hl.out; omega)
              subst e
              have hcF := int_cell hbI hbq.out.1 hcI (by rw [Hl0.out]; exact hil) hf2
              have hbI2 : bI < wr.heap.size := Nat.lt_of_lt_of_le hbI hbq.out.2
              have k0 := (hb7.cell (p := ⟨wo.heap.size, 0, none⟩) HDs.out).trans HD0.out
              have k1 := (hb7.cell (p := ⟨wo.heap.size, 1, none⟩) HDs.out).trans HD1.out
              have k2 := (hb7.cell (p := ⟨wo.heap.size, 2, none⟩) HDs.out).trans HD2.out
              have k3 := (hb7.cell (p := ⟨wo.heap.size, 3, none⟩) HDs.out).trans HD3.out
              have hwl : wo.heap.size < wr.heap.size := Nat.lt_of_lt_of_le HDs.out hb7.size
              have HX := Lib.hid (HE5.out.1.trans (hbq.out.1.mono HE5.out.2))
              have hfd := HFd.out f hf3 wr HX.out
              simp only [fldT, hf4, if_true] at hfd
              have HFd2 := Lib.hid hfd
              obtain ⟨M, hM⟩ : ∃ M, maskN m c f = M := ⟨_, rfl⟩
              rw [hM] at HFd2
              have hseq := seL_at hf1
              rw [hM] at hseq
              have HSe := Lib.hid hseq
              clear hf1 hf2 hf4 hcI hfd hseq hM hb7
              go_wp2_with fail
              refine HFd2.out.mono ?_
              rintro e w7 ⟨rfl, hb8⟩
              have HO7 := Lib.hid (own_below hown.out hb8)
              have HB7 := Lib.hid (hbq.out.step hb8)
              clear hb8
              go_wp2_with (at_builtin; refine appUW (by rfl) _ _ (by rfl) w5.heap.size _ _ _ (by rfl) (HO7.out.alloc _) [.int .u64 (M : Int)] (by rfl) (by simp [Value.oneCell']) 1 w7.heap.size (new_cells (w := w7) (cs := #[.int .u64 (M : Int)]) (t := 85) rfl rfl) (by rfl) (by omega) (HB7.out.alloc _) ?_; intro g8 cap8 w8 ho8 hb8 hg8 hat8; have HO8 := Lib.hid ho8; have HB8 := Lib.hid hb8; clear ho8 hb8 hg8 hat8)
              go_roundw
              case rel => exact ⟨i + 1, by omega, by go_num, Lib.hid (by rw [HSe.out]; exact HO8.out), HB8⟩
              case measure => simp [intOf]; omega
            · obtain rfl : i = l := by omega
              have hsi : (seL rows nr m c).take i = seL rows nr m c := List.take_of_length_le (by rw [Hsl.out]; exact Nat.le_refl _)
              rw [hsi] at hown
              have hbf : Below wo.heap.size wo wr := HDw.out.1.trans (hb7.mono HDw.out.2)
              have hpP := own_below HO5.out hbq.out.1
              have hneP : ∀ b, (Value.slice aP i cP).ownBlock = some b → (Value.slice ao i co).ownBlock ≠ some b := fun b e1 e2 => by
                have h1 := (own_block HO5.out e1).2
                have h2 := (own_block hown.out e2).1
                omega
              obtain ⟨pv, sv, hJ⟩ := hst.out.toJM (W' := wr) (own_base (by rw [Hk1.out]; exact hpP) (Nat.le_of_lt HDs.out)) (own_base (by rw [Hk2.out]; exact hown.out) (Nat.le_of_lt Hs5.out)) (by rw [Hk1.out, Hl.out]) (by rw [Hk2.out, Hsl.out]) hneP hbf hbw.out.2
              have HJ := Lib.hid hJ
              have HBf := Lib.hid (hbw.out.step hbf)
              have hpvb : ∀ b, pv.ownBlock = some b → b < wr.heap.size := fun b e => by
                obtain ⟨_, _, _, _, _, _, _, _, h3, _⟩ := hJ
                exact (own_block h3.1 e).2
              have hsvb : ∀ b, sv.ownBlock = some b → b < wr.heap.size := fun b e => by
                obtain ⟨_, _, _, _, _, _, _, _, _, h4, _⟩ := hJ
                exact (own_block h4.1 e).2
              have hJd : JM wr w.heap.size p gp (.slice (some ⟨bL, oL, none⟩) n cl) n (List.replicate n 0) pv sv pv sv k k k L1 L2 aP i cP ao i co := hJ
              have hBd : Bel w.heap.size w wr := hbw.out.step hbf
              obtain ⟨j1, j2, j3, j4, j5⟩ := hJ.head_
              clear hJ hneP hpP hbf hsi hb7 hown hbq HJ HBf
              go_upto_region 14 with fail
              have hJ := hJd
              have hB := hBd
              go_region_law (first | (refine JM.stepP (k := k) (by rfl) _ _ (by rfl) (by rfl) _ _ (by rfl) (by omega) (by first | exact (hJ.alloc _).drew | exact ((hJ.alloc _).alloc _).drew | exact hJ.alloc _ | exact (hJ.alloc _).alloc _ | exact hJ | exact hJ.drew | fail) (by first | exact new_cells (by simp) rfl | exact new_cells2 (by simp) | exact hlP _ (by simp <;> omega) (by simp <;> omega) (by first | exact new_cells (by simp) rfl | exact new_cells2 (by simp) | fail) | fail) (by first | exact (hB.alloc _).drew | exact ((hB.alloc _).alloc _).drew | exact hB.alloc _ | exact (hB.alloc _).alloc _ | exact hB | exact hB.drew | fail) ?_; intro gP capP wP hJ hB hgP; obtain ⟨j1, j2, j3, j4, j5⟩ := hJ.head_; have hlS := keep_litF hgP hpvb [.slice ao i co]) | (refine JM.stepS (k := k) (by rfl) _ _ (by rfl) (by rfl) _ _ (by rfl) (by omega) (by first | exact (hJ.alloc _).drew | exact ((hJ.alloc _).alloc _).drew | exact hJ.alloc _ | exact (hJ.alloc _).alloc _ | exact hJ | exact hJ.drew | fail) (by first | exact new_cells (by simp) rfl | exact new_cells2 (by simp) | exact hlS _ (by simp <;> omega) (by simp <;> omega) (by first | exact new_cells (by simp) rfl | exact new_cells2 (by simp) | fail) | fail) (by first | exact (hB.alloc _).drew | exact ((hB.alloc _).alloc _).drew | exact hB.alloc _ | exact (hB.alloc _).alloc _ | exact hB | exact hB.drew | fail) ?_; intro gS capS wS hJ hB hgS; obtain ⟨j1, j2, j3, j4, j5⟩ := hJ.head_; have hlP := keep_litF hgS hsvb [.slice aP i cP]) | fail)
              all_goals
                have hd := hJ.done
                have HM9 := Lib.hid hd.1
                have HB9 := Lib.hid (hB.grown hd.2 (fun j h => by cases h; exact Hpg.out.2))
                clear hd hJ hB j1 j2 j3 j4 j5
                go_wp2_with fail
                go_roundw
                case rel => exact ⟨k + 1, by omega, by go_num, HM9, HB9⟩
                case measure => simp [intOf]; omega
        · obtain rfl : k = n := by omega
          obtain ⟨pv, sv, PA, PC, U1, SA, SC, U2, q1, q2, q3, q4, s1, s2, s3, s4, s5, s6⟩ := hst.out
          obtain ⟨ao, co, rfl⟩ := q3.form
          obtain ⟨eo, fo, rfl⟩ := q4.form
          have hold : ∀ b, b < w.heap.size → ¬ In2 p gp b := fun b hb h => by have := Hpg.out; rcases h with h | h <;> omega
          have hn1 : ∀ b, U1 b → ¬ In2 p gp b := fun b hu h => by rcases h with h | h; exact s1 (h ▸ hu); exact s2 (h ▸ hu)
          have hn2 : ∀ b, U2 b → ¬ In2 p gp b := fun b hu h => by rcases h with h | h; exact s3 (h ▸ hu); exact s4 (h ▸ hu)
          rw [HL1.out] at q3
          rw [HL2.out] at q4
          have hfix : FixAt wo (In2 p gp) none al ao [] zs k (fun k => nints (plI rows nr m (cutAt zs k) (nr * m))) PA PC :=
            ⟨.inl rfl, CellsOff.old HCL.out hbw.out.1 hold, CellsOff.own q3.1 (fun b e => hn1 b (q3.2.1 b e)), fun j hj => CellsOff.own (q3.2.2.2 j hj).1 (fun b e => hn1 b ((q3.2.2.2 j hj).2 b e).1)⟩
          have hfix2 : FixAt wo (In2 p gp) none al eo [] zs k (fun k => seL rows nr m (cutAt zs k)) SA SC :=
            ⟨.inl rfl, CellsOff.old HCL.out hbw.out.1 hold, CellsOff.own q4.1 (fun b e => hn2 b (q4.2.1 b e)), fun j hj => CellsOff.own (q4.2.2.2 j hj).1 (fun b e => hn2 b ((q4.2.2.2 j hj).2 b e).1)⟩
          have hX : PlanI wo w.heap.size p gp (.slice al k cl) (.slice ao k co) (.slice eo k fo) k k (List.replicate k 0) [] (-1) := ⟨.slice none 0 0, 0, q1, q2, ⟨rfl, .inl ⟨rfl, rfl⟩⟩, by simp [Value.ownBlock], by simp [Value.ownBlock], s5⟩
          have hw := planFrom_any w wo p gp nr m k cl co fo k al ao eo rows zs PA SA PC SC HOk.out HZ.out HCu.out hfix hfix2 k 0 0 0 0 (List.replicate k 0) [] (-1) wo rfl rfl (by omega) (by simp) (fun d hd => by cases hd) (by omega) (by omega) hbw.out (Kept.refl _ _) hX
          rw [List.drop_zero, show bestTo rows nr m (cutsL zs k) (doneL zs (List.replicate k 0) 0) 0 ([], -1) = best0 rows nr m (cutsL zs k) from rfl] at hw
          obtain ⟨⟨bl, bw⟩, hbr⟩ : ∃ r, best0 rows nr m (cutsL zs k) = r := ⟨_, rfl⟩
          rw [hbr] at hw hbl
          have HBr := Lib.hid hbr
          have HW2 := Lib.hid hw
          have HBl := Lib.hid hbl
          clear hw hX hfix hfix2 hold hn1 hn2 q1 q2 q3 q4 s1 s2 s3 s4 s5 s6 hbr hbl
          go_wp2_with fail
          refine HW2.out.mono ?_
          rintro e w4 ⟨rfl, hb4, _, plan4, _, _, hm4⟩
          obtain ⟨bv, nb, k1, k2, k3, _⟩ := hm4
          obtain ⟨ab, cb, rfl⟩ := own_cap k3
          have c4 : w4.cell? ⟨p, 4, none⟩ = some (.slice ab nb cb) := by rw [k1.cellAt 4 (by omega)]; rfl
          have c5 : w4.cell? ⟨p, 5, none⟩ = some (.int .i64 bw) := by rw [k1.cellAt 5 (by omega)]; rfl
          have hnb : bl.length = nb := by have := k3.1; simpa using this
          have HE := Lib.hid (fun q => show PlanEnd w bl bw 0 (.returned (.tuple #[.slice ab nb cb, .int .i64 bw, .int .i64 0])) (w4.drewN q) from ⟨ab, nb, cb, rfl, hnb, by have h2 := HBl.out; have h3 : bl.length = k := h2; omega, k3, below_drewN hb4.1 _⟩)
          clear k1 k2 k3 hb4 hnb
          go_wp2_with fail
          go_big_quiet (fail)
          go_wp2_with fail
          go_ret3
          rw [HBr.out]
          exact HE.out _
end Go.Proofs.YthemlamdchcicaaGreatDoor
