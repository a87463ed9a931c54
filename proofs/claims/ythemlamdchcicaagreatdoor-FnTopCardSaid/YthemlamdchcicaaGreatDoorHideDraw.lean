/-
  Contracts of the draws of a hide and of pieces. No condition of its own.
-/
import Derived.Test.YthemlamdchcicaaGreatDoorGLast
import Derived.Test.YthemlamdchcicaaGreatDoorGHideS
import Derived.Outline
import Derived.WalkLawsBesides
import Derived.WalkSpells
namespace Go.Proofs.YthemlamdchcicaaGreatDoor
open Go.ChangeShapes Go.WideShapes Go.ChangeAt Go.RowKit Go.Deep Go.Sort

theorem infoCut : (Tryz.prog.info? 75).map (fun i => (i.zero, i.size, i.bytes)) = some (some (.agg #[.int .i64 0, .int .i64 0, .int .i64 0, .int .i64 0]), 4, 32) := by kernel_rfl
theorem infoStr : (Tryz.prog.info? 9).map (fun i => (i.zero, i.size, i.bytes)) = some (some (.string ByteArray.empty), 1, 16) := by kernel_rfl
set_option maxHeartbeats 800000 in
theorem appCut {w0 W : World} {ops : Array Oper} {rest : List Oper} {o : Oper} {a : Act} {Q : Exit → Act → World → Prop} (hgd : o.guard = none) (s x : Operand)
    (ho : o.op = .call { callee := .builtin .append, args := #[s, x], argTypes := #[49, 49] }) (B : Nat) (v : Value) (n : Nat) (xs : List Value) (hs : a.eval s = v) (hown : W.ownsRow B 75 4 v n xs)
    (x0 x1 x2 x3 : Int) (c H : Nat) (hH : W.heap.size = H) (hx : a.eval x = .slice (some ⟨H, 0, none⟩) 1 c) (hn : n ≤ 1099511627776) (hb : Bel B w0 W)
    (h : ∀ g cap w', w'.ownsRow B 75 4 (.slice (some ⟨g, 0, none⟩) (n + 1) cap) (n + 1) (xs ++ [.int .i64 x0, .int .i64 x1, .int .i64 x2, .int .i64 x3]) → Bel B w0 w' → W.grownBy w' v.ownBlock → (v.ownBlock = some g ∨ W.heap.size ≤ g) → wpList Tryz.prog ops Q rest (a.put o.dst (.slice (some ⟨g, 0, none⟩) (n + 1) cap)) w') :
    wpList Tryz.prog ops Q (o :: rest) a (W.alloc (.cells #[.int .i64 x0, .int .i64 x1, .int .i64 x2, .int .i64 x3] 75)) := by
  subst hH
  obtain ⟨i, hi, h0, h1, h2⟩ := info_parts infoCut
  refine wpList_append_lies _ hgd s x 49 ho B 75 i (.agg #[.int .i64 0, .int .i64 0, .int .i64 0, .int .i64 0]) 4 32 Tryz.underlying49 hi h0 h1 h2 rfl (by omega) v n xs hs (hown.alloc _) ⟨W.heap.size, 0, none⟩ 1 c [.int .i64 x0, .int .i64 x1, .int .i64 x2, .int .i64 x3] hx rfl ?_ ?_ (by omega) (by unfold maxLen; omega) (by omega) (by have := hb.2; simp; omega) _ rfl ?_
  · intro j u hj
    match j, hj with
    | 0, hj => simp at hj; subst hj; simp [Addr.add]
    | 1, hj => simp at hj; subst hj; simp [Addr.add]
    | 2, hj => simp at hj; subst hj; simp [Addr.add]
    | 3, hj => simp at hj; subst hj; simp [Addr.add]
  · intro u hu
    simp only [List.mem_cons, List.not_mem_nil, or_false] at hu
    rcases hu with rfl | rfl | rfl | rfl <;> rfl
  · intro g cap w' h3 h4 h5 _
    refine h g cap w' h3 ((hb.alloc _).grown h4 (fun k hk => (own_block hown hk).1)) ?_ ?_
    · exact ⟨h4.os, h4.tape, h4.output, Nat.le_trans (by simp) h4.size, fun i hi hne => (h4.block i (by simp; omega) hne).trans ((World.grownBy_alloc W _ none).block i hi (by simp))⟩
    · rcases h5 with h5 | h5
      · exact .inl h5
      · exact .inr (by rw [h5]; simp)


theorem grow_far {W : World} {g g5 n c p : Nat} (hat : (Value.slice (some ⟨g, 0, none⟩) n c).ownBlock = some g5 ∨ W.heap.size ≤ g5) (h1 : p < g) (h3 : p < W.heap.size) : p < g5 := by
  rcases hat with h | h
  · have : g = g5 := by simpa [Value.ownBlock] using h
    omega
  · omega
theorem cutsB_nil : cutsB [] 0 = true := rfl
theorem cutsB_app {zs : List Int} {n : Nat} {x y q v : Int} (hl : zs.length = n * 4) (h : cutsB zs n = true) (hc : cutB x y q v = true) (hn : n + 1 ≤ 4) : cutsB (zs ++ [x, y, q, v]) (n + 1) = true := by
  simp only [cutsB, Bool.and_eq_true, decide_eq_true_eq, List.all_eq_true, List.mem_range] at h ⊢
  refine ⟨hn, fun k hk => ?_⟩
  by_cases e : k = n
  · subst e
    have a0 : (zs ++ [x, y, q, v]).getD (k * 4) 0 = x := by simp [List.getD, hl]
    have a1 : (zs ++ [x, y, q, v]).getD (k * 4 + 1) 0 = y := by simp [List.getD, hl]
    have a2 : (zs ++ [x, y, q, v]).getD (k * 4 + 2) 0 = q := by simp [List.getD, hl]
    have a3 : (zs ++ [x, y, q, v]).getD (k * 4 + 3) 0 = v := by simp [List.getD, hl]
    rw [a0, a1, a2, a3]
    exact hc
  · have hkn : k < n := by omega
    have g : ∀ i, i < n * 4 → (zs ++ [x, y, q, v]).getD i 0 = zs.getD i 0 := fun i hi => by simp [List.getD, List.getElem?_append_left (show i < zs.length by omega)]
    rw [g _ (by omega), g _ (by omega), g _ (by omega), g _ (by omega)]
    exact h.2 k hkn
/-- Drawn pieces are valid. -/
def CutsEnd (w0 : World) (e : Ending) (w' : World) : Prop :=
  ∃ (g n c : Nat) (zs : List Int), e = .returned (.slice (some ⟨g, 0, none⟩) n c) ∧ zs.length = n * 4 ∧ cutsB zs n = true ∧ CellsAt w' (some ⟨g, 0, none⟩) (zs.map (Value.int .i64)) ∧ Bel w0.heap.size w0 w'
set_option maxRecDepth 100000 in
set_option maxHeartbeats 3200000 in
theorem a2Cuts_any (w : World) (nc cc : Nat) (ac : Option Addr) (hc : CodeAt w ac nc) : Calls Tryz.prog 15 #[.slice ac nc cc] w (CutsEnd w) := by
  have HC := Lib.hid hc
  clear hc
  go_enter Tryz.func15, Tryz.ntmps15
  go_wp2_with fail
  refine (l00From_any w w.heap.size ac nc cc (Nat.le_refl _)).mono ?_
  rintro e w1 ⟨rfl, hs1, hb1⟩
  obtain ⟨p, hpe⟩ : ∃ p, w.heap.size = p := ⟨_, rfl⟩
  have hp0 : w.heap.size ≤ p := by omega
  have hp1 : p < w1.heap.size := by have := hs1.base.2; omega
  have HS1 := Lib.hid (show SrcAt (w1.alloc (.cells #[] 75)) w.heap.size p ac nc cc 0 by rw [← hpe]; exact hs1.alloc _)
  have HB1 := Lib.hid ((Bel.of hb1).alloc (.cells #[] 75))
  have HO1 := Lib.hid (own_none' w1 w.heap.size 75 4 (Bel.of hb1).2)
  clear hs1 hb1
  go_wp2_with fail
  refine (pick_any w _ p nc cc 0 ac 4 HC.out HB1.out HS1.out (by omega) (by omega)).mono ?_
  rintro e w2 ⟨r, rfl, r0, r1, hs2, hg2⟩
  have HS2 := Lib.hid hs2
  have HB2 := Lib.hid (HB1.out.grown hg2 (fun k h => by cases h; exact hp0))
  have HO2 := Lib.hid (own_drawn HO1.out hg2 (fun e => by have h1 : w1.heap.size = p := (by simpa [Value.ownBlock] using e); omega))
  clear hs2 hg2 HS1 HB1 HO1
  go_wp2_with fail
  go_loopw [4, 5] (fun v u wr => ∃ (j : Nat) (k : Int), u = .int .i64 k ∧ 0 ≤ k ∧ (j : Int) + k ≤ 4 ∧ ∃ (g co : Nat) (zs : List Int), v = .slice (some ⟨g, 0, none⟩) j co ∧ p < g ∧ Hid (zs.length = j * 4 ∧ cutsB zs j = true) ∧ Hid (SrcAt wr w.heap.size p ac nc cc (2 + 8 * j)) ∧ Hid (wr.ownsRow w.heap.size 75 4 (.slice (some ⟨g, 0, none⟩) j co) j (zs.map (Value.int .i64))) ∧ Hid (Bel w.heap.size w wr)) (fun _ u _ => (intOf u).toNat)
  case atStart => exact ⟨0, 1 + r, rfl, by omega, by omega, w1.heap.size, 0, [], rfl, hp1, Lib.hid ⟨rfl, cutsB_nil⟩, HS2, HO2, HB2⟩
  case round =>
    clear HS2 HO2 HB2
    obtain ⟨j, k, rfl, hk0, hjk, g, co, zs, rfl, hpg, hzs, hsrc, hown, hbw⟩ := hrel
    by_cases hlt : 0 < k
    · go_wp2_with fail
      refine (l10New_any w wr p nc cc (2 + 8 * j) ac HC.out hbw.out hsrc.out (by omega)).mono ?_
      rintro e w3 ⟨x, y, q, v, rfl, hcb, hs3, hg3⟩
      have hps := hs3.base.2
      have HS3 := Lib.hid hs3
      have HB3 := Lib.hid (hbw.out.grown hg3 (fun k h => by cases h; exact hp0))
      have HO3 := Lib.hid (own_drawn hown.out hg3 (fun e => by have h1 : g = p := (by simpa [Value.ownBlock] using e); omega))
      have HCB := Lib.hid hcb
      clear hs3 hg3 hcb
      go_wp2_with (at_builtin; refine appCut (by rfl) _ _ (by rfl) w.heap.size _ _ _ (by rfl) HO3.out _ _ _ _ 1 w3.heap.size (by simp) (by rfl) (by omega) HB3.out ?_; intro g5 cap5 w5 ho5 hb5 hg5 hat5; have Ho5 := Lib.hid ho5; have Hb5 := Lib.hid hb5; have Hs5 := Lib.hid (HS3.out.grown hg5 (fun e => by have h1 : g = p := (by simpa [Value.ownBlock] using e); omega)); have Hg5 := Lib.hid (grow_far hat5 hpg hps); clear ho5 hb5 hg5 hat5)
      have hg5' := Hg5.out
      go_roundw
      case rel => exact ⟨j + 1, k - 1, rfl, by omega, by omega, g5, cap5, zs ++ [x, y, q, v], rfl, hg5', Lib.hid ⟨by simp [hzs.out.1]; omega, cutsB_app hzs.out.1 hzs.out.2 HCB.out (by omega)⟩, Lib.hid (Hs5.out.more (by omega)), Lib.hid (by rw [List.map_append]; exact Ho5.out), Hb5⟩
      case measure => simp [intOf]; omega
    · go_wp2_with fail
      go_ret
      exact ⟨g, j, co, zs, rfl, hzs.out.1, hzs.out.2, CellsAt.of_own hown.out, hbw.out⟩
theorem infoU8 : (Tryz.prog.info? 5).map (fun i => (i.zero, i.size, i.bytes)) = some (some (.int .u8 0), 1, 1) := by kernel_rfl
def u8s (l : List UInt8) : List Value := l.map fun b => .int .u8 (b.toNat : Int)
set_option maxHeartbeats 800000 in
theorem appU8 {w0 W : World} {ops : Array Oper} {rest : List Oper} {o : Oper} {a : Act} {Q : Exit → Act → World → Prop} (hgd : o.guard = none) (s x : Operand)
    (ho : o.op = .call { callee := .builtin .append, args := #[s, x], argTypes := #[22, 22] }) (B : Nat) (v : Value) (n : Nat) (xs : List UInt8) (hs : a.eval s = v) (hown : W.ownsRow B 5 1 v n (u8s xs))
    (z : UInt8) (zi : Int) (hz : zi = (z.toNat : Int)) (c H : Nat) (hH : W.heap.size = H) (hx : a.eval x = .slice (some ⟨H, 0, none⟩) 1 c) (hn : n ≤ 1099511627776) (hb : Bel B w0 W)
    (h : ∀ g cap w', w'.ownsRow B 5 1 (.slice (some ⟨g, 0, none⟩) (n + 1) cap) (n + 1) (u8s (xs ++ [z])) → Bel B w0 w' → W.grownBy w' v.ownBlock → (v.ownBlock = some g ∨ W.heap.size ≤ g) → wpList Tryz.prog ops Q rest (a.put o.dst (.slice (some ⟨g, 0, none⟩) (n + 1) cap)) w') :
    wpList Tryz.prog ops Q (o :: rest) a (W.alloc (.cells #[.int .u8 zi] 5)) := by
  subst hH hz
  obtain ⟨i, hi, h0, h1, h2⟩ := info_parts infoU8
  refine wpList_append_lies _ hgd s x 22 ho B 5 i (.int .u8 0) 1 1 Tryz.underlying22 hi h0 h1 h2 rfl (by omega) v n (u8s xs) hs (hown.alloc _) ⟨W.heap.size, 0, none⟩ 1 c [.int .u8 (z.toNat : Int)] hx rfl ?_ ?_ (by omega) (by unfold maxLen; omega) (by omega) (by have := hb.2; simp; omega) _ rfl ?_
  · intro j u hj
    match j, hj with
    | 0, hj => simp at hj; subst hj; simp [Addr.add]
  · intro u hu
    simp at hu
    subst hu
    rfl
  · intro g cap w' h3 h4 h5 _
    refine h g cap w' (by simpa [u8s] using h3) ((hb.alloc _).grown h4 (fun k hk => (own_block hown hk).1)) ?_ ?_
    · exact ⟨h4.os, h4.tape, h4.output, Nat.le_trans (by simp) h4.size, fun i hi hne => (h4.block i (by simp; omega) hne).trans ((World.grownBy_alloc W _ none).block i hi (by simp))⟩
    · rcases h5 with h5 | h5
      · exact .inl h5
      · exact .inr (by rw [h5]; simp)
set_option maxHeartbeats 800000 in
theorem appStr {w0 W : World} {ops : Array Oper} {rest : List Oper} {o : Oper} {a : Act} {Q : Exit → Act → World → Prop} (hgd : o.guard = none) (s x : Operand)
    (ho : o.op = .call { callee := .builtin .append, args := #[s, x], argTypes := #[47, 47] }) (B : Nat) (v : Value) (n : Nat) (xs : List ByteArray) (hs : a.eval s = v) (hown : W.ownsRow B 9 1 v n (strs xs))
    (z : ByteArray) (c H : Nat) (hH : W.heap.size = H) (hx : a.eval x = .slice (some ⟨H, 0, none⟩) 1 c) (hn : n ≤ 1099511627776) (hb : Bel B w0 W)
    (h : ∀ g cap w', w'.ownsRow B 9 1 (.slice (some ⟨g, 0, none⟩) (n + 1) cap) (n + 1) (strs (xs ++ [z])) → Bel B w0 w' → W.grownBy w' v.ownBlock → (v.ownBlock = some g ∨ W.heap.size ≤ g) → wpList Tryz.prog ops Q rest (a.put o.dst (.slice (some ⟨g, 0, none⟩) (n + 1) cap)) w') :
    wpList Tryz.prog ops Q (o :: rest) a (W.alloc (.cells #[.string z] 9)) := by
  subst hH
  obtain ⟨i, hi, h0, h1, h2⟩ := info_parts infoStr
  refine wpList_append_lies _ hgd s x 47 ho B 9 i (.string ByteArray.empty) 1 16 Tryz.underlying47 hi h0 h1 h2 rfl (by omega) v n (strs xs) hs (hown.alloc _) ⟨W.heap.size, 0, none⟩ 1 c [.string z] hx rfl ?_ ?_ (by omega) (by unfold maxLen; omega) (by omega) (by have := hb.2; simp; omega) _ rfl ?_
  · intro j u hj
    match j, hj with
    | 0, hj => simp at hj; subst hj; simp [Addr.add]
  · intro u hu
    simp at hu
    subst hu
    rfl
  · intro g cap w' h3 h4 h5 _
    refine h g cap w' (by simpa [strs] using h3) ((hb.alloc _).grown h4 (fun k hk => (own_block hown hk).1)) ?_ ?_
    · exact ⟨h4.os, h4.tape, h4.output, Nat.le_trans (by simp) h4.size, fun i hi hne => (h4.block i (by simp; omega) hne).trans ((World.grownBy_alloc W _ none).block i hi (by simp))⟩
    · rcases h5 with h5 | h5
      · exact .inl h5
      · exact .inr (by rw [h5]; simp)
theorem own_cells_add {W : World} {B g n c : Nat} {cs : List Value} (h : W.ownsRow B 5 1 (.slice (some ⟨g, 0, none⟩) n c) n cs) : ∀ (j : Nat) (u : Value), cs[j]? = some u → W.cell? ((⟨g, 0, none⟩ : Addr).add j) = some u := by
  intro j u hj
  have hl := h.1
  have hjl := (List.getElem?_eq_some_iff.1 hj).1
  rw [addr_add, Nat.zero_add, h.cellAt j (by omega)]
  exact hj
theorem own_cap_le {w : World} {B E k n g c : Nat} {cs : List Value} (h : w.ownsRow B E k (.slice (some ⟨g, 0, none⟩) n c) n cs) : n ≤ c := by
  rcases h.2 with ⟨h0, _⟩ | ⟨g', cap, cur, hv, _, _, h5, _⟩
  · cases h0
  · cases hv; exact h5
/-- A drawn hide is a hide. -/
def HidesEnd (w0 : World) (e : Ending) (w' : World) : Prop :=
  ∃ (g n c m : Nat) (rows : List ByteArray), e = .returned (.slice (some ⟨g, 0, none⟩) n c) ∧ n ≤ c ∧ HideOk rows n m ∧ CellsAt w' (some ⟨g, 0, none⟩) (strs rows) ∧ Bel w0.heap.size w0 w'
def RowsOk (rows : List ByteArray) (m : Nat) : Prop := ∀ r ∈ rows, r.size = m ∧ ∀ b ∈ r.data.toList, 0 ≤ qualU b
theorem rowsOk_app {rows : List ByteArray} {m : Nat} {l : List UInt8} (h : RowsOk rows m) (hl : l.length = m) (hq : ∀ b ∈ l, 0 ≤ qualU b) : RowsOk (rows ++ [⟨l.toArray⟩]) m := fun r hr => by
  simp only [List.mem_append, List.mem_cons, List.not_mem_nil, or_false] at hr
  rcases hr with hr | rfl
  · exact h r hr
  · exact ⟨by simpa [ByteArray.size] using hl, by simpa using hq⟩
theorem good_app {l : List UInt8} {z : UInt8} (h : ∀ b ∈ l, 0 ≤ qualU b) (hz : 0 ≤ qualU z) : ∀ b ∈ l ++ [z], 0 ≤ qualU b := fun b hb => by
  simp only [List.mem_append, List.mem_cons, List.not_mem_nil, or_false] at hb
  rcases hb with hb | rfl
  · exact h b hb
  · exact hz
set_option maxRecDepth 100000 in
set_option maxHeartbeats 6400000 in
theorem l10Draw_any (w0 w : World) (p nc cc : Nat) (ac : Option Addr) (hc : CodeAt w0 ac nc) (hb : Bel w0.heap.size w0 w) (hs : SrcAt w w0.heap.size p ac nc cc 0) :
    Calls Tryz.prog 35 #[.pointer (some ⟨p, 0, none⟩)] w (HidesEnd w0) := by
  obtain ⟨hp1, hp2⟩ := hs.base
  have HC := Lib.hid hc
  have HB := Lib.hid hb
  have HS := Lib.hid hs
  clear hc hb hs
  go_enter Tryz.func35, Tryz.ntmps35
  go_wp2_with fail
  refine (pick_any w0 w p nc cc 0 ac 5 HC.out HB.out HS.out (by omega) (by omega)).mono ?_
  rintro e w1 ⟨r0, rfl, a0, a1, hs1, hg1⟩
  have hp3 := hs1.base.2
  have hB1 := HB.out.grown hg1 (fun k h => by cases h; exact hp1)
  have HS1 := Lib.hid (hs1.alloc (.cells #[] 9))
  have HB1 := Lib.hid (hB1.alloc (.cells #[] 9))
  have HO1 := Lib.hid (own_none' w1 w0.heap.size 9 1 hB1.2)
  obtain ⟨m, hm⟩ : ∃ m : Nat, 1 + r0 = (m : Int) := ⟨(1 + r0).toNat, by omega⟩
  have hm1 : 1 ≤ m := by omega
  have hm5 : m ≤ 5 := by omega
  clear hs1 hg1 hB1 HS HB
  go_wp2_with fail
  refine (pick_any w0 _ p nc cc 2 ac 5 HC.out HB1.out HS1.out (by omega) (by omega)).mono ?_
  rintro e w2 ⟨r1, rfl, b0, b1, hs2, hg2⟩
  have HS2 := Lib.hid hs2
  have HB2 := Lib.hid (HB1.out.grown hg2 (fun k h => by cases h; exact hp1))
  have HO2 := Lib.hid (own_drawn HO1.out hg2 (fun e => by have h1 : w1.heap.size = p := (by simpa [Value.ownBlock] using e); omega))
  clear hs2 hg2 HS1 HB1 HO1
  go_wp2_with fail
  clear hm a0 a1
  go_loopw [4, 5, 6, 7] (fun v u _ _ wr => ∃ (j : Nat) (k : Int), u = .int .i64 k ∧ 0 ≤ k ∧ (j : Int) + k = 1 + r1 ∧ ∃ (g co : Nat) (rows : List ByteArray), v = .slice (some ⟨g, 0, none⟩) j co ∧ p < g ∧ Hid (rows.length = j ∧ RowsOk rows m) ∧ Hid (SrcAt wr w0.heap.size p ac nc cc (4 + 10 * j)) ∧ Hid (wr.ownsRow w0.heap.size 9 1 (.slice (some ⟨g, 0, none⟩) j co) j (strs rows)) ∧ Hid (Bel w0.heap.size w0 wr)) (fun _ u _ _ _ => (intOf u).toNat)
  case atStart => exact ⟨0, 1 + r1, rfl, by omega, by omega, w1.heap.size, 0, [], rfl, hp3, Lib.hid ⟨rfl, fun r hr => by cases hr⟩, HS2, HO2, HB2⟩
  case round =>
    clear HS2 HO2 HB2
    obtain ⟨j, k, rfl, hk0, hjk, g, co, rows, rfl, hpg, hrows, hsrc, hown, hbw⟩ := hrel
    by_cases hlt : 0 < k
    · have hj5 : j ≤ 4 := by omega
      have hgs : g < wr.heap.size := (own_block hown.out rfl).2
      have HS3 := Lib.hid (hsrc.out.alloc (.cells #[] 5))
      have HB3 := Lib.hid (hbw.out.alloc (.cells #[] 5))
      have HO3 := Lib.hid (hown.out.alloc (.cells #[] 5))
      have HL3 := Lib.hid (own_none' wr w0.heap.size 5 1 hbw.out.2)
      go_wp2_with fail
      go_loopw [6, 7] (fun v u wx => ∃ x : Nat, x ≤ m ∧ u = .int .i64 x ∧ ∃ (g6 c6 : Nat) (l : List UInt8), l.length = x ∧ v = .slice (some ⟨g6, 0, none⟩) x c6 ∧ g < g6 ∧ Hid (∀ b ∈ l, 0 ≤ qualU b) ∧ Hid (SrcAt wx w0.heap.size p ac nc cc (4 + 10 * j + 2 * x)) ∧ Hid (wx.ownsRow w0.heap.size 5 1 (.slice (some ⟨g6, 0, none⟩) x c6) x (u8s l)) ∧ Hid (wx.ownsRow w0.heap.size 9 1 (.slice (some ⟨g, 0, none⟩) j co) j (strs rows)) ∧ Hid (Bel w0.heap.size w0 wx)) (fun _ u _ => m - (intOf u).toNat)
      case atStart => exact ⟨0, by omega, rfl, wr.heap.size, 0, [], rfl, rfl, hgs, Lib.hid (fun b hb => by cases hb), HS3, HL3, HO3, HB3⟩
      case round =>
        clear HS3 HB3 HO3 HL3 hsrc hown hbw
        obtain ⟨x, hx, rfl, g6, c6, l, hl, rfl, hgg, hq, hsx, hlx, hox, hbx⟩ := hrel
        by_cases hxm : x < m
        · go_wp2_with fail
          refine (pick_any w0 _ p nc cc (4 + 10 * j + 2 * x) ac 7 HC.out hbx.out hsx.out (by omega) (by omega)).mono ?_
          rintro e w5 ⟨r, rfl, c0, c1, hs5, hg5⟩
          have hps := hs5.base.2
          have HS5 := Lib.hid hs5
          have HB5 := Lib.hid (hbx.out.grown hg5 (fun k h => by cases h; exact hp1))
          have HO5 := Lib.hid (own_drawn hox.out hg5 (fun e => by have h1 : g = p := (by simpa [Value.ownBlock] using e); omega))
          have HL5 := Lib.hid (own_drawn hlx.out hg5 (fun e => by have h1 : g6 = p := (by simpa [Value.ownBlock] using e); omega))
          have hg5s : g < w5.heap.size := (own_block HO5.out rfl).2
          clear hs5 hg5 hsx hlx hox hbx
          have hr : r = 0 ∨ r = 1 ∨ r = 2 ∨ r = 3 ∨ r = 4 ∨ r = 5 ∨ r = 6 := by omega
          clear c0 c1
          rcases hr with rfl | rfl | rfl | rfl | rfl | rfl | rfl
          · go_wp2_with (at_builtin; refine appU8 (by rfl) _ _ (by rfl) w0.heap.size _ _ _ (by rfl) HL5.out 97 _ (by rfl) 1 w5.heap.size (by simp) (by rfl) (by omega) HB5.out ?_; intro g7 cap7 w7 ho7 hb7 hg7 hat7; have Ho7 := Lib.hid ho7; have Hb7 := Lib.hid hb7; have Hs7 := Lib.hid (HS5.out.grown hg7 (fun e => by have h1 : g6 = p := (by simpa [Value.ownBlock] using e); omega)); have Hr7 := Lib.hid (own_grown_ne HO5.out hg7 (fun b hb e => by have h1 : g = b := (by simpa [Value.ownBlock] using hb); have h2 : g6 = b := (by simpa [Value.ownBlock] using e); omega)); have Hg7 := Lib.hid (grow_far hat7 hgg hg5s); clear ho7 hb7 hg7 hat7)
            have hg7' := Hg7.out
            go_roundw
            case rel => exact ⟨x + 1, by omega, by go_num, g7, cap7, l ++ [97], by simp [hl], rfl, hg7', Lib.hid (good_app hq.out (by decide)), Lib.hid (Hs7.out.more (by omega)), Ho7, Hr7, Hb7⟩
            case measure => simp [intOf]; omega
          · go_wp2_with (at_builtin; refine appU8 (by rfl) _ _ (by rfl) w0.heap.size _ _ _ (by rfl) HL5.out 97 _ (by rfl) 1 w5.heap.size (by simp) (by rfl) (by omega) HB5.out ?_; intro g7 cap7 w7 ho7 hb7 hg7 hat7; have Ho7 := Lib.hid ho7; have Hb7 := Lib.hid hb7; have Hs7 := Lib.hid (HS5.out.grown hg7 (fun e => by have h1 : g6 = p := (by simpa [Value.ownBlock] using e); omega)); have Hr7 := Lib.hid (own_grown_ne HO5.out hg7 (fun b hb e => by have h1 : g = b := (by simpa [Value.ownBlock] using hb); have h2 : g6 = b := (by simpa [Value.ownBlock] using e); omega)); have Hg7 := Lib.hid (grow_far hat7 hgg hg5s); clear ho7 hb7 hg7 hat7)
            have hg7' := Hg7.out
            go_roundw
            case rel => exact ⟨x + 1, by omega, by go_num, g7, cap7, l ++ [97], by simp [hl], rfl, hg7', Lib.hid (good_app hq.out (by decide)), Lib.hid (Hs7.out.more (by omega)), Ho7, Hr7, Hb7⟩
            case measure => simp [intOf]; omega
          · go_wp2_with (at_builtin; refine appU8 (by rfl) _ _ (by rfl) w0.heap.size _ _ _ (by rfl) HL5.out 97 _ (by rfl) 1 w5.heap.size (by simp) (by rfl) (by omega) HB5.out ?_; intro g7 cap7 w7 ho7 hb7 hg7 hat7; have Ho7 := Lib.hid ho7; have Hb7 := Lib.hid hb7; have Hs7 := Lib.hid (HS5.out.grown hg7 (fun e => by have h1 : g6 = p := (by simpa [Value.ownBlock] using e); omega)); have Hr7 := Lib.hid (own_grown_ne HO5.out hg7 (fun b hb e => by have h1 : g = b := (by simpa [Value.ownBlock] using hb); have h2 : g6 = b := (by simpa [Value.ownBlock] using e); omega)); have Hg7 := Lib.hid (grow_far hat7 hgg hg5s); clear ho7 hb7 hg7 hat7)
            have hg7' := Hg7.out
            go_roundw
            case rel => exact ⟨x + 1, by omega, by go_num, g7, cap7, l ++ [97], by simp [hl], rfl, hg7', Lib.hid (good_app hq.out (by decide)), Lib.hid (Hs7.out.more (by omega)), Ho7, Hr7, Hb7⟩
            case measure => simp [intOf]; omega
          · go_wp2_with (at_builtin; refine appU8 (by rfl) _ _ (by rfl) w0.heap.size _ _ _ (by rfl) HL5.out 98 _ (by rfl) 1 w5.heap.size (by simp) (by rfl) (by omega) HB5.out ?_; intro g7 cap7 w7 ho7 hb7 hg7 hat7; have Ho7 := Lib.hid ho7; have Hb7 := Lib.hid hb7; have Hs7 := Lib.hid (HS5.out.grown hg7 (fun e => by have h1 : g6 = p := (by simpa [Value.ownBlock] using e); omega)); have Hr7 := Lib.hid (own_grown_ne HO5.out hg7 (fun b hb e => by have h1 : g = b := (by simpa [Value.ownBlock] using hb); have h2 : g6 = b := (by simpa [Value.ownBlock] using e); omega)); have Hg7 := Lib.hid (grow_far hat7 hgg hg5s); clear ho7 hb7 hg7 hat7)
            have hg7' := Hg7.out
            go_roundw
            case rel => exact ⟨x + 1, by omega, by go_num, g7, cap7, l ++ [98], by simp [hl], rfl, hg7', Lib.hid (good_app hq.out (by decide)), Lib.hid (Hs7.out.more (by omega)), Ho7, Hr7, Hb7⟩
            case measure => simp [intOf]; omega
          · go_wp2_with (at_builtin; refine appU8 (by rfl) _ _ (by rfl) w0.heap.size _ _ _ (by rfl) HL5.out 98 _ (by rfl) 1 w5.heap.size (by simp) (by rfl) (by omega) HB5.out ?_; intro g7 cap7 w7 ho7 hb7 hg7 hat7; have Ho7 := Lib.hid ho7; have Hb7 := Lib.hid hb7; have Hs7 := Lib.hid (HS5.out.grown hg7 (fun e => by have h1 : g6 = p := (by simpa [Value.ownBlock] using e); omega)); have Hr7 := Lib.hid (own_grown_ne HO5.out hg7 (fun b hb e => by have h1 : g = b := (by simpa [Value.ownBlock] using hb); have h2 : g6 = b := (by simpa [Value.ownBlock] using e); omega)); have Hg7 := Lib.hid (grow_far hat7 hgg hg5s); clear ho7 hb7 hg7 hat7)
            have hg7' := Hg7.out
            go_roundw
            case rel => exact ⟨x + 1, by omega, by go_num, g7, cap7, l ++ [98], by simp [hl], rfl, hg7', Lib.hid (good_app hq.out (by decide)), Lib.hid (Hs7.out.more (by omega)), Ho7, Hr7, Hb7⟩
            case measure => simp [intOf]; omega
          · go_wp2_with (at_builtin; refine appU8 (by rfl) _ _ (by rfl) w0.heap.size _ _ _ (by rfl) HL5.out 99 _ (by rfl) 1 w5.heap.size (by simp) (by rfl) (by omega) HB5.out ?_; intro g7 cap7 w7 ho7 hb7 hg7 hat7; have Ho7 := Lib.hid ho7; have Hb7 := Lib.hid hb7; have Hs7 := Lib.hid (HS5.out.grown hg7 (fun e => by have h1 : g6 = p := (by simpa [Value.ownBlock] using e); omega)); have Hr7 := Lib.hid (own_grown_ne HO5.out hg7 (fun b hb e => by have h1 : g = b := (by simpa [Value.ownBlock] using hb); have h2 : g6 = b := (by simpa [Value.ownBlock] using e); omega)); have Hg7 := Lib.hid (grow_far hat7 hgg hg5s); clear ho7 hb7 hg7 hat7)
            have hg7' := Hg7.out
            go_roundw
            case rel => exact ⟨x + 1, by omega, by go_num, g7, cap7, l ++ [99], by simp [hl], rfl, hg7', Lib.hid (good_app hq.out (by decide)), Lib.hid (Hs7.out.more (by omega)), Ho7, Hr7, Hb7⟩
            case measure => simp [intOf]; omega
          · go_wp2_with (at_builtin; refine appU8 (by rfl) _ _ (by rfl) w0.heap.size _ _ _ (by rfl) HL5.out 120 _ (by rfl) 1 w5.heap.size (by simp) (by rfl) (by omega) HB5.out ?_; intro g7 cap7 w7 ho7 hb7 hg7 hat7; have Ho7 := Lib.hid ho7; have Hb7 := Lib.hid hb7; have Hs7 := Lib.hid (HS5.out.grown hg7 (fun e => by have h1 : g6 = p := (by simpa [Value.ownBlock] using e); omega)); have Hr7 := Lib.hid (own_grown_ne HO5.out hg7 (fun b hb e => by have h1 : g = b := (by simpa [Value.ownBlock] using hb); have h2 : g6 = b := (by simpa [Value.ownBlock] using e); omega)); have Hg7 := Lib.hid (grow_far hat7 hgg hg5s); clear ho7 hb7 hg7 hat7)
            have hg7' := Hg7.out
            go_roundw
            case rel => exact ⟨x + 1, by omega, by go_num, g7, cap7, l ++ [120], by simp [hl], rfl, hg7', Lib.hid (good_app hq.out (by decide)), Lib.hid (Hs7.out.more (by omega)), Ho7, Hr7, Hb7⟩
            case measure => simp [intOf]; omega
        · obtain rfl : x = m := by omega
          have hcv := fun (u : Nat) => run_convert_bytes_back (P := Tryz.prog) wr 22 9 5 ⟨g6, 0, none⟩ c6 l Tryz.underlying22 Tryz.underlying5 Tryz.underlying9 (by
            intro i hi
            refine own_cells_add hlx.out i _ ?_
            simp [u8s, hi])
          rw [hl] at hcv
          have hcv0 := hcv 0
          clear hcv
          obtain ⟨t, ht⟩ : ∃ t : ByteArray, t = ⟨l.toArray⟩ := ⟨_, rfl⟩
          rw [← ht] at hcv0
          have HR := Lib.hid (show RowsOk (rows ++ [t]) x by rw [ht]; exact rowsOk_app hrows.out.2 hl hq.out)
          have hps := hsx.out.base.2
          clear ht
          go_wp2_with (at_builtin; refine appStr (by rfl) _ _ (by rfl) w0.heap.size _ _ _ (by rfl) hox.out t 1 wr.heap.size (by simp) (by rfl) (by omega) hbx.out ?_; intro g7 cap7 w7 ho7 hb7 hg7 hat7; have Ho7 := Lib.hid ho7; have Hb7 := Lib.hid hb7; have Hs7 := Lib.hid (hsx.out.grown hg7 (fun e => by have h1 : g = p := (by simpa [Value.ownBlock] using e); omega)); have Hg7 := Lib.hid (grow_far hat7 hpg hps); clear ho7 hb7 hg7 hat7)
          have hg7' := Hg7.out
          go_roundw
          case rel => exact ⟨j + 1, k - 1, rfl, by omega, by omega, g7, cap7, rows ++ [t], rfl, hg7', Lib.hid ⟨by simp [hrows.out.1], HR.out⟩, Lib.hid (Hs7.out.more (by omega)), Ho7, Hb7⟩
          case measure => simp [intOf]; omega
    · go_wp2_with fail
      go_ret
      exact ⟨g, j, co, m, rows, rfl, own_cap_le hown.out, ⟨hrows.out.1, by omega, by omega, hm1, by omega, fun r hr => (hrows.out.2 r hr).1, fun r hr => (hrows.out.2 r hr).2⟩, CellsAt.of_own hown.out, hbw.out⟩
theorem a2Hide_any (w : World) (nc cc : Nat) (ac : Option Addr) (hc : CodeAt w ac nc) : Calls Tryz.prog 14 #[.slice ac nc cc] w (HidesEnd w) := by
  have HC := Lib.hid hc
  clear hc
  go_enter Tryz.func14, Tryz.ntmps14
  go_wp2_with fail
  refine (l00From_any w w.heap.size ac nc cc (Nat.le_refl _)).mono ?_
  rintro e w1 ⟨rfl, hs1, hb1⟩
  have HS1 := Lib.hid hs1
  have HB1 := Lib.hid (Bel.of hb1)
  clear hs1 hb1
  go_wp2_with fail
  refine (l10Draw_any w w1 w.heap.size nc cc ac HC.out HB1.out HS1.out).mono ?_
  rintro e w2 ⟨g, n, c, m, rows, rfl, h0, h1, h2, h3⟩
  have HE := Lib.hid (show HidesEnd w (.returned (.slice (some ⟨g, 0, none⟩) n c)) w2 from ⟨g, n, c, m, rows, rfl, h0, h1, h2, h3⟩)
  clear h0 h1 h2 h3
  go_wp2_with fail
  go_ret
  exact HE.out
end Go.Proofs.YthemlamdchcicaaGreatDoor
