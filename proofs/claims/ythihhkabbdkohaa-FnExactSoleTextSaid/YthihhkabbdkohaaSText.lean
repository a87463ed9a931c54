/-
  Contracts of SoleText, both sides. No condition of its own.
-/
import Derived.Test.YthihhkabbdkohaaSole
import Derived.Test.YthihhkabbdkohaaStep
import Derived.Test.YthihhkabbdkohaaShelf
import Derived.Deep.AppendLies
import Derived.Deep.RegionLaw
namespace Go.Proofs.Ythihhkabbdkohaa
open Go.ChangeShapes Go.WideShapes Go.ChangeAt Go.RowKit Go.Deep Go.Shelf

theorem infoStr : (Try.prog.info? 9).map (fun i => (i.zero, i.size, i.bytes)) = some (some (.string ByteArray.empty), 1, 16) := by kernel_rfl
set_option maxHeartbeats 800000 in
theorem appStrW {w0 W : World} {ops : Array Oper} {rest : List Oper} {o : Oper} {a : Act} {Q : Exit → Act → World → Prop} (hgd : o.guard = none) (s x : Operand)
    (ho : o.op = .call { callee := .builtin .append, args := #[s, x], argTypes := #[64, 64] }) (B : Nat) (v : Value) (n : Nat) (xs : List Value) (hs : a.eval s = v) (hown : W.ownsRow B 9 1 v n xs)
    (news : List Value) (hl : news.length = 1) (h1 : ∀ u ∈ news, u.oneCell' = true) (c H : Nat) (hnews : ∀ (j : Nat) u, news[j]? = some u → W.cell? ((⟨H, 0, none⟩ : Addr).add j) = some u) (hx : a.eval x = .slice (some ⟨H, 0, none⟩) 1 c) (hn : n ≤ 1099511627776) (hb : Bel B w0 W)
    (h : ∀ g cap w', w'.ownsRow B 9 1 (.slice (some ⟨g, 0, none⟩) (n + 1) cap) (n + 1) (xs ++ news) → Bel B w0 w' → W.grownBy w' v.ownBlock → (v.ownBlock = some g ∨ W.heap.size ≤ g) → wpList Try.prog ops Q rest (a.put o.dst (.slice (some ⟨g, 0, none⟩) (n + 1) cap)) w') :
    wpList Try.prog ops Q (o :: rest) a W := by
  obtain ⟨i, hi, q0, q1, q2⟩ := info_parts infoStr
  refine wpList_append_lies _ hgd s x 64 ho B 9 i (.string ByteArray.empty) 1 16 Try.underlying64 hi q0 q1 q2 rfl (by omega) v n xs hs hown ⟨H, 0, none⟩ 1 c news hx (by omega) hnews h1 (by omega) (by unfold maxLen; omega) (by omega) hb.2 _ rfl ?_
  intro g cap w' h3 h4 h5 _
  refine h g cap w' h3 (hb.grown h4 (fun k hk => (own_block hown hk).1)) h4 ?_
  rcases h5 with h5 | h5
  · exact .inl h5
  · exact .inr (by omega)

set_option maxHeartbeats 800000 in
theorem stepStr {w0 W : World} {ops : Array Oper} {o : Oper} {a : Act} {K : Act → World → Prop} {Q : Exit → Act → World → Prop} {E : Prop} (hgd : o.guard = none) (s x : Operand)
    (ho : o.op = .call { callee := .builtin .append, args := #[s, x], argTypes := #[64, 64] }) (B : Nat) (v : Value) (n : Nat) (xs : List Value) (hs : a.eval s = v) (hown : W.ownsRow B 9 1 v n xs)
    (news : List Value) (hl : news.length = 1) (h1 : ∀ u ∈ news, u.oneCell' = true) (c H : Nat) (hnews : ∀ (j : Nat) u, news[j]? = some u → W.cell? ((⟨H, 0, none⟩ : Addr).add j) = some u) (hx : a.eval x = .slice (some ⟨H, 0, none⟩) 1 c) (hn : n ≤ 1099511627776) (hb : Bel B w0 W)
    (h : ∀ g cap w', w'.ownsRow B 9 1 (.slice (some ⟨g, 0, none⟩) (n + 1) cap) (n + 1) (xs ++ news) → Bel B w0 w' → W.grownBy w' v.ownBlock → (v.ownBlock = some g ∨ W.heap.size ≤ g) → K (a.put o.dst (.slice (some ⟨g, 0, none⟩) (n + 1) cap)) w') :
    if Region.wanted o (yielded ops a.tmps) = true then Oper.wp Try.prog o a W K Q else E := by
  obtain ⟨i, hi, q0, q1, q2⟩ := info_parts infoStr
  refine step_append_lies _ hgd s x 64 ho B 9 i (.string ByteArray.empty) 1 16 Try.underlying64 hi q0 q1 q2 rfl (by omega) v n xs hs hown ⟨H, 0, none⟩ 1 c news hx (by omega) hnews h1 (by omega) (by unfold maxLen; omega) (by omega) hb.2 _ rfl ?_
  intro g cap w' h3 h4 h5 _
  refine h g cap w' h3 (hb.grown h4 (fun k hk => (own_block hown hk).1)) h4 ?_
  rcases h5 with h5 | h5
  · exact .inl h5
  · exact .inr (by omega)


/-- The name at a ply. -/
def nmAt (S : Nat → ByteArray × Int × Int × Int × Int) (zs : List Int) (k : Nat) : ByteArray := (S (zs.getD k 0).toNat).1
def nmL (S : Nat → ByteArray × Int × Int × Int × Int) (zs : List Int) (k : Nat) : List ByteArray := (List.range k).map (nmAt S zs)
def sepB : ByteArray := ⟨#[32, 43, 32]⟩
/-- The names of the first plies, joined. -/
def nmJ (S : Nat → ByteArray × Int × Int × Int × Int) (zs : List Int) : Nat → ByteArray
  | 0 => ByteArray.empty
  | 1 => ByteArray.empty ++ nmAt S zs 0
  | k + 2 => nmJ S zs (k + 1) ++ sepB ++ nmAt S zs (k + 1)
def stF (S : Nat → ByteArray × Int × Int × Int × Int) (n : Nat) (zs : List Int) (m : Nat) : ByteArray := if soleB S n zs m then nmJ S zs m else ByteArray.empty
theorem nmL_succ (S : Nat → ByteArray × Int × Int × Int × Int) (zs : List Int) (k : Nat) : nmL S zs (k + 1) = nmL S zs k ++ [nmAt S zs k] := by simp [nmL, List.range_succ]
theorem nmL_length (S : Nat → ByteArray × Int × Int × Int × Int) (zs : List Int) (k : Nat) : (nmL S zs k).length = k := by simp [nmL]
theorem join_snoc (x : List UInt8) (r : List (List UInt8)) (y sep : List UInt8) : Lib.join ((x :: r) ++ [y]) sep = Lib.join (x :: r) sep ++ sep ++ y := by
  rw [List.cons_append, Lib.join_cons, Lib.join_cons]
  simp [Lib.joinTail, List.append_assoc]
theorem nmJ_join (S : Nat → ByteArray × Int × Int × Int × Int) (zs : List Int) (k : Nat) : (nmJ S zs k).data.toList = Lib.join ((nmL S zs k).map (·.data.toList)) sepB.data.toList := by
  match k with
  | 0 => rfl
  | 1 => simp [nmJ, nmL, Lib.join, List.intercalate]
  | k + 2 =>
    have ih := nmJ_join S zs (k + 1)
    rw [nmL_succ, List.map_append, List.map_cons, List.map_nil]
    have hc : ∃ x r, (nmL S zs (k + 1)).map (·.data.toList) = x :: r := by
      cases h : (nmL S zs (k + 1)).map (·.data.toList) with
      | nil => have h1 := congrArg List.length h; simp [nmL_length] at h1
      | cons x r => exact ⟨x, r, rfl⟩
    obtain ⟨x, r, hx⟩ := hc
    rw [hx] at ih ⊢
    rw [join_snoc, ← ih]
    simp [nmJ, List.append_assoc]
theorem nm_size {S : Nat → ByteArray × Int × Int × Int × Int} {n m : Nat} {zs : List Int} (h : soleB S n zs m = true) (hl : zs.length = m) {k : Nat} (hk : k < m) : (nmAt S zs k).size ≤ 12 := by
  obtain ⟨h1, _, _, _, h5⟩ := soleB_ok h hl
  have h2 := stfB_at h1 (k := (zs.getD k 0).toNat) (by have := h5 k hk; omega)
  simp only [oneB, okName, Bool.and_eq_true, decide_eq_true_eq] at h2
  exact h2.1.2.1
theorem nmJ_size {S : Nat → ByteArray × Int × Int × Int × Int} {n m : Nat} {zs : List Int} (h : soleB S n zs m = true) (hl : zs.length = m) (k : Nat) (hk : k ≤ m) : (nmJ S zs k).size ≤ 15 * k := by
  match k with
  | 0 => simp [nmJ]
  | 1 =>
    have := nm_size h hl (show 0 < m by omega)
    simp only [nmJ, ByteArray.size_append]
    have h0 : ByteArray.empty.size = 0 := rfl
    omega
  | k + 2 =>
    have ih := nmJ_size h hl (k + 1) (by omega)
    have := nm_size h hl (show k + 1 < m by omega)
    simp only [nmJ, ByteArray.size_append]
    have h0 : sepB.size = 3 := rfl
    omega
theorem ba_of_list {a : ByteArray} {l : List UInt8} (h : a.data.toList = l) : (⟨l.toArray⟩ : ByteArray) = a := by subst h; rfl
theorem nmJ_first {S : Nat → ByteArray × Int × Int × Int × Int} {zs : List Int} {k : Nat} {t x : ByteArray} (h : k = 0) (ht : t = nmJ S zs k) (hx : nmAt S zs k = x) : t ++ x = nmJ S zs (k + 1) := by
  subst h ht hx; rfl
theorem nmJ_more {S : Nat → ByteArray × Int × Int × Int × Int} {zs : List Int} {k : Nat} {t x : ByteArray} (h : 0 < k) (ht : t = nmJ S zs k) (hx : nmAt S zs k = x) : t ++ (⟨#[32, 43, 32]⟩ : ByteArray) ++ x = nmJ S zs (k + 1) := by
  obtain ⟨q, rfl⟩ : ∃ q, k = q + 1 := ⟨k - 1, by omega⟩
  subst ht hx; rfl
theorem own_le_cap {w : World} {B E k n c : Nat} {a : Option Addr} {cs : List Value} (h : w.ownsRow B E k (.slice a n c) n cs) : n ≤ c := by
  rcases h.2 with ⟨_, h1⟩ | ⟨g, cap, cur, hv, _, _, h1, _⟩
  · omega
  · simp at hv; omega
theorem size_list (a : ByteArray) : a.data.toList.length = a.size := by rw [Array.length_toList]; rfl

set_option maxRecDepth 100000 in
set_option maxHeartbeats 6400000 in
theorem specText (a : Option Addr) (n c : Nat) (S : Nat → ByteArray × Int × Int × Int × Int) (b : Option Addr) (m d : Nat) (zs : List Int) (w : World) (hn : n ≤ 1048576) (hok : StfOk S n) (ha : CellsAt w a (stfC S n)) (hl : zs.length = m) (hm : m ≤ 1048576) (hb : CellsAt w b (zs.map (Value.int .i64))) :
    Calls Try.prog 25 #[.slice a n c, .agg #[.slice b m d]] w fun e w' => e = .returned (.string (stF S n zs m)) ∧ Below w.heap.size w w' := by
  have HB := Lib.hid ((Bel.refl w).alloc (.cells #[.slice b m d] 34))
  have H1 := Lib.hid (l17Sole_any a n c S b m d w.heap.size zs _ hn hok (ha.below HB.out.1) hl hm (hb.below HB.out.1) (by simp [go_sem]))
  have HZ := Lib.hid hb
  have HA := Lib.hid ha
  have HL := Lib.hid hl
  have HO := Lib.hid hok
  clear hok ha hl hb
  cases q1 : soleB S n zs m with
  | false =>
    rw [show stF S n zs m = ByteArray.empty by simp [stF, q1]]
    have K1 := Lib.hid (callsB H1.out q1)
    clear q1 H1
    go_enter Try.func25, Try.ntmps25
    go_wp2_with fail
    refine K1.out.mono ?_
    rintro e w1 ⟨rfl, hb1⟩
    have HB1 := Lib.hid (HB.out.step hb1)
    clear hb1
    go_wp2_with fail
    go_ret
    exact ⟨rfl, HB1.out.1⟩
  | true =>
    obtain ⟨_, hn12, m1, m6, hin⟩ := soleB_ok q1 HL.out
    have HIN := Lib.hid hin
    have HQ := Lib.hid q1
    rw [show stF S n zs m = nmJ S zs m by simp [stF, q1]]
    have K1 := Lib.hid (callsB H1.out q1)
    obtain ⟨bz, oz, rfl, hbz, hcz⟩ := HZ.out.at_ (by have := HL.out; simp; omega)
    obtain ⟨bs, os, rfl, hbs, hcs⟩ := HA.out.at_ (by rw [stfC_length]; have := hin 0 (by omega); omega)
    have HCZ := Lib.hid hcz
    have HCS := Lib.hid hcs
    clear q1 H1 hin hcz hcs
    go_enter Try.func25, Try.ntmps25
    go_wp2_with fail
    refine K1.out.mono ?_
    rintro e w1 ⟨rfl, hb1⟩
    have HB1 := Lib.hid (HB.out.step hb1)
    have hx1 : w1.cell? ⟨w.heap.size, 0, none⟩ = some (.slice (some ⟨bz, oz, none⟩) m d) := (hb1.cell (p := ⟨w.heap.size, 0, none⟩) (by simp)).trans (by simp [go_sem])
    have HX1 := Lib.hid hx1
    have hs1 := World.block_lt_of_cell? w1 _ hx1
    clear hb1 hx1
    go_wp2_with fail
    go_loopw [5, 6] (fun u i wr => ∃ k : Nat, k ≤ m ∧ i = .int .i64 k ∧ (∃ t : ByteArray, u = .string t ∧ Hid (t = nmJ S zs k)) ∧ Hid (Bel w1.heap.size w1 wr)) (fun _ i _ => m - (intOf i).toNat)
    case atStart => exact ⟨0, Nat.zero_le _, rfl, ⟨_, rfl, Lib.hid rfl⟩, Lib.hid (Bel.refl w1)⟩
    case round =>
      obtain ⟨k, hk, rfl, ⟨t, rfl, ht⟩, hbw⟩ := hrel
      have hxr : wr.cell? ⟨w.heap.size, 0, none⟩ = some (.slice (some ⟨bz, oz, none⟩) m d) := (hbw.out.1.cell (p := ⟨w.heap.size, 0, none⟩) hs1).trans HX1.out
      have HBr := Lib.hid (HB1.out.step hbw.out.1)
      have hsz := nmJ_size HQ.out HL.out k hk
      rw [← ht.out] at hsz
      by_cases hlt : k < m
      · obtain ⟨J, hJ⟩ : ∃ J : Nat, zs.getD k 0 = (J : Int) := ⟨(zs.getD k 0).toNat, by have := HIN.out k hlt; omega⟩
        have hJn : J < n := by have := HIN.out k hlt; rw [hJ] at this; omega
        obtain ⟨x0, x1, x2, x3, x4, hx⟩ : ∃ x t g s p, S J = (x, t, g, s, p) := ⟨_, _, _, _, _, rfl⟩
        have kz := cell_int hbz HBr.out.1 HCZ.out (by rw [HL.out]; exact hlt) hJ
        obtain ⟨hc0, _, _, _, _⟩ := stf_cells hbs HBr.out.1 HCS.out hJn hx
        have hnm : nmAt S zs k = x0 := by rw [nmAt, hJ, Int.toNat_natCast, hx]
        have hsx := nm_size HQ.out HL.out hlt
        rw [hnm] at hsx
        have HNM := Lib.hid hnm
        have i1 : (k : Int) < (m : Int) := by omega
        have i2 : (J : Int) < (n : Int) := by omega
        have hsp : (⟨#[32, 43, 32]⟩ : ByteArray).size = 3 := rfl
        clear hx hnm hJ
        have et := Lib.hid ht.out
        go_wp2
        all_goals go_roundw
        all_goals first
          | exact ⟨k + 1, by omega, by go_num, ⟨_, rfl, Lib.hid (nmJ_more (by omega) et.out HNM.out)⟩, hbw⟩
          | exact ⟨k + 1, by omega, by go_num, ⟨_, rfl, Lib.hid (nmJ_first (by omega) et.out HNM.out)⟩, hbw⟩
          | (simp [intOf]; omega)
      · obtain rfl : k = m := by omega
        go_wp2
        go_ret
        exact ⟨ret_str ht.out, HBr.out.1⟩

set_option maxRecDepth 100000 in
set_option maxHeartbeats 6400000 in
theorem implText (a : Option Addr) (n c : Nat) (S : Nat → ByteArray × Int × Int × Int × Int) (b : Option Addr) (m d : Nat) (zs : List Int) (w : World) (hnc : n ≤ c) (hn : n ≤ 1048576) (hok : StfOk S n) (ha : CellsAt w a (stfC S n)) (hl : zs.length = m) (hm : m ≤ 1048576) (hb : CellsAt w b (zs.map (Value.int .i64))) :
    Calls Try.prog 26 #[.slice a n c, .agg #[.slice b m d]] w fun e w' => e = .returned (.string (stF S n zs m)) ∧ Below w.heap.size w w' := by
  have HB := Lib.hid ((Bel.refl w).alloc (.cells #[.slice b m d] 34))
  have H1 := Lib.hid (implSole a n c S b m d zs _ hnc hn hok (ha.below HB.out.1) hl hm (hb.below HB.out.1))
  have HZ := Lib.hid hb
  have HA := Lib.hid ha
  have HL := Lib.hid hl
  have HO := Lib.hid hok
  clear hok ha hl hb
  cases q1 : soleB S n zs m with
  | false =>
    rw [show stF S n zs m = ByteArray.empty by simp [stF, q1]]
    have K1 := Lib.hid (callsB H1.out q1)
    clear q1 H1
    go_enter Try.func26, Try.ntmps26
    go_wp2_with fail
    refine K1.out.mono ?_
    rintro e w1 ⟨rfl, hb1⟩
    have HB1 := Lib.hid (HB.out.step hb1)
    clear hb1
    go_wp2_with fail
    go_ret
    exact ⟨rfl, HB1.out.1⟩
  | true =>
    obtain ⟨_, hn12, m1, m6, hin⟩ := soleB_ok q1 HL.out
    have HIN := Lib.hid hin
    have HQ := Lib.hid q1
    rw [show stF S n zs m = nmJ S zs m by simp [stF, q1]]
    have K1 := Lib.hid (callsB H1.out q1)
    obtain ⟨bz, oz, rfl, hbz, hcz⟩ := HZ.out.at_ (by have := HL.out; simp; omega)
    obtain ⟨bs, os, rfl, hbs, hcs⟩ := HA.out.at_ (by rw [stfC_length]; have := hin 0 (by omega); omega)
    have HCZ := Lib.hid hcz
    have HCS := Lib.hid hcs
    clear q1 H1 hin hcz hcs
    go_enter Try.func26, Try.ntmps26
    go_wp2_with fail
    refine K1.out.mono ?_
    rintro e w1 ⟨rfl, hb1⟩
    have HB1 := Lib.hid (HB.out.step hb1)
    have hx1 : w1.cell? ⟨w.heap.size, 0, none⟩ = some (.slice (some ⟨bz, oz, none⟩) m d) := (hb1.cell (p := ⟨w.heap.size, 0, none⟩) (by simp)).trans (by simp [go_sem])
    have hs1 := World.block_lt_of_cell? w1 _ hx1
    clear hb1
    go_wp2_with fail
    go_loopw [5, 7, 16] (fun u _ i wr => ∃ k : Nat, k ≤ m ∧ i = .int .i64 k ∧ (∃ (ao : Option Addr) (co : Nat), u = .slice ao k co ∧ Hid (wr.ownsRow w1.heap.size 9 1 (.slice ao k co) k ((nmL S zs k).map Value.string))) ∧ Hid (Bel w1.heap.size w1 wr)) (fun _ _ i _ => m - (intOf i).toNat)
    case atStart => exact ⟨0, Nat.zero_le _, rfl, ⟨_, _, rfl, Lib.hid (own_none' w1 w1.heap.size 9 1 (Nat.le_refl _))⟩, Lib.hid ((Bel.refl w1).alloc _)⟩
    case round =>
      obtain ⟨k, hk, rfl, ⟨ao, co, rfl, hown⟩, hbw⟩ := hrel
      have HBr := Lib.hid (HB1.out.step hbw.out.1)
      by_cases hlt : k < m
      · obtain ⟨J, hJ⟩ : ∃ J : Nat, zs.getD k 0 = (J : Int) := ⟨(zs.getD k 0).toNat, by have := HIN.out k hlt; omega⟩
        have hJn : J < n := by have := HIN.out k hlt; rw [hJ] at this; omega
        obtain ⟨x0, x1, x2, x3, x4, hx⟩ : ∃ x t g s p, S J = (x, t, g, s, p) := ⟨_, _, _, _, _, rfl⟩
        have kz := cell_int hbz HBr.out.1 HCZ.out (by rw [HL.out]; exact hlt) hJ
        obtain ⟨hc0, _, _, _, _⟩ := stf_cells hbs HBr.out.1 HCS.out hJn hx
        have hnm : nmAt S zs k = x0 := by rw [nmAt, hJ, Int.toNat_natCast, hx]
        have HNM := Lib.hid hnm
        have i1 : (k : Int) < (m : Int) := by omega
        have i2 : (J : Int) < (n : Int) := by omega
        clear hx hnm hJ
        go_wp2_with (at_builtin; refine appStrW (by rfl) _ _ (by rfl) w1.heap.size _ _ _ (by rfl) (hown.out.alloc _) [.string x0] (by rfl) (by simp [Value.oneCell']) 1 wr.heap.size (new_cells (w := wr) (cs := #[.string x0]) (t := 9) rfl rfl) (by rfl) (by omega) (hbw.out.alloc _) ?_; intro g5 cap5 w5 ho5 hb5 hg5 hat5; have Ho5 := Lib.hid ho5; have Hb5 := Lib.hid hb5; clear ho5 hb5 hg5 hat5)
        go_roundw
        case rel => exact ⟨k + 1, by omega, by go_num, ⟨_, _, rfl, Lib.hid (by rw [nmL_succ, List.map_append, List.map_cons, List.map_nil, HNM.out]; exact Ho5.out)⟩, Hb5⟩
        case measure => simp [intOf]; omega
      · obtain rfl : k = m := by omega
        obtain ⟨g, rfl⟩ : ∃ g, ao = some ⟨g, 0, none⟩ := by
          rcases own_form hown.out with h | h
          · omega
          · exact h
        have hj := nmJ_join S zs k
        have hsz := nmJ_size HQ.out HL.out k (Nat.le_refl _)
        have HJ := Lib.hid (Try.strings_Join g 0 co (nmL S zs k) sepB wr (fun j x hx => by
          rw [Nat.zero_add, hown.out.cellAt j (by have := (List.getElem?_eq_some_iff.1 hx).1; rw [nmL_length] at this; omega), List.getElem?_map, hx]; rfl)
          (own_block hown.out rfl).2 (by rw [nmL_length]; omega) (by rw [nmL_length]; exact own_le_cap hown.out) (by rw [← hj, size_list]; omega))
        rw [nmL_length, ← hj] at HJ
        clear hj hsz
        go_wp2_with fail
        refine HJ.out.mono ?_
        rintro e w9 ⟨rfl, hb9⟩
        have HB9 := Lib.hid (HBr.out.step hb9)
        clear hb9
        go_wp2_with fail
        go_ret
        exact ⟨rfl, HB9.out.1⟩
end Go.Proofs.Ythihhkabbdkohaa
