/-
  Contracts of the program's FirstRows, and of the order of all blocks. No condition of its own.
-/
import Derived.Test.YtoomkeicfdmdoaaFitI
import Derived.Test.YtoomkeicfdmdoaaApp2
namespace Go.Proofs.Ytoomkeicfdmdoaa
open Go.ChangeShapes Go.WideShapes Go.ChangeAt Go.RowKit Go.Deep Go.Shelf

theorem infoN : (Try.prog.info? 3).map (fun i => (i.zero, i.size, i.bytes)) = some (some (.int .i64 0), 1, 8) := by kernel_rfl
set_option maxHeartbeats 800000 in
/-- 'append(out, i)' to a list of places. -/
theorem appN {w0 W : World} {ops : Array Oper} {rest : List Oper} {o : Oper} {a : Act} {Q : Exit → Act → World → Prop} (hgd : o.guard = none) (s x : Operand)
    (ho : o.op = .call { callee := .builtin .append, args := #[s, x], argTypes := #[79, 79] }) (B : Nat) (v : Value) (n : Nat) (xs : List Value) (hs : a.eval s = v) (hown : W.ownsRow B 3 1 v n xs)
    (z : Int) (c H : Nat) (hH : W.heap.size = H) (hx : a.eval x = .slice (some ⟨H, 0, none⟩) 1 c) (hn : n ≤ 1099511627776) (hb : Bel B w0 W)
    (h : ∀ g cap w', w'.ownsRow B 3 1 (.slice (some ⟨g, 0, none⟩) (n + 1) cap) (n + 1) (xs ++ [.int .i64 z]) → Bel B w0 w' → W.grownBy w' v.ownBlock → (v.ownBlock = some g ∨ W.heap.size ≤ g) → wpList Try.prog ops Q rest (a.put o.dst (.slice (some ⟨g, 0, none⟩) (n + 1) cap)) w') :
    wpList Try.prog ops Q (o :: rest) a (W.alloc (.cells #[.int .i64 z] 3)) := by
  subst hH
  obtain ⟨i, hi, h0, h1, h2⟩ := info_parts infoN
  refine wpList_append_lies _ hgd s x 79 ho B 3 i (.int .i64 0) 1 8 Try.underlying79 hi h0 h1 h2 rfl (by omega) v n xs hs (hown.alloc _) ⟨W.heap.size, 0, none⟩ 1 c [.int .i64 z] hx rfl ?_ ?_ (by omega) (by unfold maxLen; omega) (by omega) (by have := hb.2; simp; omega) _ rfl ?_
  · intro j u hj
    match j, hj with
    | 0, hj => simp at hj; subst hj; simp [Addr.add]
  · intro u hu
    simp at hu
    subst hu
    rfl
  · intro g cap w' h3 h4 h5 _
    refine h g cap w' h3 ((hb.alloc _).grown h4 (fun k hk => (own_block hown hk).1)) ?_ ?_
    · exact ⟨h4.os, h4.tape, h4.output, Nat.le_trans (by simp) h4.size, fun i hi hne => (h4.block i (by simp; omega) hne).trans ((World.grownBy_alloc W _ none).block i hi (by simp))⟩
    · rcases h5 with h5 | h5
      · exact .inl h5
      · exact .inr (by rw [h5]; simp)
theorem nats_snoc (k : Nat) : nats (List.range k) ++ [.int .i64 (k : Int)] = nats (List.range (k + 1)) := by simp [nats, List.range_succ]
set_option maxHeartbeats 1600000 in
theorem inOrder_any (w : World) (a : Option Addr) (n c : Nat) (hn : n ≤ 1048576) : Calls Try.prog 71 #[.slice a n c] w fun e w' => ∃ g cap, e = .returned (.slice (some ⟨g, 0, none⟩) n cap) ∧ w'.ownsRow w.heap.size 3 1 (.slice (some ⟨g, 0, none⟩) n cap) n (nats (List.range n)) ∧ Below w.heap.size w w' := by
  have HO0 := Lib.hid (own_none' w w.heap.size 3 1 (Nat.le_refl _))
  have HB0 := Lib.hid ((Bel.refl w).alloc (.cells #[] 3))
  go_enter Try.func71, Try.ntmps71
  go_wp2_with fail
  go_loopw [3, 4, 8] (fun v _ u wr => ∃ k : Nat, k ≤ n ∧ u = .int .i64 k ∧ ∃ g cap : Nat, v = .slice (some ⟨g, 0, none⟩) k cap ∧ Hid (wr.ownsRow w.heap.size 3 1 (.slice (some ⟨g, 0, none⟩) k cap) k (nats (List.range k))) ∧ Hid (Bel w.heap.size w wr)) (fun _ _ u _ => n - (intOf u).toNat)
  case atStart => exact ⟨0, Nat.zero_le _, rfl, w.heap.size, 0, rfl, HO0, HB0⟩
  case round =>
    obtain ⟨k, hk, rfl, g, cap, rfl, ho, hbw⟩ := hrel
    by_cases hlt : k < n
    · have hlt' : (k : Int) < (n : Int) := by omega
      go_wp2_with (at_builtin; refine appN (by rfl) _ _ (by rfl) w.heap.size _ _ _ (by rfl) ho.out _ 1 wr.heap.size (by simp) (by rfl) (by omega) hbw.out ?_; intro g5 cap5 w5 ho5 hb5 _ _; have Ho5 := Lib.hid ho5; have Hb5 := Lib.hid hb5; clear ho5 hb5)
      go_roundw
      case rel => exact ⟨k + 1, by omega, by go_num, g5, cap5, rfl, Lib.hid (by have h := Ho5.out; rw [nats_snoc] at h; exact h), Hb5⟩
      case measure => simp [intOf]; omega
    · obtain rfl : k = n := by omega
      go_wp2_with fail
      go_ret
      exact ⟨g, cap, rfl, ho.out, hbw.out.1⟩
def fitL (zs : List Int) (roll : Int) (n : Nat) : List Int := if blocksB zs roll n then firstFit zs roll (List.range n) (List.replicate 9 0) (List.replicate n 0) else []
def tallL (zs : List Int) (roll : Int) (n : Nat) : List Int := if blocksB zs roll n then firstFit zs roll (tallTo zs n) (List.replicate 9 0) (List.replicate n 0) else []
set_option maxHeartbeats 3200000 in
theorem impl_FirstRows (w : World) (a : Option Addr) (n c : Nat) (zs : List Int) (hl : zs.length = n * 2) (hn : n ≤ 1048576) (hc : CellsAt w a (zs.map (Value.int .i64))) (roll : Int) :
    Calls Try.prog 39 #[.slice a n c, .int .i64 roll] w (RowEnd w 2 1 (fitL zs roll n) (nestC zs roll n)) := by
  have h1 := implBlocksOk a n c zs roll w hl (by omega) hc
  cases hok : blocksB zs roll n with
  | false =>
    rw [show fitL zs roll n = [] by simp [fitL, hok], show nestC zs roll n = 1 by simp [nestC, hok]]
    rw [hok] at h1
    clear hok hl hc
    go_enter Try.func39, Try.ntmps39
    go_wp2_with (go_at_call 44; refine h1.mono ?_; rintro e w1 ⟨rfl, hb1⟩)
    go_ret2
    exact nrowEnd_fail hb1
  | true =>
    rw [show fitL zs roll n = firstFit zs roll (List.range n) (List.replicate 9 0) (List.replicate n 0) by simp [fitL, hok], show nestC zs roll n = 0 by simp [nestC, hok]]
    have hlenR := (order_fine hok hl (List.Perm.refl _)).1
    have H2 := Lib.hid (fun W g cap (e : Below w.heap.size w W) (ho : CellsAt W (some ⟨g, 0, none⟩) (nats (List.range n))) => firstRowsI_any W a n c zs roll (some ⟨g, 0, none⟩) cap (List.range n) hl (hc.below e) hok (List.Perm.refl _) ho)
    rw [hok] at h1
    have H1 := Lib.hid h1
    generalize firstFit zs roll (List.range n) (List.replicate 9 0) (List.replicate n 0) = R at H2 hlenR ⊢
    have HL := Lib.hid hlenR
    clear hok hl hc h1 hlenR
    go_enter Try.func39, Try.ntmps39
    go_wp2_with fail
    refine H1.out.mono ?_
    rintro e w1 ⟨rfl, hb1⟩
    have HB1 := Lib.hid hb1
    clear hb1
    go_wp2_with fail
    refine (inOrder_any w1 a n c hn).mono ?_
    rintro e w2 ⟨g, cap, rfl, ho, hb2⟩
    have HB2 := Lib.hid (HB1.out.trans (hb2.mono HB1.out.size))
    have HO := Lib.hid (CellsAt.of_own ho)
    clear hb2 ho
    go_wp2_with fail
    refine (H2.out w2 g cap HB2.out HO.out).mono ?_
    rintro e w3 ⟨g3, rfl, ho3, hb3⟩
    have HE := Lib.hid (show RowEnd w 2 1 R 0 (.returned (.tuple #[.slice (some ⟨g3, 0, none⟩) n n, .int .i64 0])) w3 from ⟨_, n, n, rfl, by rw [HL.out]; omega, by omega, own_base ho3 HB2.out.size, HB2.out.trans (hb3.mono HB2.out.size)⟩)
    clear ho3 hb3
    go_wp2_with fail
    go_ret2
    exact HE.out
end Go.Proofs.Ytoomkeicfdmdoaa
