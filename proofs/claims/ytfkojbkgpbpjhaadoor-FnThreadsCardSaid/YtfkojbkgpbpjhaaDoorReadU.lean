/-
  The contract of readNumbers of the program, at two numbers with an 'x' between. Conditions: the listed tables are laid.
-/
import Derived.Test.YtfkojbkgpbpjhaaDoorReadT
import Derived.Test.YtfkojbkgpbpjhaaDoorReadH
import Derived.Test.YtfkojbkgpbpjhaaDoorApp
namespace Go.Proofs.YtfkojbkgpbpjhaaDoor
open Go.ChangeShapes Go.WideShapes Go.ChangeAt Go.RowKit Go.Deep Go.Shelf Go.Sort

theorem splitN_any (s : ByteArray) (w : World) (hs : s.size ≤ 1048576) (m : Int) (hm : w.cell? ⟨1, 0, none⟩ = some (.int .i64 m)) :
    Calls Tryd.prog 98 #[.string s, .string ⟨#[120]⟩, .int .i64 3] w fun e w' => ∃ n cap : Nat, e = .returned (.slice (some ⟨w.heap.size, 0, none⟩) n cap) ∧ (n = 2 ↔ (partsC 120 s).length = 2) ∧ Bel w.heap.size w w' ∧ w.heap.size < w'.heap.size ∧ ∀ q0 q1, partsC 120 s = [q0, q1] → w'.cell? ⟨w.heap.size, 0, none⟩ = some (.string q0) ∧ w'.cell? ⟨w.heap.size, 1, none⟩ = some (.string q1) := by
  refine (Tryd.strings_SplitN s ⟨#[120]⟩ 3 m w (by omega) hm (by decide) (by omega) (by omega)).mono ?_
  rintro e w' ⟨rfl, rfl⟩
  have hc := List.count_le_length (a := (120 : UInt8)) (l := s.data.toList)
  rw [← Lib.size_eq] at hc
  have hl := parts_len 120 s
  have hn : (Lib.splitB ⟨#[120]⟩ 0 (min 3 (s.size + 1) - 1) s).length = min (min 3 (s.size + 1) - 1) (s.data.toList.count 120) + 1 := by
    have h := congrArg List.length (Lib.splitB_data ⟨#[120]⟩ 0 (min 3 (s.size + 1) - 1) s)
    rw [List.length_map] at h
    exact h.trans (splitK_len 120 _ _)
  refine ⟨_, _, rfl, by omega, (Bel.refl w).alloc _, by simp, fun q0 q1 hq => ?_⟩
  have h2 : s.data.toList.count 120 = 1 := by rw [hq] at hl; simp only [List.length_cons, List.length_nil] at hl; omega
  rw [splitB_parts 120 s _ (by omega), hq]
  constructor <;> simp [Lib.cellsOf, go_sem]

/-- How readNumbers ends. -/
def NumsPost (w : World) (b0 b1 : Bool) (n0 n1 : Int) (e : Ending) (w' : World) : Prop :=
  Bel w.heap.size w w' ∧ (((b0 && b1) = true ∧ ∃ g cap : Nat, e = .returned (.tuple #[.slice (some ⟨g, 0, none⟩) 2 cap, .bool true]) ∧ w'.ownsRow w.heap.size 2 1 (.slice (some ⟨g, 0, none⟩) 2 cap) 2 [.int .i64 n0, .int .i64 n1]) ∨ ((b0 && b1) = false ∧ e = .returned (.tuple #[.slice none 0 0, .bool false])))

set_option maxRecDepth 100000 in
set_option maxHeartbeats 3200000 in
theorem readNumbers_len (s : ByteArray) (w : World) (hs : s.size ≤ 1048576) (ht : Tabs w) (h : (partsC 120 s).length ≠ 2) :
    Calls Tryd.prog 59 #[.string s, .string ⟨#[120]⟩, .int .i64 2] w fun e w' => e = .returned (.tuple #[.slice none 0 0, .bool false]) ∧ Bel w.heap.size w w' := by
  obtain ⟨m, hm⟩ := ht.2.2.2
  have HS := Lib.hid (splitN_any s w hs m hm)
  have H := Lib.hid h
  clear ht hm h
  go_enter Tryd.func59, Tryd.ntmps59
  go_wp2_with fail
  refine HS.out.mono ?_
  rintro e w1 ⟨n, cap, rfl, hn, hb, _, _⟩
  have hn' : ¬ (n : Int) = 2 := fun e => H.out (hn.1 (by omega))
  have HB := Lib.hid hb
  clear hn hb
  go_wp2_with fail
  go_ret2
  exact ⟨rfl, HB.out⟩

set_option maxRecDepth 100000 in
set_option maxHeartbeats 3200000 in
theorem readNumbers_two (s : ByteArray) (w : World) (hs : s.size ≤ 1048576) (ht : Tabs w) (q0 q1 : ByteArray) (hq : partsC 120 s = [q0, q1]) (n0 n1 : Int) (b0 b1 : Bool) (h0 : NumRes q0 n0 b0) (h1 : NumRes q1 n1 b1) :
    Calls Tryd.prog 59 #[.string s, .string ⟨#[120]⟩, .int .i64 2] w (NumsPost w b0 b1 n0 n1) := by
  obtain ⟨m, hm⟩ := ht.2.2.2
  have HS := Lib.hid (splitN_any s w hs m hm)
  have K0 : q0.size ≤ 1048576 := Nat.le_trans (part_size (c := 120) (s := s) (by rw [hq]; simp)) hs
  have K1 : q1.size ≤ 1048576 := Nat.le_trans (part_size (c := 120) (s := s) (by rw [hq]; simp)) hs
  have HD0 := Lib.hid (fun W (hb : Bel w.heap.size w W) => readDecimal_any q0 W K0 (ht.below hb.1) n0 b0 h0)
  have HD1 := Lib.hid (fun W (hb : Bel w.heap.size w W) => readDecimal_any q1 W K1 (ht.below hb.1) n1 b1 h1)
  have HQ := Lib.hid hq
  clear ht hm K0 K1 h0 h1 hq
  go_enter Tryd.func59, Tryd.ntmps59
  go_wp2_with fail
  refine HS.out.mono ?_
  rintro e w1 ⟨n, cap, rfl, hn, hb, hlt, hcs⟩
  obtain rfl : n = 2 := hn.2 (by rw [HQ.out]; rfl)
  obtain ⟨c0, c1⟩ := hcs q0 q1 HQ.out
  have HC0 := Lib.hid c0
  have HC1 := Lib.hid c1
  have HB1 := Lib.hid hb
  have HLT := Lib.hid hlt
  have HO1 := Lib.hid (own_none' w1 w1.heap.size 2 1 (Nat.le_refl _))
  have HB2 := Lib.hid ((Bel.refl w1).alloc (.cells #[] 2))
  clear hn hb hcs c0 c1 hlt
  go_wp2_with fail
  go_loopw [9, 11, 12, 13, 26] (fun v _ _ _ u wr => ∃ i g cc : Nat, i ≤ 2 ∧ u = .int .i64 (i : Int) ∧ v = .slice (some ⟨g, 0, none⟩) i cc ∧ Hid ((1 ≤ i → b0 = true) ∧ (2 ≤ i → b1 = true)) ∧ Hid (wr.ownsRow w1.heap.size 2 1 (.slice (some ⟨g, 0, none⟩) i cc) i ([.int .i64 n0, .int .i64 n1].take i)) ∧ Hid (Bel w1.heap.size w1 wr)) (fun _ _ _ _ u _ => 2 - (intOf u).toNat)
  case atStart => exact ⟨0, w1.heap.size, 0, by omega, rfl, rfl, Lib.hid ⟨fun h => by omega, fun h => by omega⟩, HO1, HB2⟩
  case round =>
    obtain ⟨i, g, cc, hi, rfl, rfl, hbs, hown, hbw⟩ := hrel
    have k0 : wr.cell? ⟨w.heap.size, 0, none⟩ = some (.string q0) := (hbw.out.1.cell HLT.out).trans HC0.out
    have k1 : wr.cell? ⟨w.heap.size, 1, none⟩ = some (.string q1) := (hbw.out.1.cell HLT.out).trans HC1.out
    obtain rfl | rfl | rfl : i = 0 ∨ i = 1 ∨ i = 2 := by omega
    · have HD := Lib.hid (HD0.out wr (Bel.step HB1.out hbw.out.1))
      cases b0 with
      | false =>
        go_wp2_with (go_at_call 69; refine HD.out.mono ?_; rintro e w2 ⟨rfl, hb2⟩; have HB4 := Lib.hid (Bel.step hbw.out hb2); clear hb2)
        go_ret2
        exact ⟨Bel.step HB1.out HB4.out.1, .inr ⟨by simp, rfl⟩⟩
      | true =>
        go_wp2_with (first | (go_at_call 69; refine HD.out.mono ?_; rintro e w2 ⟨rfl, hb2⟩; have HB4 := Lib.hid (Bel.step hbw.out hb2); have HO4 := Lib.hid (own_below hown.out hb2); clear hb2) | (at_builtin; refine appI (by rfl) _ _ (by rfl) w1.heap.size _ 0 _ (by rfl) HO4.out n0 1 (by rfl) (by omega) HB4.out ?_; intro g5 cap5 w5 ho5 hb5; have Ho5 := Lib.hid ho5; have Hb5 := Lib.hid hb5; clear ho5 hb5))
        go_roundw
        case rel => exact ⟨1, g5, cap5, by omega, rfl, rfl, Lib.hid ⟨(fun _ => by first | trivial | rfl), (fun h => by omega)⟩, Lib.hid Ho5.out, Hb5⟩
        case measure => simp [intOf]
    · have HD := Lib.hid (HD1.out wr (Bel.step HB1.out hbw.out.1))
      cases b1 with
      | false =>
        go_wp2_with (go_at_call 69; refine HD.out.mono ?_; rintro e w2 ⟨rfl, hb2⟩; have HB4 := Lib.hid (Bel.step hbw.out hb2); clear hb2)
        go_ret2
        exact ⟨Bel.step HB1.out HB4.out.1, .inr ⟨by simp, rfl⟩⟩
      | true =>
        go_wp2_with (first | (go_at_call 69; refine HD.out.mono ?_; rintro e w2 ⟨rfl, hb2⟩; have HB4 := Lib.hid (Bel.step hbw.out hb2); have HO4 := Lib.hid (own_below hown.out hb2); clear hb2) | (at_builtin; refine appI (by rfl) _ _ (by rfl) w1.heap.size _ 1 _ (by rfl) HO4.out n1 1 (by rfl) (by omega) HB4.out ?_; intro g5 cap5 w5 ho5 hb5; have Ho5 := Lib.hid ho5; have Hb5 := Lib.hid hb5; clear ho5 hb5))
        go_roundw
        case rel => exact ⟨2, g5, cap5, by omega, rfl, rfl, Lib.hid ⟨(fun _ => hbs.out.1 (by omega)), (fun _ => by first | trivial | rfl)⟩, Lib.hid Ho5.out, Hb5⟩
        case measure => simp [intOf]
    · have HT := Lib.hid (show (b0 && b1) = true by rw [hbs.out.1 (by omega), hbs.out.2 (by omega)]; rfl)
      go_wp2_with fail
      go_ret2
      exact ⟨Bel.step HB1.out hbw.out.1, .inl ⟨HT.out, g, cc, rfl, own_base hown.out (Nat.le_trans HB1.out.1.size (Nat.le_refl _))⟩⟩
end Go.Proofs.YtfkojbkgpbpjhaaDoor
