/-
  Contracts of BestRows and LeastHeight, both sides. No condition of its own.
-/
import Derived.Test.YtoomkeicfdmdoaaNestS
import Derived.Test.YtoomkeicfdmdoaaBlock
import Derived.Deep.RegionHeld3
namespace Go.Proofs.Ytoomkeicfdmdoaa
open Go.ChangeShapes Go.WideShapes Go.ChangeAt Go.RowKit Go.Deep Go.Shelf

def nest0 (zs : List Int) (roll : Int) : List Int × Int := nestTo roll zs [] [] [] 0 ([], -1)
def nestL (zs : List Int) (roll : Int) (n : Nat) : List Int := if blocksB zs roll n then (nest0 zs roll).1 else []
def nestH (zs : List Int) (roll : Int) (n : Nat) : Int := if blocksB zs roll n then (nest0 zs roll).2 else 0
def nestC (zs : List Int) (roll : Int) (n : Nat) : Int := if blocksB zs roll n then 0 else 1
theorem nrowEnd_fail {w w' : World} {E k : Nat} {c : Int} (hb : Below w.heap.size w w') : RowEnd w E k [] c (.returned (.tuple #[.slice none 0 0, .int .i64 c])) w' :=
  ⟨none, 0, 0, rfl, by simp, by omega, World.ownsRow_nil _ _ _ _, hb⟩
theorem blocks_between {zs : List Int} {roll : Int} {n : Nat} (hl : zs.length = n * 2) (hr : roll ≤ 5000) (h : ∀ k, k < n → blockAt zs roll k = true) : Between zs 5000 := fun j => by
  by_cases hj : j < zs.length
  · have hb := h (j / 2) (by omega)
    simp only [blockAt, Bool.and_eq_true, inB_true] at hb
    rcases Nat.mod_two_eq_zero_or_one j with e | e
    · rw [show j / 2 * 2 = j by omega] at hb
      omega
    · rw [show j / 2 * 2 + 1 = j by omega] at hb
      omega
  · have : zs.getD j 0 = 0 := by simp [List.getElem?_eq_none (by omega : zs.length ≤ j)]
    rw [this]; omega
theorem nest0_len {zs : List Int} {roll : Int} {n : Nat} (hl : zs.length = n * 2) (hn : n ≤ 9) : (nest0 zs roll).1.length ≤ 9 := by
  unfold nest0
  exact nestTo_len roll n zs [] [] [] 0 ([], -1) 9 hl (by simp; omega) (by simp)
theorem between_nil : Between [] 5000 := fun j => by simp
theorem pad9_nil : pad9 [] = List.replicate 9 0 := by simp [pad9]
theorem nzeros (n : Nat) : zeros n = nints (List.replicate n 0) := by simp [zeros, nints]
theorem nown_made (W : World) (n x B : Nat) (hn : n ≤ 1048576) (hx : x = W.heap.size) (hB : B ≤ W.heap.size) : (W.alloc (.cells (madeCells #[Value.int .i64 0] n) 2)).ownsRow B 2 1 (.slice (some ⟨x, 0, none⟩) n n) n (nints (List.replicate n 0)) := by
  subst hx
  have := World.ownsRow_lit (size := 1) (e := 2) W (madeCells #[Value.int .i64 0] n) n (Nat.le_refl _) (by unfold maxLen; omega) (by rw [size_madeCells]; omega)
  rw [toList_madeCells_one] at this
  rw [← nzeros]
  exact own_base this hB
theorem nown_lit0 (W : World) (x B E k : Nat) (hx : x = W.heap.size) (hB : B ≤ W.heap.size) : (W.alloc (.cells #[] E)).ownsRow B E k (.slice (some ⟨x, 0, none⟩) 0 0) 0 (nints []) := by
  subst hx
  exact own_base (own_none W E k) hB
theorem nown_nils (W : World) (B E k : Nat) : W.ownsRow B E k (.slice none 0 0) 0 (nints []) := World.ownsRow_nil _ _ _ _
theorem ngrown_set (W : World) (b o : Nat) (x : Value) : W.grownBy (W.setCell ⟨b, o, none⟩ x) (some b) := by
  unfold World.setCell
  refine ⟨rfl, rfl, rfl, ?_, fun k hk hne => ?_⟩
  · simp
  · simp only [Array.getElem?_modify]
    rw [if_neg]
    intro e
    exact hne (by rw [e])
theorem own_box7 (W : World) (x B E : Nat) (v0 v1 v2 v3 v4 v5 v6 : Value) (hx : x = W.heap.size) (hB : B ≤ W.heap.size) : (W.alloc (.cells #[v0, v1, v2, v3, v4, v5, v6] E)).ownsRow B E 7 (.slice (some ⟨x, 0, none⟩) 1 1) 1 [v0, v1, v2, v3, v4, v5, v6] := by
  subst hx
  exact own_base (World.ownsRow_lit (base := W.heap.size) (size := 7) (e := E) W #[v0, v1, v2, v3, v4, v5, v6] 1 (Nat.le_refl _) (by unfold maxLen; omega) (by simp)) hB
theorem own_seven {W : World} {B E p : Nat} {v0 v1 v2 v3 v4 v5 v6 : Value} (h : W.ownsRow B E 7 (.slice (some ⟨p, 0, none⟩) 1 1) 1 [.slice none 0 0, .int .i64 0, .slice none 0 0, .slice none 0 0, .slice none 0 0, .slice none 0 0, .int .i64 0]) :
    (((((((W.setCell ⟨p, 0, none⟩ v0).setCell ⟨p, 1, none⟩ v1).setCell ⟨p, 2, none⟩ v2).setCell ⟨p, 3, none⟩ v3).setCell ⟨p, 4, none⟩ v4).setCell ⟨p, 5, none⟩ v5).setCell ⟨p, 6, none⟩ v6).ownsRow B E 7 (.slice (some ⟨p, 0, none⟩) 1 1) 1 [v0, v1, v2, v3, v4, v5, v6] :=
  (((((((h.stored 0 v0).1.stored 1 v1).1.stored 2 v2).1.stored 3 v3).1.stored 4 v4).1.stored 5 v5).1.stored 6 v6).1
theorem nown_set_ne {W : World} {B E k n b o : Nat} {v x : Value} {cs : List Value} (hne : v.ownBlock ≠ some b) (h : W.ownsRow B E k v n cs) : (W.setCell ⟨b, o, none⟩ x).ownsRow B E k v n cs :=
  own_no h (ngrown_set W b o x) hne
/-- What the searches hand over: the pointer to a struct, with the best rows and the least length. -/
def BestEnd (w : World) (zs : List Int) (roll : Int) (e : Ending) (w' : World) : Prop :=
  ∃ (p n c : Nat) (a : Option Addr), e = .returned (.pointer (some ⟨p, 0, none⟩)) ∧ n ≤ 9 ∧ (nest0 zs roll).1.length = n ∧ w'.cell? ⟨p, 5, none⟩ = some (.slice a n c) ∧ w'.cell? ⟨p, 6, none⟩ = some (.int .i64 (nest0 zs roll).2) ∧ w'.ownsRow w.heap.size 2 1 (.slice a n c) n (nints (nest0 zs roll).1) ∧ Below w.heap.size w w'

set_option maxRecDepth 100000 in
set_option maxHeartbeats 3200000 in
theorem l11Best_any (w : World) (a : Option Addr) (n c : Nat) (zs : List Int) (roll : Int) (hl : zs.length = n * 2) (ha : CellsAt w a (zs.map (Value.int .i64))) (hok : blocksB zs roll n = true) :
    Calls Try.prog 63 #[.slice a n c, .int .i64 roll] w (BestEnd w zs roll) := by
  obtain ⟨⟨r0, r1⟩, n9, hall⟩ := blocksB_parts hok
  have hzb := blocks_between hl r1 hall
  have hlen := nest0_len (roll := roll) hl n9
  obtain ⟨W, hW⟩ : ∃ W, W = (((w.alloc (.cells #[] 2)).alloc (.cells #[] 2)).alloc (.cells #[] 2)).alloc (.cells #[.slice a n c, .int .i64 roll, .slice (some ⟨w.heap.size, 0, none⟩) 0 0, .slice (some ⟨w.heap.size + 1, 0, none⟩) 0 0, .slice (some ⟨w.heap.size + 1 + 1, 0, none⟩) 0 0, .slice none 0 0, .int .i64 (-1)] 68) := ⟨_, rfl⟩
  have hB : Bel w.heap.size w W := by rw [hW]; exact ((((Bel.refl w).alloc _).alloc _).alloc _).alloc _
  have hM : NestX W w.heap.size (w.heap.size + 1 + 1 + 1) (w.heap.size + 1 + 1) w.heap.size (w.heap.size + 1) (.slice a n c) roll 0 0 0 0 0 0 [] [] [] [] (-1) := by
    rw [hW]
    refine ⟨.slice none 0 0, 0, own_box7 _ _ _ _ _ _ _ _ _ _ _ (by simp) (by simp; omega), ?_, ?_, ?_, nown_nils _ _ _ _, (by intro b e; cases e), by omega, by omega, by omega, by omega, by omega, by omega⟩
    · exact (nown_lit0 _ _ _ _ _ (by simp) (by simp; omega)).alloc _
    · exact (((nown_lit0 _ _ _ _ _ rfl (Nat.le_refl _)).alloc _).alloc _).alloc _
    · exact ((nown_lit0 _ _ _ _ _ (by simp) (by simp)).alloc _).alloc _
  have hw := nestWalk_any w (w.heap.size + 1 + 1 + 1) n c a zs roll hl n9 ha hzb r0 r1 n 0 0 0 [] [] [] [] (-1) (w.heap.size + 1 + 1) w.heap.size (w.heap.size + 1) 0 0 0 W (by omega) rfl rfl (by omega) between_nil between_nil rfl (by omega) (by omega) (by omega) (by omega) hB hM
  rw [Nat.zero_mul, List.drop_zero, show nestTo roll zs [] [] [] 0 ([], -1) = nest0 zs roll from rfl] at hw
  obtain ⟨⟨rb, rl⟩, hr⟩ : ∃ r, nest0 zs roll = r := ⟨_, rfl⟩
  rw [hr] at hw hlen
  have HR := Lib.hid hr
  have HW := Lib.hid hw
  have HWW := Lib.hid hW
  clear hr hw hW hB hM hl ha hok hall hzb
  go_enter Try.func63, Try.ntmps63
  go_wp2_with fail
  rw [← HWW.out]
  refine HW.out.mono ?_
  rintro e w1 ⟨rfl, hb1, _, gp1, gw1, gh1, cp1, cw1, ch1, _, hm1⟩
  obtain ⟨bv, nb, k1, k2, k3, k4, k5, _⟩ := hm1
  obtain ⟨ab, cb, rfl⟩ := own_cap k5
  have c5 : w1.cell? ⟨w.heap.size + 1 + 1 + 1, 5, none⟩ = some (.slice ab nb cb) := by rw [k1.cellAt 5 (by omega)]; rfl
  have c6 : w1.cell? ⟨w.heap.size + 1 + 1 + 1, 6, none⟩ = some (.int .i64 rl) := by rw [k1.cellAt 6 (by omega)]; rfl
  have hnb := k5.1
  simp at hnb
  have HE := Lib.hid (show BestEnd w zs roll (.returned (.pointer (some ⟨w.heap.size + 1 + 1 + 1, 0, none⟩))) w1 from ⟨w.heap.size + 1 + 1 + 1, nb, cb, ab, rfl, by rw [← hnb]; exact hlen, by rw [HR.out]; exact hnb, c5, by rw [HR.out]; exact c6, by rw [HR.out]; exact k5, hb1.1⟩)
  clear k1 k2 k3 k4 k5 c5 c6 hb1 hnb
  go_wp2_with fail
  go_ret
  exact HE.out

set_option maxRecDepth 100000 in
set_option maxHeartbeats 3200000 in
theorem spec_BestRows (w : World) (a : Option Addr) (n c : Nat) (zs : List Int) (hl : zs.length = n * 2) (_ : n ≤ 1048576) (hc : CellsAt w a (zs.map (Value.int .i64))) (_ : ∀ z ∈ zs, (Lit.int .i64 z).wf = true) (roll : Int) (_ : (Lit.int .i64 roll).wf = true) :
    Calls Try.prog 32 #[.slice a n c, .int .i64 roll] w (RowEnd w 2 1 (nestL zs roll n) (nestC zs roll n)) := by
  have h1 := specBlocksOk a n c zs roll w hl hc
  cases hok : blocksB zs roll n with
  | false =>
    rw [show nestL zs roll n = [] by simp [nestL, hok], show nestC zs roll n = 1 by simp [nestC, hok]]
    rw [hok] at h1
    clear hok hl hc
    go_enter Try.func32, Try.ntmps32
    go_wp2_with (go_at_call 62; refine h1.mono ?_; rintro e w1 ⟨rfl, hb1⟩)
    go_ret2
    exact nrowEnd_fail hb1
  | true =>
    rw [show nestL zs roll n = (nest0 zs roll).1 by simp [nestL, hok], show nestC zs roll n = 0 by simp [nestC, hok]]
    have H2 := Lib.hid (fun W (e : Below w.heap.size w W) => l11Best_any W a n c zs roll hl (hc.below e) hok)
    rw [hok] at h1
    have H1 := Lib.hid h1
    clear hok hl hc h1
    go_enter Try.func32, Try.ntmps32
    go_wp2_with fail
    refine H1.out.mono ?_
    rintro e w1 ⟨rfl, hb1⟩
    have HB1 := Lib.hid hb1
    clear hb1
    go_wp2_with fail
    refine (H2.out w1 HB1.out).mono ?_
    rintro e w2 ⟨p, nb, cb, ab, rfl, hn9, hlen, c5, c6, hown, hb2⟩
    have HE := Lib.hid (show RowEnd w 2 1 (nest0 zs roll).1 0 (.returned (.tuple #[.slice ab nb cb, .int .i64 0])) w2 from ⟨ab, nb, cb, rfl, by omega, by omega, own_base hown HB1.out.size, HB1.out.trans (hb2.mono HB1.out.size)⟩)
    clear hlen c6 hown hb2
    go_wp2_with fail
    go_ret2
    exact HE.out
set_option maxRecDepth 100000 in
set_option maxHeartbeats 3200000 in
theorem spec_LeastHeight (w : World) (a : Option Addr) (n c : Nat) (zs : List Int) (hl : zs.length = n * 2) (_ : n ≤ 1048576) (hc : CellsAt w a (zs.map (Value.int .i64))) (_ : ∀ z ∈ zs, (Lit.int .i64 z).wf = true) (roll : Int) (_ : (Lit.int .i64 roll).wf = true) :
    Calls Try.prog 28 #[.slice a n c, .int .i64 roll] w fun e w' => e = .returned (.tuple #[.int .i64 (nestH zs roll n), .int .i64 (nestC zs roll n)]) ∧ Below w.heap.size w w' := by
  have h1 := specBlocksOk a n c zs roll w hl hc
  cases hok : blocksB zs roll n with
  | false =>
    rw [show nestH zs roll n = 0 by simp [nestH, hok], show nestC zs roll n = 1 by simp [nestC, hok]]
    rw [hok] at h1
    clear hok hl hc
    go_enter Try.func28, Try.ntmps28
    go_wp2_with (go_at_call 62; refine h1.mono ?_; rintro e w1 ⟨rfl, hb1⟩)
    go_ret2
    exact ⟨rfl, hb1⟩
  | true =>
    rw [show nestH zs roll n = (nest0 zs roll).2 by simp [nestH, hok], show nestC zs roll n = 0 by simp [nestC, hok]]
    have H2 := Lib.hid (fun W (e : Below w.heap.size w W) => l11Best_any W a n c zs roll hl (hc.below e) hok)
    rw [hok] at h1
    have H1 := Lib.hid h1
    clear hok hl hc h1
    go_enter Try.func28, Try.ntmps28
    go_wp2_with fail
    refine H1.out.mono ?_
    rintro e w1 ⟨rfl, hb1⟩
    have HB1 := Lib.hid hb1
    clear hb1
    go_wp2_with fail
    refine (H2.out w1 HB1.out).mono ?_
    rintro e w2 ⟨p, nb, cb, ab, rfl, hn9, hlen, c5, c6, hown, hb2⟩
    have HE := Lib.hid (HB1.out.trans (hb2.mono HB1.out.size))
    clear hlen c5 hown hb2
    go_wp2_with fail
    go_ret2
    exact ⟨rfl, HE.out⟩
end Go.Proofs.Ytoomkeicfdmdoaa
