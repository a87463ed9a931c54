/-
  The laws' own helpers on slices of integers (to, eq, mark, held): contracts. No condition of its own.
-/
import Derived.Test.YtfkojbkgpbpjhaaDoorProg
import Derived.Test.YtfkojbkgpbpjhaaDoorBase
import Derived.Deep.OwnRows
import Derived.BigQuiet
import Derived.Deep.QuietTactic
import Derived.Outline
import Derived.KernelRfl
namespace Go.Proofs.YtfkojbkgpbpjhaaDoor
open Go.ChangeShapes Go.WideShapes Go.ChangeAt Go.RowKit Go.Deep

theorem infoI : (Tryd.prog.info? 2).map (fun i => (i.zero, i.size, i.bytes)) = some (some (.int .i64 0), 1, 8) := by kernel_rfl

/-- A new slice of n elements that holds the cells cs. -/
def NewRow (w : World) (E k n : Nat) (cs : List Value) (e : Ending) (w' : World) : Prop :=
  ∃ g, e = .returned (.slice (some ⟨g, 0, none⟩) n n) ∧ w'.ownsRow w.heap.size E k (.slice (some ⟨g, 0, none⟩) n n) n cs ∧ Below w.heap.size w w'

theorem set_fill (cs zr : List Value) (m : Nat) (u : Value) (hm : m < cs.length) (hz : zr.length = cs.length) (hu : cs[m]? = some u) :
    (cs.take m ++ zr.drop m).set m u = cs.take (m + 1) ++ zr.drop (m + 1) := by
  rw [List.set_append_right _ _ (by simp; omega)]
  have e1 : m - (cs.take m).length = 0 := by simp; omega
  rw [e1, List.drop_eq_getElem_cons (by omega), List.set_cons_zero, List.take_add_one, hu]
  simp

def zeros (n : Nat) : List Value := List.replicate n (.int .i64 0)
theorem length_zeros (n : Nat) : (zeros n).length = n := by simp [zeros]

theorem newRow_intro {w w' : World} {E k n g : Nat} {cs : List Value} (h : w'.ownsRow w.heap.size E k (.slice (some ⟨g, 0, none⟩) n n) n cs) (hb : Below w.heap.size w w') :
    NewRow w E k n cs (.returned (.slice (some ⟨g, 0, none⟩) n n)) w' := ⟨g, rfl, h, hb⟩

set_option maxHeartbeats 800000 in
theorem toInt64S_any (a : Option Addr) (n c : Nat) (zs : List Int) (w : World) (hz : zs.length = n) (hn : n ≤ 1048576) (hc : CellsAt w a (zs.map (Value.int .i64))) :
    Calls Tryd.prog 30 #[.slice a n c] w (NewRow w 2 1 n (zs.map (Value.int .i64))) := by
  have hmk := run_make_row' (P := Tryd.prog) 50 2 (.int .i64 0) 8 Tryd.underlying50 infoI rfl .i64 .i64 n (by omega) (by omega)
  have hst : (w.alloc (.cells (madeCells #[Value.int .i64 0] n) 2)).ownsRow w.heap.size 2 1 (.slice (some ⟨w.heap.size, 0, none⟩) n n) n (zeros n) := by
    have := World.ownsRow_lit (size := 1) (e := 2) w (madeCells #[Value.int .i64 0] n) n (Nat.le_refl _) (by unfold maxLen; omega) (by rw [size_madeCells]; omega)
    rw [toList_madeCells_one] at this
    exact this
  rcases hc with h0 | ⟨b, off, rfl, hb, hcell⟩
  · have hn0 : n ≤ 0 := by
      have : zs = [] := by simpa using h0
      rw [← hz, this]; simp
    have HS := Lib.hid hst
    have Hz := Lib.hid hz
    have H0 := Lib.hid h0
    clear hst hz h0
    go_enter Tryd.func30, Tryd.ntmps30
    go_wp2
    refine wp_loop_once ?_
    go_wp2
    go_ret
    have h1 : zs = [] := by simpa using H0.out
    subst h1
    have h2 : n = 0 := by omega
    subst h2
    exact newRow_intro HS.out ((Below.refl _ _).alloc (Nat.le_refl _) _)
  · have HS := Lib.hid hst
    have Hz := Lib.hid hz
    clear hst hz
    have Hc := Lib.hid hcell
    clear hcell
    go_enter Tryd.func30, Tryd.ntmps30
    go_wp2
    go_loopw [4] (fun i wr => ∃ k : Nat, k ≤ n ∧ i = .int .i64 k ∧ wr.ownsRow w.heap.size 2 1 (.slice (some ⟨w.heap.size, 0, none⟩) n n) n ((zs.map (Value.int .i64)).take k ++ (zeros n).drop k) ∧ Below w.heap.size w wr)
      (fun i _ => n - (intOf i).toNat)
    case atStart => exact ⟨0, Nat.zero_le _, rfl, by simpa using HS.out, (Below.refl _ _).alloc (Nat.le_refl _) _⟩
    case round =>
      obtain ⟨k, hk, rfl, hown, hbw⟩ := hrel
      by_cases hlt : k < n
      · have hcx : wr.cell? ⟨b, off + k, none⟩ = some (.int .i64 (zs.getD k 0)) := by
          rw [hbw.cell (p := ⟨b, off + k, none⟩) hb, Hc.out k (by simpa [Hz.out] using hlt)]
          simp [List.getElem?_eq_getElem (show k < zs.length by rw [Hz.out]; exact hlt)]
        obtain ⟨u, hu⟩ : ∃ u, wr.cell? ⟨w.heap.size, k, none⟩ = some u := by
          rw [hown.cellAt k (by omega)]
          exact ⟨_, List.getElem?_eq_getElem (by simp [length_zeros, Hz.out]; omega)⟩
        have hfz := hown.frozenAt k
        have hsd := hown.stored k (.int .i64 (zs.getD k 0))
        have Hs := Lib.hid hsd
        have Hb := Lib.hid hbw
        clear hsd hbw hown
        go_wp2
        go_roundw
        case rel =>
          refine ⟨k + 1, by omega, by go_num, ?_, Hb.out.grown Hs.out.2 Hb.out.size (by simp)⟩
          have h := Hs.out.1
          rw [set_fill _ _ _ _ (by simp [Hz.out]; exact hlt) (by simp [length_zeros, Hz.out]) (by simp [List.getElem?_eq_getElem (show k < zs.length by rw [Hz.out]; exact hlt)])] at h
          exact h
        case measure => simp [intOf]; omega
      · go_wp2
        go_ret
        have e : k = n := by omega
        subst e
        refine newRow_intro ?_ hbw
        have h := hown
        rw [List.take_of_length_le (by simp [Hz.out]), List.drop_of_length_le (by simp [length_zeros]), List.append_nil] at h
        exact h

/-! ### marks: k, k + 1, .. -/
def marks (k : Int) (n : Nat) : List Value := (List.range n).map fun i => .int .i64 (k + (i : Nat))
theorem length_marks (k : Int) (n : Nat) : (marks k n).length = n := by simp [marks]
theorem marks_at (k : Int) (n i : Nat) (h : i < n) : (marks k n)[i]? = some (.int .i64 (k + (i : Nat))) := by simp [marks, h]
theorem marks_set (k : Int) (cs : List Value) (m : Nat) (hm : m < cs.length) : (marks k m ++ cs.drop m).set m (.int .i64 (k + (m : Nat))) = marks k (m + 1) ++ cs.drop (m + 1) := by
  rw [List.set_append_right _ _ (by simp [length_marks])]
  rw [length_marks, Nat.sub_self, List.drop_eq_getElem_cons hm, List.set_cons_zero]
  simp [marks, List.range_succ]

theorem marks_set' (k : Int) (cs : List Value) (m : Nat) (z : Int) (hm : m < cs.length) (hz : z = k + (m : Nat)) : (marks k m ++ cs.drop m).set m (.int .i64 z) = marks k (m + 1) ++ cs.drop (m + 1) := by
  rw [hz]; exact marks_set k cs m hm

/-- What a marking leaves: the next number; the row holds the numbers; only its block has turned. -/
def Marked (w : World) (B E k : Nat) (v : Value) (n cnt : Nat) (k0 : Int) (e : Ending) (w' : World) : Prop :=
  e = .returned (.int .i64 (k0 + cnt)) ∧ w'.ownsRow B E k v n (marks k0 cnt) ∧ w.grownBy w' v.ownBlock

/-- The two forms of an owned row's value. -/
theorem own_form {w : World} {B E k n c : Nat} {a : Option Addr} {cs : List Value} (h : w.ownsRow B E k (.slice a n c) n cs) : n = 0 ∨ ∃ g, a = some ⟨g, 0, none⟩ := by
  rcases h.2 with ⟨_, h0⟩ | ⟨g, cap, cur, hv, _⟩
  · exact .inl h0
  · simp only [Value.slice.injEq] at hv
    exact .inr ⟨g, hv.1⟩

theorem cells_zero {w : World} {B E k n : Nat} {v : Value} {cs : List Value} (h : w.ownsRow B E k v n cs) (hn : n = 0) : cs = [] := by
  have := h.1
  rw [hn] at this
  simpa using this

set_option maxHeartbeats 800000 in
theorem eqInt64S_any (a b : Option Addr) (n c d : Nat) (zs : List Int) (w : World) (hz : zs.length = n) (hn : n ≤ 1073741824) (ha : CellsAt w a (zs.map (Value.int .i64))) (hb : CellsAt w b (zs.map (Value.int .i64))) :
    Calls Tryd.prog 32 #[.slice a n c, .slice b n d] w fun e w' => e = .returned (.bool true) ∧ Below w.heap.size w w' := by
  by_cases h0 : n = 0
  · subst h0
    have Hz := Lib.hid hz
    clear hz ha hb
    go_enter Tryd.func32, Tryd.ntmps32
    go_wp2
    refine wp_loop_once ?_
    go_wp2
    go_ret
    exact ⟨rfl, Below.refl _ _⟩
  · obtain ⟨b1, o1, rfl, hb1, hc1⟩ := ha.at_ (by simp; omega)
    obtain ⟨b2, o2, rfl, hb2, hc2⟩ := hb.at_ (by simp; omega)
    have Hz := Lib.hid hz
    have H1 := Lib.hid hc1
    have H2 := Lib.hid hc2
    clear hz hc1 hc2 ha hb
    have hnn : ((n : Int) != (n : Int)) = false := by simp
    go_enter Tryd.func32, Tryd.ntmps32
    go_wp2
    go_loopw [5] (fun i wr => ∃ k : Nat, k ≤ n ∧ i = .int .i64 k ∧ Below w.heap.size w wr) (fun i _ => n - (intOf i).toNat)
    case atStart => exact ⟨0, Nat.zero_le _, rfl, Below.refl _ _⟩
    case round =>
      obtain ⟨k, hk, rfl, hbw⟩ := hrel
      by_cases hlt : k < n
      · have hx1 : wr.cell? ⟨b1, o1 + k, none⟩ = some (.int .i64 (zs.getD k 0)) := by
          rw [hbw.cell (p := ⟨b1, o1 + k, none⟩) hb1, H1.out k (by simpa [Hz.out] using hlt)]
          simp [List.getElem?_eq_getElem (show k < zs.length by rw [Hz.out]; exact hlt)]
        have hx2 : wr.cell? ⟨b2, o2 + k, none⟩ = some (.int .i64 (zs.getD k 0)) := by
          rw [hbw.cell (p := ⟨b2, o2 + k, none⟩) hb2, H2.out k (by simpa [Hz.out] using hlt)]
          simp [List.getElem?_eq_getElem (show k < zs.length by rw [Hz.out]; exact hlt)]
        have Hb := Lib.hid hbw
        clear hbw
        have hlt' : (k : Int) < (n : Int) := by omega
        go_wp2
        go_quiet (fail)
        go_wp2
        go_roundw
        case rel => exact ⟨k + 1, by omega, by go_num, below_drewN Hb.out _⟩
        case measure => simp [intOf]; omega
      · go_wp2
        go_ret
        exact ⟨rfl, hbw⟩


end Go.Proofs.YtfkojbkgpbpjhaaDoor
