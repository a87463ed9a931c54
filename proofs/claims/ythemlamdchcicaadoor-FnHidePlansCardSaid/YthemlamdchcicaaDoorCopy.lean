/-
  The laws' own helpers on slices of integers (to, eq, mark, held): contracts. No condition of its own.
-/
import Derived.Test.YthemlamdchcicaaDoorProg
import Derived.Test.YthemlamdchcicaaDoorBase
import Derived.Deep.OwnRows
import Derived.BigQuiet
import Derived.Deep.QuietTactic
import Derived.Outline
import Derived.KernelRfl
namespace Go.Proofs.YthemlamdchcicaaDoor
open Go.ChangeShapes Go.WideShapes Go.ChangeAt Go.RowKit Go.Deep

theorem infoI : (Tryd.prog.info? 2).map (fun i => (i.zero, i.size, i.bytes)) = some (some (.int .i64 0), 1, 8) := by kernel_rfl

/-- A new slice of n elements that holds the cells cs. -/
def NewRow (w : World) (E k n : Nat) (cs : List Value) (e : Ending) (w' : World) : Prop :=
  ∃ g, e = .returned (.slice (some ⟨g, 0, none⟩) n n) ∧ w'.ownsRow w.heap.size E k (.slice (some ⟨g, 0, none⟩) n n) n cs ∧ Below w.heap.size w w'

theorem set_fill (cs zr : List Value) (m : Nat) (u : Value) (hm : m < cs.length) (hz : zr.length = cs.length) (hu : cs[m]? = some u) :
    (cs.take m ++ zr.drop m).set m u = cs.take (m + 1) ++ zr.drop (m + 1) := by
  rw [List.set_append_right _ _ (by simp; omega)]
  have e1 : m - (cs.take m).length = 0 := by simp; omega
  rw [e1, List.drop_eq_getElem_cons (by omega), List.set_cons_zero, List.take_add_one, hu]
  simp

def zeros (n : Nat) : List Value := List.replicate n (.int .i64 0)
theorem length_zeros (n : Nat) : (zeros n).length = n := by simp [zeros]

theorem newRow_intro {w w' : World} {E k n g : Nat} {cs : List Value} (h : w'.ownsRow w.heap.size E k (.slice (some ⟨g, 0, none⟩) n n) n cs) (hb : Below w.heap.size w w') :
    NewRow w E k n cs (.returned (.slice (some ⟨g, 0, none⟩) n n)) w' := ⟨g, rfl, h, hb⟩


/-! ### marks: k, k + 1, .. -/
def marks (k : Int) (n : Nat) : List Value := (List.range n).map fun i => .int .i64 (k + (i : Nat))
theorem length_marks (k : Int) (n : Nat) : (marks k n).length = n := by simp [marks]
theorem marks_at (k : Int) (n i : Nat) (h : i < n) : (marks k n)[i]? = some (.int .i64 (k + (i : Nat))) := by simp [marks, h]
theorem marks_set (k : Int) (cs : List Value) (m : Nat) (hm : m < cs.length) : (marks k m ++ cs.drop m).set m (.int .i64 (k + (m : Nat))) = marks k (m + 1) ++ cs.drop (m + 1) := by
  rw [List.set_append_right _ _ (by simp [length_marks])]
  rw [length_marks, Nat.sub_self, List.drop_eq_getElem_cons hm, List.set_cons_zero]
  simp [marks, List.range_succ]

theorem marks_set' (k : Int) (cs : List Value) (m : Nat) (z : Int) (hm : m < cs.length) (hz : z = k + (m : Nat)) : (marks k m ++ cs.drop m).set m (.int .i64 z) = marks k (m + 1) ++ cs.drop (m + 1) := by
  rw [hz]; exact marks_set k cs m hm

/-- What a marking leaves: the next number; the row holds the numbers; only its block has turned. -/
def Marked (w : World) (B E k : Nat) (v : Value) (n cnt : Nat) (k0 : Int) (e : Ending) (w' : World) : Prop :=
  e = .returned (.int .i64 (k0 + cnt)) ∧ w'.ownsRow B E k v n (marks k0 cnt) ∧ w.grownBy w' v.ownBlock

/-- The two forms of an owned row's value. -/
theorem own_form {w : World} {B E k n c : Nat} {a : Option Addr} {cs : List Value} (h : w.ownsRow B E k (.slice a n c) n cs) : n = 0 ∨ ∃ g, a = some ⟨g, 0, none⟩ := by
  rcases h.2 with ⟨_, h0⟩ | ⟨g, cap, cur, hv, _⟩
  · exact .inl h0
  · simp only [Value.slice.injEq] at hv
    exact .inr ⟨g, hv.1⟩

theorem cells_zero {w : World} {B E k n : Nat} {v : Value} {cs : List Value} (h : w.ownsRow B E k v n cs) (hn : n = 0) : cs = [] := by
  have := h.1
  rw [hn] at this
  simpa using this

set_option maxHeartbeats 800000 in
theorem eqInt64S_any (a b : Option Addr) (n c d : Nat) (zs : List Int) (w : World) (hz : zs.length = n) (hn : n ≤ 1073741824) (ha : CellsAt w a (zs.map (Value.int .i64))) (hb : CellsAt w b (zs.map (Value.int .i64))) :
    Calls Tryd.prog 18 #[.slice a n c, .slice b n d] w fun e w' => e = .returned (.bool true) ∧ Below w.heap.size w w' := by
  by_cases h0 : n = 0
  · subst h0
    have Hz := Lib.hid hz
    clear hz ha hb
    go_enter Tryd.func18, Tryd.ntmps18
    go_wp2
    refine wp_loop_once ?_
    go_wp2
    go_ret
    exact ⟨rfl, Below.refl _ _⟩
  · obtain ⟨b1, o1, rfl, hb1, hc1⟩ := ha.at_ (by simp; omega)
    obtain ⟨b2, o2, rfl, hb2, hc2⟩ := hb.at_ (by simp; omega)
    have Hz := Lib.hid hz
    have H1 := Lib.hid hc1
    have H2 := Lib.hid hc2
    clear hz hc1 hc2 ha hb
    have hnn : ((n : Int) != (n : Int)) = false := by simp
    go_enter Tryd.func18, Tryd.ntmps18
    go_wp2
    go_loopw [5] (fun i wr => ∃ k : Nat, k ≤ n ∧ i = .int .i64 k ∧ Below w.heap.size w wr) (fun i _ => n - (intOf i).toNat)
    case atStart => exact ⟨0, Nat.zero_le _, rfl, Below.refl _ _⟩
    case round =>
      obtain ⟨k, hk, rfl, hbw⟩ := hrel
      by_cases hlt : k < n
      · have hx1 : wr.cell? ⟨b1, o1 + k, none⟩ = some (.int .i64 (zs.getD k 0)) := by
          rw [hbw.cell (p := ⟨b1, o1 + k, none⟩) hb1, H1.out k (by simpa [Hz.out] using hlt)]
          simp [List.getElem?_eq_getElem (show k < zs.length by rw [Hz.out]; exact hlt)]
        have hx2 : wr.cell? ⟨b2, o2 + k, none⟩ = some (.int .i64 (zs.getD k 0)) := by
          rw [hbw.cell (p := ⟨b2, o2 + k, none⟩) hb2, H2.out k (by simpa [Hz.out] using hlt)]
          simp [List.getElem?_eq_getElem (show k < zs.length by rw [Hz.out]; exact hlt)]
        have Hb := Lib.hid hbw
        clear hbw
        have hlt' : (k : Int) < (n : Int) := by omega
        go_wp2
        go_quiet (fail)
        go_wp2
        go_roundw
        case rel => exact ⟨k + 1, by omega, by go_num, below_drewN Hb.out _⟩
        case measure => simp [intOf]; omega
      · go_wp2
        go_ret
        exact ⟨rfl, hbw⟩

set_option maxHeartbeats 1600000 in
theorem markInt64S_any (a : Option Addr) (n c B : Nat) (k0 : Int) (cs : List Value) (w : World) (hn : n ≤ 1073741824) (h1 : 0 ≤ k0) (h2 : k0 ≤ 1152921504606846976) (ho : w.ownsRow B 2 1 (.slice a n c) n cs) :
    Calls Tryd.prog 23 #[.slice a n c, .int .i64 k0] w (Marked w B 2 1 (.slice a n c) n (n) k0) := by
  rcases own_form ho with h0 | ⟨g, rfl⟩
  · subst h0
    have hz := cells_zero ho rfl
    subst hz
    have Ho := Lib.hid ho
    clear ho
    go_enter Tryd.func23, Tryd.ntmps23
    go_wp2
    refine wp_loop_once ?_
    go_wp2
    go_ret
    exact ⟨ret_int (by simp), by simpa [marks] using Ho.out, World.grownBy.refl _ _⟩
  · have hl := ho.1
    have Hl := Lib.hid hl
    have Ho := Lib.hid ho
    clear hl ho
    go_enter Tryd.func23, Tryd.ntmps23
    go_wp2
    go_loopw [1, 5] (fun y i wr => ∃ k : Nat, k ≤ n ∧ i = .int .i64 k ∧ (∃ z : Int, y = .int .i64 z ∧ Hid (z = k0 + ((k : Nat) : Int))) ∧ wr.ownsRow B 2 1 (.slice (some ⟨g, 0, none⟩) n c) n (marks k0 (k) ++ cs.drop (k)) ∧ w.grownBy wr (some g))
      (fun _ i _ => n - (intOf i).toNat)
    case atStart => exact ⟨0, Nat.zero_le _, rfl, ⟨k0, rfl, Lib.hid (by simp)⟩, by simpa [marks] using Ho.out, World.grownBy.refl _ _⟩
    case round =>
      obtain ⟨k, hk, rfl, ⟨z, rfl, hzk⟩, hown, hgr⟩ := hrel
      have hzb : 0 ≤ z ∧ z ≤ 2305843009213693952 := by have := hzk.out; omega
      obtain ⟨hz1, hz2⟩ := hzb
      by_cases hlt : k < n
      · have hkz : k + 1 ≤ cs.length := by rw [Hl.out]; omega
        obtain ⟨u0, hu0⟩ : ∃ u, wr.cell? ⟨g, k, none⟩ = some u := by
          rw [hown.cellAt (k) (by omega)]
          exact ⟨_, List.getElem?_eq_getElem (by rw [hown.1]; omega)⟩
        have hf0 := hown.frozenAt (k)
        have hsd0 := hown.stored (k) (.int .i64 (z))
        have Hs := Lib.hid hsd0.1
        have Hg := Lib.hid (grown_trans_row (hgr) hsd0.2)
        clear hsd0 hown hgr
        go_wp2
        go_roundw
        case rel =>
          refine ⟨k + 1, by omega, by go_num, ⟨z + 1, rfl, Lib.hid (by have := hzk.out; omega)⟩, ?_, Hg.out⟩
          have h := Hs.out
          rw [marks_set' _ _ (k) (z) (by omega) (by have := hzk.out; omega)] at h
          rw [show (k + 1) = k + 1 from by omega]
          exact h
        case measure => simp [intOf]; omega
      · go_wp2
        go_ret
        have e : k = n := by omega
        subst e
        have h := hown
        rw [List.drop_of_length_le (by rw [Hl.out]; omega), List.append_nil] at h
        exact ⟨ret_int (by have := hzk.out; omega), h, hgr⟩
set_option maxHeartbeats 1600000 in
theorem heldInt64S_any (a : Option Addr) (n c : Nat) (k0 : Int) (w : World) (hn : n ≤ 1073741824) (h1 : 0 ≤ k0) (h2 : k0 ≤ 1152921504606846976) (hc : CellsAt w a (marks k0 (n))) :
    Calls Tryd.prog 24 #[.slice a n c, .int .i64 k0] w fun e w' => e = .returned (.int .i64 (k0 + ((n : Nat) : Int))) ∧ Below w.heap.size w w' := by
  by_cases h0 : n = 0
  · subst h0
    clear hc
    go_enter Tryd.func24, Tryd.ntmps24
    go_wp2
    refine wp_loop_once ?_
    go_wp2
    go_ret
    exact ⟨ret_int (by simp), Below.refl _ _⟩
  · obtain ⟨b, o, rfl, hb, hcell⟩ := hc.at_ (by rw [length_marks]; omega)
    have Hc := Lib.hid hcell
    clear hcell hc
    go_enter Tryd.func24, Tryd.ntmps24
    go_wp2
    go_loopw [1, 5] (fun y i wr => ∃ k : Nat, k ≤ n ∧ i = .int .i64 k ∧ (∃ z : Int, y = .int .i64 z ∧ Hid (z = k0 + ((k : Nat) : Int))) ∧ Below w.heap.size w wr) (fun _ i _ => n - (intOf i).toNat)
    case atStart => exact ⟨0, Nat.zero_le _, rfl, ⟨k0, rfl, Lib.hid (by simp)⟩, Below.refl _ _⟩
    case round =>
      obtain ⟨k, hk, rfl, ⟨z, rfl, hzk⟩, hbw⟩ := hrel
      have hzb : 0 ≤ z ∧ z ≤ 2305843009213693952 := by have := hzk.out; omega
      obtain ⟨hz1, hz2⟩ := hzb
      by_cases hlt : k < n
      · have hc0 : wr.cell? ⟨b, o + k, none⟩ = some (.int .i64 (z)) := by
          have h := (hbw.cell (p := ⟨b, o + (k), none⟩) hb).trans (Hc.out (k) (by rw [length_marks]; omega))
          rw [show o + (k) = o + k from by omega, marks_at _ _ _ (by omega), show k0 + ((k : Nat) : Int) = z from by have := hzk.out; omega] at h
          exact h
        have Hb := Lib.hid hbw
        clear hbw
        go_wp2
        go_roundw
        case rel => exact ⟨k + 1, by omega, by go_num, ⟨z + 1, rfl, Lib.hid (by have := hzk.out; omega)⟩, Hb.out⟩
        case measure => simp [intOf]; omega
      · go_wp2
        go_ret
        have e : k = n := by omega
        subst e
        exact ⟨ret_int (by have := hzk.out; omega), hbw⟩

end Go.Proofs.YthemlamdchcicaaDoor
