/-
  Contracts of the tests of a list of stuffs, both sides. No condition of its own.
-/
import Derived.Test.YthihhkabbdkohaaStuff
import Derived.Test.YthihhkabbdkohaaSlices
import Derived.Outline
namespace Go.Proofs.Ythihhkabbdkohaa
open Go.ChangeShapes Go.WideShapes Go.ChangeAt Go.RowKit Go.Deep Go.Shelf

def oneB (q : ByteArray × Int × Int × Int × Int) : Bool := okName q.1 && (inB q.2.1 1 200 && (inB q.2.2.1 1 1000 && (inB q.2.2.2.1 0 1000 && inB q.2.2.2.2 0 10000)))
def dupB (S : Nat → ByteArray × Int × Int × Int × Int) (k : Nat) : Bool := (List.range k).any fun j => decide ((S j).1 = (S k).1)
def stfAt (S : Nat → ByteArray × Int × Int × Int × Int) (k : Nat) : Bool := oneB (S k) && !dupB S k
def stfB (S : Nat → ByteArray × Int × Int × Int × Int) (n : Nat) : Bool := decide (∀ k, k < n → stfAt S k = true) && decide (n ≤ 12)
theorem stfB_bad {S : Nat → ByteArray × Int × Int × Int × Int} {n k : Nat} {r : Bool} (hr : stfB S n = r) (hk : k < n) (h : stfAt S k = false) : r = false := by
  rw [← hr, stfB]
  have : ¬ (∀ k, k < n → stfAt S k = true) := fun hall => by rw [hall k hk] at h; cases h
  simp [this]
theorem stfB_end {S : Nat → ByteArray × Int × Int × Int × Int} {n k : Nat} {r : Bool} (hr : stfB S n = r) (hk : n ≤ k) (h : ∀ j, j < k → stfAt S j = true) : decide ((n : Int) ≤ 12) = r := by
  rw [← hr, stfB, decide_eq_true (show ∀ k, k < n → stfAt S k = true from fun j hj => h j (by omega)), Bool.true_and]
  congr 1
  simp only [eq_iff_iff]
  omega
theorem stfB_more {S : Nat → ByteArray × Int × Int × Int × Int} {k : Nat} (h : ∀ j, j < k → stfAt S j = true) (hk : stfAt S k = true) : ∀ j, j < k + 1 → stfAt S j = true := fun j hj => by
  by_cases e : j = k
  · subst e; exact hk
  · exact h j (by omega)
theorem stfB_le {S : Nat → ByteArray × Int × Int × Int × Int} {n : Nat} (h : stfB S n = true) : n ≤ 12 := by simp [stfB] at h; exact h.2
theorem stfB_at {S : Nat → ByteArray × Int × Int × Int × Int} {n k : Nat} (h : stfB S n = true) (hk : k < n) : oneB (S k) = true := by
  simp only [stfB, Bool.and_eq_true, decide_eq_true_eq] at h
  have := h.1 k hk
  simp only [stfAt, Bool.and_eq_true] at this
  exact this.1

/-! ### slices.ContainsFunc over stuffs -/
set_option maxHeartbeats 1600000 in
theorem indexStuff_any (a : Option Addr) (n c : Nat) (S : Nat → ByteArray × Int × Int × Int × Int) (N : Nat) (p : Nat → Bool) (g : Nat) (lb : Array Value) (w : World) (eg : ∀ args w, (callFunc g args).run Try.prog w = .ok (.enter g args) w)
    (hn : n ≤ 1073741824) (hN : n ≤ N) (hc : CellsAt w a (stfC S N))
    (hp : ∀ (k : Nat) (W : World), Below w.heap.size w W → k < n → ∀ x t g' s q, S k = (x, t, g', s, q) → Calls Try.prog g (#[.agg #[.string x, .int .i64 t, .int .i64 g', .int .i64 s, .int .i64 q]] ++ lb) W fun e W' => e = .returned (.bool (p k)) ∧ Below W.heap.size W W') :
    Calls Try.prog 48 #[.slice a n c, .func (.func g) #[] lb] w fun e w' => e = .returned (.int .i64 (idxI p (List.range n))) ∧ Below w.heap.size w w' := by
  by_cases h0 : n = 0
  · subst h0
    clear hc hp eg
    go_enter Try.func48, Try.ntmps48
    go_wp2
    refine wp_loop_once ?_
    go_wp2
    go_ret
    exact ⟨rfl, Below.refl _ _⟩
  · obtain ⟨b, off, rfl, hb, hcell⟩ := hc.at_ (by rw [stfC_length]; omega)
    have Hc := Lib.hid hcell
    have Hp := Lib.hid hp
    clear hcell hp hc
    go_enter Try.func48, Try.ntmps48
    go_wp2
    go_loopw [5, 8] (fun _ i wr => ∃ k : Nat, k ≤ n ∧ i = .int .i64 k ∧ Below w.heap.size w wr ∧ Hid (∀ j, j < k → p j = false)) (fun _ i _ => n - (intOf i).toNat)
    case atStart => exact ⟨0, Nat.zero_le _, rfl, Below.refl _ _, Lib.hid (fun j hj => absurd hj (Nat.not_lt_zero _))⟩
    case round =>
      obtain ⟨k, hk, rfl, hbw, hno⟩ := hrel
      by_cases hlt : k < n
      · obtain ⟨x0, x1, x2, x3, x4, hx⟩ : ∃ x t g s p, S k = (x, t, g, s, p) := ⟨_, _, _, _, _, rfl⟩
        have hcall := Hp.out k wr hbw hlt _ _ _ _ _ hx
        obtain ⟨hc0, hc1, hc2, hc3, hc4⟩ := stf_cells hb hbw Hc.out (show k < N by omega) hx
        have Hb := Lib.hid hbw
        clear hbw hx
        have hlt' : (k : Int) < (n : Int) := by omega
        cases hq : p k with
        | true =>
          rw [hq] at hcall
          have Hq := Lib.hid hq
          clear hq
          go_wp2_with (go_at_fn g; refine hcall.mono ?_; rintro e w' ⟨rfl, hb'⟩)
          go_ret
          exact ⟨ret_int (idxI_hit (p := p) (zs := List.range n) (k := k) (x := k) (by simp [hlt]) Hq.out (fun j y hj hy => by
            have hjn : j < n := by omega
            simp [hjn] at hy
            rw [← hy]; exact hno.out j hj)).symm, Hb.out.trans (hb'.mono Hb.out.size)⟩
        | false =>
          rw [hq] at hcall
          have Hq := Lib.hid hq
          clear hq
          go_wp2_with (go_at_fn g; refine hcall.mono ?_; rintro e w' ⟨rfl, hb'⟩)
          go_roundw
          case rel =>
            refine ⟨k + 1, by omega, by go_num, Hb.out.trans (hb'.mono Hb.out.size), Lib.hid (fun j hj => ?_)⟩
            by_cases e : j = k
            · subst e; exact Hq.out
            · exact hno.out j (by omega)
          case measure => simp [intOf]; omega
      · go_wp2
        go_ret
        have e : k = n := by omega
        subst e
        refine ⟨ret_int (idxI_none (p := p) (zs := List.range k) (fun z hz => ?_)).symm, hbw⟩
        exact hno.out z (List.mem_range.1 hz)
theorem containsStuff_any (a : Option Addr) (n c : Nat) (S : Nat → ByteArray × Int × Int × Int × Int) (N : Nat) (p : Nat → Bool) (g : Nat) (lb : Array Value) (w : World) (eg : ∀ args w, (callFunc g args).run Try.prog w = .ok (.enter g args) w)
    (hn : n ≤ 1073741824) (hN : n ≤ N) (hc : CellsAt w a (stfC S N))
    (hp : ∀ (k : Nat) (W : World), Below w.heap.size w W → k < n → ∀ x t g' s q, S k = (x, t, g', s, q) → Calls Try.prog g (#[.agg #[.string x, .int .i64 t, .int .i64 g', .int .i64 s, .int .i64 q]] ++ lb) W fun e W' => e = .returned (.bool (p k)) ∧ Below W.heap.size W W') :
    Calls Try.prog 32 #[.slice a n c, .func (.func g) #[] lb] w fun e w' => e = .returned (.bool ((List.range n).any p)) ∧ Below w.heap.size w w' := by
  have hcon := indexStuff_any a n c S N p g lb w eg hn hN hc hp
  have hi := idxI_neg p (List.range n)
  have Hi := Lib.hid hi
  clear hi hc hp eg
  generalize idxI p (List.range n) = r at hcon Hi
  generalize (List.range n).any p = q at Hi ⊢
  go_enter Try.func32, Try.ntmps32
  go_wp2_with (go_at_call 48; refine hcon.mono ?_; rintro e w' ⟨rfl, hb'⟩)
  all_goals
    go_ret
    exact ⟨ret_bool Hi.out, hb'⟩
theorem str_eq_true {a b : ByteArray} (h : a = b) : (a.toList == b.toList) = true := by rw [h]; simp
theorem str_eq_false {a b : ByteArray} (h : a ≠ b) : (a.toList == b.toList) = false := by
  cases hq : (a.toList == b.toList) with
  | false => rfl
  | true =>
    exfalso
    apply h
    have h1 : a.toList = b.toList := by simpa using hq
    have e : ∀ x : ByteArray, x.toList = x.data.toList := fun x => by first | exact ByteArray.toList_eq _ | simp
    rw [e, e] at h1
    cases a
    cases b
    simp only at h1
    congr 1
    exact Array.toList_inj.1 h1
/-- The closure: another stuff has the same name. -/
theorem stuffClosure (x y : ByteArray) (t g s q : Int) (b : Nat) (w : World) (hc : w.cell? ⟨b, 0, none⟩ = some (.string y)) (hb : b < w.heap.size) :
    Calls Try.prog 33 (#[.agg #[.string x, .int .i64 t, .int .i64 g, .int .i64 s, .int .i64 q]] ++ #[.pointer (some ⟨b, 0, none⟩)]) w fun e w' => e = .returned (.bool (decide (x = y))) ∧ Below w.heap.size w w' := by
  by_cases h : x = y
  · rw [decide_eq_true h]
    have h1 := str_eq_true h
    clear h
    go_enter Try.func33, Try.ntmps33
    go_wp2
    go_ret
    exact ⟨rfl, (by repeat (first | exact Below.refl _ _ | assumption | refine Below.drew ?_ | refine below_drewN ?_ _ | refine Below.alloc ?_ (by simp; try omega) _ | refine Below.setCell ?_ (by simp; try omega) _))⟩
  · rw [decide_eq_false h]
    have h1 := str_eq_false h
    clear h
    go_enter Try.func33, Try.ntmps33
    go_wp2
    go_ret
    exact ⟨rfl, (by repeat (first | exact Below.refl _ _ | assumption | refine Below.drew ?_ | refine below_drewN ?_ _ | refine Below.alloc ?_ (by simp; try omega) _ | refine Below.setCell ?_ (by simp; try omega) _))⟩
end Go.Proofs.Ythihhkabbdkohaa
