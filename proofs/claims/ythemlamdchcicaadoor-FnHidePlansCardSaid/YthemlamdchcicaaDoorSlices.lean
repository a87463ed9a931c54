/-
  slices.IndexFunc and slices.ContainsFunc over []int64, and outside: contracts. No condition of its own.
-/
import Derived.Test.YthemlamdchcicaaDoorBase
import Derived.Shelf.Abstract
import Derived.Deep.LoopGhost
namespace Go.Proofs.YthemlamdchcicaaDoor
open Go.ChangeShapes Go.WideShapes Go.ChangeAt Go.RowKit Go.Deep Go.Shelf

/-- The first place at which p holds, or -1. -/
def idxI {α : Type} (p : α → Bool) : List α → Int
  | [] => -1
  | z :: zs => if p z then 0 else if idxI p zs = -1 then -1 else idxI p zs + 1

theorem idxI_ge {α : Type} (p : α → Bool) (zs : List α) : -1 ≤ idxI p zs ∧ idxI p zs < zs.length := by
  induction zs with
  | nil => simp [idxI]
  | cons z zs ih =>
    simp only [idxI, List.length_cons]
    split
    · omega
    · split <;> omega

theorem idxI_none {α : Type} {p : α → Bool} {zs : List α} : (∀ z ∈ zs, p z = false) → idxI p zs = -1 := by
  induction zs with
  | nil => intro _; rfl
  | cons z zs ih =>
    intro h
    simp [idxI, h z (by simp), ih (fun y hy => h y (by simp [hy]))]

theorem idxI_hit {α : Type} {p : α → Bool} {zs : List α} {k : Nat} {x : α} (hk : zs[k]? = some x) (hx : p x = true) (hb : ∀ j y, j < k → zs[j]? = some y → p y = false) : idxI p zs = k := by
  induction zs generalizing k with
  | nil => simp at hk
  | cons z zs ih =>
    cases k with
    | zero =>
      simp at hk
      subst hk
      simp [idxI, hx]
    | succ k =>
      have h0 := hb 0 z (by omega) (by simp)
      have hi := ih (k := k) (by simpa using hk) (fun j y hj hy => hb (j + 1) y (by omega) (by simpa using hy))
      simp only [idxI, h0, hi, Bool.false_eq_true, if_false]
      rw [if_neg (by omega)]
      omega

theorem idxI_neg {α : Type} (p : α → Bool) (zs : List α) : decide (0 ≤ idxI p zs) = zs.any p := by
  induction zs with
  | nil => simp [idxI]
  | cons z zs ih =>
    have h := idxI_ge p zs
    by_cases hz : p z = true
    · simp [idxI, hz]
    · have hz' : p z = false := by simpa using hz
      simp only [idxI, List.any_cons, ← ih, hz', Bool.false_eq_true, if_false, Bool.false_or]
      by_cases h1 : idxI p zs = -1
      · rw [if_pos h1, h1]
      · rw [if_neg h1, decide_eq_true (show (0 : Int) ≤ idxI p zs + 1 by omega), decide_eq_true (show (0 : Int) ≤ idxI p zs by omega)]

set_option maxHeartbeats 1600000 in
theorem indexFunc_any (a : Option Addr) (n c : Nat) (zs : List Int) (p : Int → Bool) (g : Nat) (lb : Array Value) (w : World) (eg : ∀ args w, (callFunc g args).run Tryd.prog w = .ok (.enter g args) w)
    (hz : zs.length = n) (hn : n ≤ 1073741824) (hc : CellsAt w a (zs.map (Value.int .i64)))
    (hp : ∀ (z : Int) (W : World), Below w.heap.size w W → z ∈ zs → Calls Tryd.prog g (#[.int .i64 z] ++ lb) W fun e W' => e = .returned (.bool (p z)) ∧ Below W.heap.size W W') :
    Calls Tryd.prog 101 #[.slice a n c, .func (.func g) #[] lb] w fun e w' => e = .returned (.int .i64 (idxI p zs)) ∧ Below w.heap.size w w' := by
  by_cases h0 : n = 0
  · subst h0
    have h1 : zs = [] := List.eq_nil_of_length_eq_zero hz
    subst h1
    clear hz hc hp eg
    go_enter Tryd.func101, Tryd.ntmps101
    go_wp2
    refine wp_loop_once ?_
    go_wp2
    go_ret
    exact ⟨rfl, Below.refl _ _⟩
  · obtain ⟨b, off, rfl, hb, hcell⟩ := hc.at_ (by simp; omega)
    have Hc := Lib.hid hcell
    have Hz := Lib.hid hz
    have Hp := Lib.hid hp
    clear hcell hz hp hc
    go_enter Tryd.func101, Tryd.ntmps101
    go_wp2
    go_loopw [5, 8] (fun _ i wr => ∃ k : Nat, k ≤ n ∧ i = .int .i64 k ∧ Below w.heap.size w wr ∧ Hid (∀ j y, j < k → zs[j]? = some y → p y = false)) (fun _ i _ => n - (intOf i).toNat)
    case atStart => exact ⟨0, Nat.zero_le _, rfl, Below.refl _ _, Lib.hid (fun j y hj => absurd hj (Nat.not_lt_zero _))⟩
    case round =>
      obtain ⟨k, hk, rfl, hbw, hno⟩ := hrel
      by_cases hlt : k < n
      · have hkz : k < zs.length := by rw [Hz.out]; exact hlt
        have hx : wr.cell? ⟨b, off + k, none⟩ = some (.int .i64 (zs.getD k 0)) := by
          rw [hbw.cell (p := ⟨b, off + k, none⟩) hb, Hc.out k (by simpa using hkz)]
          simp [List.getElem?_eq_getElem hkz]
        have hcall := Hp.out (zs.getD k 0) wr hbw (by simp [List.getElem?_eq_getElem hkz])
        obtain ⟨z, hzk⟩ : ∃ z, z = zs.getD k 0 := ⟨_, rfl⟩
        rw [← hzk] at hx hcall
        have Hk := Lib.hid hzk
        have Hb := Lib.hid hbw
        clear hzk hbw
        cases hq : p z with
        | true =>
          rw [hq] at hcall
          have Hq := Lib.hid hq
          clear hq
          go_wp2_with (go_at_fn g; refine hcall.mono ?_; rintro e w' ⟨rfl, hb'⟩)
          go_ret
          exact ⟨ret_int (idxI_hit (k := k) (x := z) (by rw [Hk.out]; simp [List.getElem?_eq_getElem hkz]) Hq.out hno.out).symm, Hb.out.trans (hb'.mono Hb.out.size)⟩
        | false =>
          rw [hq] at hcall
          have Hq := Lib.hid hq
          clear hq
          go_wp2_with (go_at_fn g; refine hcall.mono ?_; rintro e w' ⟨rfl, hb'⟩)
          go_roundw
          case rel =>
            refine ⟨k + 1, by omega, by go_num, Hb.out.trans (hb'.mono Hb.out.size), Lib.hid (fun j y hj hy => ?_)⟩
            by_cases e : j = k
            · subst e
              have e2 : y = z := by
                rw [Hk.out]
                simp [hy]
              rw [e2]; exact Hq.out
            · exact hno.out j y (by omega) hy
          case measure => simp [intOf]; omega
      · go_wp2
        go_ret
        have e : k = n := by omega
        subst e
        refine ⟨ret_int (idxI_none (p := p) (zs := zs) (fun z hz => ?_)).symm, hbw⟩
        obtain ⟨j, hj, rfl⟩ := List.mem_iff_getElem.1 hz
        exact hno.out j _ (by rw [← Hz.out]; exact hj) (List.getElem?_eq_getElem hj)
theorem containsFunc_any (a : Option Addr) (n c : Nat) (zs : List Int) (p : Int → Bool) (g : Nat) (lb : Array Value) (w : World) (eg : ∀ args w, (callFunc g args).run Tryd.prog w = .ok (.enter g args) w)
    (hz : zs.length = n) (hn : n ≤ 1073741824) (hc : CellsAt w a (zs.map (Value.int .i64)))
    (hp : ∀ (z : Int) (W : World), Below w.heap.size w W → z ∈ zs → Calls Tryd.prog g (#[.int .i64 z] ++ lb) W fun e W' => e = .returned (.bool (p z)) ∧ Below W.heap.size W W') :
    Calls Tryd.prog 90 #[.slice a n c, .func (.func g) #[] lb] w fun e w' => e = .returned (.bool (zs.any p)) ∧ Below w.heap.size w w' := by
  have hcon := indexFunc_any a n c zs p g lb w eg hz hn hc hp
  have hi := idxI_neg p zs
  have Hi := Lib.hid hi
  clear hi hz hc hp eg
  generalize idxI p zs = r at hcon Hi
  generalize zs.any p = q at Hi ⊢
  go_enter Tryd.func90, Tryd.ntmps90
  go_wp2_with (go_at_call 101; refine hcon.mono ?_; rintro e w' ⟨rfl, hb'⟩)
  all_goals
    go_ret
    exact ⟨ret_bool Hi.out, hb'⟩
/-- Some number of a list does not lie between two others. -/
def outB (zs : List Int) (lo hi : Int) : Bool := zs.any fun z => !inB z lo hi
theorem outB_false {zs : List Int} {lo hi : Int} : outB zs lo hi = false ↔ ∀ z ∈ zs, lo ≤ z ∧ z ≤ hi := by
  simp [outB, inB_true]

theorem outside1_any (z lo hi : Int) (p q : Addr) (w : World) (hl : w.cell? p = some (.int .i64 lo)) (hh : w.cell? q = some (.int .i64 hi)) :
    Calls Tryd.prog 91 #[.int .i64 z, .pointer (some p), .pointer (some q)] w fun e w' => e = .returned (.bool (!inB z lo hi)) ∧ w = w' := by
  go_enter Tryd.func91, Tryd.ntmps91
  go_wp2_with (go_at_call 49; refine (within_any _ _ _ _).mono ?_; rintro e w' ⟨rfl, rfl⟩)
  go_ret
  exact ⟨rfl, rfl⟩

theorem outside_any (a : Option Addr) (n c : Nat) (zs : List Int) (lo hi : Int) (w : World) (hz : zs.length = n) (hn : n ≤ 1073741824) (hc : CellsAt w a (zs.map (Value.int .i64))) :
    Calls Tryd.prog 82 #[.slice a n c, .int .i64 lo, .int .i64 hi] w fun e w' => e = .returned (.bool (outB zs lo hi)) ∧ Below w.heap.size w w' := by
  have eg : ∀ args w, (callFunc 91 args).run Tryd.prog w = .ok (.enter 91 args) w := enters_of Tryd.func91 (by kernel_rfl) rfl
  have hb2 : Below w.heap.size w ((w.alloc (.cells #[.int .i64 lo] 2)).alloc (.cells #[.int .i64 hi] 2)) := ((Below.refl _ _).alloc (Nat.le_refl _) _).alloc (by simp) _
  have hcon := containsFunc_any a n c zs (fun z => !inB z lo hi) 91 #[.pointer (some ⟨w.heap.size, 0, none⟩), .pointer (some ⟨w.heap.size + 1, 0, none⟩)]
    ((w.alloc (.cells #[.int .i64 lo] 2)).alloc (.cells #[.int .i64 hi] 2)) eg hz hn (hc.below hb2)
    (fun z W hb _ => by
      refine (outside1_any z lo hi ⟨w.heap.size, 0, none⟩ ⟨w.heap.size + 1, 0, none⟩ W ?_ ?_).mono ?_
      · rw [hb.cell (p := ⟨w.heap.size, 0, none⟩) (by simp; omega)]
        simp [go_sem]
      · rw [hb.cell (p := ⟨w.heap.size + 1, 0, none⟩) (by simp)]
        simp [go_sem]
      · rintro e w' ⟨he, rfl⟩
        exact ⟨he, Below.refl _ _⟩)
  have Hb2 := Lib.hid hb2
  clear hb2 eg hc hz
  change Calls Tryd.prog _ _ _ (fun e w' => e = .returned (.bool (outB zs lo hi)) ∧ _) at hcon
  generalize outB zs lo hi = r at hcon ⊢
  go_enter Tryd.func82, Tryd.ntmps82
  go_wp2_with (go_at_call 90; refine hcon.mono ?_; rintro e w' ⟨rfl, hb'⟩)
  go_ret
  exact ⟨rfl, Hb2.out.trans (hb'.mono (by simp; omega))⟩
end Go.Proofs.YthemlamdchcicaaDoor
