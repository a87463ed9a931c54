/-
  Contracts of the tests of a name, both sides. slices.IndexFunc and slices.ContainsFunc over []int64, and outside: contracts. Contracts of the tests of a last, both sides. No condition of its own.
-/
import Derived.Test.YthemlamdchcicaaGreatDoorGBase
import Derived.Test.YthemlamdchcicaaGreatDoorGBox
import Derived.BigQuiet
import Derived.WalkLawsBesides
import Derived.Shelf.Abstract
import Derived.Deep.LoopGhost

namespace Go.Proofs.YthemlamdchcicaaGreatDoor
open Go.ChangeShapes Go.WideShapes Go.ChangeAt Go.RowKit Go.Deep

/-- The byte at the place k. -/
def bz (s : ByteArray) (k : Nat) : Int := if h : k < s.size then ((s[k]'h).toNat : Int) else 0
theorem bz_at {s : ByteArray} {k : Nat} (h : k < s.size) : bz s k = ((s[k]'h).toNat : Int) := dif_pos h
def smallZ (x : Int) : Bool := decide (97 ≤ x) && decide (x ≤ 122)
def digitZ (x : Int) : Bool := decide (48 ≤ x) && decide (x ≤ 57)
def nameZ (x : Int) : Bool := smallZ x || (digitZ x || (x == 45))
def okName (s : ByteArray) : Bool := decide (1 ≤ s.size) && (decide (s.size ≤ 12) && (smallZ (bz s 0) && decide (∀ k, k < s.size → nameZ (bz s k) = true)))
theorem name_bad {s : ByteArray} {k : Nat} {r : Bool} (hr : okName s = r) (hk : k < s.size) (h : nameZ (s[k].toNat : Int) = false) : r = false := by
  rw [← hr]
  have : ¬ (∀ k, k < s.size → nameZ (bz s k) = true) := fun hall => by have := hall k hk; rw [bz_at hk, h] at this; cases this
  simp [okName, this]
theorem name_end {s : ByteArray} {k : Nat} {r : Bool} (hr : okName s = r) (h1 : 1 ≤ s.size) (h2 : s.size ≤ 12) (h3 : smallZ (bz s 0) = true) (hk : s.size ≤ k) (h : ∀ j, j < k → nameZ (bz s j) = true) : r = true := by
  rw [← hr]
  simp only [okName, h1, h2, h3, decide_true, Bool.true_and]
  exact decide_eq_true fun j hj => h j (by omega)
theorem name_more {s : ByteArray} {k : Nat} (hk : k < s.size) (h : ∀ j, j < k → nameZ (bz s j) = true) (hx : nameZ (s[k].toNat : Int) = true) : ∀ j, j < k + 1 → nameZ (bz s j) = true := fun j hj => by
  by_cases e : j = k
  · subst e; rw [bz_at hk]; exact hx
  · exact h j (by omega)
theorem name_small {x : Int} (h : smallZ x = true) : nameZ x = true := by simp [nameZ, h]
theorem small_true {x : Int} : smallZ x = true ↔ 97 ≤ x ∧ x ≤ 122 := by simp [smallZ]
theorem digit_true {x : Int} : digitZ x = true ↔ 48 ≤ x ∧ x ≤ 57 := by simp [digitZ]
theorem name_ways {x : Int} (h : nameZ x = true) : (97 ≤ x ∧ x ≤ 122) ∨ (48 ≤ x ∧ x ≤ 57) ∨ x = 45 := by
  simpa [nameZ, smallZ, digitZ] using h
theorem name_outs {x : Int} (h : nameZ x = false) : (x < 48 ∧ x ≠ 45) ∨ (57 < x ∧ x < 97) ∨ 122 < x := by
  have h' : ¬ nameZ x = true := by simp [h]
  simp only [nameZ, smallZ, digitZ, Bool.or_eq_true, Bool.and_eq_true, decide_eq_true_eq, beq_iff_eq] at h'
  omega

set_option maxRecDepth 100000 in
set_option maxHeartbeats 3200000 in
theorem isName_any (s : ByteArray) (w : World) (hs : s.size ≤ maxLen) : Calls Tryz.prog 57 #[.string s] w fun e w' => e = .returned (.bool (okName s)) ∧ w = w' := by
  unfold maxLen at hs
  obtain ⟨r, hr⟩ : ∃ r, okName s = r := ⟨_, rfl⟩
  rw [hr]
  have HR := Lib.hid hr
  clear hr
  by_cases h1 : 1 ≤ s.size
  · by_cases h2 : s.size ≤ 12
    · have h0 : 0 < s.size := h1
      cases h3 : smallZ (s[0].toNat : Int) with
      | false =>
        obtain rfl : r = false := by rw [← HR.out]; simp [okName, bz_at h0, h3]
        have h3' : ¬ ((97 : Int) ≤ (s[0].toNat : Int) ∧ (s[0].toNat : Int) ≤ 122) := fun h => by have := small_true.2 h; rw [h3] at this; cases this
        clear h3
        by_cases h4 : (s[0].toNat : Int) < 97
        · go_enter Tryz.func57, Tryz.ntmps57
          go_wp2
          go_ret
          exact ⟨rfl, rfl⟩
        · have h5 : 122 < (s[0].toNat : Int) := by omega
          go_enter Tryz.func57, Tryz.ntmps57
          go_wp2
          go_ret
          exact ⟨rfl, rfl⟩
      | true =>
        have HS := Lib.hid h3
        obtain ⟨h4, h5⟩ := small_true.1 h3
        clear h3
        go_enter Tryz.func57, Tryz.ntmps57
        go_wp2
        go_loop [3] (fun i => ∃ k : Nat, 1 ≤ k ∧ k ≤ s.size ∧ i = .int .i64 k ∧ Hid (∀ j, j < k → nameZ (bz s j) = true)) (fun i => s.size - (intOf i).toNat)
        case atStart => exact ⟨1, Nat.le_refl _, h1, rfl, Lib.hid (fun j hj => by obtain rfl : j = 0 := by omega
                                                                                  rw [bz_at h0]; exact name_small HS.out)⟩
        case round =>
          obtain ⟨k, hk1, hk, rfl, hall⟩ := hrel
          by_cases hlt : k < s.size
          · cases hx : nameZ (s[k].toNat : Int) with
            | true =>
              have HX := Lib.hid hx
              rcases name_ways hx with ⟨a1, a2⟩ | ⟨a1, a2⟩ | a1
              · clear hx
                go_wp2
                go_round
                case rel => exact ⟨k + 1, by omega, by omega, by go_num, Lib.hid (name_more hlt hall.out HX.out)⟩
                case measure => simp [intOf]; omega
              · clear hx
                go_wp2
                go_round
                case rel => exact ⟨k + 1, by omega, by omega, by go_num, Lib.hid (name_more hlt hall.out HX.out)⟩
                case measure => simp [intOf]; omega
              · have a2 : ((s[k].toNat : Int) != 45) = false := by simp [a1]
                have a3 : (s[k].toNat : Int) ≤ 45 := by omega
                have a4 : 45 ≤ (s[k].toNat : Int) := by omega
                clear hx a1
                go_wp2
                go_round
                case rel => exact ⟨k + 1, by omega, by omega, by go_num, Lib.hid (name_more hlt hall.out HX.out)⟩
                case measure => simp [intOf]; omega
            | false =>
              obtain rfl := name_bad HR.out hlt hx
              rcases name_outs hx with ⟨a1, a2⟩ | ⟨a1, a2⟩ | a1
              · have a3 : ((s[k].toNat : Int) != 45) = true := by simpa using a2
                clear hx a2
                go_wp2
                go_ret
                exact ⟨rfl, rfl⟩
              · have a3 : ((s[k].toNat : Int) != 45) = true := by simp; omega
                clear hx
                go_wp2
                go_ret
                exact ⟨rfl, rfl⟩
              · have a3 : ((s[k].toNat : Int) != 45) = true := by simp; omega
                clear hx
                go_wp2
                go_ret
                exact ⟨rfl, rfl⟩
          · obtain rfl := name_end HR.out h1 h2 (by rw [bz_at h0]; exact HS.out) (by omega) hall.out
            go_wp2
            go_ret
            exact ⟨rfl, rfl⟩
    · obtain rfl : r = false := by rw [← HR.out]; simp [okName, h2]
      go_enter Tryz.func57, Tryz.ntmps57
      go_wp2
      go_ret
      exact ⟨rfl, rfl⟩
  · obtain rfl : r = false := by rw [← HR.out]; simp [okName, h1]
    go_enter Tryz.func57, Tryz.ntmps57
    go_wp2
    go_ret
    exact ⟨rfl, rfl⟩
theorem l01Small_any (x : Int) (w : World) : Calls Tryz.prog 132 #[.int .u8 x] w fun e w' => e = .returned (.bool (smallZ x)) ∧ w = w' := by
  by_cases h1 : 97 ≤ x
  · by_cases h2 : x ≤ 122
    all_goals
      go_enter Tryz.func132, Tryz.ntmps132
      go_wp2
      go_ret
      exact ⟨by simp [smallZ, h1, h2], rfl⟩
  · go_enter Tryz.func132, Tryz.ntmps132
    go_wp2
    go_ret
    exact ⟨by simp [smallZ]; omega, rfl⟩
theorem l01Digit_any (x : Int) (w : World) : Calls Tryz.prog 133 #[.int .u8 x] w fun e w' => e = .returned (.bool (digitZ x)) ∧ w = w' := by
  by_cases h1 : 48 ≤ x
  · by_cases h2 : x ≤ 57
    all_goals
      go_enter Tryz.func133, Tryz.ntmps133
      go_wp2
      go_ret
      exact ⟨by simp [digitZ, h1, h2], rfl⟩
  · go_enter Tryz.func133, Tryz.ntmps133
    go_wp2
    go_ret
    exact ⟨by simp [digitZ]; omega, rfl⟩

set_option maxRecDepth 100000 in
set_option maxHeartbeats 3200000 in
theorem specName_any (s : ByteArray) (w : World) (hs : s.size ≤ maxLen) : Calls Tryz.prog 128 #[.string s] w fun e w' => e = .returned (.bool (okName s)) ∧ w = w' := by
  unfold maxLen at hs
  obtain ⟨r, hr⟩ : ∃ r, okName s = r := ⟨_, rfl⟩
  rw [hr]
  have HR := Lib.hid hr
  clear hr
  by_cases h1 : 1 ≤ s.size
  · have tE : s.toList.isEmpty = false := by
      cases h : s.toList with
      | nil =>
        exfalso
        have e : s.toList.length = s.size := by rw [Lib.toList_data]; simp
        rw [h] at e; simp at e; omega
      | cons a l => rfl
    by_cases h2 : s.size ≤ 12
    · have h0 : 0 < s.size := h1
      cases h3 : smallZ (s[0].toNat : Int) with
      | false =>
        obtain rfl : r = false := by rw [← HR.out]; simp [okName, bz_at h0, h3]
        go_enter Tryz.func128, Tryz.ntmps128
        go_wp2_with (go_at_call 132; refine (l01Small_any _ _).mono ?_; rintro e w1 ⟨rfl, rfl⟩)
        go_ret
        exact ⟨rfl, rfl⟩
      | true =>
        have HS := Lib.hid h3
        go_enter Tryz.func128, Tryz.ntmps128
        go_wp2_with (go_at_call 132; refine (l01Small_any _ _).mono ?_; rintro e w1 ⟨rfl, rfl⟩)
        clear h3
        go_loop [3] (fun i => ∃ k : Nat, k ≤ s.size ∧ i = .int .i64 k ∧ Hid (∀ j, j < k → nameZ (bz s j) = true)) (fun i => s.size - (intOf i).toNat)
        case atStart => exact ⟨0, Nat.zero_le _, rfl, Lib.hid (fun j hj => absurd hj (by omega))⟩
        case round =>
          obtain ⟨k, hk, rfl, hall⟩ := hrel
          by_cases hlt : k < s.size
          · cases hs1 : smallZ (s[k].toNat : Int) with
            | true =>
              have HX := Lib.hid (name_small hs1)
              go_wp2_with (go_at_call 132; refine (l01Small_any _ _).mono ?_; rintro e w1 ⟨rfl, rfl⟩)
              go_round
              case rel => exact ⟨k + 1, by omega, by go_num, Lib.hid (name_more hlt hall.out HX.out)⟩
              case measure => simp [intOf]; omega
            | false =>
              cases hs2 : digitZ (s[k].toNat : Int) with
              | true =>
                have HX := Lib.hid (show nameZ (s[k].toNat : Int) = true by simp [nameZ, hs2])
                go_wp2_with (first | (go_at_call 132; refine (l01Small_any _ _).mono ?_; rintro e w1 ⟨rfl, rfl⟩) | (go_at_call 133; refine (l01Digit_any _ _).mono ?_; rintro e w1 ⟨rfl, rfl⟩))
                go_round
                case rel => exact ⟨k + 1, by omega, by go_num, Lib.hid (name_more hlt hall.out HX.out)⟩
                case measure => simp [intOf]; omega
              | false =>
                cases hs3 : ((s[k].toNat : Int) == 45) with
                | true =>
                  have HX := Lib.hid (show nameZ (s[k].toNat : Int) = true by simp [nameZ, hs3])
                  have a2 : ((s[k].toNat : Int) != 45) = false := by simp only [bne, hs3]; rfl
                  clear hs3
                  go_wp2_with (first | (go_at_call 132; refine (l01Small_any _ _).mono ?_; rintro e w1 ⟨rfl, rfl⟩) | (go_at_call 133; refine (l01Digit_any _ _).mono ?_; rintro e w1 ⟨rfl, rfl⟩))
                  go_round
                  case rel => exact ⟨k + 1, by omega, by go_num, Lib.hid (name_more hlt hall.out HX.out)⟩
                  case measure => simp [intOf]; omega
                | false =>
                  obtain rfl := name_bad HR.out hlt (by simp only [nameZ, hs1, hs2, hs3]; rfl)
                  have a2 : ((s[k].toNat : Int) != 45) = true := by simp only [bne, hs3]; rfl
                  clear hs3
                  go_wp2_with (first | (go_at_call 132; refine (l01Small_any _ _).mono ?_; rintro e w1 ⟨rfl, rfl⟩) | (go_at_call 133; refine (l01Digit_any _ _).mono ?_; rintro e w1 ⟨rfl, rfl⟩))
                  go_ret
                  exact ⟨rfl, rfl⟩
          · obtain rfl := name_end HR.out h1 h2 (by rw [bz_at h0]; exact HS.out) (by omega) hall.out
            go_wp2
            go_ret
            exact ⟨rfl, rfl⟩
    · obtain rfl : r = false := by rw [← HR.out]; simp [okName, h2]
      go_enter Tryz.func128, Tryz.ntmps128
      go_wp2_with fail
      go_ret
      exact ⟨rfl, rfl⟩
  · obtain rfl : r = false := by rw [← HR.out]; simp [okName, h1]
    have tE : s.toList.isEmpty = true := by
      cases h : s.toList with
      | nil => rfl
      | cons a l =>
        exfalso
        have e : s.toList.length = s.size := by rw [Lib.toList_data]; simp
        rw [h] at e; simp at e; omega
    go_enter Tryz.func128, Tryz.ntmps128
    go_wp2_with fail
    go_ret
    exact ⟨rfl, rfl⟩
end Go.Proofs.YthemlamdchcicaaGreatDoor

namespace Go.Proofs.YthemlamdchcicaaGreatDoor
open Go.ChangeShapes Go.WideShapes Go.ChangeAt Go.RowKit Go.Deep Go.Shelf

/-- The first place at which p holds, or -1. -/
def idxI {α : Type} (p : α → Bool) : List α → Int
  | [] => -1
  | z :: zs => if p z then 0 else if idxI p zs = -1 then -1 else idxI p zs + 1

theorem idxI_ge {α : Type} (p : α → Bool) (zs : List α) : -1 ≤ idxI p zs ∧ idxI p zs < zs.length := by
  induction zs with
  | nil => simp [idxI]
  | cons z zs ih =>
    simp only [idxI, List.length_cons]
    split
    · omega
    · split <;> omega

theorem idxI_none {α : Type} {p : α → Bool} {zs : List α} : (∀ z ∈ zs, p z = false) → idxI p zs = -1 := by
  induction zs with
  | nil => intro _; rfl
  | cons z zs ih =>
    intro h
    simp [idxI, h z (by simp), ih (fun y hy => h y (by simp [hy]))]

theorem idxI_hit {α : Type} {p : α → Bool} {zs : List α} {k : Nat} {x : α} (hk : zs[k]? = some x) (hx : p x = true) (hb : ∀ j y, j < k → zs[j]? = some y → p y = false) : idxI p zs = k := by
  induction zs generalizing k with
  | nil => simp at hk
  | cons z zs ih =>
    cases k with
    | zero =>
      simp at hk
      subst hk
      simp [idxI, hx]
    | succ k =>
      have h0 := hb 0 z (by omega) (by simp)
      have hi := ih (k := k) (by simpa using hk) (fun j y hj hy => hb (j + 1) y (by omega) (by simpa using hy))
      simp only [idxI, h0, hi, Bool.false_eq_true, if_false]
      rw [if_neg (by omega)]
      omega

theorem idxI_neg {α : Type} (p : α → Bool) (zs : List α) : decide (0 ≤ idxI p zs) = zs.any p := by
  induction zs with
  | nil => simp [idxI]
  | cons z zs ih =>
    have h := idxI_ge p zs
    by_cases hz : p z = true
    · simp [idxI, hz]
    · have hz' : p z = false := by simpa using hz
      simp only [idxI, List.any_cons, ← ih, hz', Bool.false_eq_true, if_false, Bool.false_or]
      by_cases h1 : idxI p zs = -1
      · rw [if_pos h1, h1]
      · rw [if_neg h1, decide_eq_true (show (0 : Int) ≤ idxI p zs + 1 by omega), decide_eq_true (show (0 : Int) ≤ idxI p zs by omega)]

set_option maxHeartbeats 1600000 in
theorem indexFunc_any (a : Option Addr) (n c : Nat) (zs : List Int) (p : Int → Bool) (g : Nat) (lb : Array Value) (w : World) (eg : ∀ args w, (callFunc g args).run Tryz.prog w = .ok (.enter g args) w)
    (hz : zs.length = n) (hn : n ≤ 1073741824) (hc : CellsAt w a (zs.map (Value.int .i64)))
    (hp : ∀ (z : Int) (W : World), Below w.heap.size w W → z ∈ zs → Calls Tryz.prog g (#[.int .i64 z] ++ lb) W fun e W' => e = .returned (.bool (p z)) ∧ Below W.heap.size W W') :
    Calls Tryz.prog 63 #[.slice a n c, .func (.func g) #[] lb] w fun e w' => e = .returned (.int .i64 (idxI p zs)) ∧ Below w.heap.size w w' := by
  by_cases h0 : n = 0
  · subst h0
    have h1 : zs = [] := List.eq_nil_of_length_eq_zero hz
    subst h1
    clear hz hc hp eg
    go_enter Tryz.func63, Tryz.ntmps63
    go_wp2
    refine wp_loop_once ?_
    go_wp2
    go_ret
    exact ⟨rfl, Below.refl _ _⟩
  · obtain ⟨b, off, rfl, hb, hcell⟩ := hc.at_ (by simp; omega)
    have Hc := Lib.hid hcell
    have Hz := Lib.hid hz
    have Hp := Lib.hid hp
    clear hcell hz hp hc
    go_enter Tryz.func63, Tryz.ntmps63
    go_wp2
    go_loopw [5, 8] (fun _ i wr => ∃ k : Nat, k ≤ n ∧ i = .int .i64 k ∧ Below w.heap.size w wr ∧ Hid (∀ j y, j < k → zs[j]? = some y → p y = false)) (fun _ i _ => n - (intOf i).toNat)
    case atStart => exact ⟨0, Nat.zero_le _, rfl, Below.refl _ _, Lib.hid (fun j y hj => absurd hj (Nat.not_lt_zero _))⟩
    case round =>
      obtain ⟨k, hk, rfl, hbw, hno⟩ := hrel
      by_cases hlt : k < n
      · have hkz : k < zs.length := by rw [Hz.out]; exact hlt
        have hx : wr.cell? ⟨b, off + k, none⟩ = some (.int .i64 (zs.getD k 0)) := by
          rw [hbw.cell (p := ⟨b, off + k, none⟩) hb, Hc.out k (by simpa using hkz)]
          simp [List.getElem?_eq_getElem hkz]
        have hcall := Hp.out (zs.getD k 0) wr hbw (by simp [List.getElem?_eq_getElem hkz])
        obtain ⟨z, hzk⟩ : ∃ z, z = zs.getD k 0 := ⟨_, rfl⟩
        rw [← hzk] at hx hcall
        have Hk := Lib.hid hzk
        have Hb := Lib.hid hbw
        clear hzk hbw
        cases hq : p z with
        | true =>
          rw [hq] at hcall
          have Hq := Lib.hid hq
          clear hq
          go_wp2_with (go_at_fn g; refine hcall.mono ?_; rintro e w' ⟨rfl, hb'⟩)
          go_ret
          exact ⟨ret_int (idxI_hit (k := k) (x := z) (by rw [Hk.out]; simp [List.getElem?_eq_getElem hkz]) Hq.out hno.out).symm, Hb.out.trans (hb'.mono Hb.out.size)⟩
        | false =>
          rw [hq] at hcall
          have Hq := Lib.hid hq
          clear hq
          go_wp2_with (go_at_fn g; refine hcall.mono ?_; rintro e w' ⟨rfl, hb'⟩)
          go_roundw
          case rel =>
            refine ⟨k + 1, by omega, by go_num, Hb.out.trans (hb'.mono Hb.out.size), Lib.hid (fun j y hj hy => ?_)⟩
            by_cases e : j = k
            · subst e
              have e2 : y = z := by
                rw [Hk.out]
                simp [hy]
              rw [e2]; exact Hq.out
            · exact hno.out j y (by omega) hy
          case measure => simp [intOf]; omega
      · go_wp2
        go_ret
        have e : k = n := by omega
        subst e
        refine ⟨ret_int (idxI_none (p := p) (zs := zs) (fun z hz => ?_)).symm, hbw⟩
        obtain ⟨j, hj, rfl⟩ := List.mem_iff_getElem.1 hz
        exact hno.out j _ (by rw [← Hz.out]; exact hj) (List.getElem?_eq_getElem hj)
theorem containsFunc_any (a : Option Addr) (n c : Nat) (zs : List Int) (p : Int → Bool) (g : Nat) (lb : Array Value) (w : World) (eg : ∀ args w, (callFunc g args).run Tryz.prog w = .ok (.enter g args) w)
    (hz : zs.length = n) (hn : n ≤ 1073741824) (hc : CellsAt w a (zs.map (Value.int .i64)))
    (hp : ∀ (z : Int) (W : World), Below w.heap.size w W → z ∈ zs → Calls Tryz.prog g (#[.int .i64 z] ++ lb) W fun e W' => e = .returned (.bool (p z)) ∧ Below W.heap.size W W') :
    Calls Tryz.prog 92 #[.slice a n c, .func (.func g) #[] lb] w fun e w' => e = .returned (.bool (zs.any p)) ∧ Below w.heap.size w w' := by
  have hcon := indexFunc_any a n c zs p g lb w eg hz hn hc hp
  have hi := idxI_neg p zs
  have Hi := Lib.hid hi
  clear hi hz hc hp eg
  generalize idxI p zs = r at hcon Hi
  generalize zs.any p = q at Hi ⊢
  go_enter Tryz.func92, Tryz.ntmps92
  go_wp2_with (go_at_call 63; refine hcon.mono ?_; rintro e w' ⟨rfl, hb'⟩)
  all_goals
    go_ret
    exact ⟨ret_bool Hi.out, hb'⟩
/-- Some number of a list does not lie between two others. -/
def outB (zs : List Int) (lo hi : Int) : Bool := zs.any fun z => !inB z lo hi
theorem outB_false {zs : List Int} {lo hi : Int} : outB zs lo hi = false ↔ ∀ z ∈ zs, lo ≤ z ∧ z ≤ hi := by
  simp [outB, inB_true]

theorem outside1_any (z lo hi : Int) (p q : Addr) (w : World) (hl : w.cell? p = some (.int .i64 lo)) (hh : w.cell? q = some (.int .i64 hi)) :
    Calls Tryz.prog 93 #[.int .i64 z, .pointer (some p), .pointer (some q)] w fun e w' => e = .returned (.bool (!inB z lo hi)) ∧ w = w' := by
  go_enter Tryz.func93, Tryz.ntmps93
  go_wp2_with (go_at_call 53; refine (within_any _ _ _ _).mono ?_; rintro e w' ⟨rfl, rfl⟩)
  go_ret
  exact ⟨rfl, rfl⟩

theorem outside_any (a : Option Addr) (n c : Nat) (zs : List Int) (lo hi : Int) (w : World) (hz : zs.length = n) (hn : n ≤ 1073741824) (hc : CellsAt w a (zs.map (Value.int .i64))) :
    Calls Tryz.prog 51 #[.slice a n c, .int .i64 lo, .int .i64 hi] w fun e w' => e = .returned (.bool (outB zs lo hi)) ∧ Below w.heap.size w w' := by
  have eg : ∀ args w, (callFunc 93 args).run Tryz.prog w = .ok (.enter 93 args) w := enters_of Tryz.func93 (by kernel_rfl) rfl
  have hb2 : Below w.heap.size w ((w.alloc (.cells #[.int .i64 lo] 2)).alloc (.cells #[.int .i64 hi] 2)) := ((Below.refl _ _).alloc (Nat.le_refl _) _).alloc (by simp) _
  have hcon := containsFunc_any a n c zs (fun z => !inB z lo hi) 93 #[.pointer (some ⟨w.heap.size, 0, none⟩), .pointer (some ⟨w.heap.size + 1, 0, none⟩)]
    ((w.alloc (.cells #[.int .i64 lo] 2)).alloc (.cells #[.int .i64 hi] 2)) eg hz hn (hc.below hb2)
    (fun z W hb _ => by
      refine (outside1_any z lo hi ⟨w.heap.size, 0, none⟩ ⟨w.heap.size + 1, 0, none⟩ W ?_ ?_).mono ?_
      · rw [hb.cell (p := ⟨w.heap.size, 0, none⟩) (by simp; omega)]
        simp [go_sem]
      · rw [hb.cell (p := ⟨w.heap.size + 1, 0, none⟩) (by simp)]
        simp [go_sem]
      · rintro e w' ⟨he, rfl⟩
        exact ⟨he, Below.refl _ _⟩)
  have Hb2 := Lib.hid hb2
  clear hb2 eg hc hz
  change Calls Tryz.prog _ _ _ (fun e w' => e = .returned (.bool (outB zs lo hi)) ∧ _) at hcon
  generalize outB zs lo hi = r at hcon ⊢
  go_enter Tryz.func51, Tryz.ntmps51
  go_wp2_with (go_at_call 92; refine hcon.mono ?_; rintro e w' ⟨rfl, hb'⟩)
  go_ret
  exact ⟨rfl, Hb2.out.trans (hb'.mono (by simp; omega))⟩
end Go.Proofs.YthemlamdchcicaaGreatDoor

namespace Go.Proofs.YthemlamdchcicaaGreatDoor
open Go.ChangeShapes Go.WideShapes Go.ChangeAt Go.RowKit Go.Deep Go.Shelf

def footB (l b i h : Int) : Bool := inB l 500 5000 && (inB b 500 5000 && (inB i 500 5000 && inB h 500 5000))
def lastB (s : ByteArray) (l b i h p : Int) : Bool := okName s && (footB l b i h && inB p 0 1000)
theorem footB_out (l b i h : Int) : (!outB [l, b, i, h] 500 5000) = footB l b i h := by
  simp only [outB, footB, List.any_cons, List.any_nil]
  cases inB l 500 5000 <;> cases inB b 500 5000 <;> cases inB i 500 5000 <;> cases inB h 500 5000 <;> rfl

set_option maxHeartbeats 800000 in
theorem measures_any (l b i h : Int) (w : World) : Calls Tryz.prog 52 #[.agg #[.int .i64 l, .int .i64 b, .int .i64 i, .int .i64 h]] w (OwnRow w 2 1 4 ([l, b, i, h].map (Value.int .i64))) := by
  have ho := World.ownsRow_lit (base := w.heap.size) (size := 1) (e := 2) (w.alloc (.cells #[.int .i64 l, .int .i64 b, .int .i64 i, .int .i64 h] 25)) #[.int .i64 l, .int .i64 b, .int .i64 i, .int .i64 h] 4 (by simp) (by unfold maxLen; omega) (by simp)
  have HO := Lib.hid ho
  clear ho
  go_enter Tryz.func52, Tryz.ntmps52
  go_wp2
  go_ret
  refine ⟨some ⟨w.heap.size + 1, 0, none⟩, 4, rfl, ?_, (by repeat (first | exact Below.refl _ _ | assumption | refine Below.drew ?_ | refine below_drewN ?_ _ | refine Below.alloc ?_ (by simp; try omega) _ | refine Below.setCell ?_ (by simp; try omega) _))⟩
  have h := HO.out
  simpa using h
set_option maxHeartbeats 800000 in
theorem validFoot_any (l b i h : Int) (w : World) : Calls Tryz.prog 25 #[.agg #[.int .i64 l, .int .i64 b, .int .i64 i, .int .i64 h]] w fun e w' => e = .returned (.bool (footB l b i h)) ∧ Below w.heap.size w w' := by
  have hout := fun (a : Option Addr) (c : Nat) (W : World) (hc : CellsAt W a ([l, b, i, h].map (Value.int .i64))) => outside_any a 4 c [l, b, i, h] 500 5000 W rfl (by omega) hc
  rw [← footB_out]
  generalize outB [l, b, i, h] 500 5000 = q at hout ⊢
  have HO := Lib.hid hout
  have HM := Lib.hid (fun W => measures_any l b i h W)
  clear hout
  go_enter Tryz.func25, Tryz.ntmps25
  go_wp2_with fail
  refine (HM.out _).mono ?_
  rintro e w1 ⟨aL, capL, rfl, ho, hb⟩
  have HB := Lib.hid (((Bel.refl w).alloc _).step hb)
  have HC := Lib.hid (CellsAt.of_own ho)
  clear ho hb
  go_wp2_with (go_at_call 51; refine (HO.out _ _ _ HC.out).mono ?_; rintro e w2 ⟨rfl, hb2⟩; have HB2 := Lib.hid (HB.out.step hb2); clear hb2)
  go_ret
  exact ⟨rfl, HB2.out.1⟩
theorem foot_any (s : ByteArray) (l b i h p : Int) (w : World) : Calls Tryz.prog 58 #[.agg #[.string s, .int .i64 l, .int .i64 b, .int .i64 i, .int .i64 h, .int .i64 p]] w fun e w' => e = .returned (.agg #[.int .i64 l, .int .i64 b, .int .i64 i, .int .i64 h]) ∧ Below w.heap.size w w' := by
  go_enter Tryz.func58, Tryz.ntmps58
  go_wp2
  exact bodyPost_ret (v := .agg #[.int .i64 l, .int .i64 b, .int .i64 i, .int .i64 h]) (by simp [results, Tryz.results58, go_sem]) rfl ⟨rfl, (by repeat (first | exact Below.refl _ _ | assumption | refine Below.drew ?_ | refine below_drewN ?_ _ | refine Below.alloc ?_ (by simp; try omega) _ | refine Below.setCell ?_ (by simp; try omega) _))⟩
set_option maxHeartbeats 1600000 in
theorem validLast_any (s : ByteArray) (l b i h p : Int) (w : World) (hs : s.size ≤ maxLen) : Calls Tryz.prog 28 #[.agg #[.string s, .int .i64 l, .int .i64 b, .int .i64 i, .int .i64 h, .int .i64 p]] w fun e w' => e = .returned (.bool (lastB s l b i h p)) ∧ Below w.heap.size w w' := by
  have h1 := fun W => isName_any s W hs
  have h2 := fun W => validFoot_any l b i h W
  simp only [lastB]
  generalize okName s = q1 at h1 ⊢
  generalize footB l b i h = q2 at h2 ⊢
  have H1 := Lib.hid h1
  have H2 := Lib.hid h2
  have H3 := Lib.hid (fun W => foot_any s l b i h p W)
  clear h1 h2
  cases q1
  · go_enter Tryz.func28, Tryz.ntmps28
    go_wp2_with (go_at_call 57; refine (H1.out _).mono ?_; rintro e w1 ⟨rfl, rfl⟩)
    go_ret
    exact ⟨rfl, (by repeat (first | exact Below.refl _ _ | assumption | refine Below.drew ?_ | refine below_drewN ?_ _ | refine Below.alloc ?_ (by simp; try omega) _ | refine Below.setCell ?_ (by simp; try omega) _))⟩
  · have HC := Lib.hid (Bel.refl (w.alloc (.cells #[.string s, .int .i64 l, .int .i64 b, .int .i64 i, .int .i64 h, .int .i64 p] 37)))
    cases q2
    all_goals
      go_enter Tryz.func28, Tryz.ntmps28
      go_wp2_with (go_at_call 57; refine (H1.out _).mono ?_; rintro e w1 ⟨rfl, rfl⟩)
      refine (H3.out _).mono ?_
      rintro e w1 ⟨rfl, hb1⟩
      have HC1 := Lib.hid (HC.out.step hb1)
      clear hb1
      go_wp2_with fail
      refine (H2.out _).mono ?_
      rintro e w2 ⟨rfl, hb2⟩
      have HC2 := Lib.hid (HC1.out.step hb2)
      clear hb2
      have hcp : w2.cell? ⟨w.heap.size, 5, none⟩ = some (.int .i64 p) := (HC2.out.1.cell (p := ⟨w.heap.size, 5, none⟩) (by simp)).trans (by simp)
      go_wp2_with (go_at_call 53; refine (within_any _ _ _ _).mono ?_; rintro e w1 ⟨rfl, rfl⟩)
      go_ret
      exact ⟨rfl, (((Bel.refl w).alloc _).step (HC2.out.1)).1⟩
end Go.Proofs.YthemlamdchcicaaGreatDoor
