/-
  Contracts of HoleClash, both sides. No condition of its own.
-/
import Derived.Test.YtgdndmpnnocgiaaRises
import Derived.Test.YtgdndmpnnocgiaaFrac
import Derived.OwnWalk
namespace Go.Proofs.Ytgdndmpnnocgiaa
open Go.ChangeShapes Go.WideShapes Go.ChangeAt Go.RowKit Go.Deep Go.Shelf

def nearB (l x y : Int) : Bool := decide (((x - y).natAbs : Int) < l)
def clashB (xs ys : List Int) (n m : Nat) (l : Int) : Bool := decide (n ≤ 1000) && (decide (m ≤ 1000) && (risesB xs n 0 100000 && (risesB ys m 0 100000 && inB l 0 1000)))
def clI (xs ys : List Int) (l : Int) : Int := idxI (fun x => ys.any (nearB l x)) xs
def clashI (xs ys : List Int) (n m : Nat) (l : Int) : Int := if clashB xs ys n m l then (if clI xs ys l < 0 then 0 else clI xs ys l) else 0
def clashK (xs ys : List Int) (n m : Nat) (l : Int) : Int := if clashB xs ys n m l then (if clI xs ys l < 0 then 0 else idxI (nearB l (xs.getD (clI xs ys l).toNat 0)) ys) else 0
def clashC (xs ys : List Int) (n m : Nat) (l : Int) : Int := if clashB xs ys n m l then (if clI xs ys l < 0 then 3 else 0) else 2
theorem clash_parts {xs ys : List Int} {n m : Nat} {l : Int} (h : clashB xs ys n m l = true) : n ≤ 1000 ∧ m ≤ 1000 ∧ risesB xs n 0 100000 = true ∧ risesB ys m 0 100000 = true ∧ inB l 0 1000 = true := by
  simpa only [clashB, Bool.and_eq_true, decide_eq_true_eq] using h
theorem rises_at {zs : List Int} {n k : Nat} {lo hi : Int} (h : risesB zs n lo hi = true) (hk : k < n) : lo ≤ zs.getD k 0 ∧ zs.getD k 0 ≤ hi := by
  have h1 := of_decide_eq_true h k hk
  simp only [riseAt, Bool.and_eq_true, inB_true] at h1
  exact h1.1
/-- The first clash is at (i, k). -/
theorem clash_hit {xs ys : List Int} {n m i k : Nat} {l x y : Int} (hB : clashB xs ys n m l = true) (hx : xs[i]? = some x) (hy : ys[k]? = some y) (h : nearB l x y = true)
    (h1 : ∀ j z, j < i → xs[j]? = some z → ys.any (nearB l z) = false) (h2 : ∀ j z, j < k → ys[j]? = some z → nearB l x z = false) :
    clashI xs ys n m l = i ∧ clashK xs ys n m l = k ∧ clashC xs ys n m l = 0 := by
  have e1 : clI xs ys l = (i : Int) := idxI_hit hx (List.any_eq_true.2 ⟨y, List.mem_of_getElem? hy, h⟩) h1
  have e2 : idxI (nearB l x) ys = (k : Int) := idxI_hit hy h h2
  have e3 : xs.getD i 0 = x := by simp [hx]
  simp only [clashI, clashK, clashC, hB, if_true, e1, Int.toNat_natCast, e3, e2]
  rw [if_neg (by omega), if_neg (by omega), if_neg (by omega)]
  exact ⟨rfl, rfl, rfl⟩
theorem clash_none {xs ys : List Int} {n m i : Nat} {l : Int} (hB : clashB xs ys n m l = true) (hi : xs.length ≤ i) (h1 : ∀ j z, j < i → xs[j]? = some z → ys.any (nearB l z) = false) :
    clashI xs ys n m l = 0 ∧ clashK xs ys n m l = 0 ∧ clashC xs ys n m l = 3 := by
  have e1 : clI xs ys l = -1 := idxI_none (fun z hz => by
    obtain ⟨j, hj, rfl⟩ := List.mem_iff_getElem.1 hz
    exact h1 j _ (by omega) (List.getElem?_eq_getElem hj))
  simp [clashI, clashK, clashC, hB, e1]
theorem row_none {ys : List Int} {k : Nat} {l x : Int} (hk : ys.length ≤ k) (h2 : ∀ j z, j < k → ys[j]? = some z → nearB l x z = false) : ys.any (nearB l x) = false := by
  rw [List.any_eq_false]
  intro z hz
  obtain ⟨j, hj, rfl⟩ := List.mem_iff_getElem.1 hz
  rw [h2 j _ (by omega) (List.getElem?_eq_getElem hj)]
  simp
theorem clash_more {p : Int → Bool} {xs : List Int} {i : Nat} {x : Int} (h1 : ∀ j z, j < i → xs[j]? = some z → p z = false) (hx : xs[i]? = some x) (h : p x = false) : ∀ j z, j < i + 1 → xs[j]? = some z → p z = false := fun j z hj hz => by
  by_cases e : j = i
  · subst e; rw [hx] at hz; cases hz; exact h
  · exact h1 j z (by omega) hz
theorem get_some {xs : List Int} {i : Nat} {x : Int} (hi : i < xs.length) (hx : xs.getD i 0 = x) : xs[i]? = some x := by
  rw [← hx]; simp [List.getElem?_eq_getElem hi]

theorem apart_any (x y : Int) (w : World) (h1 : -1000000000000 ≤ x) (h2 : x ≤ 1000000000000) (h3 : -1000000000000 ≤ y) (h4 : y ≤ 1000000000000) :
    Calls Try.prog 54 #[.int .i64 x, .int .i64 y] w fun e w' => e = .returned (.int .i64 ((x - y).natAbs : Int)) ∧ w = w' := by
  go_enter Try.func54, Try.ntmps54
  go_wp2
  all_goals
    go_ret
    exact ⟨ret_int (by omega), rfl⟩
def End3 (w : World) (i k c : Int) (e : Ending) (w' : World) : Prop := e = .returned (.tuple #[.int .i64 i, .int .i64 k, .int .i64 c]) ∧ Below w.heap.size w w'

set_option maxRecDepth 100000 in
set_option maxHeartbeats 3200000 in
theorem impl_HoleClash (w : World) (a : Option Addr) (n c : Nat) (xs : List Int) (hl : xs.length = n) (hn : n ≤ 1048576) (hc : CellsAt w a (xs.map (Value.int .i64))) (_ : ∀ z ∈ xs, (Lit.int .i64 z).wf = true)
    (a' : Option Addr) (m c' : Nat) (ys : List Int) (hl' : ys.length = m) (hm : m ≤ 1048576) (hc' : CellsAt w a' (ys.map (Value.int .i64))) (_ : ∀ z ∈ ys, (Lit.int .i64 z).wf = true) (l : Int) (_ : (Lit.int .i64 l).wf = true) :
    Calls Try.prog 15 #[.slice a n c, .slice a' m c', .int .i64 l] w (End3 w (clashI xs ys n m l) (clashK xs ys n m l) (clashC xs ys n m l)) := by
  have h1 := fun W (e : Below w.heap.size w W) => isIncreasing_any a n c xs 0 100000 W hl (by omega) (hc.below e)
  have h2 := fun W (e : Below w.heap.size w W) => isIncreasing_any a' m c' ys 0 100000 W hl' (by omega) (hc'.below e)
  cases hB : clashB xs ys n m l with
  | false =>
    rw [show clashI xs ys n m l = 0 by simp [clashI, hB], show clashK xs ys n m l = 0 by simp [clashK, hB], show clashC xs ys n m l = 2 by simp [clashC, hB]]
    clear hl hl' hc hc'
    by_cases hn1 : n ≤ 1000
    · by_cases hm1 : m ≤ 1000
      · simp only [clashB, hn1, hm1, decide_true, Bool.true_and] at hB
        generalize risesB xs n 0 100000 = p at h1 hB
        generalize risesB ys m 0 100000 = q at h2 hB
        have H1 := Lib.hid h1
        have H2 := Lib.hid h2
        clear h1 h2
        cases p
        · clear hB
          go_enter Try.func15, Try.ntmps15
          go_wp2_with fail
          refine (H1.out _ (Below.refl _ _)).mono ?_
          rintro e w1 ⟨rfl, hb1⟩
          have HB1 := Lib.hid hb1
          clear hb1
          go_wp2_with fail
          go_ret3
          exact ⟨rfl, HB1.out⟩
        · cases q
          · clear hB
            go_enter Try.func15, Try.ntmps15
            go_wp2_with fail
            refine (H1.out _ (Below.refl _ _)).mono ?_
            rintro e w1 ⟨rfl, hb1⟩
            have HB1 := Lib.hid hb1
            clear hb1
            go_wp2_with fail
            refine (H2.out _ HB1.out).mono ?_
            rintro e w2 ⟨rfl, hb2⟩
            have HB2 := Lib.hid ((Bel.of HB1.out).step hb2)
            clear hb2
            go_wp2_with fail
            go_ret3
            exact ⟨rfl, HB2.out.1⟩
          · simp only [Bool.true_and] at hB
            go_enter Try.func15, Try.ntmps15
            go_wp2_with fail
            refine (H1.out _ (Below.refl _ _)).mono ?_
            rintro e w1 ⟨rfl, hb1⟩
            have HB1 := Lib.hid hb1
            clear hb1
            go_wp2_with fail
            refine (H2.out _ HB1.out).mono ?_
            rintro e w2 ⟨rfl, hb2⟩
            have HB2 := Lib.hid ((Bel.of HB1.out).step hb2)
            clear hb2
            go_wp2_with (go_at_call 53; refine (within_any _ _ _ _).mono ?_; rintro e w1 ⟨rfl, rfl⟩)
            go_ret3
            exact ⟨rfl, HB2.out.1⟩
      · clear hB h1 h2
        go_enter Try.func15, Try.ntmps15
        go_wp2
        go_ret3
        exact ⟨rfl, Below.refl _ _⟩
    · clear hB h1 h2
      go_enter Try.func15, Try.ntmps15
      go_wp2
      go_ret3
      exact ⟨rfl, Below.refl _ _⟩
  | true =>
    obtain ⟨n1, m1, r1, r2, li⟩ := clash_parts hB
    obtain ⟨l1, l2⟩ := inB_true.1 li
    obtain ⟨i0, hi0⟩ : ∃ q, clashI xs ys n m l = q := ⟨_, rfl⟩
    obtain ⟨k0, hk0⟩ : ∃ q, clashK xs ys n m l = q := ⟨_, rfl⟩
    obtain ⟨c0, hc0⟩ : ∃ q, clashC xs ys n m l = q := ⟨_, rfl⟩
    rw [hi0, hk0, hc0]
    have HF := Lib.hid (And.intro hi0 (And.intro hk0 hc0))
    have HB := Lib.hid hB
    have X1 := Lib.hid (fun k (h : k < n) => rises_at r1 h)
    have X2 := Lib.hid (fun k (h : k < m) => rises_at r2 h)
    have Hx := Lib.hid hl
    have Hy := Lib.hid hl'
    have HA := Lib.hid hc
    have HA' := Lib.hid hc'
    rw [r1] at h1
    rw [r2] at h2
    have H1 := Lib.hid h1
    have H2 := Lib.hid h2
    clear h1 h2 hB hl hl' hc hc' r1 r2 hi0 hk0 hc0
    go_enter Try.func15, Try.ntmps15
    go_wp2_with fail
    refine (H1.out _ (Below.refl _ _)).mono ?_
    rintro e w1 ⟨rfl, hb1⟩
    have HB1 := Lib.hid hb1
    clear hb1
    go_wp2_with fail
    refine (H2.out _ HB1.out).mono ?_
    rintro e w2 ⟨rfl, hb2⟩
    have HB2 := Lib.hid ((Bel.of HB1.out).step hb2)
    clear hb2
    go_wp2_with (go_at_call 53; refine (within_any _ _ _ _).mono ?_; rintro e w1 ⟨rfl, rfl⟩)
    go_loopw [38] (fun t wr => ∃ i : Nat, i ≤ n ∧ t = .int .i64 i ∧ Hid (∀ j z, j < i → xs[j]? = some z → ys.any (nearB l z) = false) ∧ Hid (Bel w.heap.size w wr)) (fun t _ => n - (intOf t).toNat)
    case atStart => exact ⟨0, Nat.zero_le _, rfl, Lib.hid (fun j z hj => absurd hj (by omega)), HB2⟩
    case round =>
      obtain ⟨i, hi, rfl, hno, hbw⟩ := hrel
      by_cases hlt : i < n
      · obtain ⟨b, o, rfl, hb, hcc⟩ := HA.out.at_ (by have := Hx.out; simp; omega)
        obtain ⟨x, hx⟩ : ∃ z, xs.getD i 0 = z := ⟨_, rfl⟩
        have hcx := cell_int hb hbw.out.1 hcc (by rw [Hx.out]; exact hlt) hx
        have xb := X1.out i hlt
        rw [hx] at xb
        obtain ⟨x1, x2⟩ := xb
        have HX := Lib.hid (get_some (by rw [Hx.out]; exact hlt) hx)
        have hlt' : (i : Int) < (n : Int) := by omega
        clear hcc hx
        go_wp2
        go_loopw [45] (fun t wi => ∃ k : Nat, k ≤ m ∧ t = .int .i64 k ∧ Hid (∀ j z, j < k → ys[j]? = some z → nearB l x z = false) ∧ Hid (Bel w.heap.size w wi)) (fun t _ => m - (intOf t).toNat)
        case atStart => exact ⟨0, Nat.zero_le _, rfl, Lib.hid (fun j z hj => absurd hj (by omega)), hbw⟩
        case round =>
          obtain ⟨k, hk, rfl, hno2, hbi⟩ := hrel
          by_cases hlk : k < m
          · obtain ⟨b', o', rfl, hb', hcc'⟩ := HA'.out.at_ (by have := Hy.out; simp; omega)
            obtain ⟨y, hy⟩ : ∃ z, ys.getD k 0 = z := ⟨_, rfl⟩
            have hcy := cell_int hb' hbi.out.1 hcc' (by rw [Hy.out]; exact hlk) hy
            have yb := X2.out k hlk
            rw [hy] at yb
            obtain ⟨y1, y2⟩ := yb
            have HY := Lib.hid (get_some (by rw [Hy.out]; exact hlk) hy)
            have hlk' : (k : Int) < (m : Int) := by omega
            have hcall := fun W => apart_any x y W (by omega) (by omega) (by omega) (by omega)
            obtain ⟨d, hd⟩ : ∃ d, ((x - y).natAbs : Int) = d := ⟨_, rfl⟩
            simp only [hd] at hcall
            have HC := Lib.hid hcall
            have HD := Lib.hid hd
            clear hcc' hy hcall hd
            by_cases hd : d < l
            · obtain ⟨e1, e2, e3⟩ := clash_hit HB.out HX.out HY.out (by rw [nearB, HD.out]; exact decide_eq_true hd) hno.out hno2.out
              obtain rfl : i0 = i := by rw [← HF.out.1, e1]
              obtain rfl : k0 = k := by rw [← HF.out.2.1, e2]
              obtain rfl : c0 = 0 := by rw [← HF.out.2.2, e3]
              clear e1 e2 e3
              go_wp2_with (go_at_call 54; refine (HC.out _).mono ?_; rintro e w1 ⟨rfl, rfl⟩)
              go_ret3
              exact ⟨rfl, hbi.out.1⟩
            · have HN := Lib.hid (clash_more hno2.out HY.out (by rw [nearB, HD.out]; exact decide_eq_false hd))
              go_wp2_with (go_at_call 54; refine (HC.out _).mono ?_; rintro e w1 ⟨rfl, rfl⟩)
              go_roundw
              case rel => exact ⟨k + 1, by omega, by go_num, HN, hbi⟩
              case measure => simp [intOf]; omega
          · have HN := Lib.hid (clash_more hno.out HX.out (row_none (by rw [Hy.out]; omega) hno2.out))
            go_wp2
            go_roundw
            case rel => exact ⟨i + 1, by omega, by go_num, HN, hbi⟩
            case measure => simp [intOf]; omega
      · obtain ⟨e1, e2, e3⟩ := clash_none HB.out (by rw [Hx.out]; omega) hno.out
        obtain rfl : i0 = 0 := by rw [← HF.out.1, e1]
        obtain rfl : k0 = 0 := by rw [← HF.out.2.1, e2]
        obtain rfl : c0 = 3 := by rw [← HF.out.2.2, e3]
        clear e1 e2 e3
        go_wp2
        go_ret3
        exact ⟨rfl, hbw.out.1⟩

set_option maxRecDepth 100000 in
set_option maxHeartbeats 3200000 in
theorem spec_HoleClash (w : World) (a : Option Addr) (n c : Nat) (xs : List Int) (hl : xs.length = n) (hn : n ≤ 1048576) (hc : CellsAt w a (xs.map (Value.int .i64))) (_ : ∀ z ∈ xs, (Lit.int .i64 z).wf = true)
    (a' : Option Addr) (m c' : Nat) (ys : List Int) (hl' : ys.length = m) (hm : m ≤ 1048576) (hc' : CellsAt w a' (ys.map (Value.int .i64))) (_ : ∀ z ∈ ys, (Lit.int .i64 z).wf = true) (l : Int) (_ : (Lit.int .i64 l).wf = true) :
    Calls Try.prog 13 #[.slice a n c, .slice a' m c', .int .i64 l] w (End3 w (clashI xs ys n m l) (clashK xs ys n m l) (clashC xs ys n m l)) := by
  have h1 := fun W (e : Below w.heap.size w W) => l00Rises_any a n c xs 0 100000 W hl (by omega) (hc.below e)
  have h2 := fun W (e : Below w.heap.size w W) => l00Rises_any a' m c' ys 0 100000 W hl' (by omega) (hc'.below e)
  cases hB : clashB xs ys n m l with
  | false =>
    rw [show clashI xs ys n m l = 0 by simp [clashI, hB], show clashK xs ys n m l = 0 by simp [clashK, hB], show clashC xs ys n m l = 2 by simp [clashC, hB]]
    clear hl hl' hc hc'
    simp only [clashB] at hB
    generalize risesB xs n 0 100000 = p at h1 hB
    generalize risesB ys m 0 100000 = q at h2 hB
    have H1 := Lib.hid h1
    have H2 := Lib.hid h2
    clear h1 h2
    cases p
    · clear hB
      go_enter Try.func13, Try.ntmps13
      go_wp2_with fail
      refine (H1.out _ (Below.refl _ _)).mono ?_
      rintro e w1 ⟨rfl, hb1⟩
      have HB1 := Lib.hid hb1
      clear hb1
      go_wp2_with fail
      go_ret3
      exact ⟨rfl, HB1.out⟩
    · cases q
      · clear hB
        go_enter Try.func13, Try.ntmps13
        go_wp2_with fail
        refine (H1.out _ (Below.refl _ _)).mono ?_
        rintro e w1 ⟨rfl, hb1⟩
        have HB1 := Lib.hid hb1
        clear hb1
        go_wp2_with fail
        refine (H2.out _ HB1.out).mono ?_
        rintro e w2 ⟨rfl, hb2⟩
        have HB2 := Lib.hid ((Bel.of HB1.out).step hb2)
        clear hb2
        go_wp2_with fail
        go_ret3
        exact ⟨rfl, HB2.out.1⟩
      · simp only [Bool.true_and] at hB
        by_cases hn1 : n ≤ 1000
        · by_cases hm1 : m ≤ 1000
          · simp only [hn1, hm1, decide_true, Bool.true_and] at hB
            go_enter Try.func13, Try.ntmps13
            go_wp2_with fail
            refine (H1.out _ (Below.refl _ _)).mono ?_
            rintro e w1 ⟨rfl, hb1⟩
            have HB1 := Lib.hid hb1
            clear hb1
            go_wp2_with fail
            refine (H2.out _ HB1.out).mono ?_
            rintro e w2 ⟨rfl, hb2⟩
            have HB2 := Lib.hid ((Bel.of HB1.out).step hb2)
            clear hb2
            go_wp2_with (go_at_call 50; refine (l00In_any _ _ _ _).mono ?_; rintro e w1 ⟨rfl, rfl⟩)
            go_ret3
            exact ⟨rfl, HB2.out.1⟩
          · clear hB
            go_enter Try.func13, Try.ntmps13
            go_wp2_with fail
            refine (H1.out _ (Below.refl _ _)).mono ?_
            rintro e w1 ⟨rfl, hb1⟩
            have HB1 := Lib.hid hb1
            clear hb1
            go_wp2_with fail
            refine (H2.out _ HB1.out).mono ?_
            rintro e w2 ⟨rfl, hb2⟩
            have HB2 := Lib.hid ((Bel.of HB1.out).step hb2)
            clear hb2
            go_wp2_with fail
            go_ret3
            exact ⟨rfl, HB2.out.1⟩
        · clear hB
          go_enter Try.func13, Try.ntmps13
          go_wp2_with fail
          refine (H1.out _ (Below.refl _ _)).mono ?_
          rintro e w1 ⟨rfl, hb1⟩
          have HB1 := Lib.hid hb1
          clear hb1
          go_wp2_with fail
          refine (H2.out _ HB1.out).mono ?_
          rintro e w2 ⟨rfl, hb2⟩
          have HB2 := Lib.hid ((Bel.of HB1.out).step hb2)
          clear hb2
          go_wp2_with fail
          go_ret3
          exact ⟨rfl, HB2.out.1⟩
  | true =>
    obtain ⟨n1, m1, r1, r2, li⟩ := clash_parts hB
    obtain ⟨l1, l2⟩ := inB_true.1 li
    obtain ⟨i0, hi0⟩ : ∃ q, clashI xs ys n m l = q := ⟨_, rfl⟩
    obtain ⟨k0, hk0⟩ : ∃ q, clashK xs ys n m l = q := ⟨_, rfl⟩
    obtain ⟨c0, hc0⟩ : ∃ q, clashC xs ys n m l = q := ⟨_, rfl⟩
    rw [hi0, hk0, hc0]
    have HF := Lib.hid (And.intro hi0 (And.intro hk0 hc0))
    have HB := Lib.hid hB
    have X1 := Lib.hid (fun k (h : k < n) => rises_at r1 h)
    have X2 := Lib.hid (fun k (h : k < m) => rises_at r2 h)
    have Hx := Lib.hid hl
    have Hy := Lib.hid hl'
    have HA := Lib.hid hc
    have HA' := Lib.hid hc'
    rw [r1] at h1
    rw [r2] at h2
    have H1 := Lib.hid h1
    have H2 := Lib.hid h2
    clear h1 h2 hB hl hl' hc hc' r1 r2 hi0 hk0 hc0
    go_enter Try.func13, Try.ntmps13
    go_wp2_with fail
    refine (H1.out _ (Below.refl _ _)).mono ?_
    rintro e w1 ⟨rfl, hb1⟩
    have HB1 := Lib.hid hb1
    clear hb1
    go_wp2_with fail
    refine (H2.out _ HB1.out).mono ?_
    rintro e w2 ⟨rfl, hb2⟩
    have HB2 := Lib.hid ((Bel.of HB1.out).step hb2)
    clear hb2
    go_wp2_with (go_at_call 50; refine (l00In_any _ _ _ _).mono ?_; rintro e w1 ⟨rfl, rfl⟩)
    go_loopw [9] (fun t wr => ∃ i : Nat, i ≤ n ∧ t = .int .i64 i ∧ Hid (∀ j z, j < i → xs[j]? = some z → ys.any (nearB l z) = false) ∧ Hid (Bel w.heap.size w wr)) (fun t _ => n - (intOf t).toNat)
    case atStart => exact ⟨0, Nat.zero_le _, rfl, Lib.hid (fun j z hj => absurd hj (by omega)), HB2⟩
    case round =>
      obtain ⟨i, hi, rfl, hno, hbw⟩ := hrel
      by_cases hlt : i < n
      · obtain ⟨b, o, rfl, hb, hcc⟩ := HA.out.at_ (by have := Hx.out; simp; omega)
        obtain ⟨x, hx⟩ : ∃ z, xs.getD i 0 = z := ⟨_, rfl⟩
        have HCX := Lib.hid (fun W (h : Bel w.heap.size w W) => cell_int hb h.1 hcc (by rw [Hx.out]; exact hlt) hx)
        have xb := X1.out i hlt
        rw [hx] at xb
        obtain ⟨x1, x2⟩ := xb
        have HX := Lib.hid (get_some (by rw [Hx.out]; exact hlt) hx)
        have hlt' : (i : Int) < (n : Int) := by omega
        clear hcc hx
        go_wp2
        go_loopw [10] (fun t wi => ∃ k : Nat, k ≤ m ∧ t = .int .i64 k ∧ Hid (∀ j z, j < k → ys[j]? = some z → nearB l x z = false) ∧ Hid (Bel w.heap.size w wi)) (fun t _ => m - (intOf t).toNat)
        case atStart => exact ⟨0, Nat.zero_le _, rfl, Lib.hid (fun j z hj => absurd hj (by omega)), hbw⟩
        case round =>
          obtain ⟨k, hk, rfl, hno2, hbi⟩ := hrel
          by_cases hlk : k < m
          · obtain ⟨b', o', rfl, hb', hcc'⟩ := HA'.out.at_ (by have := Hy.out; simp; omega)
            obtain ⟨y, hy⟩ : ∃ z, ys.getD k 0 = z := ⟨_, rfl⟩
            have hcx := HCX.out _ hbi.out
            have hcy := cell_int hb' hbi.out.1 hcc' (by rw [Hy.out]; exact hlk) hy
            have yb := X2.out k hlk
            rw [hy] at yb
            obtain ⟨y1, y2⟩ := yb
            have HY := Lib.hid (get_some (by rw [Hy.out]; exact hlk) hy)
            have hlk' : (k : Int) < (m : Int) := by omega
            have hcall := fun W => l02Size_any (x - y) W (by omega) (by omega)
            have hwr : IntKind.i64.wrap (x - y) = x - y := IntWalk.i64_in _ (by omega)
            obtain ⟨d, hd⟩ : ∃ d, ((x - y).natAbs : Int) = d := ⟨_, rfl⟩
            simp only [hd] at hcall
            have HC := Lib.hid hcall
            have HD := Lib.hid hd
            clear hcc' hy hcall hd
            by_cases hd : d < l
            · obtain ⟨e1, e2, e3⟩ := clash_hit HB.out HX.out HY.out (by rw [nearB, HD.out]; exact decide_eq_true hd) hno.out hno2.out
              obtain rfl : i0 = i := by rw [← HF.out.1, e1]
              obtain rfl : k0 = k := by rw [← HF.out.2.1, e2]
              obtain rfl : c0 = 0 := by rw [← HF.out.2.2, e3]
              clear e1 e2 e3
              have gg : decide (d < l) = true := decide_eq_true hd
              clear hd
              go_wp2_with fail
              go_big_quiet ((go_at_call 51; first | exact quiet_left (HC.out _) | exact quiet_add_left (HC.out _)))
              go_wp2_with fail
              go_ret3
              exact ⟨rfl, (hbi.out.drewN _).1⟩
            · have HN := Lib.hid (clash_more hno2.out HY.out (by rw [nearB, HD.out]; exact decide_eq_false hd))
              have gg : decide (d < l) = false := decide_eq_false hd
              clear hd
              go_wp2_with fail
              go_big_quiet ((go_at_call 51; first | exact quiet_left (HC.out _) | exact quiet_add_left (HC.out _)))
              go_wp2_with fail
              go_roundw
              case rel => exact ⟨k + 1, by omega, by go_num, HN, Lib.hid (hbi.out.drewN _)⟩
              case measure => simp [intOf]; omega
          · have HN := Lib.hid (clash_more hno.out HX.out (row_none (by rw [Hy.out]; omega) hno2.out))
            go_wp2
            go_roundw
            case rel => exact ⟨i + 1, by omega, by go_num, HN, hbi⟩
            case measure => simp [intOf]; omega
      · obtain ⟨e1, e2, e3⟩ := clash_none HB.out (by rw [Hx.out]; omega) hno.out
        obtain rfl : i0 = 0 := by rw [← HF.out.1, e1]
        obtain rfl : k0 = 0 := by rw [← HF.out.2.1, e2]
        obtain rfl : c0 = 3 := by rw [← HF.out.2.2, e3]
        clear e1 e2 e3
        go_wp2
        go_ret3
        exact ⟨rfl, hbw.out.1⟩
end Go.Proofs.Ytgdndmpnnocgiaa
