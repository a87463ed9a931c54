/-
  The laws' own helpers on soles, and ValidSole, both sides: contracts. No condition of its own.
-/
import Derived.Test.YthihhkabbdkohaaStuffB
import Derived.Test.YthihhkabbdkohaaRow
import Derived.Test.YthihhkabbdkohaaApp2
namespace Go.Proofs.Ythihhkabbdkohaa
open Go.ChangeShapes Go.WideShapes Go.ChangeAt Go.RowKit Go.Deep Go.Shelf
open Go.Joins
theorem outB_bad {zs : List Int} {lo hi x : Int} {k : Nat} (hk : k < zs.length) (hx : zs.getD k 0 = x) (h : inB x lo hi = false) : outB zs lo hi = true := by
  have : zs[k] = x := by rw [← hx]; simp [List.getElem?_eq_getElem hk]
  simp only [outB, List.any_eq_true]
  exact ⟨x, by rw [← this]; exact List.getElem_mem hk, by simp [h]⟩
theorem outB_good {zs : List Int} {lo hi : Int} {k : Nat} (hk : zs.length ≤ k) (h : ∀ j, j < k → inB (zs.getD j 0) lo hi = true) : outB zs lo hi = false := by
  rw [outB_false]
  intro z hz
  obtain ⟨j, hj, rfl⟩ := List.mem_iff_getElem.1 hz
  have := h j (by omega)
  rw [inB_true] at this
  simpa [List.getElem?_eq_getElem hj] using this
theorem inB_more {zs : List Int} {lo hi x : Int} {k : Nat} (h : ∀ j, j < k → inB (zs.getD j 0) lo hi = true) (hx : zs.getD k 0 = x) (hk : inB x lo hi = true) : ∀ j, j < k + 1 → inB (zs.getD j 0) lo hi = true := fun j hj => by
  by_cases e : j = k
  · subst e; rw [hx]; exact hk
  · exact h j (by omega)
theorem cell_int {w W : World} {b o j : Nat} {zs : List Int} {x : Int} (hb : b < w.heap.size) (hbw : Below w.heap.size w W) (hc : ∀ i, i < (zs.map (Value.int .i64)).length → w.cell? ⟨b, o + i, none⟩ = (zs.map (Value.int .i64))[i]?) (hj : j < zs.length) (hx : zs.getD j 0 = x) :
    W.cell? ⟨b, o + j, none⟩ = some (.int .i64 x) := by
  rw [(hbw.cell (p := ⟨b, o + j, none⟩) hb).trans (hc j (by simpa using hj)), ← hx]
  simp [List.getElem?_eq_getElem hj]
theorem outB_at {ys : List Int} {lo hi : Int} {j : Nat} (h : outB ys lo hi = false) (hj : j < ys.length) : lo ≤ ys.getD j 0 ∧ ys.getD j 0 ≤ hi := by
  have := outB_false.1 h ys[j] (List.getElem_mem hj)
  simpa [List.getElem?_eq_getElem hj] using this
theorem cell_at0 {w W : World} {g j : Nat} {zs : List Int} {x : Int} (hc : CellsAt w (some ⟨g, 0, none⟩) (zs.map (Value.int .i64))) (hbw : Below w.heap.size w W) (hj : j < zs.length) (hx : zs.getD j 0 = x) :
    W.cell? ⟨g, j, none⟩ = some (.int .i64 x) := by
  obtain ⟨b, off, hae, hb, hcc⟩ := hc.at_ (by simp; omega)
  obtain ⟨rfl, rfl⟩ : g = b ∧ 0 = off := by simpa using hae
  have h := cell_int hb hbw hcc hj hx
  rw [Nat.zero_add] at h
  exact h


section
variable {H : Type} {enc : TypeId × Value → H} {P : Program} {w : World}
theorem open_ints_in {t e : TypeId} {k : IntKind} {v : Value} {m : Nat} {y : DataW H × List MemPlace} (ht : P.underlying t = some (.slice e)) (he : P.underlying e = some (.int k)) (hc : P.cellsOf e = 1)
    (h : DataW.trod enc P w 0 (fun _ => true) true m t [v] = some y) :
    ∃ (a : Option Addr) (n cap : Nat) (zs : List Int), v = .slice a n cap ∧ zs.length = n ∧ n ≤ maxLen ∧ CellsAt w a (zs.map (Value.int k)) ∧ ∀ z ∈ zs, (Lit.int k z).wf = true := by
  rcases open_ints ht he hc h with ⟨hcs, _⟩ | ⟨x, n, cap, zs, hcs, _, hl, hm, hz, _, hcell, hwz⟩
  · simp at hcs
    subst hcs
    exact ⟨none, 0, 0, [], rfl, rfl, Nat.zero_le _, .nil _ _, by simp⟩
  · simp at hcs
    subst hcs
    simp only [if_true] at hz
    refine ⟨some x, n, cap, zs.take n, rfl, by simp; omega, Nat.le_trans hl hm, ?_, fun z hz' => hwz z (List.mem_of_mem_take hz')⟩
    by_cases h0 : n = 0
    · subst h0
      exact .inl (by simp)
    · obtain ⟨b, off, spot⟩ := x
      have hc0 := hcell 0 (by omega)
      have hspot : spot = none := by simpa [Addr.add] using World.cell?_spot hc0
      subst hspot
      refine .inr ⟨b, off, rfl, World.block_lt_of_cell? w _ (by simpa [Addr.add] using hc0), fun i hi => ?_⟩
      simp only [List.length_map, List.length_take] at hi
      have hci := hcell i (by omega)
      rw [addr_add] at hci
      rw [hci, List.getElem?_map, List.getElem?_take, if_pos (by omega), List.getElem?_eq_getElem (by omega)]
      simp [List.getD, List.getElem?_eq_getElem (show i < zs.length by omega)]
/-- A struct of one slice of integers that came in. -/
theorem open_sole_at {t tS e : TypeId} {f0 : Field} {b0 : Nat} {v : Value} {d : DataW H} {p : List MemPlace} (hs : P.underlying t = some (.struct #[f0])) (hone : oneCellFields P #[f0] = true) (hC : P.cellsOf t = 1)
    (ht : P.underlying tS = some (.slice e)) (he : P.underlying e = some (.int .i64)) (hc : P.cellsOf e = 1) (hf0 : f0.type = tS)
    (hv : Value.okWide P w .any b0 t v) (h : DataW.Trod enc P w 0 (fun _ => true) true t v d p) :
    ∃ (a : Option Addr) (n cap : Nat) (zs : List Int), v = .agg #[.slice a n cap] ∧ zs.length = n ∧ n ≤ maxLen ∧ CellsAt w a (zs.map (Value.int .i64)) ∧ ∀ z ∈ zs, (Lit.int .i64 z).wf = true := by
  obtain ⟨cs, rfl, hsz⟩ := okWide_struct hs hv
  obtain ⟨l⟩ := cs
  match l, hsz.trans hC with
  | [c0], _ =>
    obtain ⟨fuel, hf⟩ := h
    obtain ⟨xs, m, _, hx, _, hlen, hg⟩ := DataW.trod_struct hs hf
    obtain ⟨o0, k0⟩ := hone_of hone 0 f0 rfl
    match xs, hlen with
    | [y0], _ =>
      have h0 : DataW.trod enc P w 0 (fun _ => true) true m f0.type [c0] = some y0 := by simpa [Value.cells, o0, k0] using hg 0 f0 rfl
      rw [hf0] at h0
      obtain ⟨a, n, cap, zs, rfl, h1, h2, h3, h4⟩ := open_ints_in ht he hc h0
      exact ⟨a, n, cap, zs, rfl, h1, h2, h3, h4⟩
end

theorem grown_set (w : World) (b i : Nat) (v : Value) : w.grownBy (w.setCell ⟨b, i, none⟩ v) (some b) :=
  ⟨rfl, rfl, rfl, by simp [World.setCell], fun k _ hk => Below.heap_setCell _ _ _ _ (fun e => hk (by simp [e]))⟩
theorem own_set {w : World} {B E k n : Nat} {v : Value} {cs : List Value} (h : w.ownsRow B E k v n cs) (b i : Nat) (u : Value) (hb : v.ownBlock ≠ some b) : (w.setCell ⟨b, i, none⟩ u).ownsRow B E k v n cs :=
  own_grown_ne h (grown_set w b i u) (fun g hg e => hb (by rw [hg, ← e]))
/-- A new struct with a new slice of n integers. -/
def NewSole (w : World) (n : Nat) (zs : List Int) (e : Ending) (w' : World) : Prop :=
  ∃ g, e = .returned (.agg #[.slice (some ⟨g, 0, none⟩) n n]) ∧ w'.ownsRow w.heap.size 2 1 (.slice (some ⟨g, 0, none⟩) n n) n (zs.map (Value.int .i64)) ∧ Below w.heap.size w w'
set_option maxHeartbeats 1600000 in
theorem toSole_any (a : Option Addr) (n c : Nat) (zs : List Int) (w : World) (hz : zs.length = n) (hn : n ≤ 1048576) (hc : CellsAt w a (zs.map (Value.int .i64))) :
    Calls Try.prog 15 #[.agg #[.slice a n c]] w (NewSole w n zs) := by
  have H := Lib.hid (fun W (hb : Below w.heap.size w W) => toInt64S_any a n c zs W hz hn (hc.below hb))
  have HB := Lib.hid ((((Bel.refl w).alloc (.cells #[.slice a n c] 31)).alloc (.cells #[.slice none 0 0] 34)).alloc (.cells #[.slice none 0 0] 34))
  clear hz hc
  go_enter Try.func15, Try.ntmps15
  go_wp2_with fail
  refine (H.out _ HB.out.1).mono ?_
  rintro e w1 ⟨g, rfl, ho, hb⟩
  obtain ⟨hcc, hff, hss⟩ := bcell hb
  have hg := own_block ho rfl
  have HO := Lib.hid ho
  have HB1 := Lib.hid (HB.out.step hb)
  have hs1 := hss w.heap.size (by simp; try omega)
  have hs2 := hss (w.heap.size + 1) (by simp; try omega)
  have hs3 := hss (w.heap.size + 1 + 1) (by simp; try omega)
  have h1 : w1.cell? ⟨w.heap.size + 1, 0, none⟩ = some (.slice none 0 0) := (hcc _ _ (by simp; try omega)).trans (by simp [go_sem])
  have h2 : w1.cell? ⟨w.heap.size + 1 + 1, 0, none⟩ = some (.slice none 0 0) := (hcc _ _ (by simp; try omega)).trans (by simp [go_sem])
  have HG := Lib.hid hg
  clear ho hb hss hg
  go_wp2_with fail
  refine bodyPost_ret (v := .agg #[.slice (some ⟨g, 0, none⟩) n n]) (by simp [results, Try.results15, go_sem, h1]) rfl ?_
  have hB := HB1.out.2
  have hg := HG.out
  simp at hg
  exact ⟨g, rfl, own_base (own_set (own_set HO.out _ _ _ (fun e => by have h1 : g = w.heap.size + 1 + 1 := (by simpa [Value.ownBlock] using e); omega)) _ _ _ (fun e => by have h1 : g = w.heap.size + 1 := (by simpa [Value.ownBlock] using e); omega)) (by simp; omega), ((HB1.out.setCell (by simp; omega) _).setCell (by simp) _).1⟩
theorem szSole_any (a : Option Addr) (n c : Nat) (left : Int) (w : World) (h1 : 0 ≤ left) (h2 : left ≤ 1048576) (hn : n ≤ maxLen) :
    Calls Try.prog 13 #[.agg #[.slice a n c], .int .i64 left] w fun e w' => e = .returned (.int .i64 (if left < (n : Int) then -1 else left - (n : Int))) ∧ Below w.heap.size w w' := by
  unfold maxLen at hn
  by_cases h : left < n
  · rw [if_pos h]
    go_enter Try.func13, Try.ntmps13
    go_wp2_with (go_at_call 35; go_in)
    go_ret
    exact ⟨rfl, (by repeat (first | exact Below.refl _ _ | assumption | refine Below.drew ?_ | refine below_drewN ?_ _ | refine Below.alloc ?_ (by simp; try omega) _ | refine Below.setCell ?_ (by simp; try omega) _))⟩
  · rw [if_neg h]
    go_enter Try.func13, Try.ntmps13
    go_wp2_with (go_at_call 35; go_in)
    go_ret
    exact ⟨rfl, (by repeat (first | exact Below.refl _ _ | assumption | refine Below.drew ?_ | refine below_drewN ?_ _ | refine Below.alloc ?_ (by simp; try omega) _ | refine Below.setCell ?_ (by simp; try omega) _))⟩
theorem eqSole_any (a b : Option Addr) (n c d : Nat) (zs : List Int) (w : World) (hz : zs.length = n) (hn : n ≤ 1073741824) (ha : CellsAt w a (zs.map (Value.int .i64))) (hb : CellsAt w b (zs.map (Value.int .i64))) :
    Calls Try.prog 17 #[.agg #[.slice a n c], .agg #[.slice b n d]] w fun e w' => e = .returned (.bool true) ∧ Below w.heap.size w w' := by
  have H := Lib.hid (fun W (h : Below w.heap.size w W) => eqInt64S_any a b n c d zs W hz hn (ha.below h) (hb.below h))
  have HB := Lib.hid (((Bel.refl w).alloc (.cells #[.slice a n c] 34)).alloc (.cells #[.slice b n d] 34))
  clear hz ha hb
  go_enter Try.func17, Try.ntmps17
  go_wp2_with fail
  refine (H.out _ HB.out.1).mono ?_
  rintro e w1 ⟨rfl, hb⟩
  have HB1 := Lib.hid (HB.out.step hb)
  clear hb
  go_wp2_with fail
  go_ret
  exact ⟨rfl, HB1.out.1⟩

/-- A sole is valid. -/
def soleB (S : Nat → ByteArray × Int × Int × Int × Int) (n : Nat) (zs : List Int) (m : Nat) : Bool := stfB S n && (inB (m : Int) 1 6 && !outB zs 0 ((n : Int) - 1))
theorem soleB_ok {S : Nat → ByteArray × Int × Int × Int × Int} {n m : Nat} {zs : List Int} (h : soleB S n zs m = true) (hl : zs.length = m) : stfB S n = true ∧ n ≤ 12 ∧ 1 ≤ m ∧ m ≤ 6 ∧ ∀ k, k < m → 0 ≤ zs.getD k 0 ∧ zs.getD k 0 ≤ (n : Int) - 1 := by
  simp only [soleB, Bool.and_eq_true, Bool.not_eq_true', inB_true] at h
  obtain ⟨h1, h2, h3⟩ := h
  exact ⟨h1, stfB_le h1, by omega, by omega, fun k hk => outB_at h3 (by omega)⟩
set_option maxRecDepth 100000 in
set_option maxHeartbeats 3200000 in
theorem implSole (a : Option Addr) (n c : Nat) (S : Nat → ByteArray × Int × Int × Int × Int) (b : Option Addr) (m d : Nat) (zs : List Int) (w : World) (hnc : n ≤ c) (hn : n ≤ 1048576) (hok : StfOk S n) (ha : CellsAt w a (stfC S n)) (hl : zs.length = m) (hm : m ≤ 1048576) (hb : CellsAt w b (zs.map (Value.int .i64))) :
    Calls Try.prog 16 #[.slice a n c, .agg #[.slice b m d]] w fun e w' => e = .returned (.bool (soleB S n zs m)) ∧ Below w.heap.size w w' := by
  have H1 := Lib.hid (fun W (h : Below w.heap.size w W) => implStuffs a n c S W hnc hn hok (ha.below h))
  have H2 := Lib.hid (fun W (h : Below w.heap.size w W) => outside_any b m d zs 0 ((n : Int) - 1) W hl (by omega) (hb.below h))
  obtain ⟨r, hr⟩ : ∃ r, soleB S n zs m = r := ⟨_, rfl⟩
  rw [hr]
  have HB := Lib.hid ((Bel.refl w).alloc (.cells #[.slice b m d] 34))
  clear hok ha hl hb
  cases q1 : stfB S n with
  | false =>
    obtain rfl : r = false := by rw [← hr]; simp [soleB, q1]
    have K1 := Lib.hid (fun W h => callsB (H1.out W h) q1)
    clear q1 hr H1
    go_enter Try.func16, Try.ntmps16
    go_wp2_with fail
    refine (K1.out _ HB.out.1).mono ?_
    rintro e w1 ⟨rfl, hb1⟩
    have HB1 := Lib.hid (HB.out.step hb1)
    clear hb1
    go_wp2_with fail
    go_ret
    exact ⟨rfl, HB1.out.1⟩
  | true =>
    have K1 := Lib.hid (fun W h => callsB (H1.out W h) q1)
    have Q1 := Lib.hid q1
    clear q1 H1
    cases q2 : inB (m : Int) 1 6 with
    | false =>
      obtain rfl : r = false := by rw [← hr]; simp [soleB, q2]
      have K2 := Lib.hid (fun W => callsB (within_any (m : Int) 1 6 W) q2)
      clear q2 hr
      go_enter Try.func16, Try.ntmps16
      go_wp2_with fail
      refine (K1.out _ HB.out.1).mono ?_
      rintro e w1 ⟨rfl, hb1⟩
      obtain ⟨hcc, hff, hss⟩ := bcell hb1
      have hs1 := hss w.heap.size (by simp; try omega)
      have h1 : w1.cell? ⟨w.heap.size, 0, none⟩ = some (.slice b m d) := (hcc _ _ (by simp; try omega)).trans (by simp [go_sem])
      have HB1 := Lib.hid (HB.out.step hb1)
      clear hb1 hcc hff hss
      go_wp2_with (go_at_call 31; refine (K2.out _).mono ?_; rintro e w2 ⟨rfl, rfl⟩)
      go_ret
      exact ⟨rfl, HB1.out.1⟩
    | true =>
      have K2 := Lib.hid (fun W => callsB (within_any (m : Int) 1 6 W) q2)
      have hr' : (!outB zs 0 ((n : Int) - 1)) = r := by rw [← hr]; simp [soleB, q2, Q1.out]
      have HR := Lib.hid hr'
      clear q2 hr hr'
      obtain ⟨o, ho⟩ : ∃ o, outB zs 0 ((n : Int) - 1) = o := ⟨_, rfl⟩
      rw [ho] at H2 HR
      clear ho
      have v1 : IntKind.i64.wrap ((n : Int) - 1) = (n : Int) - 1 := IntWalk.i64_in _ (by omega)
      go_enter Try.func16, Try.ntmps16
      go_wp2_with fail
      refine (K1.out _ HB.out.1).mono ?_
      rintro e w1 ⟨rfl, hb1⟩
      obtain ⟨hcc, hff, hss⟩ := bcell hb1
      have hs1 := hss w.heap.size (by simp; try omega)
      have h1 : w1.cell? ⟨w.heap.size, 0, none⟩ = some (.slice b m d) := (hcc _ _ (by simp; try omega)).trans (by simp [go_sem])
      have HB1 := Lib.hid (HB.out.step hb1)
      clear hb1 hcc hff hss
      go_wp2_with (first | (go_at_call 31; refine (K2.out _).mono ?_; rintro e w2 ⟨rfl, rfl⟩) | (go_at_call 38; refine (H2.out _ HB1.out.1).mono ?_; rintro e w2 ⟨rfl, hb2⟩; have HB2 := Lib.hid (HB1.out.step hb2); clear hb2))
      go_ret
      exact ⟨ret_bool HR.out, HB2.out.1⟩
set_option maxRecDepth 100000 in
set_option maxHeartbeats 3200000 in
/-- The test of a sole behind a pointer. -/
theorem l17Sole_any (a : Option Addr) (n c : Nat) (S : Nat → ByteArray × Int × Int × Int × Int) (b : Option Addr) (m d q : Nat) (zs : List Int) (w : World) (hn : n ≤ 1048576) (hok : StfOk S n) (ha : CellsAt w a (stfC S n)) (hl : zs.length = m) (hm : m ≤ 1048576) (hb : CellsAt w b (zs.map (Value.int .i64)))
    (hq : w.cell? ⟨q, 0, none⟩ = some (.slice b m d)) :
    Calls Try.prog 36 #[.slice a n c, .pointer (some ⟨q, 0, none⟩)] w fun e w' => e = .returned (.bool (soleB S n zs m)) ∧ Below w.heap.size w w' := by
  have hql := World.block_lt_of_cell? w _ hq
  have H1 := Lib.hid (fun W (h : Below w.heap.size w W) => specStuffs a n c S W hn hok (ha.below h))
  obtain ⟨r, hr⟩ : ∃ r, soleB S n zs m = r := ⟨_, rfl⟩
  rw [hr]
  have HR := Lib.hid hr
  have Hz := Lib.hid hl
  have HZ := Lib.hid hb
  have HQ := Lib.hid hq
  have v1 : IntKind.i64.wrap ((n : Int) - 1) = (n : Int) - 1 := IntWalk.i64_in _ (by omega)
  clear hok ha hl hb hr
  go_enter Try.func36, Try.ntmps36
  go_wp2_with fail
  go_loopw [5] (fun i wr => ∃ k : Nat, k ≤ m ∧ i = .int .i64 k ∧ Hid (∀ j, j < k → inB (zs.getD j 0) 0 ((n : Int) - 1) = true) ∧ Hid (wr = w)) (fun i _ => m - (intOf i).toNat)
  case atStart => exact ⟨0, Nat.zero_le _, rfl, Lib.hid (fun j hj => absurd hj (by omega)), Lib.hid rfl⟩
  case round =>
    obtain ⟨k, hk, rfl, hall, hw⟩ := hrel
    obtain rfl := hw.out
    by_cases hlt : k < m
    · obtain ⟨bb, o, rfl, hbb, hcc⟩ := HZ.out.at_ (by have := Hz.out; simp; omega)
      obtain ⟨x, hx⟩ : ∃ x, zs.getD k 0 = x := ⟨_, rfl⟩
      have k1 := cell_int hbb (Below.refl _ _) hcc (by rw [Hz.out]; exact hlt) hx
      have hlt' : (k : Int) < (m : Int) := by omega
      have HX := Lib.hid hx
      clear hcc hx
      cases hi : inB x 0 ((n : Int) - 1) with
      | false =>
        obtain rfl : r = false := by
          rw [← HR.out, soleB, outB_bad (by rw [Hz.out]; exact hlt) HX.out hi]
          simp
        have K := Lib.hid (callsB (l00In_any x 0 ((n : Int) - 1) wr) hi)
        clear hi
        go_wp2_with (go_at_call 40; refine K.out.mono ?_; rintro e w2 ⟨rfl, rfl⟩)
        go_ret
        exact ⟨rfl, Below.refl _ _⟩
      | true =>
        have K := Lib.hid (callsB (l00In_any x 0 ((n : Int) - 1) wr) hi)
        have HN := Lib.hid (inB_more hall.out HX.out hi)
        clear hi
        go_wp2_with (go_at_call 40; refine K.out.mono ?_; rintro e w2 ⟨rfl, rfl⟩)
        go_roundw
        case rel => exact ⟨k + 1, by omega, by go_num, HN, Lib.hid trivial⟩
        case measure => simp [intOf]; omega
    · have hout : outB zs 0 ((n : Int) - 1) = false := outB_good (by rw [Hz.out]; omega) hall.out
      have hr' : (stfB S n && inB (m : Int) 1 6) = r := by rw [← HR.out, soleB, hout]; simp
      clear hout
      cases q1 : stfB S n with
      | false =>
        obtain rfl : r = false := by rw [← hr', q1]; simp
        have K1 := Lib.hid (fun W h => callsB (H1.out W h) q1)
        clear q1 hr'
        go_wp2_with (go_at_call 28; refine (K1.out _ (Below.refl _ _)).mono ?_; rintro e w2 ⟨rfl, hb2⟩; have HB2 := Lib.hid hb2; clear hb2)
        go_ret
        exact ⟨rfl, HB2.out⟩
      | true =>
        have K1 := Lib.hid (fun W h => callsB (H1.out W h) q1)
        have K2 := Lib.hid (fun W => callsB (l00In_any (m : Int) 1 6 W) (show inB (m : Int) 1 6 = r by rw [← hr', q1]; simp))
        clear q1 hr'
        go_wp2_with (first | (go_at_call 28; refine (K1.out _ (Below.refl _ _)).mono ?_; rintro e w2 ⟨rfl, hb2⟩; have hq2 := (hb2.cell (p := ⟨q, 0, none⟩) hql).trans HQ.out; have HB2 := Lib.hid hb2; clear hb2) | (go_at_call 40; refine (K2.out _).mono ?_; rintro e w3 ⟨rfl, rfl⟩))
        go_ret
        exact ⟨rfl, HB2.out⟩
set_option maxHeartbeats 1600000 in
theorem specSole (a : Option Addr) (n c : Nat) (S : Nat → ByteArray × Int × Int × Int × Int) (b : Option Addr) (m d : Nat) (zs : List Int) (w : World) (hn : n ≤ 1048576) (hok : StfOk S n) (ha : CellsAt w a (stfC S n)) (hl : zs.length = m) (hm : m ≤ 1048576) (hb : CellsAt w b (zs.map (Value.int .i64))) :
    Calls Try.prog 14 #[.slice a n c, .agg #[.slice b m d]] w fun e w' => e = .returned (.bool (soleB S n zs m)) ∧ Below w.heap.size w w' := by
  have HB := Lib.hid ((Bel.refl w).alloc (.cells #[.slice b m d] 34))
  have H := Lib.hid (l17Sole_any a n c S b m d w.heap.size zs _ hn hok (ha.below HB.out.1) hl hm (hb.below HB.out.1) (by simp [go_sem]))
  clear hok ha hl hb
  go_enter Try.func14, Try.ntmps14
  go_wp2_with fail
  refine H.out.mono ?_
  rintro e w1 ⟨rfl, hb1⟩
  have HB1 := Lib.hid (HB.out.step hb1)
  clear hb1
  go_wp2_with fail
  go_ret
  exact ⟨rfl, HB1.out.1⟩
end Go.Proofs.Ythihhkabbdkohaa
