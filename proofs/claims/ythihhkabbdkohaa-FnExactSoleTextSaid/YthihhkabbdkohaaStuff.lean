/-
  The laws' own helpers on slices of stuffs (structs with a name): contracts. No condition of its own.
-/
import Derived.Test.YthihhkabbdkohaaCopy
import Derived.Test.YthihhkabbdkohaaName
import Derived.StillTailTactics
namespace Go.Proofs.Ythihhkabbdkohaa
open Go.ChangeShapes Go.WideShapes Go.ChangeAt Go.RowKit Go.Deep
open Go.ChangeMaps (open_string shut_string)

/-- The cells of the first n stuffs. -/
def stfC (S : Nat → ByteArray × Int × Int × Int × Int) : Nat → List Value
  | 0 => []
  | n + 1 => stfC S n ++ [.string (S n).1, .int .i64 (S n).2.1, .int .i64 (S n).2.2.1, .int .i64 (S n).2.2.2.1, .int .i64 (S n).2.2.2.2]
theorem stfC_length (S : Nat → ByteArray × Int × Int × Int × Int) (n : Nat) : (stfC S n).length = n * 5 := by
  induction n with
  | zero => rfl
  | succ n ih => simp [stfC, ih]; omega
theorem stfC_at {S : Nat → ByteArray × Int × Int × Int × Int} {n k : Nat} (hk : k < n) {x : ByteArray} {t g s p : Int} (hx : S k = (x, t, g, s, p)) :
    (stfC S n)[k * 5]? = some (.string x) ∧ (stfC S n)[k * 5 + 1]? = some (.int .i64 t) ∧ (stfC S n)[k * 5 + 2]? = some (.int .i64 g) ∧ (stfC S n)[k * 5 + 3]? = some (.int .i64 s) ∧ (stfC S n)[k * 5 + 4]? = some (.int .i64 p) := by
  induction n with
  | zero => omega
  | succ n ih =>
    have hl := stfC_length S n
    simp only [stfC]
    by_cases e : k = n
    · subst e
      refine ⟨?_, ?_, ?_, ?_, ?_⟩ <;> (rw [List.getElem?_append_right (by omega), hl, hx]; simp)
    · have h := ih (by omega)
      refine ⟨?_, ?_, ?_, ?_, ?_⟩ <;> (rw [List.getElem?_append_left (by omega)])
      · exact h.1
      · exact h.2.1
      · exact h.2.2.1
      · exact h.2.2.2.1
      · exact h.2.2.2.2
/-- A stuff's fields are of their types. -/
def StfOk (S : Nat → ByteArray × Int × Int × Int × Int) (n : Nat) : Prop := ∀ k, k < n → ∀ x t g s p, S k = (x, t, g, s, p) → x.size ≤ maxLen ∧ (Lit.int .i64 t).wf = true ∧ (Lit.int .i64 g).wf = true ∧ (Lit.int .i64 s).wf = true ∧ (Lit.int .i64 p).wf = true
theorem stf_cells {w W : World} {b o n k : Nat} {S : Nat → ByteArray × Int × Int × Int × Int} (hb : b < w.heap.size) (hbw : Below w.heap.size w W) (hc : ∀ i, i < (stfC S n).length → w.cell? ⟨b, o + i, none⟩ = (stfC S n)[i]?) (hk : k < n) {x : ByteArray} {t g s p : Int} (hx : S k = (x, t, g, s, p)) :
    W.cell? ⟨b, o + k * 5, none⟩ = some (.string x) ∧ W.cell? ⟨b, o + k * 5 + 1, none⟩ = some (.int .i64 t) ∧ W.cell? ⟨b, o + k * 5 + 2, none⟩ = some (.int .i64 g) ∧ W.cell? ⟨b, o + k * 5 + 3, none⟩ = some (.int .i64 s) ∧ W.cell? ⟨b, o + k * 5 + 4, none⟩ = some (.int .i64 p) := by
  have h := stfC_at hk hx
  have hl := stfC_length S n
  have hat := fun i (hi : i < n * 5) => (hbw.cell (p := ⟨b, o + i, none⟩) hb).trans (hc i (by omega))
  exact ⟨(hat (k * 5) (by omega)).trans h.1, (hat (k * 5 + 1) (by omega)).trans h.2.1, (hat (k * 5 + 2) (by omega)).trans h.2.2.1, (hat (k * 5 + 3) (by omega)).trans h.2.2.2.1, (hat (k * 5 + 4) (by omega)).trans h.2.2.2.2⟩

section
variable {H : Type} {enc : TypeId × Value → H} {P : Program} {w : World} {base : Nat}
/-- A slice of stuffs that came in. -/
theorem open_stuff_at {t e tI tS : TypeId} {fs : Array Field} {b0 : Nat} {v : Value} {d : DataW H} {p : List MemPlace} (ht : P.underlying t = some (.slice e)) (he : P.underlying e = some (.struct fs))
    (hone : oneCellFields P fs = true) (hC : P.cellsOf e = 5) (hI : P.underlying tI = some (.int .i64)) (hS : P.underlying tS = some .string) (hfs : fs.toList.map (fun f => f.type) = [tS, tI, tI, tI, tI])
    (hv : Value.okWide P w .any b0 t v) (h : DataW.Trod enc P w 0 (fun _ => true) true t v d p) :
    ∃ (a : Option Addr) (n cap : Nat) (S : Nat → ByteArray × Int × Int × Int × Int), v = .slice a n cap ∧ n ≤ maxLen ∧ CellsAt w a (stfC S n) ∧ StfOk S n := by
  have hk : fs.size = 5 := by have := congrArg List.length hfs; simpa using this
  have hty : ∀ (j : Nat) (ty : TypeId), [tS, tI, tI, tI, tI][j]? = some ty → ∃ f, fs[j]? = some f ∧ f.type = ty := by
    intro j ty hj
    rw [← hfs, List.getElem?_map] at hj
    cases hf : fs.toList[j]? with
    | none => simp [hf] at hj
    | some f => exact ⟨f, by simpa using hf, by simpa [hf] using hj⟩
  obtain ⟨a, n, cap, rfl⟩ := okWide_slice ht hv
  obtain ⟨fuel, hf⟩ := h
  rcases open_slice_fields ht he hone (hC.trans hk.symm) hf with ⟨hcs, _⟩ | ⟨x, l, c, m, hcs, hl, hm, hmm, hi⟩
  · simp [Value.cells] at hcs
    obtain ⟨rfl, rfl, rfl⟩ := hcs
    exact ⟨none, 0, 0, fun _ => (ByteArray.empty, 0, 0, 0, 0), rfl, Nat.zero_le _, .nil _ _, fun k hk => by omega⟩
  · simp [Value.cells] at hcs
    obtain ⟨rfl, rfl, rfl⟩ := hcs
    simp only [if_true] at hmm
    subst hmm
    rw [hk] at hi
    have hrow : ∀ k, k < n → ∃ q : ByteArray × Int × Int × Int × Int, (w.cell? (x.add (k * 5)) = some (.string q.1) ∧ w.cell? (x.add (k * 5 + 1)) = some (.int .i64 q.2.1) ∧ w.cell? (x.add (k * 5 + 2)) = some (.int .i64 q.2.2.1) ∧ w.cell? (x.add (k * 5 + 3)) = some (.int .i64 q.2.2.2.1) ∧ w.cell? (x.add (k * 5 + 4)) = some (.int .i64 q.2.2.2.2)) ∧
        (q.1.size ≤ maxLen ∧ (Lit.int .i64 q.2.1).wf = true ∧ (Lit.int .i64 q.2.2.1).wf = true ∧ (Lit.int .i64 q.2.2.2.1).wf = true ∧ (Lit.int .i64 q.2.2.2.2).wf = true) := by
      intro k hk
      obtain ⟨fl, hff⟩ := hi k (by omega)
      have hint : ∀ j, [tS, tI, tI, tI, tI][j]? = some tI → ∃ z : Int, w.cell? (x.add (k * 5 + j)) = some (.int .i64 z) ∧ (Lit.int .i64 z).wf = true := by
        intro j hj
        obtain ⟨f, hf1, hf2⟩ := hty j tI hj
        obtain ⟨v, y, hc, hty⟩ := hff j f hf1
        rw [hf2] at hty
        obtain ⟨z, hz1, _, hz2⟩ := DataW.trod_int hI hty
        simp only [List.cons.injEq, and_true] at hz1
        exact ⟨z, by rw [hc, hz1], hz2⟩
      obtain ⟨f, hf1, hf2⟩ := hty 0 tS rfl
      obtain ⟨v, y, hc, htr⟩ := hff 0 f hf1
      rw [hf2] at htr
      obtain ⟨s, hs1, _, hs2⟩ := DataW.trod_string hS htr
      simp only [List.cons.injEq, and_true] at hs1
      obtain ⟨z1, c1, e1⟩ := hint 1 rfl
      obtain ⟨z2, c2, e2⟩ := hint 2 rfl
      obtain ⟨z3, c3, e3⟩ := hint 3 rfl
      obtain ⟨z4, c4, e4⟩ := hint 4 rfl
      exact ⟨(s, z1, z2, z3, z4), ⟨by rw [← hs1, ← hc, Nat.add_zero], c1, c2, c3, c4⟩, hs2, e1, e2, e3, e4⟩
    obtain ⟨S, hS'⟩ : ∃ S : Nat → ByteArray × Int × Int × Int × Int, ∀ k, k < n → (w.cell? (x.add (k * 5)) = some (.string (S k).1) ∧ w.cell? (x.add (k * 5 + 1)) = some (.int .i64 (S k).2.1) ∧ w.cell? (x.add (k * 5 + 2)) = some (.int .i64 (S k).2.2.1) ∧ w.cell? (x.add (k * 5 + 3)) = some (.int .i64 (S k).2.2.2.1) ∧ w.cell? (x.add (k * 5 + 4)) = some (.int .i64 (S k).2.2.2.2)) ∧
        ((S k).1.size ≤ maxLen ∧ (Lit.int .i64 (S k).2.1).wf = true ∧ (Lit.int .i64 (S k).2.2.1).wf = true ∧ (Lit.int .i64 (S k).2.2.2.1).wf = true ∧ (Lit.int .i64 (S k).2.2.2.2).wf = true) :=
      ⟨fun k => if h : k < n then (hrow k h).choose else (ByteArray.empty, 0, 0, 0, 0), fun k hk => by simp only [hk, dite_true]; exact (hrow k hk).choose_spec⟩
    refine ⟨some x, n, m, S, rfl, Nat.le_trans hl hm, ?_, fun k hk x' t g s p e => by have := (hS' k hk).2; rw [e] at this; exact this⟩
    by_cases h0 : n = 0
    · subst h0; exact .inl rfl
    · obtain ⟨b, off, spot⟩ := x
      have hc0 := (hS' 0 (by omega)).1.1
      have hspot : spot = none := by simpa [Addr.add] using World.cell?_spot hc0
      subst hspot
      refine .inr ⟨b, off, rfl, World.block_lt_of_cell? w _ hc0, fun i hi2 => ?_⟩
      rw [stfC_length] at hi2
      have hq : i / 5 < n := Nat.div_lt_of_lt_mul (by omega)
      have hat := stfC_at (S := S) hq (x := (S (i / 5)).1) (t := (S (i / 5)).2.1) (g := (S (i / 5)).2.2.1) (s := (S (i / 5)).2.2.2.1) (p := (S (i / 5)).2.2.2.2) rfl
      have hcc := (hS' (i / 5) hq).1
      simp only [addr_add] at hcc
      have hm5 : i = i / 5 * 5 ∨ i = i / 5 * 5 + 1 ∨ i = i / 5 * 5 + 2 ∨ i = i / 5 * 5 + 3 ∨ i = i / 5 * 5 + 4 := by omega
      rcases hm5 with e | e | e | e | e
      · rw [e]; exact hcc.1.trans hat.1.symm
      · rw [e]; exact hcc.2.1.trans hat.2.1.symm
      · rw [e]; exact hcc.2.2.1.trans hat.2.2.1.symm
      · rw [e]; exact hcc.2.2.2.1.trans hat.2.2.2.1.symm
      · rw [e]; exact hcc.2.2.2.2.trans hat.2.2.2.2.symm
end

theorem toStuff_any (x0 : ByteArray) (x1 : Int) (x2 : Int) (x3 : Int) (x4 : Int) (w : World) : Calls Try.prog 29 #[.agg #[.string x0, .int .i64 x1, .int .i64 x2, .int .i64 x3, .int .i64 x4]] w fun e w' => e = .returned (.agg #[.string x0, .int .i64 x1, .int .i64 x2, .int .i64 x3, .int .i64 x4]) ∧ ((w.alloc (.cells #[.string x0, .int .i64 x1, .int .i64 x2, .int .i64 x3, .int .i64 x4] 48)).alloc (.cells #[.string x0, .int .i64 x1, .int .i64 x2, .int .i64 x3, .int .i64 x4] 49)).alloc (.cells #[.string x0, .int .i64 x1, .int .i64 x2, .int .i64 x3, .int .i64 x4] 49) = w' := by
  go_enter Try.func29, Try.ntmps29
  go_wp2
  exact bodyPost_ret (v := .agg #[.string x0, .int .i64 x1, .int .i64 x2, .int .i64 x3, .int .i64 x4]) (by simp [results, Try.results29, go_sem]) rfl ⟨rfl, rfl⟩

theorem infoStuff : (Try.prog.info? 49).map (fun i => (i.zero, i.size, i.bytes)) = some (some (.agg #[.string ByteArray.empty, .int .i64 0, .int .i64 0, .int .i64 0, .int .i64 0]), 5, 48) := by kernel_rfl
theorem makeStuff (n : Nat) (hn : n ≤ 1048576) (w : World) : (Instr.makeSlice 25 (.int .i64 (n : Int)) (.int .i64 (n : Int))).run Try.prog w =
    .ok (.slice (some ⟨w.heap.size, 0, none⟩) n n) (w.alloc (.cells (madeCells #[.string ByteArray.empty, .int .i64 0, .int .i64 0, .int .i64 0, .int .i64 0] (n * 5)) 49)) := by
  obtain ⟨i, hi, h0, h1, h2⟩ := info_parts infoStuff
  have hr := run_make (P := Try.prog) w 25 49 i _ Try.underlying25 hi h0 .i64 .i64 n n (by omega) (Int.le_refl _) (by rw [h2]; omega) (by omega)
  simp only [Int.toNat_natCast, h1, Value.cells] at hr
  exact hr
theorem madeStuff (n : Nat) (hn : n ≤ 1048576) (w : World) : (w.alloc (.cells (madeCells #[.string ByteArray.empty, .int .i64 0, .int .i64 0, .int .i64 0, .int .i64 0] (n * 5)) 49)).ownsRow w.heap.size 49 5 (.slice (some ⟨w.heap.size, 0, none⟩) n n) n (madeCells #[.string ByteArray.empty, .int .i64 0, .int .i64 0, .int .i64 0, .int .i64 0] (n * 5)).toList :=
  World.ownsRow_lit (size := 5) (e := 49) w _ n (Nat.le_refl _) (by unfold maxLen; omega) (size_madeCells _ _)

set_option maxHeartbeats 1600000 in
theorem toStuffS_any (a : Option Addr) (n c : Nat) (S : Nat → ByteArray × Int × Int × Int × Int) (w : World) (hn : n ≤ 1048576) (hc : CellsAt w a (stfC S n)) :
    Calls Try.prog 10 #[.slice a n c] w (NewRow w 49 5 n (stfC S n)) := by
  have hmk := makeStuff n hn
  have hst := madeStuff n hn w
  have hzl : (madeCells #[Value.string ByteArray.empty, .int .i64 0, .int .i64 0, .int .i64 0, .int .i64 0] (n * 5)).toList.length = n * 5 := by simp [size_madeCells]
  generalize (madeCells #[Value.string ByteArray.empty, .int .i64 0, .int .i64 0, .int .i64 0, .int .i64 0] (n * 5)) = zr at hmk hst hzl
  have hz := stfC_length S n
  rcases hc with h0 | ⟨b, off, rfl, hb, hcell⟩
  · have hn0 : n ≤ 0 := by
      rw [h0] at hz
      simp at hz
      omega
    have HS := Lib.hid hst
    have Hl := Lib.hid hzl
    clear hst hz h0 hzl
    go_enter Try.func10, Try.ntmps10
    go_wp2
    refine wp_loop_once ?_
    go_wp2
    go_ret
    have h2 : n = 0 := by omega
    subst h2
    have e : zr.toList = [] := List.eq_nil_of_length_eq_zero (by simpa using Hl.out)
    have h3 := HS.out
    rw [e] at h3
    exact newRow_intro h3 ((Below.refl _ _).alloc (Nat.le_refl _) _)
  · have HS := Lib.hid hst
    have Hz := Lib.hid hz
    have Hc := Lib.hid hcell
    have Hl := Lib.hid hzl
    clear hst hz hcell hzl
    go_enter Try.func10, Try.ntmps10
    go_wp2
    go_loopw [4] (fun i wr => ∃ k : Nat, k ≤ n ∧ i = .int .i64 k ∧ wr.ownsRow w.heap.size 49 5 (.slice (some ⟨w.heap.size, 0, none⟩) n n) n ((stfC S n).take (k * 5) ++ zr.toList.drop (k * 5)) ∧ Below w.heap.size w wr)
      (fun i _ => n - (intOf i).toNat)
    case atStart => exact ⟨0, Nat.zero_le _, rfl, by simpa using HS.out, (Below.refl _ _).alloc (Nat.le_refl _) _⟩
    case round =>
      obtain ⟨k, hk, rfl, hown, hbw⟩ := hrel
      by_cases hlt : k < n
      · have hsz : w.heap.size < wr.heap.size := (hown.lt _ rfl).2
        have hsz1 : w.heap.size < wr.heap.size + 1 := by omega
        have hsz2 : w.heap.size < wr.heap.size + 1 + 1 := by omega
        obtain ⟨x0, x1, x2, x3, x4, hx⟩ : ∃ x t g s p, S k = (x, t, g, s, p) := ⟨_, _, _, _, _, rfl⟩
        obtain ⟨hc0, hc1, hc2, hc3, hc4⟩ := stf_cells hb hbw Hc.out hlt hx
        have Hat := Lib.hid (stfC_at hlt hx)
        clear hx
        obtain ⟨u0, hu0⟩ : ∃ u, wr.cell? ⟨w.heap.size, k * 5, none⟩ = some u := by
          rw [hown.cellAt (k * 5) (by omega)]
          exact ⟨_, List.getElem?_eq_getElem (by rw [hown.1]; omega)⟩
        have hf0 := hown.frozenAt (k * 5)
        obtain ⟨u1, hu1⟩ : ∃ u, wr.cell? ⟨w.heap.size, k * 5 + 1, none⟩ = some u := by
          rw [hown.cellAt (k * 5 + 1) (by omega)]
          exact ⟨_, List.getElem?_eq_getElem (by rw [hown.1]; omega)⟩
        have hf1 := hown.frozenAt (k * 5 + 1)
        obtain ⟨u2, hu2⟩ : ∃ u, wr.cell? ⟨w.heap.size, k * 5 + 2, none⟩ = some u := by
          rw [hown.cellAt (k * 5 + 2) (by omega)]
          exact ⟨_, List.getElem?_eq_getElem (by rw [hown.1]; omega)⟩
        have hf2 := hown.frozenAt (k * 5 + 2)
        obtain ⟨u3, hu3⟩ : ∃ u, wr.cell? ⟨w.heap.size, k * 5 + 3, none⟩ = some u := by
          rw [hown.cellAt (k * 5 + 3) (by omega)]
          exact ⟨_, List.getElem?_eq_getElem (by rw [hown.1]; omega)⟩
        have hf3 := hown.frozenAt (k * 5 + 3)
        obtain ⟨u4, hu4⟩ : ∃ u, wr.cell? ⟨w.heap.size, k * 5 + 4, none⟩ = some u := by
          rw [hown.cellAt (k * 5 + 4) (by omega)]
          exact ⟨_, List.getElem?_eq_getElem (by rw [hown.1]; omega)⟩
        have hf4 := hown.frozenAt (k * 5 + 4)
        have hsd0 := hown.stored (k * 5) (.string x0)
        have hsd1 := hsd0.1.stored (k * 5 + 1) (.int .i64 x1)
        have hsd2 := hsd1.1.stored (k * 5 + 2) (.int .i64 x2)
        have hsd3 := hsd2.1.stored (k * 5 + 3) (.int .i64 x3)
        have hsd4 := hsd3.1.stored (k * 5 + 4) (.int .i64 x4)
        have Hs := Lib.hid hsd4.1
        have hbx : Bel w.heap.size w wr := Bel.of hbw
        have Hb := Lib.hid ((((((hbx).grown hsd0.2 (fun k h => by cases h; exact Nat.le_refl _)).grown hsd1.2 (fun k h => by cases h; exact Nat.le_refl _)).grown hsd2.2 (fun k h => by cases h; exact Nat.le_refl _)).grown hsd3.2 (fun k h => by cases h; exact Nat.le_refl _)).grown hsd4.2 (fun k h => by cases h; exact Nat.le_refl _))
        clear hsd0 hsd1 hsd2 hsd3 hsd4 hown hbw hbx
        go_wp2_with (go_at_call 29; refine (toStuff_any _ _ _ _ _ _).mono ?_; rintro e w1 ⟨rfl, rfl⟩)
        go_roundw
        case rel =>
          refine ⟨k + 1, by omega, by go_num, ?_, (((Hb.out.alloc _).alloc _).alloc _).1⟩
          have h := ((Hs.out.alloc (.cells #[.string x0, .int .i64 x1, .int .i64 x2, .int .i64 x3, .int .i64 x4] 48)).alloc (.cells #[.string x0, .int .i64 x1, .int .i64 x2, .int .i64 x3, .int .i64 x4] 49)).alloc (.cells #[.string x0, .int .i64 x1, .int .i64 x2, .int .i64 x3, .int .i64 x4] 49)
          have hl := Hl.out
          have hz := Hz.out
          rw [set_fill _ _ (k * 5) _ (by omega) (by omega) Hat.out.1] at h
          rw [set_fill _ _ (k * 5 + 1) _ (by omega) (by omega) Hat.out.2.1] at h
          rw [set_fill _ _ (k * 5 + 2) _ (by omega) (by omega) Hat.out.2.2.1] at h
          rw [set_fill _ _ (k * 5 + 3) _ (by omega) (by omega) Hat.out.2.2.2.1] at h
          rw [set_fill _ _ (k * 5 + 4) _ (by omega) (by omega) Hat.out.2.2.2.2] at h
          rw [show (k + 1) * 5 = k * 5 + 5 from by omega]
          exact h
        case measure => simp [intOf]; omega
      · go_wp2
        go_ret
        have e : k = n := by omega
        subst e
        refine newRow_intro ?_ hbw
        have h := hown
        rw [List.take_of_length_le (by rw [Hz.out]; exact Nat.le_refl _), List.drop_of_length_le (by rw [Hl.out]; exact Nat.le_refl _), List.append_nil] at h
        exact h
theorem str_ne (s : ByteArray) : (s.toList != s.toList) = false := by simp
theorem eqStuff_any (x0 : ByteArray) (x1 x2 x3 x4 : Int) (w : World) : Calls Try.prog 34 #[.agg #[.string x0, .int .i64 x1, .int .i64 x2, .int .i64 x3, .int .i64 x4], .agg #[.string x0, .int .i64 x1, .int .i64 x2, .int .i64 x3, .int .i64 x4]] w fun e w' => e = .returned (.bool true) ∧ (w.alloc (.cells #[.string x0, .int .i64 x1, .int .i64 x2, .int .i64 x3, .int .i64 x4] 49)).alloc (.cells #[.string x0, .int .i64 x1, .int .i64 x2, .int .i64 x3, .int .i64 x4] 49) = w' := by
  go_enter Try.func34, Try.ntmps34
  go_wp2
  go_ret
  exact ⟨rfl, rfl⟩
set_option maxRecDepth 100000 in
set_option maxHeartbeats 1600000 in
theorem eqStuffS_any (a b : Option Addr) (n c d : Nat) (S : Nat → ByteArray × Int × Int × Int × Int) (w : World) (hn : n ≤ 1073741824) (ha : CellsAt w a (stfC S n)) (hb : CellsAt w b (stfC S n)) :
    Calls Try.prog 12 #[.slice a n c, .slice b n d] w fun e w' => e = .returned (.bool true) ∧ Below w.heap.size w w' := by
  by_cases h0 : n = 0
  · subst h0
    clear ha hb
    go_enter Try.func12, Try.ntmps12
    go_wp2
    refine wp_loop_once ?_
    go_wp2
    go_ret
    exact ⟨rfl, Below.refl _ _⟩
  · obtain ⟨b1, o1, rfl, hb1, hc1⟩ := ha.at_ (by rw [stfC_length]; omega)
    obtain ⟨b2, o2, rfl, hb2, hc2⟩ := hb.at_ (by rw [stfC_length]; omega)
    have H1 := Lib.hid hc1
    have H2 := Lib.hid hc2
    clear hc1 hc2 ha hb
    have hnn : ((n : Int) != (n : Int)) = false := by simp
    go_enter Try.func12, Try.ntmps12
    go_wp2
    go_loopw [5] (fun i wr => ∃ k : Nat, k ≤ n ∧ i = .int .i64 k ∧ Below w.heap.size w wr) (fun i _ => n - (intOf i).toNat)
    case atStart => exact ⟨0, Nat.zero_le _, rfl, Below.refl _ _⟩
    case round =>
      obtain ⟨k, hk, rfl, hbw⟩ := hrel
      by_cases hlt : k < n
      · obtain ⟨x0, x1, x2, x3, x4, hx⟩ : ∃ x t g s p, S k = (x, t, g, s, p) := ⟨_, _, _, _, _, rfl⟩
        obtain ⟨hc0, hc1, hc2, hc3, hc4⟩ := stf_cells hb1 hbw H1.out hlt hx
        obtain ⟨hd0, hd1, hd2, hd3, hd4⟩ := stf_cells hb2 hbw H2.out hlt hx
        have hb' : Bel w.heap.size w wr := Bel.of hbw
        have Hb := Lib.hid hb'
        clear hbw hb' hx
        have hlt' : (k : Int) < (n : Int) := by omega
        go_wp2_with fail
        go_still_tail 8, (by kernel_rfl)
        go_wp2_with (go_at_call 34; refine (eqStuff_any _ _ _ _ _ _).mono ?_; rintro e w1 ⟨rfl, rfl⟩)
        go_roundw
        case rel => exact ⟨k + 1, by omega, by go_num, (((Hb.out.alloc _).alloc _).drew).1⟩
        case measure => simp [intOf]; omega
      · go_wp2
        go_ret
        exact ⟨rfl, hbw⟩

/-- The sizes of the first k names. -/
def nmTo (S : Nat → ByteArray × Int × Int × Int × Int) : Nat → Nat
  | 0 => 0
  | k + 1 => nmTo S k + (S k).1.size
theorem nmTo_mono (S : Nat → ByteArray × Int × Int × Int × Int) {k n : Nat} (h : k ≤ n) : nmTo S k ≤ nmTo S n := by
  induction n with
  | zero => obtain rfl : k = 0 := by omega
            exact Nat.le_refl _
  | succ n ih =>
    by_cases e : k = n + 1
    · subst e; exact Nat.le_refl _
    · have := ih (by omega); simp only [nmTo]; omega
theorem szStuff_any (x0 : ByteArray) (x1 x2 x3 x4 k : Int) (w : World) (h1 : 0 ≤ k) (h2 : k ≤ 1048576) (hs : x0.size ≤ maxLen) : Calls Try.prog 27 #[.agg #[.string x0, .int .i64 x1, .int .i64 x2, .int .i64 x3, .int .i64 x4], .int .i64 k] w fun e w' => e = .returned (.int .i64 (if k - (x0.size : Int) < 0 then -1 else k - (x0.size : Int))) ∧ Below w.heap.size w w' := by
  unfold maxLen at hs
  by_cases g : k - (x0.size : Int) < 0
  · rw [if_pos g]
    go_enter Try.func27, Try.ntmps27
    go_wp2
    go_ret
    exact ⟨rfl, (by repeat (first | exact Below.refl _ _ | assumption | refine Below.drew ?_ | refine below_drewN ?_ _ | refine Below.alloc ?_ (by simp; try omega) _ | refine Below.setCell ?_ (by simp; try omega) _))⟩
  · rw [if_neg g]
    go_enter Try.func27, Try.ntmps27
    go_wp2
    go_ret
    exact ⟨rfl, (by repeat (first | exact Below.refl _ _ | assumption | refine Below.drew ?_ | refine below_drewN ?_ _ | refine Below.alloc ?_ (by simp; try omega) _ | refine Below.setCell ?_ (by simp; try omega) _))⟩
set_option maxRecDepth 100000 in
set_option maxHeartbeats 1600000 in
theorem szStuffS_any (a : Option Addr) (n c : Nat) (S : Nat → ByteArray × Int × Int × Int × Int) (left : Int) (w : World) (h1 : 0 ≤ left) (h2 : left ≤ 1048576) (hn : n ≤ maxLen) (hok : StfOk S n) (hc : CellsAt w a (stfC S n)) :
    Calls Try.prog 8 #[.slice a n c, .int .i64 left] w fun e w' => e = .returned (.int .i64 (if left < (n : Int) + (nmTo S n : Int) then -1 else left - (n : Int) - (nmTo S n : Int))) ∧ Below w.heap.size w w' := by
  unfold maxLen at hn
  obtain ⟨r, hr⟩ : ∃ r, (if left < (n : Int) + (nmTo S n : Int) then -1 else left - (n : Int) - (nmTo S n : Int)) = r := ⟨_, rfl⟩
  rw [hr]
  have HR := Lib.hid hr
  have HO := Lib.hid hok
  have HC := Lib.hid hc
  have HM := Lib.hid (fun k (hk : k ≤ n) => nmTo_mono S hk)
  clear hr hok hc
  by_cases h : left < n
  · obtain rfl : r = -1 := by rw [← HR.out, if_pos (by omega)]
    go_enter Try.func8, Try.ntmps8
    go_wp2
    go_ret
    exact ⟨rfl, Below.refl _ _⟩
  · go_enter Try.func8, Try.ntmps8
    go_wp2
    go_loopw [1, 5] (fun v i wr => ∃ k : Nat, k ≤ n ∧ i = .int .i64 k ∧ ∃ y : Int, v = .int .i64 y ∧ 0 ≤ y ∧ y ≤ 1048576 ∧ Hid (y = left - (n : Int) - (nmTo S k : Int)) ∧ Hid (Below w.heap.size w wr)) (fun _ i _ => n - (intOf i).toNat)
    case atStart => exact ⟨0, Nat.zero_le _, rfl, left - (n : Int), rfl, by omega, by omega, Lib.hid (by simp [nmTo]), Lib.hid (Below.refl _ _)⟩
    case round =>
      obtain ⟨k, hk, rfl, y, rfl, y1, y2, hy, hbw⟩ := hrel
      by_cases hlt : k < n
      · obtain ⟨b, o, rfl, hb, hcc⟩ := HC.out.at_ (by rw [stfC_length]; omega)
        obtain ⟨x0, x1, x2, x3, x4, hx⟩ : ∃ x t g s p, S k = (x, t, g, s, p) := ⟨_, _, _, _, _, rfl⟩
        obtain ⟨hc0, hc1, hc2, hc3, hc4⟩ := stf_cells hb hbw.out hcc hlt hx
        have hsz := (HO.out k hlt _ _ _ _ _ hx).1
        have hm := HM.out (k + 1) (by omega)
        have HN := Lib.hid (show nmTo S (k + 1) = nmTo S k + x0.size by simp only [nmTo, hx])
        clear hcc hx
        have hlt' : (k : Int) < (n : Int) := by omega
        by_cases hneg : y - (x0.size : Int) < 0
        · obtain rfl : r = -1 := by
            rw [← HR.out, if_pos]
            have h1 := hy.out
            have h2 := HN.out
            omega
          have HZ := Lib.hid (fun W => szStuff_any x0 x1 x2 x3 x4 y W y1 y2 hsz)
          clear hm
          go_wp2_with fail
          refine (HZ.out _).mono ?_
          rw [if_pos hneg]
          rintro e w1 ⟨rfl, hb1⟩
          have HB1 := Lib.hid (hbw.out.trans (hb1.mono hbw.out.size))
          clear hb1
          go_wp2_with fail
          go_ret
          exact ⟨rfl, HB1.out⟩
        · have HZ := Lib.hid (fun W => szStuff_any x0 x1 x2 x3 x4 y W y1 y2 hsz)
          clear hm
          go_wp2_with fail
          refine (HZ.out _).mono ?_
          rw [if_neg (by omega)]
          rintro e w1 ⟨rfl, hb1⟩
          have HB1 := Lib.hid (hbw.out.trans (hb1.mono hbw.out.size))
          clear hb1
          go_wp2_with fail
          go_roundw
          case rel => exact ⟨k + 1, by omega, by go_num, _, rfl, by omega, by omega, Lib.hid (by have h1 := hy.out; have h2 := HN.out; omega), HB1⟩
          case measure => simp [intOf]; omega
      · obtain rfl : k = n := by omega
        obtain rfl : r = y := by
          rw [← HR.out, if_neg (by have := hy.out; omega)]
          exact hy.out.symm
        go_wp2
        go_ret
        exact ⟨rfl, hbw.out⟩
end Go.Proofs.Ythihhkabbdkohaa
