/-
  The contracts of the laws' own helpers on a last, and of the functions of a last. No condition of its own.
-/
import Derived.Test.YtlaapndncejlgaaLast
import Derived.Test.YtlaapndncejlgaaRow
import Derived.Test.YtlaapndncejlgaaFrac
namespace Go.Proofs.Ytlaapndncejlgaa
open Go.ChangeShapes Go.WideShapes Go.ChangeAt Go.RowKit Go.Deep Go.Shelf Go.Joins

section
variable {H : Type} {enc : TypeId × Value → H} {P : Program} {w : World} {base : Nat} {spare : Nat → Bool} {held : Bool}
theorem open_agg6 {r : Reach} {b0 : Nat} {t : TypeId} {f0 f1 f2 f3 f4 f5 : Field} {v : Value} {d : DataW H} {p : List MemPlace} (hs : P.underlying t = some (.struct #[f0, f1, f2, f3, f4, f5])) (hone : oneCellFields P #[f0, f1, f2, f3, f4, f5] = true) (hC : P.cellsOf t = 6)
    (hv : Value.okWide P w r b0 t v) (h : DataW.Trod enc P w base spare held t v d p) :
    ∃ (v0 v1 v2 v3 v4 v5 : Value) (y0 y1 y2 y3 y4 y5 : DataW H × List MemPlace) (m : Nat), v = .agg #[v0, v1, v2, v3, v4, v5] ∧ d = .agg [y0.1, y1.1, y2.1, y3.1, y4.1, y5.1] ∧ p = y0.2 ++ (y1.2 ++ (y2.2 ++ (y3.2 ++ (y4.2 ++ (y5.2))))) ∧
      DataW.trod enc P w base spare held m f0.type [v0] = some y0 ∧ DataW.trod enc P w base spare held m f1.type [v1] = some y1 ∧ DataW.trod enc P w base spare held m f2.type [v2] = some y2 ∧ DataW.trod enc P w base spare held m f3.type [v3] = some y3 ∧ DataW.trod enc P w base spare held m f4.type [v4] = some y4 ∧ DataW.trod enc P w base spare held m f5.type [v5] = some y5 := by
  obtain ⟨cs, rfl, hsz⟩ := okWide_struct hs hv
  obtain ⟨l⟩ := cs
  match l, hsz.trans hC with
  | [c0, c1, c2, c3, c4, c5], _ =>
    obtain ⟨fuel, hf⟩ := h
    obtain ⟨xs, m, _, hx, _, hlen, hg⟩ := DataW.trod_struct hs hf
    obtain ⟨o0, k0⟩ := hone_of hone 0 f0 rfl
    obtain ⟨o1, k1⟩ := hone_of hone 1 f1 rfl
    obtain ⟨o2, k2⟩ := hone_of hone 2 f2 rfl
    obtain ⟨o3, k3⟩ := hone_of hone 3 f3 rfl
    obtain ⟨o4, k4⟩ := hone_of hone 4 f4 rfl
    obtain ⟨o5, k5⟩ := hone_of hone 5 f5 rfl
    match xs, hlen with
    | [y0, y1, y2, y3, y4, y5], _ =>
      simp only [Prod.mk.injEq] at hx
      exact ⟨c0, c1, c2, c3, c4, c5, y0, y1, y2, y3, y4, y5, m, rfl, by simpa using hx.1, by simpa using hx.2, by simpa [Value.cells, o0, k0] using hg 0 f0 rfl, by simpa [Value.cells, o1, k1] using hg 1 f1 rfl, by simpa [Value.cells, o2, k2] using hg 2 f2 rfl, by simpa [Value.cells, o3, k3] using hg 3 f3 rfl, by simpa [Value.cells, o4, k4] using hg 4 f4 rfl, by simpa [Value.cells, o5, k5] using hg 5 f5 rfl⟩
end

theorem toLast_any (x0 : ByteArray) (x1 : Int) (x2 : Int) (x3 : Int) (x4 : Int) (x5 : Int) (w : World) : Calls Try.prog 55 #[.agg #[.string x0, .int .i64 x1, .int .i64 x2, .int .i64 x3, .int .i64 x4, .int .i64 x5]] w fun e w' => e = .returned (.agg #[.string x0, .int .i64 x1, .int .i64 x2, .int .i64 x3, .int .i64 x4, .int .i64 x5]) ∧ ((w.alloc (.cells #[.string x0, .int .i64 x1, .int .i64 x2, .int .i64 x3, .int .i64 x4, .int .i64 x5] 63)).alloc (.cells #[.string x0, .int .i64 x1, .int .i64 x2, .int .i64 x3, .int .i64 x4, .int .i64 x5] 56)).alloc (.cells #[.string x0, .int .i64 x1, .int .i64 x2, .int .i64 x3, .int .i64 x4, .int .i64 x5] 56) = w' := by
  go_enter Try.func55, Try.ntmps55
  go_wp2
  exact bodyPost_ret (v := .agg #[.string x0, .int .i64 x1, .int .i64 x2, .int .i64 x3, .int .i64 x4, .int .i64 x5]) (by simp [results, Try.results55, go_sem]) rfl ⟨rfl, rfl⟩

set_option maxHeartbeats 800000 in
theorem szLast_any (s : ByteArray) (l b i h p k : Int) (w : World) (h1 : 0 ≤ k) (h2 : k ≤ 1048576) (hs : s.size ≤ maxLen) : Calls Try.prog 53 #[.agg #[.string s, .int .i64 l, .int .i64 b, .int .i64 i, .int .i64 h, .int .i64 p], .int .i64 k] w fun e w' => e = .returned (.int .i64 (if k - (s.size : Int) < 0 then -1 else k - (s.size : Int))) ∧ Below w.heap.size w w' := by
  unfold maxLen at hs
  by_cases g : k - (s.size : Int) < 0
  · rw [if_pos g]
    go_enter Try.func53, Try.ntmps53
    go_wp2
    go_ret
    exact ⟨rfl, (by repeat (first | exact Below.refl _ _ | assumption | refine Below.drew ?_ | refine below_drewN ?_ _ | refine Below.alloc ?_ (by simp; try omega) _ | refine Below.setCell ?_ (by simp; try omega) _))⟩
  · rw [if_neg g]
    go_enter Try.func53, Try.ntmps53
    go_wp2
    go_ret
    exact ⟨rfl, (by repeat (first | exact Below.refl _ _ | assumption | refine Below.drew ?_ | refine below_drewN ?_ _ | refine Below.alloc ?_ (by simp; try omega) _ | refine Below.setCell ?_ (by simp; try omega) _))⟩
/-! ### The slope -/
def slopeC (s : ByteArray) (l b i h p d : Int) : Int := if lastB s l b i h p then (if inB d 1 5000 then 0 else 2) else 1
def slopeN (s : ByteArray) (l b i h p d : Int) : Int := if lastB s l b i h p then (if inB d 1 5000 then p / Int.gcd p d else 0) else 0
def slopeD (s : ByteArray) (l b i h p d : Int) : Int := if lastB s l b i h p then (if inB d 1 5000 then d / Int.gcd p d else 0) else 0
theorem last_p {s : ByteArray} {l b i h p : Int} (k : lastB s l b i h p = true) : 0 ≤ p ∧ p ≤ 1000 := by
  simp only [lastB, Bool.and_eq_true, inB_true] at k
  exact k.2.2
theorem frac_spot {w w2 : World} {cs : Array Value} {T F : Nat} (h : Bel ((w.alloc (.cells cs T)).alloc (.cells #[.int .i64 0, .int .i64 0] F)).heap.size ((w.alloc (.cells cs T)).alloc (.cells #[.int .i64 0, .int .i64 0] F)) w2) :
    w2.cell? ⟨w.heap.size + 1, 0, none⟩ = some (.int .i64 0) ∧ w2.cell? ⟨w.heap.size + 1, 1, none⟩ = some (.int .i64 0) ∧ w2.frozen? ⟨w.heap.size + 1, 0, none⟩ = false ∧ w2.frozen? ⟨w.heap.size + 1, 1, none⟩ = false ∧ w.heap.size + 1 < w2.heap.size := by
  refine ⟨(h.1.cell (p := ⟨w.heap.size + 1, 0, none⟩) (by simp)).trans (by simp), (h.1.cell (p := ⟨w.heap.size + 1, 1, none⟩) (by simp)).trans (by simp), (h.1.frozen (p := ⟨w.heap.size + 1, 0, none⟩) (by simp)).trans (by simp), (h.1.frozen (p := ⟨w.heap.size + 1, 1, none⟩) (by simp)).trans (by simp), ?_⟩
  have := h.2
  simp at this
  omega
set_option maxHeartbeats 1600000 in
theorem impl_SlopeOf (w : World) (s : ByteArray) (ws : s.size ≤ maxLen) (l : Int) (_ : (Lit.int .i64 l).wf = true) (b : Int) (_ : (Lit.int .i64 b).wf = true) (i : Int) (_ : (Lit.int .i64 i).wf = true) (h : Int) (_ : (Lit.int .i64 h).wf = true) (p : Int) (_ : (Lit.int .i64 p).wf = true) (d : Int) (_ : (Lit.int .i64 d).wf = true) :
    Calls Try.prog 52 #[.agg #[.string s, .int .i64 l, .int .i64 b, .int .i64 i, .int .i64 h, .int .i64 p], .int .i64 d] w fun e w' => e = .returned (.tuple #[.agg #[.int .i64 (slopeN s l b i h p d), .int .i64 (slopeD s l b i h p d)], .int .i64 (slopeC s l b i h p d)]) ∧ Below w.heap.size w w' := by
  have h1 := fun W => validLast_any s l b i h p W ws
  have h2 := fun W (k : lastB s l b i h p = true) (g : inB d 1 5000 = true) => lowest_any p d W (last_p k).1 (by have := (last_p k).2; omega) (inB_true.1 g).1 (by have := (inB_true.1 g).2; omega)
  obtain ⟨n0, hn⟩ : ∃ q, slopeN s l b i h p d = q := ⟨_, rfl⟩
  obtain ⟨d0, hd⟩ : ∃ q, slopeD s l b i h p d = q := ⟨_, rfl⟩
  obtain ⟨c0, hc⟩ : ∃ q, slopeC s l b i h p d = q := ⟨_, rfl⟩
  rw [hn, hd, hc]
  simp only [slopeN, slopeD, slopeC] at hn hd hc
  generalize lastB s l b i h p = q1 at h1 h2 hn hd hc
  have H1 := Lib.hid h1
  clear h1
  have H2 := Lib.hid h2
  clear h2
  have HC := Lib.hid (Bel.refl ((w.alloc (.cells #[.string s, .int .i64 l, .int .i64 b, .int .i64 i, .int .i64 h, .int .i64 p] 56)).alloc (.cells #[.int .i64 0, .int .i64 0] 60)))
  have HW := Lib.hid (((Bel.refl w).alloc (.cells #[.string s, .int .i64 l, .int .i64 b, .int .i64 i, .int .i64 h, .int .i64 p] 56)).alloc (.cells #[.int .i64 0, .int .i64 0] 60))
  cases q1
  · simp only [Bool.false_eq_true, if_false] at hn hd hc
    subst hn hd hc
    go_enter Try.func52, Try.ntmps52
    go_wp2_with fail
    refine (H1.out _).mono ?_
    rintro e w1 ⟨rfl, hb1⟩
    have HC1 := Lib.hid (HC.out.step hb1)
    have HW1 := Lib.hid (HW.out.step hb1)
    clear hb1
    obtain ⟨c0, c1, f0, f1, hz⟩ := frac_spot HC1.out
    go_wp2_with fail
    have hb3 := HW1.out.1
    exact bodyPost_ret (v := .tuple #[.agg #[.int .i64 0, .int .i64 0], .int .i64 1]) (by simp [results, Try.results52, go_sem, c0, c1]) rfl ⟨rfl, (by repeat (first | exact Below.refl _ _ | assumption | refine Below.drew ?_ | refine below_drewN ?_ _ | refine Below.alloc ?_ (by simp; try omega) _ | refine Below.setCell ?_ (by simp; try omega) _))⟩
  · cases g : inB d 1 5000
    · simp only [g, Bool.false_eq_true, if_false, if_true] at hn hd hc
      subst hn hd hc
      go_enter Try.func52, Try.ntmps52
      go_wp2_with fail
      refine (H1.out _).mono ?_
      rintro e w1 ⟨rfl, hb1⟩
      have HC1 := Lib.hid (HC.out.step hb1)
      have HW1 := Lib.hid (HW.out.step hb1)
      clear hb1
      obtain ⟨c0, c1, f0, f1, hz⟩ := frac_spot HC1.out
      go_wp2_with (go_at_call 59; refine (within_any _ _ _ _).mono ?_; rintro e w1 ⟨rfl, rfl⟩)
      have hb3 := HW1.out.1
      exact bodyPost_ret (v := .tuple #[.agg #[.int .i64 0, .int .i64 0], .int .i64 2]) (by simp [results, Try.results52, go_sem, c0, c1]) rfl ⟨rfl, (by repeat (first | exact Below.refl _ _ | assumption | refine Below.drew ?_ | refine below_drewN ?_ _ | refine Below.alloc ?_ (by simp; try omega) _ | refine Below.setCell ?_ (by simp; try omega) _))⟩
    · simp only [g, if_true] at hn hd hc
      have h3 := fun W => H2.out W rfl g
      rw [hn, hd] at h3
      subst hc
      have H3 := Lib.hid h3
      clear h3 hn hd
      go_enter Try.func52, Try.ntmps52
      go_wp2_with fail
      refine (H1.out _).mono ?_
      rintro e w1 ⟨rfl, hb1⟩
      have HC1 := Lib.hid (HC.out.step hb1)
      have HW1 := Lib.hid (HW.out.step hb1)
      clear hb1
      have hcp : w1.cell? ⟨w.heap.size, 5, none⟩ = some (.int .i64 p) := (HC1.out.1.cell (p := ⟨w.heap.size, 5, none⟩) (by simp; omega)).trans (by simp)
      go_wp2_with (go_at_call 59; refine (within_any _ _ _ _).mono ?_; rintro e w1 ⟨rfl, rfl⟩)
      refine (H3.out _).mono ?_
      rintro e w2 ⟨rfl, hb2⟩
      have HC2 := Lib.hid (HC1.out.step hb2)
      have HW2 := Lib.hid (HW1.out.step hb2)
      clear hb2 hcp
      obtain ⟨c0, c1, f0, f1, hz⟩ := frac_spot HC2.out
      go_wp2_with fail
      have hb3 := HW2.out.1
      exact bodyPost_ret (v := .tuple #[.agg #[.int .i64 n0, .int .i64 d0], .int .i64 0]) (by simp [results, Try.results52, go_sem, c0, c1]) rfl ⟨rfl, (by repeat (first | exact Below.refl _ _ | assumption | refine Below.drew ?_ | refine below_drewN ?_ _ | refine Below.alloc ?_ (by simp; try omega) _ | refine Below.setCell ?_ (by simp; try omega) _))⟩
/-! ### How high the heel must be -/
def hforC (s : ByteArray) (l b i h p x y : Int) : Int := if lastB s l b i h p then (if inB x 0 300 && inB y 0 300 then (if p + y - x < 0 then 10 else 0) else 2) else 1
def hforF (s : ByteArray) (l b i h p x y : Int) : Int := if lastB s l b i h p then (if inB x 0 300 && inB y 0 300 then (if p + y - x < 0 then 0 else p + y - x) else 0) else 0
set_option maxHeartbeats 1600000 in
theorem impl_HeelFor (w : World) (s : ByteArray) (ws : s.size ≤ maxLen) (l : Int) (_ : (Lit.int .i64 l).wf = true) (b : Int) (_ : (Lit.int .i64 b).wf = true) (i : Int) (_ : (Lit.int .i64 i).wf = true) (h : Int) (_ : (Lit.int .i64 h).wf = true) (p : Int) (_ : (Lit.int .i64 p).wf = true) (x : Int) (_ : (Lit.int .i64 x).wf = true) (y : Int) (_ : (Lit.int .i64 y).wf = true) :
    Calls Try.prog 51 #[.agg #[.string s, .int .i64 l, .int .i64 b, .int .i64 i, .int .i64 h, .int .i64 p], .int .i64 x, .int .i64 y] w fun e w' => e = .returned (.tuple #[.int .i64 (hforF s l b i h p x y), .int .i64 (hforC s l b i h p x y)]) ∧ Below w.heap.size w w' := by
  have h1 := fun W => validLast_any s l b i h p W ws
  obtain ⟨f0, hf⟩ : ∃ q, hforF s l b i h p x y = q := ⟨_, rfl⟩
  obtain ⟨c0, hc⟩ : ∃ q, hforC s l b i h p x y = q := ⟨_, rfl⟩
  rw [hf, hc]
  simp only [hforF, hforC] at hf hc
  have h2 : lastB s l b i h p = true → 0 ≤ p ∧ p ≤ 1000 := last_p
  generalize lastB s l b i h p = q1 at h1 hf hc h2
  have H1 := Lib.hid h1
  have HC := Lib.hid (Bel.refl (w.alloc (.cells #[.string s, .int .i64 l, .int .i64 b, .int .i64 i, .int .i64 h, .int .i64 p] 56)))
  have HW := Lib.hid ((Bel.refl w).alloc (.cells #[.string s, .int .i64 l, .int .i64 b, .int .i64 i, .int .i64 h, .int .i64 p] 56))
  clear h1
  cases q1
  · simp only [Bool.false_eq_true, if_false] at hf hc
    subst hf hc
    clear h2
    go_enter Try.func51, Try.ntmps51
    go_wp2_with fail
    refine (H1.out _).mono ?_
    rintro e w1 ⟨rfl, hb1⟩
    have HW1 := Lib.hid (HW.out.step hb1)
    clear hb1
    go_wp2_with fail
    go_ret2
    exact ⟨rfl, HW1.out.1⟩
  · obtain ⟨p1, p2⟩ := h2 rfl
    clear h2
    cases g1 : inB x 0 300
    · simp only [g1, Bool.false_and, Bool.false_eq_true, if_false, if_true] at hf hc
      subst hf hc
      go_enter Try.func51, Try.ntmps51
      go_wp2_with fail
      refine (H1.out _).mono ?_
      rintro e w1 ⟨rfl, hb1⟩
      have HW1 := Lib.hid (HW.out.step hb1)
      clear hb1
      go_wp2_with (go_at_call 59; refine (within_any _ _ _ _).mono ?_; rintro e w1 ⟨rfl, rfl⟩)
      go_ret2
      exact ⟨rfl, HW1.out.1⟩
    · cases g2 : inB y 0 300
      · simp only [g1, g2, Bool.and_false, Bool.false_eq_true, if_false, if_true] at hf hc
        subst hf hc
        go_enter Try.func51, Try.ntmps51
        go_wp2_with fail
        refine (H1.out _).mono ?_
        rintro e w1 ⟨rfl, hb1⟩
        have HW1 := Lib.hid (HW.out.step hb1)
        clear hb1
        go_wp2_with (go_at_call 59; refine (within_any _ _ _ _).mono ?_; rintro e w1 ⟨rfl, rfl⟩)
        go_ret2
        exact ⟨rfl, HW1.out.1⟩
      · simp only [g1, g2, Bool.and_true, if_true] at hf hc
        obtain ⟨x1, x2⟩ := inB_true.1 g1
        obtain ⟨y1, y2⟩ := inB_true.1 g2
        by_cases g3 : p + y - x < 0
        · rw [if_pos g3] at hf hc
          subst hf hc
          go_enter Try.func51, Try.ntmps51
          go_wp2_with fail
          refine (H1.out _).mono ?_
          rintro e w1 ⟨rfl, hb1⟩
          have HW1 := Lib.hid (HW.out.step hb1)
          have hcp : w1.cell? ⟨w.heap.size, 5, none⟩ = some (.int .i64 p) := ((HC.out.step hb1).1.cell (p := ⟨w.heap.size, 5, none⟩) (by simp)).trans (by simp)
          clear hb1
          go_wp2_with (go_at_call 59; refine (within_any _ _ _ _).mono ?_; rintro e w1 ⟨rfl, rfl⟩)
          go_ret2
          exact ⟨rfl, HW1.out.1⟩
        · rw [if_neg g3] at hf hc
          have HF := Lib.hid hf
          subst hc
          clear hf
          go_enter Try.func51, Try.ntmps51
          go_wp2_with fail
          refine (H1.out _).mono ?_
          rintro e w1 ⟨rfl, hb1⟩
          have HW1 := Lib.hid (HW.out.step hb1)
          have hcp : w1.cell? ⟨w.heap.size, 5, none⟩ = some (.int .i64 p) := ((HC.out.step hb1).1.cell (p := ⟨w.heap.size, 5, none⟩) (by simp)).trans (by simp)
          clear hb1
          go_wp2_with (go_at_call 59; refine (within_any _ _ _ _).mono ?_; rintro e w1 ⟨rfl, rfl⟩)
          go_ret2
          exact ⟨ret_two HF.out rfl, HW1.out.1⟩
set_option maxHeartbeats 1600000 in
theorem spec_HeelFor (w : World) (s : ByteArray) (ws : s.size ≤ maxLen) (l : Int) (_ : (Lit.int .i64 l).wf = true) (b : Int) (_ : (Lit.int .i64 b).wf = true) (i : Int) (_ : (Lit.int .i64 i).wf = true) (h : Int) (_ : (Lit.int .i64 h).wf = true) (p : Int) (_ : (Lit.int .i64 p).wf = true) (x : Int) (_ : (Lit.int .i64 x).wf = true) (y : Int) (_ : (Lit.int .i64 y).wf = true) :
    Calls Try.prog 54 #[.agg #[.string s, .int .i64 l, .int .i64 b, .int .i64 i, .int .i64 h, .int .i64 p], .int .i64 x, .int .i64 y] w fun e w' => e = .returned (.tuple #[.int .i64 (hforF s l b i h p x y), .int .i64 (hforC s l b i h p x y)]) ∧ Below w.heap.size w w' := by
  have h1 := fun W => l04One_any s l b i h p W ws
  obtain ⟨f0, hf⟩ : ∃ q, hforF s l b i h p x y = q := ⟨_, rfl⟩
  obtain ⟨c0, hc⟩ : ∃ q, hforC s l b i h p x y = q := ⟨_, rfl⟩
  rw [hf, hc]
  simp only [hforF, hforC] at hf hc
  have h2 : lastB s l b i h p = true → 0 ≤ p ∧ p ≤ 1000 := last_p
  generalize lastB s l b i h p = q1 at h1 hf hc h2
  have H1 := Lib.hid h1
  have HC := Lib.hid (Bel.refl (w.alloc (.cells #[.string s, .int .i64 l, .int .i64 b, .int .i64 i, .int .i64 h, .int .i64 p] 56)))
  have HW := Lib.hid ((Bel.refl w).alloc (.cells #[.string s, .int .i64 l, .int .i64 b, .int .i64 i, .int .i64 h, .int .i64 p] 56))
  clear h1
  cases q1
  · simp only [Bool.false_eq_true, if_false] at hf hc
    subst hf hc
    clear h2
    go_enter Try.func54, Try.ntmps54
    go_wp2_with fail
    refine (H1.out _).mono ?_
    rintro e w1 ⟨rfl, hb1⟩
    have HW1 := Lib.hid (HW.out.step hb1)
    clear hb1
    go_wp2_with fail
    go_ret2
    exact ⟨rfl, HW1.out.1⟩
  · obtain ⟨p1, p2⟩ := h2 rfl
    clear h2
    cases g1 : inB x 0 300
    · simp only [g1, Bool.false_and, Bool.false_eq_true, if_false, if_true] at hf hc
      subst hf hc
      go_enter Try.func54, Try.ntmps54
      go_wp2_with fail
      refine (H1.out _).mono ?_
      rintro e w1 ⟨rfl, hb1⟩
      have HW1 := Lib.hid (HW.out.step hb1)
      clear hb1
      go_wp2_with (go_at_call 60; refine (l00In_any _ _ _ _).mono ?_; rintro e w1 ⟨rfl, rfl⟩)
      go_ret2
      exact ⟨rfl, HW1.out.1⟩
    · cases g2 : inB y 0 300
      · simp only [g1, g2, Bool.and_false, Bool.false_eq_true, if_false, if_true] at hf hc
        subst hf hc
        go_enter Try.func54, Try.ntmps54
        go_wp2_with fail
        refine (H1.out _).mono ?_
        rintro e w1 ⟨rfl, hb1⟩
        have HW1 := Lib.hid (HW.out.step hb1)
        clear hb1
        go_wp2_with (go_at_call 60; refine (l00In_any _ _ _ _).mono ?_; rintro e w1 ⟨rfl, rfl⟩)
        go_ret2
        exact ⟨rfl, HW1.out.1⟩
      · simp only [g1, g2, Bool.and_true, if_true] at hf hc
        obtain ⟨x1, x2⟩ := inB_true.1 g1
        obtain ⟨y1, y2⟩ := inB_true.1 g2
        by_cases g3 : p + y - x < 0
        · rw [if_pos g3] at hf hc
          subst hf hc
          go_enter Try.func54, Try.ntmps54
          go_wp2_with fail
          refine (H1.out _).mono ?_
          rintro e w1 ⟨rfl, hb1⟩
          have HW1 := Lib.hid (HW.out.step hb1)
          have hcp : w1.cell? ⟨w.heap.size, 5, none⟩ = some (.int .i64 p) := ((HC.out.step hb1).1.cell (p := ⟨w.heap.size, 5, none⟩) (by simp)).trans (by simp)
          clear hb1
          go_wp2_with (go_at_call 60; refine (l00In_any _ _ _ _).mono ?_; rintro e w1 ⟨rfl, rfl⟩)
          go_ret2
          exact ⟨rfl, HW1.out.1⟩
        · rw [if_neg g3] at hf hc
          have HF := Lib.hid hf
          subst hc
          clear hf
          go_enter Try.func54, Try.ntmps54
          go_wp2_with fail
          refine (H1.out _).mono ?_
          rintro e w1 ⟨rfl, hb1⟩
          have HW1 := Lib.hid (HW.out.step hb1)
          have hcp : w1.cell? ⟨w.heap.size, 5, none⟩ = some (.int .i64 p) := ((HC.out.step hb1).1.cell (p := ⟨w.heap.size, 5, none⟩) (by simp)).trans (by simp)
          clear hb1
          go_wp2_with (go_at_call 60; refine (l00In_any _ _ _ _).mono ?_; rintro e w1 ⟨rfl, rfl⟩)
          go_ret2
          exact ⟨ret_two HF.out rfl, HW1.out.1⟩
end Go.Proofs.Ytlaapndncejlgaa
