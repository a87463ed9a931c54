/-
  What the law on glues asks of windows, faults, warmth, shares and texts. No condition of its own.
-/
import Derived.Test.YtfkojbkgpbpjhaaGreatDoorSpoilT
import Derived.Test.YtfkojbkgpbpjhaaGreatDoorGlue3
import Derived.Test.YtfkojbkgpbpjhaaGreatDoorReadH
namespace Go.Proofs.YtfkojbkgpbpjhaaGreatDoor
open Go.ChangeShapes Go.WideShapes Go.ChangeAt Go.RowKit Go.Deep

theorem code_at {w : World} {a : Option Addr} {n : Nat} {zs : List Int} (l : zs.length = n) (h : CellsAt w a (zs.map (Value.int .u8))) (hw : ∀ z ∈ zs, (Lit.int .u8 z).wf = true) (hn : n ≤ 1048576) : CodeAt w a n :=
  ⟨zs, h, l, fun z hz => by
    have h := hw z hz
    have e1 : IntKind.u8.min = 0 := by rfl
    have e2 : IntKind.u8.max = 255 := by rfl
    simp [Lit.wf, e1, e2] at h; omega, hn⟩
theorem specValidGlue_any (d o p : Int) (w : World) : Calls Tryz.prog 24 #[.agg #[.int .i64 d, .int .i64 o, .int .i64 p]] w fun e w' => e = .returned (.bool (glueB d o p)) ∧ Below w.heap.size w w' := by
  have H := Lib.hid (fun W => l19Ok_any d o p W)
  generalize glueB d o p = r at H ⊢
  go_enter Tryz.func24, Tryz.ntmps24
  go_wp2_with fail
  refine (H.out _).mono ?_
  rintro e w1 ⟨rfl, rfl⟩
  go_wp2_with fail
  go_ret
  exact ⟨rfl, (by repeat (first | exact Below.refl _ _ | assumption | refine Below.drew ?_ | refine below_drewN ?_ _ | refine Below.alloc ?_ (by simp; try omega) _ | refine Below.setCell ?_ (by simp; try omega) _))⟩
theorem implValidGlue_b (d o p : Int) (w : World) : Calls Tryz.prog 23 #[.agg #[.int .i64 d, .int .i64 o, .int .i64 p]] w fun e w' => e = .returned (.bool (glueB d o p)) ∧ Below w.heap.size w w' := by
  refine (validGlue_any d o p w).mono ?_
  rintro e w' ⟨he, rfl⟩
  exact ⟨he, (Below.refl _ _).alloc (Nat.le_refl _) _⟩
section
variable {d o p x y : Int} {f1 f2 f3 f4 : Int}
theorem jwI (h : windowF d o p x y = (f1, f2, f3)) (w : World) : Calls Tryz.prog 6 #[.agg #[.int .i64 d, .int .i64 o, .int .i64 p], .int .i64 x, .int .i64 y] w fun e w' => e = .returned (.tuple #[.int .i64 f1, .int .i64 f2, .int .i64 f3]) ∧ Below w.heap.size w w' := by
  have := joinWindow_any d o p x y w; rw [h] at this; exact this
theorem jwS (h : windowF d o p x y = (f1, f2, f3)) (w : World) : Calls Tryz.prog 7 #[.agg #[.int .i64 d, .int .i64 o, .int .i64 p], .int .i64 x, .int .i64 y] w fun e w' => e = .returned (.tuple #[.int .i64 f1, .int .i64 f2, .int .i64 f3]) ∧ Below w.heap.size w w' := by
  have := specWindow_any d o p x y w; rw [h] at this; exact this
theorem wgI (h : warmF d o p x = (f1, f2, f3, f4)) (w : World) : Calls Tryz.prog 12 #[.agg #[.int .i64 d, .int .i64 o, .int .i64 p], .int .i64 x] w fun e w' => e = .returned (.tuple #[.agg #[.int .i64 f1, .int .i64 f2, .int .i64 f3], .int .i64 f4]) ∧ Below w.heap.size w w' := by
  have := warmGlue_any d o p x w; rw [h] at this; exact this
theorem wgS (h : warmF d o p x = (f1, f2, f3, f4)) (w : World) : Calls Tryz.prog 13 #[.agg #[.int .i64 d, .int .i64 o, .int .i64 p], .int .i64 x] w fun e w' => e = .returned (.tuple #[.agg #[.int .i64 f1, .int .i64 f2, .int .i64 f3], .int .i64 f4]) ∧ Below w.heap.size w w' := by
  have := specWarm_any d o p x w; rw [h] at this; exact this
variable {a b j t : Int} {s1 : ByteArray}
theorem jfI (h : joinFaultF d o p a b j t = (s1, f2)) (w : World) : Calls Tryz.prog 9 #[.agg #[.int .i64 d, .int .i64 o, .int .i64 p], .agg #[.int .i64 a, .int .i64 b, .int .i64 j, .int .i64 t]] w fun e w' => e = .returned (.tuple #[.string s1, .int .i64 f2]) ∧ Below w.heap.size w w' := by
  have := joinFault_any d o p a b j t w; rw [h] at this; exact this
theorem jfS (h : joinFaultF d o p a b j t = (s1, f2)) (w : World) : Calls Tryz.prog 10 #[.agg #[.int .i64 d, .int .i64 o, .int .i64 p], .agg #[.int .i64 a, .int .i64 b, .int .i64 j, .int .i64 t]] w fun e w' => e = .returned (.tuple #[.string s1, .int .i64 f2]) ∧ Below w.heap.size w w' := by
  have := specFault_any d o p a b j t w; rw [h] at this; exact this
theorem csI (h : cureF a b j t x y = (f1, f2, f3)) (w : World) : Calls Tryz.prog 15 #[.agg #[.int .i64 a, .int .i64 b, .int .i64 j, .int .i64 t], .int .i64 x, .int .i64 y] w fun e w' => e = .returned (.tuple #[.agg #[.int .i64 f1, .int .i64 f2], .int .i64 f3]) ∧ Below w.heap.size w w' := by
  have := cureShare_any a b j t x y w; rw [h] at this; exact this
theorem csS (h : cureF a b j t x y = (f1, f2, f3)) (w : World) : Calls Tryz.prog 16 #[.agg #[.int .i64 a, .int .i64 b, .int .i64 j, .int .i64 t], .int .i64 x, .int .i64 y] w fun e w' => e = .returned (.tuple #[.agg #[.int .i64 f1, .int .i64 f2], .int .i64 f3]) ∧ Below w.heap.size w w' := by
  have := specCure_any a b j t x y w; rw [h] at this; exact this
/-- Warmth makes nothing slower. -/
theorem warm_law (h : warmF d o p x = (f1, f2, f3, f4)) (h4 : f4 = 0) : glueB f1 f2 f3 = true ∧ f1 ≤ d ∧ f2 ≤ o ∧ f3 ≤ p := by
  subst h4
  unfold warmF at h
  split at h
  · simp at h
  · split at h
    · simp at h
    · rename_i hg hx
      simp only [Bool.not_eq_false] at hg hx
      obtain ⟨g1, g2, g3, g4, g5⟩ := glueB_true.1 hg
      obtain ⟨x1, x2⟩ := inB_true.1 hx
      simp only [Prod.mk.injEq, and_true] at h
      obtain ⟨rfl, rfl, rfl⟩ := h
      have e : ∀ z : Int, 0 ≤ z → 0 ≤ z * (50 - x) / 50 ∧ z * (50 - x) / 50 ≤ z := fun z hz => by
        have m1 : 0 ≤ z * (50 - x) := Int.mul_nonneg hz (by omega)
        have m2 : z * (50 - x) ≤ z * 50 := Int.mul_le_mul_of_nonneg_left (by omega) hz
        omega
      obtain ⟨e1, e2⟩ := e d g1
      obtain ⟨e3, e4⟩ := e o (by omega)
      obtain ⟨e5, e6⟩ := e p (by omega)
      have m3 : d * (50 - x) ≤ o * (50 - x) := Int.mul_le_mul_of_nonneg_right g2 (by omega)
      have e7 : d * (50 - x) / 50 ≤ o * (50 - x) / 50 := Int.ediv_le_ediv (by omega) m3
      exact ⟨glueB_true.2 ⟨e1, e7, by omega, by omega, by omega⟩, e2, e4, by omega⟩
/-- A share is one. -/
theorem cure_law (h : cureF a b j t x y = (f1, f2, f3)) (h3 : f3 = 0) : 0 ≤ f1 ∧ f1 ≤ f2 := by
  subst h3
  unfold cureF at h
  split at h
  · simp at h
  · split at h
    · simp at h
    · rename_i hg hx
      simp only [Bool.not_eq_false, Bool.and_eq_true] at hx
      obtain ⟨x1, x2⟩ := inB_true.1 hx.2
      simp only [Prod.mk.injEq, and_true] at h
      obtain ⟨rfl, rfl⟩ := h
      have h1 : 0 ≤ min (max (y - j) 0) x := by omega
      have h2 : min (max (y - j) 0) x ≤ x := by omega
      generalize min (max (y - j) 0) x = z at h1 h2 ⊢
      have hg : 0 < ((Int.gcd z x : Nat) : Int) := by
        have : 0 < Int.gcd z x := Int.gcd_pos_of_ne_zero_right z (by omega)
        omega
      exact ⟨Int.ediv_nonneg h1 (by omega), Int.ediv_le_ediv hg h2⟩
/-- The window of a glue. -/
theorem window_law (h : windowF d o p x y = (f1, f2, f3)) (h3 : f3 = 0) (h2 : f2 ≤ 90000) :
    joinFaultF d o p x y f1 (f1 + p) = (noneS, 0) ∧ joinFaultF d o p x y f2 (f2 + p) = (noneS, 0) ∧ joinFaultF d o p x y (f2 + 1) (f2 + 1 + p) = (lateS, 0) ∧ 0 ≤ f1 ∧ f1 ≤ 90000 ∧ 0 ≤ f2 ∧ 1 ≤ p ∧ p ≤ 1440 := by
  subst h3
  unfold windowF at h
  split at h
  · simp at h
  · split at h
    · simp at h
    · split at h
      · simp at h
      · rename_i hg hx hm
        simp only [Bool.not_eq_false, Bool.and_eq_true] at hg hx
        obtain ⟨g1, g2, g3, g4, g5⟩ := glueB_true.1 hg
        obtain ⟨x1, x2⟩ := inB_true.1 hx.1
        obtain ⟨y1, y2⟩ := inB_true.1 hx.2
        simp only [Prod.mk.injEq, and_true] at h
        obtain ⟨e1, e2⟩ := h
        have k : ∀ z, max x y ≤ z → z ≤ 90001 → joinB x y z (z + p) = true := fun z hz hz2 => joinB_true.2 ⟨by omega, by omega, by omega, by omega, by omega, by omega, by omega, by omega, hz, by omega⟩
        refine ⟨?_, ?_, ?_, by omega, by omega, by omega, g4, g5⟩
        · rw [joinFaultF_ok hg (k f1 (by omega) (by omega)), faultF_none (by omega) (by omega) (by omega)]
        · rw [joinFaultF_ok hg (k f2 (by omega) (by omega)), faultF_none (by omega) (by omega) (by omega)]
        · rw [joinFaultF_ok hg (k (f2 + 1) (by omega) (by omega)), faultF_late (by omega) (by omega)]
theorem glueT_res (h : glueB d o p = true) : GlueRes (glueT0 d o p) d o p true := glue_yes ⟨h, rfl⟩
theorem glueT0_ne (d o p : Int) : (glueT0 d o p).toList.isEmpty = false := by
  have h2 : ¬ (glueT0 d o p).size = 0 := by
    unfold glueT0
    simp only [ByteArray.size_append]
    have e1 : (⟨#[100, 114, 121, 32]⟩ : ByteArray).size = 4 := rfl
    omega
  have hne0 : ¬ (glueT0 d o p).toList = [] := fun e => h2 (by rw [Lib.size_eq, ← Lib.toList_data, e]; rfl)
  simpa using hne0
theorem glue_empty : GlueRes ⟨#[]⟩ 0 0 0 false := glue_no fun d o p h => by
  have h1 := congrArg ByteArray.size h.2
  unfold glueT0 at h1
  simp only [ByteArray.size_append] at h1
  have e1 : (⟨#[100, 114, 121, 32]⟩ : ByteArray).size = 4 := rfl
  have e2 : (⟨#[]⟩ : ByteArray).size = 0 := rfl
  omega
theorem textI (h : glueT d o p = s1) (w : World) (ht : Pow w) : Calls Tryz.prog 18 #[.agg #[.int .i64 d, .int .i64 o, .int .i64 p]] w fun e w' => e = .returned (.string s1) ∧ Below w.heap.size w w' := h ▸ impl_GlueText d o p w ht
theorem textS (h : glueT d o p = s1) (w : World) : Calls Tryz.prog 22 #[.agg #[.int .i64 d, .int .i64 o, .int .i64 p]] w fun e w' => e = .returned (.string s1) ∧ Below w.heap.size w w' := h ▸ spec_GlueText d o p w
end
end Go.Proofs.YtfkojbkgpbpjhaaGreatDoor
