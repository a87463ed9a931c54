/-
  The law FnExactPliesFor returns true for all arguments. No condition.
-/
import Derived.Test.YtdogdjbkglkodaaRows
import Derived.Test.YtdogdjbkglkodaaBase
namespace Go.Proofs.Ytdogdjbkglkodaa
open Go.ChangeShapes Go.WideShapes Go.ChangeAt Go.RowKit Go.Deep
open Go.ChangeMaps (open_string shut_string)
open Go.Joins


/-- The strength of a thread. -/
def strengthI (b : Bool) (n e : Int) : Int := if b then n * e * 11 / 10 else n * e

theorem mul_bd {n e : Int} (h1 : 1 ≤ n) (h2 : n ≤ 12) (h3 : 1 ≤ e) (h4 : e ≤ 100) : 0 ≤ n * e ∧ n * e ≤ 1200 := by
  constructor
  · exact Int.mul_nonneg (by omega) (by omega)
  · have : n * e ≤ 12 * 100 := Int.mul_le_mul h2 h4 (by omega) (by omega)
    omega

theorem l16Strength_any (b : Bool) (n e : Int) (w : World) (h1 : 1 ≤ n) (h2 : n ≤ 12) (h3 : 1 ≤ e) (h4 : e ≤ 100) :
    Calls Try.prog 24 #[.agg #[.int .i64 n, .int .i64 e, .bool b]] w fun d w' => d = .returned (.int .i64 (strengthI b n e)) ∧ Below w.heap.size w w' := by
  obtain ⟨m1, m2⟩ := mul_bd h1 h2 h3 h4
  cases b
  all_goals
    go_enter Try.func24, Try.ntmps24
    go_wp2
    go_ret
    exact ⟨ret_int (by simp [strengthI]), (by repeat (first | exact Below.refl _ _ | assumption | refine Below.drew ?_ | refine below_drewN ?_ _ | refine Below.alloc ?_ (by simp; try omega) _ | refine Below.setCell ?_ (by simp; try omega) _))⟩

theorem strength_any (b : Bool) (n e : Int) (w : World) (h1 : 1 ≤ n) (h2 : n ≤ 12) (h3 : 1 ≤ e) (h4 : e ≤ 100) :
    Calls Try.prog 25 #[.agg #[.int .i64 n, .int .i64 e, .bool b]] w fun d w' => d = .returned (.int .i64 (strengthI b n e)) ∧ Below w.heap.size w w' := by
  obtain ⟨m1, m2⟩ := mul_bd h1 h2 h3 h4
  cases b
  all_goals
    go_enter Try.func25, Try.ntmps25
    go_wp2
    go_ret
    exact ⟨ret_int (by simp [strengthI]), (by repeat (first | exact Below.refl _ _ | assumption | refine Below.drew ?_ | refine below_drewN ?_ _ | refine Below.alloc ?_ (by simp; try omega) _ | refine Below.setCell ?_ (by simp; try omega) _))⟩

/-- r is the least number of plies for the force f, c the code. -/
def PliesR (b : Bool) (e f r c : Int) : Prop :=
  (inB e 1 100 && inB f 0 10000) = false ∧ r = 0 ∧ c = 2 ∨
  (inB e 1 100 && inB f 0 10000) = true ∧ ((c = 0 ∧ 1 ≤ r ∧ r ≤ 12 ∧ f ≤ strengthI b r e ∧ ∀ j, 1 ≤ j → j < r → strengthI b j e < f) ∨ (c = 10 ∧ r = 0 ∧ ∀ j, 1 ≤ j → j ≤ 12 → strengthI b j e < f))

theorem pliesR_one {b : Bool} {e f r c r' c' : Int} (h : PliesR b e f r c) (h' : PliesR b e f r' c') : r = r' ∧ c = c' := by
  rcases h with ⟨h0, h1, h2⟩ | ⟨h0, h⟩
  · rcases h' with ⟨_, h1', h2'⟩ | ⟨h0', _⟩
    · omega
    · rw [h0] at h0'; cases h0'
  · rcases h' with ⟨h0', _⟩ | ⟨_, h'⟩
    · rw [h0] at h0'; cases h0'
    · rcases h with ⟨h1, h2, h3, h4, h5⟩ | ⟨h1, h2, h3⟩
      · rcases h' with ⟨k1, k2, k3, k4, k5⟩ | ⟨k1, k2, k3⟩
        · have : ¬ r < r' := fun hlt => by have := k5 r h2 hlt; omega
          have : ¬ r' < r := fun hlt => by have := h5 r' k2 hlt; omega
          omega
        · have := k3 r h2 h3; omega
      · rcases h' with ⟨k1, k2, k3, k4, k5⟩ | ⟨k1, k2, k3⟩
        · have := h3 r' k2 k3; omega
        · omega

def PliesEnd (b : Bool) (e f : Int) (w : World) (d : Ending) (w' : World) : Prop := ∃ r c, d = .returned (.tuple #[.int .i64 r, .int .i64 c]) ∧ PliesR b e f r c ∧ Below w.heap.size w w'

set_option maxHeartbeats 1600000 in
theorem spec_plies (b : Bool) (e f : Int) (w : World) : Calls Try.prog 15 #[.int .i64 e, .bool b, .int .i64 f] w (PliesEnd b e f w) := by
  cases hin : (inB e 1 100 && inB f 0 10000) with
  | false =>
    by_cases he : inB e 1 100 = true
    · have hf : inB f 0 10000 = false := by simpa [he] using hin
      have Hin := Lib.hid hin
      clear hin
      go_enter Try.func15, Try.ntmps15
      go_wp2_with (go_at_call 23; refine (l00In_any _ _ _ _).mono ?_; rintro d w1 ⟨rfl, rfl⟩)
      go_ret2
      exact ⟨0, 2, rfl, .inl ⟨Hin.out, rfl, rfl⟩, Below.refl _ _⟩
    · have he' : inB e 1 100 = false := by simpa using he
      have Hin := Lib.hid hin
      clear hin he
      go_enter Try.func15, Try.ntmps15
      go_wp2_with (go_at_call 23; refine (l00In_any _ _ _ _).mono ?_; rintro d w1 ⟨rfl, rfl⟩)
      go_ret2
      exact ⟨0, 2, rfl, .inl ⟨Hin.out, rfl, rfl⟩, Below.refl _ _⟩
  | true =>
    obtain ⟨he, hf⟩ := Bool.and_eq_true_iff.1 hin
    obtain ⟨e1, e2⟩ := inB_true.1 he
    have Hin := Lib.hid hin
    clear hin
    go_enter Try.func15, Try.ntmps15
    go_wp2_with (go_at_call 23; refine (l00In_any _ _ _ _).mono ?_; rintro d w1 ⟨rfl, rfl⟩)
    clear he hf
    go_loopw [8] (fun i wr => ∃ k : Int, 1 ≤ k ∧ k ≤ 13 ∧ i = .int .i64 k ∧ Below w.heap.size w wr ∧ Hid (∀ j, 1 ≤ j → j < k → strengthI b j e < f)) (fun i _ => (13 - intOf i).toNat)
    case atStart => exact ⟨1, by omega, by omega, rfl, Below.refl _ _, Lib.hid (fun j h1 h2 => by omega)⟩
    case round =>
      obtain ⟨k, k1, k2, rfl, hbw, hno⟩ := hrel
      have Hb := Lib.hid hbw
      clear hbw
      by_cases hk : k ≤ 12
      · by_cases hs : f ≤ strengthI b k e
        · go_wp2_with (go_at_call 24; refine (l16Strength_any b k e _ k1 hk e1 e2).mono ?_; rintro d w1 ⟨rfl, hb1⟩)
          go_ret2
          exact ⟨k, 0, rfl, .inr ⟨Hin.out, .inl ⟨rfl, k1, hk, hs, hno.out⟩⟩, (((Bel.of Hb.out)).step hb1).1⟩
        · go_wp2_with (go_at_call 24; refine (l16Strength_any b k e _ k1 hk e1 e2).mono ?_; rintro d w1 ⟨rfl, hb1⟩)
          go_roundw
          case rel =>
            refine ⟨k + 1, by omega, by omega, rfl, (((Bel.of Hb.out)).step hb1).1, Lib.hid (fun j j1 j2 => ?_)⟩
            by_cases e : j = k
            · subst e; omega
            · exact hno.out j j1 (by omega)
          case measure => simp [intOf]; omega
      · go_wp2
        go_ret2
        have : k = 13 := by omega
        subst this
        exact ⟨0, 10, rfl, .inr ⟨Hin.out, .inr ⟨rfl, rfl, fun j j1 j2 => hno.out j j1 (by omega)⟩⟩, Hb.out⟩
set_option maxHeartbeats 1600000 in
theorem impl_plies (b : Bool) (e f : Int) (w : World) : Calls Try.prog 16 #[.int .i64 e, .bool b, .int .i64 f] w (PliesEnd b e f w) := by
  cases hin : (inB e 1 100 && inB f 0 10000) with
  | false =>
    by_cases he : inB e 1 100 = true
    · have hf : inB f 0 10000 = false := by simpa [he] using hin
      have Hin := Lib.hid hin
      clear hin
      go_enter Try.func16, Try.ntmps16
      go_wp2_with (go_at_call 20; refine (within_any _ _ _ _).mono ?_; rintro d w1 ⟨rfl, rfl⟩)
      go_ret2
      exact ⟨0, 2, rfl, .inl ⟨Hin.out, rfl, rfl⟩, Below.refl _ _⟩
    · have he' : inB e 1 100 = false := by simpa using he
      have Hin := Lib.hid hin
      clear hin he
      go_enter Try.func16, Try.ntmps16
      go_wp2_with (go_at_call 20; refine (within_any _ _ _ _).mono ?_; rintro d w1 ⟨rfl, rfl⟩)
      go_ret2
      exact ⟨0, 2, rfl, .inl ⟨Hin.out, rfl, rfl⟩, Below.refl _ _⟩
  | true =>
    obtain ⟨he, hf⟩ := Bool.and_eq_true_iff.1 hin
    obtain ⟨e1, e2⟩ := inB_true.1 he
    have Hin := Lib.hid hin
    clear hin
    go_enter Try.func16, Try.ntmps16
    go_wp2_with (go_at_call 20; refine (within_any _ _ _ _).mono ?_; rintro d w1 ⟨rfl, rfl⟩)
    clear he hf
    go_loopw [8] (fun i wr => ∃ k : Int, 1 ≤ k ∧ k ≤ 13 ∧ i = .int .i64 k ∧ Below w.heap.size w wr ∧ Hid (∀ j, 1 ≤ j → j < k → strengthI b j e < f)) (fun i _ => (13 - intOf i).toNat)
    case atStart => exact ⟨1, by omega, by omega, rfl, Below.refl _ _, Lib.hid (fun j h1 h2 => by omega)⟩
    case round =>
      obtain ⟨k, k1, k2, rfl, hbw, hno⟩ := hrel
      have Hb := Lib.hid hbw
      clear hbw
      by_cases hk : k ≤ 12
      · by_cases hs : f ≤ strengthI b k e
        · go_wp2_with (go_at_call 25; refine (strength_any b k e _ k1 hk e1 e2).mono ?_; rintro d w1 ⟨rfl, hb1⟩)
          go_ret2
          exact ⟨k, 0, rfl, .inr ⟨Hin.out, .inl ⟨rfl, k1, hk, hs, hno.out⟩⟩, (((Bel.of Hb.out).alloc _).step hb1).1⟩
        · go_wp2_with (go_at_call 25; refine (strength_any b k e _ k1 hk e1 e2).mono ?_; rintro d w1 ⟨rfl, hb1⟩)
          go_roundw
          case rel =>
            refine ⟨k + 1, by omega, by omega, rfl, (((Bel.of Hb.out).alloc _).step hb1).1, Lib.hid (fun j j1 j2 => ?_)⟩
            by_cases e : j = k
            · subst e; omega
            · exact hno.out j j1 (by omega)
          case measure => simp [intOf]; omega
      · go_wp2
        go_ret2
        have : k = 13 := by omega
        subst this
        exact ⟨0, 10, rfl, .inr ⟨Hin.out, .inr ⟨rfl, rfl, fun j j1 j2 => hno.out j j1 (by omega)⟩⟩, Hb.out⟩
set_option maxHeartbeats 1600000 in
theorem FnExactPliesFor_walk (e : Int) (_ : (Lit.int .i64 e).wf = true) (b : Bool) (f : Int) (_ : (Lit.int .i64 f).wf = true) (w : World) :
    Calls Try.prog 6 #[.int .i64 e, .bool b, .int .i64 f] w (LawEnd w) := by
  go_enter Try.func6, Try.ntmps6
  go_wp2_with fail
  refine (spec_plies b e f w).mono ?_
  rintro d w1 ⟨r, c, rfl, h1, hb1⟩
  have H1 := Lib.hid h1
  clear h1
  go_wp2_with fail
  refine (impl_plies b e f w1).mono ?_
  rintro d w2 ⟨r', c', rfl, h2, hb2⟩
  obtain ⟨rfl, rfl⟩ := pliesR_one H1.out h2
  clear H1 h2
  go_wp2
  go_ret
  exact lawEnd_of (((Bel.refl w).step hb1).step hb2)

/-! ### From the walk to the statement -/
set_option maxRecDepth 100000 in
theorem FnExactPliesFor_lifted (os : Os) (started : os.Started) (H : Type) (enc : TypeId × Value → H) :
    ReturnsInHanded {} Try.checked os 6 .any (Rows.fnExactPliesForSpec.pre6 enc Try.prog Try.f6 Rows.fnExactPliesForRow.domain false) (Rows.fnExactPliesForSpec.post enc Try.prog Try.f6 false true false false) := by
  refine lifted_law (C := Try.checked) (tb := 4) own started (by kernel_rfl) Try.func6
    (ChangeSpec.witness6 (enc := enc) (C := Try.checked) false ⟨#[], #[.int .i64 0, .bool false, .int .i64 0], []⟩ 8 (by kernel_rfl) (by kernel_rfl) (by kernel_rfl) (by kernel_rfl))
    laidOut (by kernel_rfl) rfl rfl Try.underlying4 (fun ds h => by match ds, h with | [_, _, _], _ => rfl) ?_
  intro W base args ds p hval hA
  rw [Try.params6] at hA hval
  obtain ⟨v0, vs0, d0, ds0, p0, q0, hargs, rfl, rfl, h0, r0⟩ := trodAll_cons hA
  obtain ⟨v1, vs1, d1, ds1, p1, q1, rfl, rfl, rfl, h1, r1⟩ := trodAll_cons r0
  obtain ⟨v2, vs2, d2, ds2, p2, q2, rfl, rfl, rfl, h2, r2⟩ := trodAll_cons r1
  obtain ⟨rfl, rfl, rfl⟩ := trodAll_nil r2
  obtain rfl : args = #[v0, v1, v2] := by cases args; simp_all
  obtain ⟨a0, rfl, rfl, rfl, w0⟩ := open_int Try.underlying2 (hval 0 2 v0 rfl rfl) h0
  obtain ⟨a1, rfl, rfl, rfl⟩ := open_bool Try.underlying4 (hval 1 4 v1 rfl rfl) h1
  obtain ⟨a2, rfl, rfl, rfl, w2⟩ := open_int Try.underlying2 (hval 2 2 v2 rfl rfl) h2
  exact FnExactPliesFor_walk a0 w0 a1 a2 w2 W

theorem FnExactPliesFor_over : Rows.fnExactPliesForRow.holds Try.pinned (OpenSpec.ofChange Rows.fnExactPliesForSpec) :=
  OpenClaim.holds_of_wide 6 Try.f6 rfl rfl rfl rfl rfl rfl rfl ⟨rfl, rfl, rfl, rfl, rfl⟩ rfl rfl rfl rfl rfl (by kernel_rfl) Try.func6 (by kernel_rfl)
    (of_decide_eq_true (by kernel_rfl)) (by unfold Func.isWrapper; first | (rw [if_pos (by decide +kernel)]; kernel_rfl) | (rw [if_neg (by decide +kernel)]; exact ⟨rfl, rfl⟩))
    (fun os started H enc _ => FnExactPliesFor_lifted os started H enc)

/-- The statement. -/
theorem FnExactPliesFor_holds : Rows.FnExactPliesForSaid := FnExactPliesFor_over
#print axioms FnExactPliesFor_holds

end Go.Proofs.Ytdogdjbkglkodaa
