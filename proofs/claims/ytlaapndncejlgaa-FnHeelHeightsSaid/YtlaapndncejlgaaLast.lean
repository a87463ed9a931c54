/-
  Contracts of the tests of a last, both sides. No condition of its own.
-/
import Derived.Test.YtlaapndncejlgaaName
import Derived.Test.YtlaapndncejlgaaSlices
import Derived.Test.YtlaapndncejlgaaClone
namespace Go.Proofs.Ytlaapndncejlgaa
open Go.ChangeShapes Go.WideShapes Go.ChangeAt Go.RowKit Go.Deep Go.Shelf

def footB (l b i h : Int) : Bool := inB l 500 5000 && (inB b 500 5000 && (inB i 500 5000 && inB h 500 5000))
def lastB (s : ByteArray) (l b i h p : Int) : Bool := okName s && (footB l b i h && inB p 0 1000)
theorem footB_out (l b i h : Int) : (!outB [l, b, i, h] 500 5000) = footB l b i h := by
  simp only [outB, footB, List.any_cons, List.any_nil]
  cases inB l 500 5000 <;> cases inB b 500 5000 <;> cases inB i 500 5000 <;> cases inB h 500 5000 <;> rfl

set_option maxHeartbeats 800000 in
theorem measures_any (l b i h : Int) (w : World) : Calls Try.prog 98 #[.agg #[.int .i64 l, .int .i64 b, .int .i64 i, .int .i64 h]] w (OwnRow w 2 1 4 ([l, b, i, h].map (Value.int .i64))) := by
  have ho := World.ownsRow_lit (base := w.heap.size) (size := 1) (e := 2) (w.alloc (.cells #[.int .i64 l, .int .i64 b, .int .i64 i, .int .i64 h] 85)) #[.int .i64 l, .int .i64 b, .int .i64 i, .int .i64 h] 4 (by simp) (by unfold maxLen; omega) (by simp)
  have HO := Lib.hid ho
  clear ho
  go_enter Try.func98, Try.ntmps98
  go_wp2
  go_ret
  refine ⟨some ⟨w.heap.size + 1, 0, none⟩, 4, rfl, ?_, (by repeat (first | exact Below.refl _ _ | assumption | refine Below.drew ?_ | refine below_drewN ?_ _ | refine Below.alloc ?_ (by simp; try omega) _ | refine Below.setCell ?_ (by simp; try omega) _))⟩
  have h := HO.out
  simpa using h
set_option maxHeartbeats 800000 in
theorem validFoot_any (l b i h : Int) (w : World) : Calls Try.prog 90 #[.agg #[.int .i64 l, .int .i64 b, .int .i64 i, .int .i64 h]] w fun e w' => e = .returned (.bool (footB l b i h)) ∧ Below w.heap.size w w' := by
  have hout := fun (a : Option Addr) (c : Nat) (W : World) (hc : CellsAt W a ([l, b, i, h].map (Value.int .i64))) => outside_any a 4 c [l, b, i, h] 500 5000 W rfl (by omega) hc
  rw [← footB_out]
  generalize outB [l, b, i, h] 500 5000 = q at hout ⊢
  have HO := Lib.hid hout
  have HM := Lib.hid (fun W => measures_any l b i h W)
  clear hout
  go_enter Try.func90, Try.ntmps90
  go_wp2_with fail
  refine (HM.out _).mono ?_
  rintro e w1 ⟨aL, capL, rfl, ho, hb⟩
  have HB := Lib.hid (((Bel.refl w).alloc _).step hb)
  have HC := Lib.hid (CellsAt.of_own ho)
  clear ho hb
  go_wp2_with (go_at_call 66; refine (HO.out _ _ _ HC.out).mono ?_; rintro e w2 ⟨rfl, hb2⟩; have HB2 := Lib.hid (HB.out.step hb2); clear hb2)
  go_ret
  exact ⟨rfl, HB2.out.1⟩
theorem foot_any (s : ByteArray) (l b i h p : Int) (w : World) : Calls Try.prog 91 #[.agg #[.string s, .int .i64 l, .int .i64 b, .int .i64 i, .int .i64 h, .int .i64 p]] w fun e w' => e = .returned (.agg #[.int .i64 l, .int .i64 b, .int .i64 i, .int .i64 h]) ∧ Below w.heap.size w w' := by
  go_enter Try.func91, Try.ntmps91
  go_wp2
  exact bodyPost_ret (v := .agg #[.int .i64 l, .int .i64 b, .int .i64 i, .int .i64 h]) (by simp [results, Try.results91, go_sem]) rfl ⟨rfl, (by repeat (first | exact Below.refl _ _ | assumption | refine Below.drew ?_ | refine below_drewN ?_ _ | refine Below.alloc ?_ (by simp; try omega) _ | refine Below.setCell ?_ (by simp; try omega) _))⟩
theorem l04Foot_any (s : ByteArray) (l b i h p : Int) (w : World) : Calls Try.prog 95 #[.agg #[.string s, .int .i64 l, .int .i64 b, .int .i64 i, .int .i64 h, .int .i64 p]] w fun e w' => e = .returned (.agg #[.int .i64 l, .int .i64 b, .int .i64 i, .int .i64 h]) ∧ Below w.heap.size w w' := by
  go_enter Try.func95, Try.ntmps95
  go_wp2
  exact bodyPost_ret (v := .agg #[.int .i64 l, .int .i64 b, .int .i64 i, .int .i64 h]) (by simp [results, Try.results95, go_sem]) rfl ⟨rfl, (by repeat (first | exact Below.refl _ _ | assumption | refine Below.drew ?_ | refine below_drewN ?_ _ | refine Below.alloc ?_ (by simp; try omega) _ | refine Below.setCell ?_ (by simp; try omega) _))⟩
theorem l02One_any (x : Int) (w : World) : Calls Try.prog 101 #[.int .i64 x] w fun e w' => e = .returned (.bool (inB x 500 5000)) ∧ w = w' := by
  go_enter Try.func101, Try.ntmps101
  go_wp2_with (go_at_call 60; refine (l00In_any _ _ _ _).mono ?_; rintro e w1 ⟨rfl, rfl⟩)
  go_ret
  exact ⟨rfl, rfl⟩
set_option maxHeartbeats 800000 in
theorem l02Foot_any (l b i h : Int) (w : World) : Calls Try.prog 94 #[.agg #[.int .i64 l, .int .i64 b, .int .i64 i, .int .i64 h]] w fun e w' => e = .returned (.bool (footB l b i h)) ∧ Below w.heap.size w w' := by
  cases h1 : inB l 500 5000
  · go_enter Try.func94, Try.ntmps94
    go_wp2_with (go_at_call 101; refine (l02One_any _ _).mono ?_; rintro e w1 ⟨rfl, rfl⟩)
    go_ret
    exact ⟨ret_bool (by simp [footB, h1]), (by repeat (first | exact Below.refl _ _ | assumption | refine Below.drew ?_ | refine below_drewN ?_ _ | refine Below.alloc ?_ (by simp; try omega) _ | refine Below.setCell ?_ (by simp; try omega) _))⟩
  · cases h2 : inB b 500 5000
    · go_enter Try.func94, Try.ntmps94
      go_wp2_with (go_at_call 101; refine (l02One_any _ _).mono ?_; rintro e w1 ⟨rfl, rfl⟩)
      go_ret
      exact ⟨ret_bool (by simp [footB, h1, h2]), (by repeat (first | exact Below.refl _ _ | assumption | refine Below.drew ?_ | refine below_drewN ?_ _ | refine Below.alloc ?_ (by simp; try omega) _ | refine Below.setCell ?_ (by simp; try omega) _))⟩
    · cases h3 : inB i 500 5000
      · go_enter Try.func94, Try.ntmps94
        go_wp2_with (go_at_call 101; refine (l02One_any _ _).mono ?_; rintro e w1 ⟨rfl, rfl⟩)
        go_ret
        exact ⟨ret_bool (by simp [footB, h1, h2, h3]), (by repeat (first | exact Below.refl _ _ | assumption | refine Below.drew ?_ | refine below_drewN ?_ _ | refine Below.alloc ?_ (by simp; try omega) _ | refine Below.setCell ?_ (by simp; try omega) _))⟩
      · go_enter Try.func94, Try.ntmps94
        go_wp2_with (go_at_call 101; refine (l02One_any _ _).mono ?_; rintro e w1 ⟨rfl, rfl⟩)
        go_ret
        exact ⟨ret_bool (by simp [footB, h1, h2, h3]), (by repeat (first | exact Below.refl _ _ | assumption | refine Below.drew ?_ | refine below_drewN ?_ _ | refine Below.alloc ?_ (by simp; try omega) _ | refine Below.setCell ?_ (by simp; try omega) _))⟩

set_option maxHeartbeats 1600000 in
theorem validLast_any (s : ByteArray) (l b i h p : Int) (w : World) (hs : s.size ≤ maxLen) : Calls Try.prog 81 #[.agg #[.string s, .int .i64 l, .int .i64 b, .int .i64 i, .int .i64 h, .int .i64 p]] w fun e w' => e = .returned (.bool (lastB s l b i h p)) ∧ Below w.heap.size w w' := by
  have h1 := fun W => isName_any s W hs
  have h2 := fun W => validFoot_any l b i h W
  simp only [lastB]
  generalize okName s = q1 at h1 ⊢
  generalize footB l b i h = q2 at h2 ⊢
  have H1 := Lib.hid h1
  have H2 := Lib.hid h2
  have H3 := Lib.hid (fun W => foot_any s l b i h p W)
  clear h1 h2
  cases q1
  · go_enter Try.func81, Try.ntmps81
    go_wp2_with (go_at_call 89; refine (H1.out _).mono ?_; rintro e w1 ⟨rfl, rfl⟩)
    go_ret
    exact ⟨rfl, (by repeat (first | exact Below.refl _ _ | assumption | refine Below.drew ?_ | refine below_drewN ?_ _ | refine Below.alloc ?_ (by simp; try omega) _ | refine Below.setCell ?_ (by simp; try omega) _))⟩
  · have HC := Lib.hid (Bel.refl (w.alloc (.cells #[.string s, .int .i64 l, .int .i64 b, .int .i64 i, .int .i64 h, .int .i64 p] 56)))
    cases q2
    all_goals
      go_enter Try.func81, Try.ntmps81
      go_wp2_with (go_at_call 89; refine (H1.out _).mono ?_; rintro e w1 ⟨rfl, rfl⟩)
      refine (H3.out _).mono ?_
      rintro e w1 ⟨rfl, hb1⟩
      have HC1 := Lib.hid (HC.out.step hb1)
      clear hb1
      go_wp2_with fail
      refine (H2.out _).mono ?_
      rintro e w2 ⟨rfl, hb2⟩
      have HC2 := Lib.hid (HC1.out.step hb2)
      clear hb2
      have hcp : w2.cell? ⟨w.heap.size, 5, none⟩ = some (.int .i64 p) := (HC2.out.1.cell (p := ⟨w.heap.size, 5, none⟩) (by simp)).trans (by simp)
      go_wp2_with (go_at_call 59; refine (within_any _ _ _ _).mono ?_; rintro e w1 ⟨rfl, rfl⟩)
      go_ret
      exact ⟨rfl, (((Bel.refl w).alloc _).step (HC2.out.1)).1⟩
set_option maxHeartbeats 1600000 in
theorem l04One_any (s : ByteArray) (l b i h p : Int) (w : World) (hs : s.size ≤ maxLen) : Calls Try.prog 83 #[.agg #[.string s, .int .i64 l, .int .i64 b, .int .i64 i, .int .i64 h, .int .i64 p]] w fun e w' => e = .returned (.bool (lastB s l b i h p)) ∧ Below w.heap.size w w' := by
  have h1 := fun W => specName_any s W hs
  have h2 := fun W => l02Foot_any l b i h W
  simp only [lastB]
  generalize okName s = q1 at h1 ⊢
  generalize footB l b i h = q2 at h2 ⊢
  have H1 := Lib.hid h1
  have H2 := Lib.hid h2
  have H3 := Lib.hid (fun W => l04Foot_any s l b i h p W)
  clear h1 h2
  cases q1
  · go_enter Try.func83, Try.ntmps83
    go_wp2_with (go_at_call 93; refine (H1.out _).mono ?_; rintro e w1 ⟨rfl, rfl⟩)
    go_ret
    exact ⟨rfl, (by repeat (first | exact Below.refl _ _ | assumption | refine Below.drew ?_ | refine below_drewN ?_ _ | refine Below.alloc ?_ (by simp; try omega) _ | refine Below.setCell ?_ (by simp; try omega) _))⟩
  · have HC := Lib.hid (Bel.refl (w.alloc (.cells #[.string s, .int .i64 l, .int .i64 b, .int .i64 i, .int .i64 h, .int .i64 p] 56)))
    cases q2
    all_goals
      go_enter Try.func83, Try.ntmps83
      go_wp2_with (go_at_call 93; refine (H1.out _).mono ?_; rintro e w1 ⟨rfl, rfl⟩)
      refine (H3.out _).mono ?_
      rintro e w1 ⟨rfl, hb1⟩
      have HC1 := Lib.hid (HC.out.step hb1)
      clear hb1
      go_wp2_with fail
      refine (H2.out _).mono ?_
      rintro e w2 ⟨rfl, hb2⟩
      have HC2 := Lib.hid (HC1.out.step hb2)
      clear hb2
      have hcp : w2.cell? ⟨w.heap.size, 5, none⟩ = some (.int .i64 p) := (HC2.out.1.cell (p := ⟨w.heap.size, 5, none⟩) (by simp)).trans (by simp)
      go_wp2_with (go_at_call 60; refine (l00In_any _ _ _ _).mono ?_; rintro e w1 ⟨rfl, rfl⟩)
      go_ret
      exact ⟨rfl, (((Bel.refl w).alloc _).step (HC2.out.1)).1⟩
end Go.Proofs.Ytlaapndncejlgaa
