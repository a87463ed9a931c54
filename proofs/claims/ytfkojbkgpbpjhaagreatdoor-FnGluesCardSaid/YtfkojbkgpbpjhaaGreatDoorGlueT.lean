/-
  Contracts of the text of a glue, both sides. No condition of its own.
-/
import Derived.Test.YtfkojbkgpbpjhaaGreatDoorDec
import Derived.Test.YtfkojbkgpbpjhaaGreatDoorGlue
import Derived.Lib.QuietBelow
import Derived.Lib.LaidTab
import Derived.Lib.AppendIntMem
import Derived.Deep.RegionHeld3
import Derived.Deep.DeepCutAuto
namespace Go.Proofs.YtfkojbkgpbpjhaaGreatDoor
open Go.ChangeShapes Go.WideShapes Go.ChangeAt Go.RowKit Go.Deep Go.Shelf Go.Sort

/-- The table of the powers of ten. -/
def Pow (w : World) : Prop := Lib.TabIs Tryz.prog w "internal/strconv.uint64pow10" .u64 Lib.pow10Tab
theorem gPow : ∃ g, Tryz.prog.globalNamed "internal/strconv.uint64pow10" = some g := Option.isSome_iff_exists.1 (by kernel_rfl)
theorem Pow.below {W W' : World} (h : Pow W) (hb : Below W.heap.size W W') : Pow W' := by
  obtain ⟨g, hg⟩ := gPow
  refine var?_below hb hg ?_ h
  unfold Pow Lib.TabIs World.var? at h
  simp only [hg, Option.bind_some] at h
  rcases Nat.lt_or_ge g W.heap.size with hlt | hge
  · exact hlt
  · rw [Array.getElem?_eq_none hge] at h; cases h
def dec (n : Int) : ByteArray := ⟨(Lib.itoa n).toArray⟩
theorem dec_size (n : Int) (h0 : 0 ≤ n) (h1 : n ≤ 9223372036854775807) : (dec n).size ≤ 30 := by
  have := Lib.itoa_length_le n (by omega) (by omega)
  show (Lib.itoa n).toArray.size ≤ 30
  simp; omega

theorem decimal_any (n : Int) (w : World) (h0 : 0 ≤ n) (h1 : n ≤ 9223372036854775807) (ht : Pow w) :
    Calls Tryz.prog 46 #[.int .i64 n] w fun e w' => e = .returned (.string (dec n)) ∧ Below w.heap.size w w' := by
  have HF := Lib.hid (Tryz.strconv_FormatInt_10 n (by omega) h1 w ht)
  clear ht
  go_enter Tryz.func46, Tryz.ntmps46
  go_wp2_with fail
  refine HF.out.mono ?_
  rintro e w1 ⟨rfl, k, os, rfl⟩
  have HB := Lib.hid (Lib.below_grow w.heap.size w (Nat.le_refl _) k os)
  go_wp2_with fail
  go_ret
  exact ⟨rfl, HB.out⟩
theorem l01Dec_any (n : Int) (w : World) (h0 : 0 ≤ n) (h1 : n ≤ 9223372036854775807) :
    Calls Tryz.prog 62 #[.int .i64 n] w fun e w' => e = .returned (.string (dec n)) ∧ Below w.heap.size w w' := by
  obtain ⟨m, rfl⟩ : ∃ m : Nat, n = (m : Int) := ⟨n.toNat, by omega⟩
  exact l01Dec_nat m w (by omega)
/-- The text of a glue. -/
def glueT0 (d o p : Int) : ByteArray := ⟨#[100, 114, 121, 32]⟩ ++ dec d ++ ⟨#[32, 111, 112, 101, 110, 32]⟩ ++ dec o ++ ⟨#[32, 112, 114, 101, 115, 115, 32]⟩ ++ dec p
def glueT (d o p : Int) : ByteArray := if glueB d o p then glueT0 d o p else ⟨#[]⟩

set_option maxRecDepth 100000 in
set_option maxHeartbeats 3200000 in
theorem impl_GlueText (d o p : Int) (w : World) (ht : Pow w) :
    Calls Tryz.prog 18 #[.agg #[.int .i64 d, .int .i64 o, .int .i64 p]] w fun e w' => e = .returned (.string (glueT d o p)) ∧ Below w.heap.size w w' := by
  have HV := Lib.hid (fun W => validGlue_any d o p W)
  cases hg : glueB d o p with
  | false =>
    rw [hg] at HV
    have HE := Lib.hid (show glueT d o p = ⟨#[]⟩ by simp [glueT, hg])
    clear ht hg
    go_enter Tryz.func18, Tryz.ntmps18
    go_wp2_with (go_at_call 23; refine (HV.out _).mono ?_; rintro e w1 ⟨rfl, rfl⟩)
    go_ret
    exact ⟨by rw [HE.out]; rfl, (by repeat (first | exact Below.refl _ _ | assumption | refine Below.drew ?_ | refine below_drewN ?_ _ | refine Below.alloc ?_ (by simp; try omega) _ | refine Below.setCell ?_ (by simp; try omega) _))⟩
  | true =>
    rw [hg] at HV
    obtain ⟨g1, g2, g3, g4, g5⟩ := glueB_true.1 hg
    have HE := Lib.hid (show glueT d o p = glueT0 d o p by simp [glueT, hg])
    have z1 := dec_size d (by omega) (by omega)
    have z2 := dec_size o (by omega) (by omega)
    have z3 := dec_size p (by omega) (by omega)
    have n1 : ¬ 9223372036854775807 < 4 + (dec d).size := by omega
    have n2 : ¬ 9223372036854775807 < 4 + (dec d).size + 6 := by omega
    have n3 : ¬ 9223372036854775807 < 4 + (dec d).size + 6 + (dec o).size := by omega
    have n4 : ¬ 9223372036854775807 < 4 + (dec d).size + 6 + (dec o).size + 7 := by omega
    have n5 : ¬ 9223372036854775807 < 4 + (dec d).size + 6 + (dec o).size + 7 + (dec p).size := by omega
    have HT := Lib.hid ht
    clear hg ht
    go_enter Tryz.func18, Tryz.ntmps18
    go_wp2_with (go_at_call 23; refine (HV.out _).mono ?_; rintro e w1 ⟨rfl, hq⟩; have HQ := Lib.hid hq; clear hq)
    have c0 : w1.cell? ⟨w.heap.size, 0, none⟩ = some (.int .i64 d) := by rw [← HQ.out]; go_simp
    have c1 : w1.cell? ⟨w.heap.size, 1, none⟩ = some (.int .i64 o) := by rw [← HQ.out]; go_simp
    have c2 : w1.cell? ⟨w.heap.size, 2, none⟩ = some (.int .i64 p) := by rw [← HQ.out]; go_simp
    have hb1 : Below w.heap.size w w1 := by rw [← HQ.out]; exact (by repeat (first | exact Below.refl _ _ | assumption | refine Below.drew ?_ | refine below_drewN ?_ _ | refine Below.alloc ?_ (by simp; try omega) _ | refine Below.setCell ?_ (by simp; try omega) _))
    have HB := Lib.hid hb1
    have k0 := cell_regrown c0
    have k1 := cell_regrown c1
    have k2 := cell_regrown c2
    have cD : ∀ (n : Int), 0 ≤ n → n ≤ 1440 → ∀ q os, Calls Tryz.prog 46 #[.int .i64 n] (grow (redrawn w1 q) os) fun e w'' => e = .returned (.string (dec n)) ∧ ∃ p : Regrown, w'' = grow (redrawn w1 p.d) p.os :=
      fun n a b q os => Calls.regrown_of (decimal_any n _ a (by omega) ((HT.out.below hb1).below (below_regrown w1 q os)))
    have cd := cD d (by omega) (by omega)
    have co := cD o (by omega) (by omega)
    have cp := cD p (by omega) (by omega)
    clear cD c0 c1 c2 hb1
    refine wp_region_quiet_below (by kernel_rfl) (by kernel_rfl) ?_
    repeat (quiet_step (first | with_reducible exact cd _ _ | with_reducible exact co _ _ | with_reducible exact cp _ _))
    refine wpQuiet_nil ?_
    intro _ hw'
    obtain ⟨⟨dq, osq⟩, hw''⟩ := hw'
    subst hw''
    go_wp2
    go_ret
    exact ⟨by rw [HE.out]; rfl, HB.out.trans ((below_regrown w1 dq osq).mono HB.out.size)⟩

set_option maxRecDepth 100000 in
set_option maxHeartbeats 3200000 in
theorem l19Text_any (d o p : Int) (w : World) (hg : glueB d o p = true) :
    Calls Tryz.prog 49 #[.agg #[.int .i64 d, .int .i64 o, .int .i64 p]] w fun e w' => e = .returned (.string (glueT0 d o p)) ∧ Below w.heap.size w w' := by
  obtain ⟨g1, g2, g3, g4, g5⟩ := glueB_true.1 hg
  have z1 := dec_size d (by omega) (by omega)
  have z2 := dec_size o (by omega) (by omega)
  have z3 := dec_size p (by omega) (by omega)
  have n1 : ¬ 9223372036854775807 < 4 + (dec d).size := by omega
  have n2 : ¬ 9223372036854775807 < 4 + (dec d).size + 6 := by omega
  have n3 : ¬ 9223372036854775807 < 4 + (dec d).size + 6 + (dec o).size := by omega
  have n4 : ¬ 9223372036854775807 < 4 + (dec d).size + 6 + (dec o).size + 7 := by omega
  have n5 : ¬ 9223372036854775807 < 4 + (dec d).size + 6 + (dec o).size + 7 + (dec p).size := by omega
  clear hg
  go_enter Tryz.func49, Tryz.ntmps49
  go_upto_region 0 with fail
  go_cut [1] (fun t1 W => t1 = .pointer (some ⟨w.heap.size, 0, none⟩) ∧ Hid (W.cell? ⟨w.heap.size, 0, none⟩ = some (.int .i64 d) ∧ W.cell? ⟨w.heap.size, 1, none⟩ = some (.int .i64 o) ∧ W.cell? ⟨w.heap.size, 2, none⟩ = some (.int .i64 p)) ∧ Hid (Below w.heap.size w W))
  case first =>
    go_wp2_with fail
    go_meet
    exact ⟨rfl, Lib.hid ⟨by go_simp, by go_simp, by go_simp⟩, Lib.hid (by repeat (first | exact Below.refl _ _ | assumption | refine Below.drew ?_ | refine below_drewN ?_ _ | refine Below.alloc ?_ (by simp; try omega) _ | refine Below.setCell ?_ (by simp; try omega) _))⟩
  obtain ⟨rfl, HC, HB⟩ := hcut
  obtain ⟨c0, c1, c2⟩ := HC.out
  have k0 := cell_regrown c0
  have k1 := cell_regrown c1
  have k2 := cell_regrown c2
  have cD : ∀ (n : Int), 0 ≤ n → n ≤ 1440 → ∀ q os, Calls Tryz.prog 62 #[.int .i64 n] (grow (redrawn wc q) os) fun e w'' => e = .returned (.string (dec n)) ∧ ∃ p : Regrown, w'' = grow (redrawn wc p.d) p.os :=
    fun n a b q os => Calls.regrown_of (l01Dec_any n _ a (by omega))
  have cd := cD d (by omega) (by omega)
  have co := cD o (by omega) (by omega)
  have cp := cD p (by omega) (by omega)
  clear cD c0 c1 c2
  go_upto_region 1 with fail
  refine wp_region_quiet_below (by kernel_rfl) (by kernel_rfl) ?_
  repeat (quiet_step (first | with_reducible exact cd _ _ | with_reducible exact co _ _ | with_reducible exact cp _ _))
  refine wpQuiet_nil ?_
  intro _ hw'
  obtain ⟨⟨dq, osq⟩, hw''⟩ := hw'
  subst hw''
  go_wp2
  go_ret
  exact ⟨rfl, HB.out.trans ((below_regrown wc dq osq).mono HB.out.size)⟩

set_option maxHeartbeats 1600000 in
theorem spec_GlueText (d o p : Int) (w : World) :
    Calls Tryz.prog 22 #[.agg #[.int .i64 d, .int .i64 o, .int .i64 p]] w fun e w' => e = .returned (.string (glueT d o p)) ∧ Below w.heap.size w w' := by
  have HV := Lib.hid (fun W => l19Ok_any d o p W)
  cases hg : glueB d o p with
  | false =>
    rw [hg] at HV
    have HE := Lib.hid (show glueT d o p = ⟨#[]⟩ by simp [glueT, hg])
    clear hg
    go_enter Tryz.func22, Tryz.ntmps22
    go_wp2_with (go_at_call 32; refine (HV.out _).mono ?_; rintro e w1 ⟨rfl, rfl⟩)
    go_ret
    exact ⟨by rw [HE.out]; rfl, (by repeat (first | exact Below.refl _ _ | assumption | refine Below.drew ?_ | refine below_drewN ?_ _ | refine Below.alloc ?_ (by simp; try omega) _ | refine Below.setCell ?_ (by simp; try omega) _))⟩
  | true =>
    rw [hg] at HV
    have HT := Lib.hid (fun W => l19Text_any d o p W hg)
    have HE := Lib.hid (show glueT d o p = glueT0 d o p by simp [glueT, hg])
    clear hg
    go_enter Tryz.func22, Tryz.ntmps22
    go_wp2_with (first | (go_at_call 32; refine (HV.out _).mono ?_; rintro e w1 ⟨rfl, rfl⟩) | (go_at_call 49; refine (HT.out _).mono ?_; rintro e w1 ⟨rfl, hb2⟩; have Hb2 := Lib.hid hb2; clear hb2))
    go_ret
    exact ⟨by rw [HE.out]; rfl, (Bel.step (by repeat (first | assumption | exact Bel.refl _ | refine Bel.drew ?_ | refine Bel.drewN ?_ _ | refine Bel.alloc ?_ _ | refine Bel.setCell ?_ (by simp; try omega) _)) Hb2.out).1⟩

end Go.Proofs.YtfkojbkgpbpjhaaGreatDoor
