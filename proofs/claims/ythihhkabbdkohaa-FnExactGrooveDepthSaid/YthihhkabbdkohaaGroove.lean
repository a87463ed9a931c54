/-
  Contracts of GrooveDepth, both sides. No condition of its own.
-/
import Derived.Test.YthihhkabbdkohaaSole
namespace Go.Proofs.Ythihhkabbdkohaa
open Go.ChangeShapes Go.WideShapes Go.ChangeAt Go.RowKit Go.Deep Go.Shelf

def grC (S : Nat → ByteArray × Int × Int × Int × Int) (n : Nat) (zs : List Int) (m : Nat) (sh : Int) : Int := if soleB S n zs m then (if inB sh 0 100 then 0 else 2) else 1
def grF (S : Nat → ByteArray × Int × Int × Int × Int) (n : Nat) (zs : List Int) (m : Nat) (sh : Int) : Int := if soleB S n zs m then (if inB sh 0 100 then (S (zs.getD (m - 1) 0).toNat).2.1 * sh / 100 else 0) else 0
theorem prod_bd {a b A B : Int} (h1 : 0 ≤ a) (h2 : a ≤ A) (h3 : 0 ≤ b) (h4 : b ≤ B) : 0 ≤ a * b ∧ a * b ≤ A * B :=
  ⟨Int.mul_nonneg h1 h3, Int.mul_le_mul h2 h4 h3 (by omega)⟩
theorem one_thick {S : Nat → ByteArray × Int × Int × Int × Int} {k : Nat} {x : ByteArray} {t g s p : Int} (h : oneB (S k) = true) (hx : S k = (x, t, g, s, p)) : 1 ≤ t ∧ t ≤ 200 := by
  rw [hx] at h
  simp only [oneB, Bool.and_eq_true, inB_true] at h
  omega
set_option maxRecDepth 100000 in
set_option maxHeartbeats 3200000 in
theorem implGroove (a : Option Addr) (n c : Nat) (S : Nat → ByteArray × Int × Int × Int × Int) (b : Option Addr) (m d : Nat) (zs : List Int) (w : World) (hnc : n ≤ c) (hn : n ≤ 1048576) (hok : StfOk S n) (ha : CellsAt w a (stfC S n)) (hl : zs.length = m) (hm : m ≤ 1048576) (hb : CellsAt w b (zs.map (Value.int .i64))) (sh : Int) :
    Calls Try.prog 19 #[.slice a n c, .agg #[.slice b m d], .int .i64 sh] w fun e w' => e = .returned (.tuple #[.int .i64 (grF S n zs m sh), .int .i64 (grC S n zs m sh)]) ∧ Below w.heap.size w w' := by
  have H1 := Lib.hid (fun W (h : Below w.heap.size w W) => implSole a n c S b m d zs W hnc hn hok (ha.below h) hl hm (hb.below h))
  have HB := Lib.hid ((Bel.refl w).alloc (.cells #[.slice b m d] 34))
  have HA := Lib.hid ha
  have HZ := Lib.hid hb
  have HL := Lib.hid hl
  clear hok ha hl hb
  cases q1 : soleB S n zs m with
  | false =>
    rw [show grF S n zs m sh = 0 by simp [grF, q1], show grC S n zs m sh = 1 by simp [grC, q1]]
    have K1 := Lib.hid (fun W h => callsB (H1.out W h) q1)
    clear q1 H1
    go_enter Try.func19, Try.ntmps19
    go_wp2_with fail
    refine (K1.out _ HB.out.1).mono ?_
    rintro e w1 ⟨rfl, hb1⟩
    have HB1 := Lib.hid (HB.out.step hb1)
    clear hb1
    go_wp2_with fail
    go_ret2
    exact ⟨rfl, HB1.out.1⟩
  | true =>
    have K1 := Lib.hid (fun W h => callsB (H1.out W h) q1)
    have Q1 := Lib.hid q1
    clear H1
    cases q2 : inB sh 0 100 with
    | false =>
      rw [show grF S n zs m sh = 0 by simp [grF, q2], show grC S n zs m sh = 2 by simp [grC, q1, q2]]
      have K2 := Lib.hid (fun W => callsB (within_any sh 0 100 W) q2)
      clear q1 q2
      go_enter Try.func19, Try.ntmps19
      go_wp2_with fail
      refine (K1.out _ HB.out.1).mono ?_
      rintro e w1 ⟨rfl, hb1⟩
      have HB1 := Lib.hid (HB.out.step hb1)
      clear hb1
      go_wp2_with (go_at_call 31; refine (K2.out _).mono ?_; rintro e w2 ⟨rfl, rfl⟩)
      go_ret2
      exact ⟨rfl, HB1.out.1⟩
    | true =>
      obtain ⟨hst, n12, m1, m6, hat⟩ := soleB_ok q1 HL.out
      have s1 := inB_true.1 q2
      obtain ⟨sh1, sh2⟩ := s1
      have K2 := Lib.hid (fun W => callsB (within_any sh 0 100 W) q2)
      obtain ⟨M, rfl⟩ : ∃ M : Nat, m = M + 1 := ⟨m - 1, by omega⟩
      obtain ⟨y, hy⟩ : ∃ y, zs.getD M 0 = y := ⟨_, rfl⟩
      have hyb := hat M (by omega)
      rw [hy] at hyb
      obtain ⟨Y, rfl⟩ : ∃ Y : Nat, y = (Y : Int) := ⟨y.toNat, by omega⟩
      have hYn : Y < n := by omega
      obtain ⟨x0, x1, x2, x3, x4, hx⟩ : ∃ x t g s p, S Y = (x, t, g, s, p) := ⟨_, _, _, _, _, rfl⟩
      obtain ⟨t1, t2⟩ := one_thick (stfB_at hst hYn) hx
      obtain ⟨p1, p2⟩ := prod_bd (a := x1) (b := sh) (A := 200) (B := 100) (by omega) t2 sh1 sh2
      rw [show grF S n zs (M + 1) sh = x1 * sh / 100 by simp only [grF, q1, q2, if_true, Nat.add_sub_cancel, hy, Int.toNat_natCast, hx], show grC S n zs (M + 1) sh = 0 by simp [grC, q1, q2]]
      have HX := Lib.hid hx
      have HY := Lib.hid hy
      clear q1 q2 hst hat hy hx hyb
      go_enter Try.func19, Try.ntmps19
      go_wp2_with fail
      refine (K1.out _ HB.out.1).mono ?_
      rintro e w1 ⟨rfl, hb1⟩
      have HB1 := Lib.hid (HB.out.step hb1)
      have hbx : w1.cell? ⟨w.heap.size, 0, none⟩ = some (.slice b (M + 1) d) := (hb1.cell (p := ⟨w.heap.size, 0, none⟩) (by simp)).trans (by simp [go_sem])
      have hz1 := World.block_lt_of_cell? w1 _ hbx
      obtain ⟨bb, o, rfl, hbb, hcc⟩ := HZ.out.at_ (by have := HL.out; simp; omega)
      have k1 := cell_int hbb HB1.out.1 hcc (by rw [HL.out]; omega) HY.out
      obtain ⟨ba, oa, rfl, hba, hca⟩ := HA.out.at_ (by rw [stfC_length]; omega)
      obtain ⟨_, k2, _, _, _⟩ := stf_cells hba HB1.out.1 hca hYn HX.out
      have hYn' : (Y : Int) < (n : Int) := by omega
      clear hb1 hcc hca
      go_wp2_with (go_at_call 31; refine (K2.out _).mono ?_; rintro e w2 ⟨rfl, rfl⟩)
      go_ret2
      exact ⟨rfl, HB1.out.1⟩
set_option maxRecDepth 100000 in
set_option maxHeartbeats 3200000 in
theorem specGroove (a : Option Addr) (n c : Nat) (S : Nat → ByteArray × Int × Int × Int × Int) (b : Option Addr) (m d : Nat) (zs : List Int) (w : World) (hn : n ≤ 1048576) (hok : StfOk S n) (ha : CellsAt w a (stfC S n)) (hl : zs.length = m) (hm : m ≤ 1048576) (hb : CellsAt w b (zs.map (Value.int .i64))) (sh : Int) :
    Calls Try.prog 18 #[.slice a n c, .agg #[.slice b m d], .int .i64 sh] w fun e w' => e = .returned (.tuple #[.int .i64 (grF S n zs m sh), .int .i64 (grC S n zs m sh)]) ∧ Below w.heap.size w w' := by
  have HB := Lib.hid ((Bel.refl w).alloc (.cells #[.slice b m d] 34))
  have H1 := Lib.hid (l17Sole_any a n c S b m d w.heap.size zs _ hn hok (ha.below HB.out.1) hl hm (hb.below HB.out.1) (by simp [go_sem]))
  have HA := Lib.hid ha
  have HZ := Lib.hid hb
  have HL := Lib.hid hl
  clear hok ha hl hb
  cases q1 : soleB S n zs m with
  | false =>
    rw [show grF S n zs m sh = 0 by simp [grF, q1], show grC S n zs m sh = 1 by simp [grC, q1]]
    have K1 := Lib.hid (callsB H1.out q1)
    clear q1 H1
    go_enter Try.func18, Try.ntmps18
    go_wp2_with fail
    refine K1.out.mono ?_
    rintro e w1 ⟨rfl, hb1⟩
    have HB1 := Lib.hid (HB.out.step hb1)
    clear hb1
    go_wp2_with fail
    go_ret2
    exact ⟨rfl, HB1.out.1⟩
  | true =>
    have K1 := Lib.hid (callsB H1.out q1)
    have Q1 := Lib.hid q1
    clear H1
    cases q2 : inB sh 0 100 with
    | false =>
      rw [show grF S n zs m sh = 0 by simp [grF, q2], show grC S n zs m sh = 2 by simp [grC, q1, q2]]
      have K2 := Lib.hid (fun W => callsB (l00In_any sh 0 100 W) q2)
      clear q1 q2
      go_enter Try.func18, Try.ntmps18
      go_wp2_with fail
      refine K1.out.mono ?_
      rintro e w1 ⟨rfl, hb1⟩
      have HB1 := Lib.hid (HB.out.step hb1)
      clear hb1
      go_wp2_with (go_at_call 40; refine (K2.out _).mono ?_; rintro e w2 ⟨rfl, rfl⟩)
      go_ret2
      exact ⟨rfl, HB1.out.1⟩
    | true =>
      obtain ⟨hst, n12, m1, m6, hat⟩ := soleB_ok q1 HL.out
      have s1 := inB_true.1 q2
      obtain ⟨sh1, sh2⟩ := s1
      have K2 := Lib.hid (fun W => callsB (l00In_any sh 0 100 W) q2)
      obtain ⟨M, rfl⟩ : ∃ M : Nat, m = M + 1 := ⟨m - 1, by omega⟩
      obtain ⟨y, hy⟩ : ∃ y, zs.getD M 0 = y := ⟨_, rfl⟩
      have hyb := hat M (by omega)
      rw [hy] at hyb
      obtain ⟨Y, rfl⟩ : ∃ Y : Nat, y = (Y : Int) := ⟨y.toNat, by omega⟩
      have hYn : Y < n := by omega
      obtain ⟨x0, x1, x2, x3, x4, hx⟩ : ∃ x t g s p, S Y = (x, t, g, s, p) := ⟨_, _, _, _, _, rfl⟩
      obtain ⟨t1, t2⟩ := one_thick (stfB_at hst hYn) hx
      obtain ⟨p1, p2⟩ := prod_bd (a := x1) (b := sh) (A := 200) (B := 100) (by omega) t2 sh1 sh2
      rw [show grF S n zs (M + 1) sh = x1 * sh / 100 by simp only [grF, q1, q2, if_true, Nat.add_sub_cancel, hy, Int.toNat_natCast, hx], show grC S n zs (M + 1) sh = 0 by simp [grC, q1, q2]]
      have HX := Lib.hid hx
      have HY := Lib.hid hy
      clear q1 q2 hst hat hy hx hyb
      go_enter Try.func18, Try.ntmps18
      go_wp2_with fail
      refine K1.out.mono ?_
      rintro e w1 ⟨rfl, hb1⟩
      have HB1 := Lib.hid (HB.out.step hb1)
      have hbx : w1.cell? ⟨w.heap.size, 0, none⟩ = some (.slice b (M + 1) d) := (hb1.cell (p := ⟨w.heap.size, 0, none⟩) (by simp)).trans (by simp [go_sem])
      have hz1 := World.block_lt_of_cell? w1 _ hbx
      obtain ⟨bb, o, rfl, hbb, hcc⟩ := HZ.out.at_ (by have := HL.out; simp; omega)
      have k1 := cell_int hbb HB1.out.1 hcc (by rw [HL.out]; omega) HY.out
      obtain ⟨ba, oa, rfl, hba, hca⟩ := HA.out.at_ (by rw [stfC_length]; omega)
      obtain ⟨_, k2, _, _, _⟩ := stf_cells hba HB1.out.1 hca hYn HX.out
      have hYn' : (Y : Int) < (n : Int) := by omega
      clear hb1 hcc hca
      go_wp2_with (go_at_call 40; refine (K2.out _).mono ?_; rintro e w2 ⟨rfl, rfl⟩)
      go_ret2
      exact ⟨rfl, HB1.out.1⟩
end Go.Proofs.Ythihhkabbdkohaa
