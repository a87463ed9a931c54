/-
  The law FnExactSoleText returns true for all arguments. No condition.
-/
import Derived.Test.YthihhkabbdkohaaSText
import Derived.Deep.RegionHeld3
import Derived.Test.YthihhkabbdkohaaRows
import Derived.Test.YthihhkabbdkohaaBase
import Derived.Outline
namespace Go.Proofs.Ythihhkabbdkohaa
open Go.ChangeShapes Go.WideShapes Go.ChangeAt Go.RowKit Go.Deep
open Go.ChangeMaps (open_string shut_string)
open Go.Joins


set_option maxRecDepth 100000 in
set_option maxHeartbeats 6400000 in
theorem FnExactSoleText_walk (w : World) (a : Option Addr) (n c : Nat) (S : Nat → ByteArray × Int × Int × Int × Int) (hm : n ≤ maxLen) (hs : CellsAt w a (stfC S n)) (hok : StfOk S n)
    (b : Option Addr) (m d : Nat) (zs : List Int) (hl : zs.length = m) (hmm : m ≤ maxLen) (hz : CellsAt w b (zs.map (Value.int .i64))) (_ : ∀ z ∈ zs, (Lit.int .i64 z).wf = true) :
    Calls Try.prog 7 #[.slice a n c, .agg #[.slice b m d]] w (LawEnd w) := by
  have HW0 := Lib.hid ((Bel.refl w).alloc (.cells #[.slice b m d] 31))
  have hsz := szStuffS_any a n c S 1048576 (w.alloc (.cells #[.slice b m d] 31)) (by omega) (by omega) hm hok (hs.below HW0.out.1)
  by_cases g : (1048576 : Int) < (n : Int) + (nmTo S n : Int)
  · rw [if_pos g] at hsz
    have H := Lib.hid hsz
    clear hsz hs hok hz hl
    go_enter Try.func7, Try.ntmps7
    go_wp2_with fail
    refine H.out.mono ?_
    rintro e w1 ⟨rfl, hb1⟩
    have HB1 := Lib.hid (HW0.out.step hb1)
    clear hb1
    go_wp2_with fail
    go_ret
    exact ⟨rfl, HB1.out.1⟩
  · rw [if_neg g] at hsz
    have H := Lib.hid hsz
    have HS := Lib.hid hs
    have HO := Lib.hid hok
    have HL := Lib.hid hl
    have HZ := Lib.hid hz
    obtain ⟨r, hr⟩ : ∃ q, stF S n zs m = q := ⟨_, rfl⟩
    have hn : n ≤ 1048576 := by omega
    have HC1 := Lib.hid (fun (hm1 : m ≤ 1048576) a c b d W (hc : CellsAt W a (stfC S n)) (hcz : CellsAt W b (zs.map (Value.int .i64))) => specText a n c S b m d zs W hn hok hc hl hm1 hcz)
    have HC2 := Lib.hid (fun (hm1 : m ≤ 1048576) a b d W (hc : CellsAt W a (stfC S n)) (hcz : CellsAt W b (zs.map (Value.int .i64))) => implText a n n S b m d zs W (Nat.le_refl _) hn hok hc hl hm1 hcz)
    simp only [hr] at HC1 HC2
    have h0 : ¬ (1048576 : Int) - (n : Int) - (nmTo S n : Int) < 0 := by omega
    have hleft : 0 ≤ (1048576 : Int) - (n : Int) - (nmTo S n : Int) ∧ (1048576 : Int) - (n : Int) - (nmTo S n : Int) ≤ 1048576 := by omega
    generalize (1048576 : Int) - (n : Int) - (nmTo S n : Int) = left at H h0 hleft
    obtain ⟨left1, left2⟩ := hleft
    clear hsz hs hok hl hz hr
    go_enter Try.func7, Try.ntmps7
    go_wp2_with fail
    refine H.out.mono ?_
    rintro e w1 ⟨rfl, hb1⟩
    have HB1 := Lib.hid (HW0.out.step hb1)
    have hbx1 : w1.cell? ⟨w.heap.size, 0, none⟩ = some (.slice b m d) := (hb1.cell (p := ⟨w.heap.size, 0, none⟩) (by simp)).trans (by simp [go_sem])
    have hz1 : w.heap.size < w1.heap.size := by have := hb1.size; simp at this; omega
    clear hb1
    go_wp2_with fail
    have hsz2 := szSole_any b m d left w1 left1 left2 hmm
    by_cases g2 : left < (m : Int)
    · rw [if_pos g2] at hsz2
      have H2 := Lib.hid hsz2
      clear hsz2
      refine H2.out.mono ?_
      rintro e w2 ⟨rfl, hb2⟩
      have HB2 := Lib.hid (HB1.out.step hb2)
      clear hb2
      go_wp2_with fail
      go_ret
      exact ⟨rfl, HB2.out.1⟩
    · rw [if_neg g2] at hsz2
      have H2 := Lib.hid hsz2
      have hm1 : m ≤ 1048576 := by omega
      have h02 : ¬ left - (m : Int) < 0 := by omega
      clear hsz2
      refine H2.out.mono ?_
      rintro e w2 ⟨rfl, hb2⟩
      have HB2 := Lib.hid (HB1.out.step hb2)
      have HS2 := Lib.hid (HS.out.below HB2.out.1)
      have HZ2 := Lib.hid (HZ.out.below HB2.out.1)
      have hbx2 : w2.cell? ⟨w.heap.size, 0, none⟩ = some (.slice b m d) := (hb2.cell (p := ⟨w.heap.size, 0, none⟩) hz1).trans hbx1
      have hz2 : w.heap.size < w2.heap.size := Nat.lt_of_lt_of_le hz1 hb2.size
      clear hb2 hbx1 hz1
      have HX2 := Lib.hid hbx2
      have HS2d := Lib.hid (show CellsAt w2.drew a (stfC S n) from HS2.out)
      have HZ2d := Lib.hid (show CellsAt w2.drew b (zs.map (Value.int .i64)) from HZ2.out)
      go_wp2_with fail
      go_region_held3 (fun W => W.cell? ⟨w.heap.size, 0, none⟩ = some (.slice b m d)) (first | go_keep | exact (hb3.cell (p := ⟨w.heap.size, 0, none⟩) hz2).trans HX2.out | exact HX5.out | exact HX4.out)
        (first
          | (go_at_call 10; refine (toStuffS_any a n c S w2.drew hn HS2d.out).mono ?_; rintro e w3 ⟨g1, rfl, ho3, hb3⟩)
          | (go_at_call 15; refine (toSole_any b m d zs _ HL.out hm1 (HZ2d.out.below hb3)).mono ?_; rintro e w4 ⟨g2, rfl, ho4, hb4⟩; have HX4 := Lib.hid ((hb4.cell (p := ⟨w.heap.size, 0, none⟩) (Nat.lt_of_lt_of_le hz2 hb3.size)).trans ((hb3.cell (p := ⟨w.heap.size, 0, none⟩) hz2).trans HX2.out)))
          | (go_at_call 25; refine (HC1.out hm1 _ _ _ _ _ ((CellsAt.of_own ho3).below hb4) (CellsAt.of_own ho4)).mono ?_; rintro e w5 ⟨rfl, hb5⟩; have HX5 := Lib.hid ((hb5.cell (p := ⟨w.heap.size, 0, none⟩) (Nat.lt_of_lt_of_le (Nat.lt_of_lt_of_le hz2 hb3.size) hb4.size)).trans HX4.out)))
      have HB5 := Lib.hid (((HB2.out.drew.step hb3).step hb4).step hb5)
      have hbx5 := HX5.out
      have hz5 : w.heap.size < w5.heap.size := World.block_lt_of_cell? w5 _ hbx5
      clear ho3 hb3 ho4 hb4 hb5 hbx2 hz2
      go_wp2_with fail
      refine (toStuffS_any a n c S _ hn (HS.out.below HB5.out.1)).mono ?_
      rintro e w6 ⟨g6, rfl, ho6, hb6⟩
      have hbx6 := (hb6.cell (p := ⟨w.heap.size, 0, none⟩) hz5).trans hbx5
      have hz6 := Nat.lt_of_lt_of_le hz5 hb6.size
      have HB6 := Lib.hid (HB5.out.step hb6)
      have HD6 := Lib.hid (CellsAt.of_own ho6)
      clear hbx5 hz5 ho6 hb6 HX4 HX5
      go_wp2_with fail
      refine (toSole_any b m d zs _ HL.out hm1 (HZ.out.below HB6.out.1)).mono ?_
      rintro e w7 ⟨g7, rfl, ho7, hb7⟩
      have hbx7 := (hb7.cell (p := ⟨w.heap.size, 0, none⟩) hz6).trans hbx6
      have hz7 := Nat.lt_of_lt_of_le hz6 hb7.size
      have HB8 := Lib.hid ((HB6.out.step hb7).alloc (.cells #[.slice (some ⟨g7, 0, none⟩) m m] 34))
      have HD8 := Lib.hid ((HD6.out.below hb7).below ((Below.refl _ _).alloc (Nat.le_refl _) (.cells #[.slice (some ⟨g7, 0, none⟩) m m] 34)))
      have HE8 := Lib.hid ((CellsAt.of_own ho7).below ((Below.refl _ _).alloc (Nat.le_refl _) (.cells #[.slice (some ⟨g7, 0, none⟩) m m] 34)))
      clear ho7 hb7 hbx6 hz6
      go_wp2_with fail
      refine (HC2.out hm1 _ _ _ _ HD8.out HE8.out).mono ?_
      rintro e w9 ⟨rfl, hb9⟩
      have hbx9 : w9.cell? ⟨w.heap.size, 0, none⟩ = some (.slice b m d) := (hb9.cell (p := ⟨w.heap.size, 0, none⟩) (by simp; omega)).trans ((((Below.refl w7.heap.size w7).alloc (Nat.le_refl _) _).cell (p := ⟨w.heap.size, 0, none⟩) hz7).trans hbx7)
      have hby9 : w9.cell? ⟨w7.heap.size, 0, none⟩ = some (.slice (some ⟨g7, 0, none⟩) m m) := (hb9.cell (p := ⟨w7.heap.size, 0, none⟩) (by simp)).trans (by simp [go_sem])
      have HB9 := Lib.hid (HB8.out.step hb9)
      have HD9 := Lib.hid (HD8.out.below hb9)
      have HE9 := Lib.hid (HE8.out.below hb9)
      clear hb9 hbx7 hz7
      go_wp2_with fail
      refine (toStuffS_any a n c S _ hn (HS.out.below HB9.out.1)).mono ?_
      rintro e w10 ⟨g10, rfl, ho10, hb10⟩
      have hbx10 := (hb10.cell (p := ⟨w.heap.size, 0, none⟩) (World.block_lt_of_cell? w9 _ hbx9)).trans hbx9
      have hby10 := (hb10.cell (p := ⟨w7.heap.size, 0, none⟩) (World.block_lt_of_cell? w9 _ hby9)).trans hby9
      have HB10 := Lib.hid (HB9.out.step hb10)
      have HD10 := Lib.hid (HD9.out.below hb10)
      have HE10 := Lib.hid (HE9.out.below hb10)
      have HF10 := Lib.hid (CellsAt.of_own ho10)
      clear ho10 hb10 hbx9 hby9
      go_wp2_with fail
      refine (eqStuffS_any _ _ n _ _ S _ (by omega) HD10.out HF10.out).mono ?_
      rintro e w11 ⟨rfl, hb11⟩
      have hbx11 := (hb11.cell (p := ⟨w.heap.size, 0, none⟩) (World.block_lt_of_cell? w10 _ hbx10)).trans hbx10
      have hby11 := (hb11.cell (p := ⟨w7.heap.size, 0, none⟩) (World.block_lt_of_cell? w10 _ hby10)).trans hby10
      have HB11 := Lib.hid (HB10.out.step hb11)
      have HE11 := Lib.hid (HE10.out.below hb11)
      have HZ11 := Lib.hid (show CellsAt w11.drew b (zs.map (Value.int .i64)) from HZ.out.below HB11.out.1.drew)
      have HXY := Lib.hid (And.intro hbx11 hby11)
      clear hb11 hbx10 hby10
      go_wp2_with fail
      go_region_held3 (fun W => W.cell? ⟨w.heap.size, 0, none⟩ = some (.slice b m d) ∧ W.cell? ⟨w7.heap.size, 0, none⟩ = some (.slice (some ⟨g7, 0, none⟩) m m)) (first | go_keep | exact HX13.out | exact HX12.out | exact HXY.out)
        (first
          | (go_at_call 15; refine (toSole_any b m d zs w11.drew HL.out hm1 HZ11.out).mono ?_; rintro e w12 ⟨g12, rfl, ho12, hb12⟩; have HX12 := Lib.hid (And.intro ((hb12.cell (p := ⟨w.heap.size, 0, none⟩) (World.block_lt_of_cell? w11 _ HXY.out.1)).trans HXY.out.1) ((hb12.cell (p := ⟨w7.heap.size, 0, none⟩) (World.block_lt_of_cell? w11 _ HXY.out.2)).trans HXY.out.2)))
          | (go_at_call 17; refine (eqSole_any _ _ m _ _ zs _ HL.out (by omega) ((show CellsAt w11.drew _ (zs.map (Value.int .i64)) from HE11.out).below hb12) (CellsAt.of_own ho12)).mono ?_; rintro e w13 ⟨rfl, hb13⟩; have HX13 := Lib.hid (And.intro ((hb13.cell (p := ⟨w.heap.size, 0, none⟩) (World.block_lt_of_cell? w12 _ HX12.out.1)).trans HX12.out.1) ((hb13.cell (p := ⟨w7.heap.size, 0, none⟩) (World.block_lt_of_cell? w12 _ HX12.out.2)).trans HX12.out.2))))
      have HB13 := Lib.hid ((HB11.out.drew.step hb12).step hb13)
      clear hb12 ho12 hb13
      go_wp2_with fail
      go_ret
      exact lawEnd_of HB13.out

/-! ### From the walk to the statement -/
set_option maxRecDepth 100000 in
theorem FnExactSoleText_lifted (os : Os) (started : os.Started) (H : Type) (enc : TypeId × Value → H) :
    ReturnsInHanded {} Try.checked os 7 .any (Rows.fnExactSoleTextSpec.pre6 enc Try.prog Try.f7 Rows.fnExactSoleTextRow.domain false) (Rows.fnExactSoleTextSpec.post enc Try.prog Try.f7 false true false false) := by
  refine lifted_law (C := Try.checked) (tb := 4) own started (by kernel_rfl) Try.func7
    (ChangeSpec.witness6 (enc := enc) (C := Try.checked) false ⟨#[], #[.slice none 0 0, .agg #[.slice none 0 0]], []⟩ 8 (by kernel_rfl) (by kernel_rfl) (by kernel_rfl) (by kernel_rfl))
    laidOut (by kernel_rfl) rfl rfl Try.underlying4 (fun ds h => by match ds, h with | [_, _], _ => rfl) ?_
  intro W base args ds p hval hA
  rw [Try.params7] at hA hval
  obtain ⟨v0, vs0, d0, ds0, p0, q0, hargs, rfl, rfl, h0, r0⟩ := trodAll_cons hA
  obtain ⟨v1, vs1, d1, ds1, p1, q1, rfl, rfl, rfl, h1, r1⟩ := trodAll_cons r0
  obtain ⟨rfl, rfl, rfl⟩ := trodAll_nil r1
  obtain rfl : args = #[v0, v1] := by cases args; simp_all
  obtain ⟨a0, n0, c0, S0, rfl, m0, s0, w0⟩ := open_stuff_at (tI := 2) (tS := 9) Try.underlying22 Try.underlying48 (by kernel_rfl) (by kernel_rfl) Try.underlying2 Try.underlying9 (by rfl) (hval 0 22 v0 rfl rfl) h0
  obtain ⟨a1, n1, c1, z1, rfl, l1, m1, s1, w1⟩ := open_sole_at Try.underlying31 (by kernel_rfl) (by kernel_rfl) Try.underlying29 Try.underlying2 (by kernel_rfl) (by rfl) (hval 1 31 v1 rfl rfl) h1
  first | exact FnExactSoleText_walk a0 n0 c0 S0 m0 s0 w0 a1 n1 c1 z1 l1 m1 s1 w1 W | exact FnExactSoleText_walk W a0 n0 c0 S0 m0 s0 w0 a1 n1 c1 z1 l1 m1 s1 w1

theorem FnExactSoleText_over : Rows.fnExactSoleTextRow.holds Try.pinned (OpenSpec.ofChange Rows.fnExactSoleTextSpec) :=
  OpenClaim.holds_of_wide 7 Try.f7 rfl rfl rfl rfl rfl rfl rfl ⟨rfl, rfl, rfl, rfl, rfl⟩ rfl rfl rfl rfl rfl (by kernel_rfl) Try.func7 (by kernel_rfl)
    (of_decide_eq_true (by kernel_rfl)) (by unfold Func.isWrapper; first | (rw [if_pos (by decide +kernel)]; kernel_rfl) | (rw [if_neg (by decide +kernel)]; exact ⟨rfl, rfl⟩))
    (fun os started H enc _ => FnExactSoleText_lifted os started H enc)

/-- The statement. -/
theorem FnExactSoleText_holds : Rows.FnExactSoleTextSaid := FnExactSoleText_over
#print axioms FnExactSoleText_holds

end Go.Proofs.Ythihhkabbdkohaa

