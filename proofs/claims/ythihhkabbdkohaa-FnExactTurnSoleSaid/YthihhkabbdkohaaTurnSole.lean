/-
  The law FnExactTurnSole returns true for all arguments. No condition.
-/
import Derived.Test.YthihhkabbdkohaaTurn
import Derived.Test.YthihhkabbdkohaaMark
import Derived.Deep.RegionHeld3
import Derived.Deep.DeepCutAuto
import Derived.Test.YthihhkabbdkohaaRows
import Derived.Test.YthihhkabbdkohaaBase
import Derived.Outline
namespace Go.Proofs.Ythihhkabbdkohaa
open Go.ChangeShapes Go.WideShapes Go.ChangeAt Go.RowKit Go.Deep
open Go.ChangeMaps (open_string shut_string)
open Go.Joins


def Box (W : World) (q : Nat) (v : Value) : Prop := W.cell? ⟨q, 0, none⟩ = some v
theorem Box.lt {W : World} {q : Nat} {v : Value} (h : Box W q v) : q < W.heap.size := World.block_lt_of_cell? W _ h
theorem Box.below {W W' : World} {q : Nat} {v : Value} (h : Box W q v) (hb : Below W.heap.size W W') : Box W' q v := (hb.cell (p := ⟨q, 0, none⟩) h.lt).trans h
theorem Box.new (W : World) (E : Nat) (v : Value) : Box (W.alloc (.cells #[v] E)) W.heap.size v := by simp [Box, go_sem]
theorem Box.grown {W W' : World} {q : Nat} {v : Value} {row : Option Nat} (h : Box W q v) (hg : W.grownBy W' row) (hr : row = some q → False) : Box W' q v := (hg.cell_far ⟨q, 0, none⟩ h.lt (fun e => hr e.symm)).trans h
set_option maxRecDepth 100000 in
set_option maxHeartbeats 6400000 in
theorem FnExactTurnSole_walk (w : World) (a : Option Addr) (n c : Nat) (S : Nat → ByteArray × Int × Int × Int × Int) (hm : n ≤ maxLen) (hs : CellsAt w a (stfC S n)) (hok : StfOk S n)
    (b : Option Addr) (m d : Nat) (zs : List Int) (hl : zs.length = m) (hmm : m ≤ maxLen) (hz : CellsAt w b (zs.map (Value.int .i64))) (_ : ∀ z ∈ zs, (Lit.int .i64 z).wf = true) :
    Calls Try.prog 6 #[.slice a n c, .agg #[.slice b m d]] w (LawEnd w) := by
  have HW0 := Lib.hid ((Bel.refl w).alloc (.cells #[.slice b m d] 31))
  have hsz := szStuffS_any a n c S 1048576 (w.alloc (.cells #[.slice b m d] 31)) (by omega) (by omega) hm hok (hs.below HW0.out.1)
  by_cases g : (1048576 : Int) < (n : Int) + (nmTo S n : Int)
  · rw [if_pos g] at hsz
    have H := Lib.hid hsz
    clear hsz hs hok hz hl
    go_enter Try.func6, Try.ntmps6
    go_wp2_with fail
    refine H.out.mono ?_
    rintro e w1 ⟨rfl, hb1⟩
    have HB1 := Lib.hid (HW0.out.step hb1)
    clear hb1
    go_wp2_with fail
    go_ret
    exact ⟨rfl, HB1.out.1⟩
  · rw [if_neg g] at hsz
    have H := Lib.hid hsz
    have HS := Lib.hid hs
    have HL := Lib.hid hl
    have HZ := Lib.hid hz
    obtain ⟨ds, hds⟩ : ∃ q, tuF S n zs m = q := ⟨_, rfl⟩
    obtain ⟨r, hr⟩ : ∃ q, tuC S n zs m = q := ⟨_, rfl⟩
    have hn : n ≤ 1048576 := by omega
    have HC1 := Lib.hid (fun (hm1 : m ≤ 1048576) a c b d W (hc : CellsAt W a (stfC S n)) (hcz : CellsAt W (some ⟨b, 0, none⟩) (zs.map (Value.int .i64))) => specTurn a n c S b m d zs W hn hok hc hl hm1 hcz)
    have HC2 := Lib.hid (fun (hm1 : m ≤ 1048576) a b d W (hc : CellsAt W a (stfC S n)) (hcz : CellsAt W (some ⟨b, 0, none⟩) (zs.map (Value.int .i64))) => implTurn a n n S b m d zs W (Nat.le_refl _) hn hok hc hl hm1 hcz)
    simp only [hds, hr] at HC1 HC2
    have h0 : ¬ (1048576 : Int) - (n : Int) - (nmTo S n : Int) < 0 := by omega
    have hleft : 0 ≤ (1048576 : Int) - (n : Int) - (nmTo S n : Int) ∧ (1048576 : Int) - (n : Int) - (nmTo S n : Int) ≤ 1048576 := by omega
    generalize (1048576 : Int) - (n : Int) - (nmTo S n : Int) = left at H h0 hleft
    obtain ⟨left1, left2⟩ := hleft
    have hrr : (r != r) = false := by simp
    clear hsz hs hok hl hz hds hr
    go_enter Try.func6, Try.ntmps6
    go_wp2_with fail
    refine H.out.mono ?_
    rintro e w1 ⟨rfl, hb1⟩
    have HB1 := Lib.hid (HW0.out.step hb1)
    have hbx1 : w1.cell? ⟨w.heap.size, 0, none⟩ = some (.slice b m d) := (hb1.cell (p := ⟨w.heap.size, 0, none⟩) (by simp)).trans (by simp [go_sem])
    clear hb1
    go_wp2_with fail
    have hsz2 := szSole_any b m d left w1 left1 left2 hmm
    by_cases g2 : left < (m : Int)
    · rw [if_pos g2] at hsz2
      have H2 := Lib.hid hsz2
      clear hsz2
      refine H2.out.mono ?_
      rintro e w2 ⟨rfl, hb2⟩
      have HB2 := Lib.hid (HB1.out.step hb2)
      clear hb2
      go_wp2_with fail
      go_ret
      exact ⟨rfl, HB2.out.1⟩
    · rw [if_neg g2] at hsz2
      have H2 := Lib.hid hsz2
      have hm1 : m ≤ 1048576 := by omega
      have h02 : ¬ left - (m : Int) < 0 := by omega
      clear hsz2
      refine H2.out.mono ?_
      rintro e w2 ⟨rfl, hb2⟩
      --PART2
      have HB2 := Lib.hid (HB1.out.step hb2)
      have hz2 : w.heap.size < w2.heap.size := Nat.lt_of_lt_of_le (World.block_lt_of_cell? w1 _ hbx1) hb2.size
      have hbx2 : w2.cell? ⟨w.heap.size, 0, none⟩ = some (.slice b m d) := (hb2.cell (p := ⟨w.heap.size, 0, none⟩) (World.block_lt_of_cell? w1 _ hbx1)).trans hbx1
      clear hb2 hbx1
      have HKA := Lib.hid (fun W (h : Bel w2.heap.size w2 W) => (h.1.cell (p := ⟨w.heap.size, 0, none⟩) hz2).trans hbx2)
      have HSA := Lib.hid (HS.out.below HB2.out.1)
      have HZA := Lib.hid (HZ.out.below HB2.out.1)
      have HZ2 := Lib.hid hz2
      clear hz2
      go_wp2_with fail
      go_upto_region 8 with fail
      go_cut [6, 7] (fun sA sB W => ∃ (q n5 c5 : Nat) (a5 : Option Addr), sA = .pointer (some ⟨q, 0, none⟩) ∧ sB = .int .i64 r ∧ Hid (W.cell? ⟨q, 0, none⟩ = some (.slice a5 n5 c5)) ∧ Hid (ds.length = n5 ∧ n5 ≤ 1048576) ∧ Hid (W.ownsRow w2.heap.size 2 1 (.slice a5 n5 c5) n5 (ds.map (Value.int .i64))) ∧ Hid (Bel w2.heap.size w2 W))
      case first =>
        go_region_held3 (fun W => W.cell? ⟨w.heap.size, 0, none⟩ = some (.slice b m d)) (first | exact HKA.out _ (by repeat (first | assumption | exact Bel.refl _ | refine Bel.drew ?_ | refine Bel.drewN ?_ _ | refine Bel.alloc ?_ _ | refine Bel.setCell ?_ (by simp; try omega) _)) | go_keep)
          (first
            | (go_at_call 10; refine (toStuffS_any a n c S _ hn (HSA.out.below (show Bel w2.heap.size w2 _ from (by repeat (first | assumption | exact Bel.refl _ | refine Bel.drew ?_ | refine Bel.drewN ?_ _ | refine Bel.alloc ?_ _ | refine Bel.setCell ?_ (by simp; try omega) _))).1)).mono ?_; rintro e w3 ⟨g3, rfl, ho3, hb3⟩; have hB3 := Bel.step (B := w2.heap.size) (a := w2) (by repeat (first | assumption | exact Bel.refl _ | refine Bel.drew ?_ | refine Bel.drewN ?_ _ | refine Bel.alloc ?_ _ | refine Bel.setCell ?_ (by simp; try omega) _)) hb3; have hS3 := Lib.hid (CellsAt.of_own ho3); have hz3 := hb3.size; (try simp at hz3); obtain ⟨hc3, hf3, hl3'⟩ := bcell hb3; (try have hq3 := hl3' w2.heap.size (by first | (simp; done) | (simp; omega))); clear ho3 hb3)
            | (go_at_call 15; refine (toSole_any b m d zs _ HL.out hm1 (HZA.out.below (show Bel w2.heap.size w2 _ from (by repeat (first | assumption | exact Bel.refl _ | refine Bel.drew ?_ | refine Bel.drewN ?_ _ | refine Bel.alloc ?_ _ | refine Bel.setCell ?_ (by simp; try omega) _))).1)).mono ?_; rintro e w4 ⟨g4, rfl, ho4, hb4⟩; have hB4 := Bel.step (B := w2.heap.size) (a := w2) (by repeat (first | assumption | exact Bel.refl _ | refine Bel.drew ?_ | refine Bel.drewN ?_ _ | refine Bel.alloc ?_ _ | refine Bel.setCell ?_ (by simp; try omega) _)) hb4; have hC4 := Bel.step (B := w3.heap.size) (a := w3) (by repeat (first | assumption | exact Bel.refl _ | refine Bel.drew ?_ | refine Bel.drewN ?_ _ | refine Bel.alloc ?_ _ | refine Bel.setCell ?_ (by simp; try omega) _)) hb4; have hS4 := Lib.hid (CellsAt.of_own ho4); have hz4 := hb4.size; (try simp at hz4); obtain ⟨hc4, hf4, hl4'⟩ := bcell hb4; (try have hq4 := hl4' w2.heap.size (by first | assumption | (simp; done) | (simp; omega))); clear ho4 hb4)
            | (go_at_call 20; refine (HC1.out hm1 _ _ _ _ _ (hS3.out.below (show Bel w3.heap.size w3 _ from (by repeat (first | assumption | exact Bel.refl _ | refine Bel.drew ?_ | refine Bel.drewN ?_ _ | refine Bel.alloc ?_ _ | refine Bel.setCell ?_ (by simp; try omega) _))).1) (hS4.out.below (show Bel w4.heap.size w4 _ from (by repeat (first | assumption | exact Bel.refl _ | refine Bel.drew ?_ | refine Bel.drewN ?_ _ | refine Bel.alloc ?_ _ | refine Bel.setCell ?_ (by simp; try omega) _))).1)).mono ?_; rintro e w5 ⟨a5, n5, c5, rfl, hln5, hn5, ho5, hb5⟩; have hB5 := Bel.step (B := w2.heap.size) (a := w2) (by repeat (first | assumption | exact Bel.refl _ | refine Bel.drew ?_ | refine Bel.drewN ?_ _ | refine Bel.alloc ?_ _ | refine Bel.setCell ?_ (by simp; try omega) _)) hb5; have hS5 := Lib.hid (And.intro hln5 (And.intro hn5 ho5)); have hz5 := hb5.size; (try simp at hz5); obtain ⟨hc5, hf5, hl5'⟩ := bcell hb5; (try have hq5 := hl5' w2.heap.size (by first | assumption | (simp; done) | (simp; omega))); clear ho5 hb5 hln5 hn5))
        all_goals
          go_wp2_with fail
          go_meet
        all_goals
          have hL := hS5.out.2.2
          have hle := hB5.2
          have hle4 := hB4.2
          have hle3 := hB3.2
          first
          | exact ⟨w5.heap.size, n5, c5, a5, rfl, rfl, Lib.hid (by simp [go_sem]), Lib.hid ⟨hS5.out.1, hS5.out.2.1⟩, Lib.hid ((own_base hL (by first | omega | (simp; done) | (simp; omega))).alloc _), Lib.hid (hB5.alloc _)⟩
          | exact ⟨_, n5, c5, a5, rfl, rfl, Lib.hid (World.cell?_setCell_same _ _ _ (u := .slice none 0 0) (by simp [go_sem, *])), Lib.hid ⟨hS5.out.1, hS5.out.2.1⟩, Lib.hid (own_set (own_base hL (by first | omega | (simp; done) | (simp; omega))) _ _ _ (fun e => by have h0 := own_block hL e; first | omega | (simp at h0; done) | (simp at h0; omega))), Lib.hid (hB5.setCell (by first | omega | (simp; done) | (simp; omega)) _)⟩
      case rest =>
        obtain ⟨q6, n6, c6, a6, rfl, rfl, hq6, hl6, hO6, hB6⟩ := hcut
        have HBW := Lib.hid (HB2.out.step hB6.out.1)
        have HX0 := Lib.hid (show Box wc w.heap.size (.slice b m d) from HKA.out _ hB6.out)
        have HX6 := Lib.hid (show Box wc q6 (.slice a6 n6 c6) from hq6.out)
        have HR6 := Lib.hid (Row.mk_ hO6.out)
        have HZ0 := Lib.hid (And.intro (show w.heap.size + 1 ≤ wc.heap.size from Nat.le_trans HZ2.out hB6.out.2) HX6.out.lt)
        clear hbx2 hq6 hO6 hB6 HB2 HKA HSA HZA HB1 HZ2
        go_wp2_with fail
        refine (toStuffS_any a n c S _ hn (HS.out.below HBW.out.1)).mono ?_
        rintro e w8 ⟨g8, rfl, ho8, hb8⟩
        replace HX0 := Lib.hid (HX0.out.below hb8)
        replace HX6 := Lib.hid (HX6.out.below hb8)
        replace HR6 := Lib.hid (HR6.out.below hb8)
        replace HBW := Lib.hid (HBW.out.step hb8)
        have HR8 := Lib.hid (Row.mk_ ho8)
        have HZ8 := Lib.hid hb8.size
        clear ho8 hb8
        have kHX0 := HX0.out
        have kHX6 := HX6.out
        unfold Box at kHX0
        unfold Box at kHX6
        go_wp2_with fail
        refine (toSole_any b m d zs _ HL.out hm1 (HZ.out.below HBW.out.1)).mono ?_
        rintro e w9 ⟨g9, rfl, ho9, hb9⟩
        clear kHX0 kHX6
        replace HX0 := Lib.hid (HX0.out.below hb9)
        replace HX6 := Lib.hid (HX6.out.below hb9)
        replace HR6 := Lib.hid (HR6.out.below hb9)
        replace HR8 := Lib.hid (HR8.out.below hb9)
        replace HBW := Lib.hid (HBW.out.step hb9)
        have HR9 := Lib.hid (Row.mk_ ho9)
        have HZ9 := Lib.hid hb9.size
        clear ho9 hb9
        have HX9 := Lib.hid (Box.new w9 34 (.slice (some ⟨g9, 0, none⟩) m m))
        replace HX0 := Lib.hid (HX0.out.below ((Below.refl _ _).alloc (Nat.le_refl _) (.cells #[.slice (some ⟨g9, 0, none⟩) m m] 34)))
        replace HX6 := Lib.hid (HX6.out.below ((Below.refl _ _).alloc (Nat.le_refl _) (.cells #[.slice (some ⟨g9, 0, none⟩) m m] 34)))
        replace HR6 := Lib.hid (HR6.out.below ((Below.refl _ _).alloc (Nat.le_refl _) (.cells #[.slice (some ⟨g9, 0, none⟩) m m] 34)))
        replace HR8 := Lib.hid (HR8.out.below ((Below.refl _ _).alloc (Nat.le_refl _) (.cells #[.slice (some ⟨g9, 0, none⟩) m m] 34)))
        replace HR9 := Lib.hid (HR9.out.below ((Below.refl _ _).alloc (Nat.le_refl _) (.cells #[.slice (some ⟨g9, 0, none⟩) m m] 34)))
        replace HBW := Lib.hid (HBW.out.step ((Below.refl _ _).alloc (Nat.le_refl _) (.cells #[.slice (some ⟨g9, 0, none⟩) m m] 34)))
        have kHX0 := HX0.out
        have kHX6 := HX6.out
        have kHX9 := HX9.out
        unfold Box at kHX0
        unfold Box at kHX6
        unfold Box at kHX9
        go_wp2_with fail
        refine (HC2.out hm1 _ _ _ _ HR8.out.cells HR9.out.cells).mono ?_
        rintro e w11 ⟨a11, n11, c11, rfl, hl11, hn11, ho11, hb11⟩
        clear kHX0 kHX6 kHX9
        replace HX0 := Lib.hid (HX0.out.below hb11)
        replace HX6 := Lib.hid (HX6.out.below hb11)
        replace HX9 := Lib.hid (HX9.out.below hb11)
        replace HR6 := Lib.hid (HR6.out.below hb11)
        replace HR8 := Lib.hid (HR8.out.below hb11)
        replace HR9 := Lib.hid (HR9.out.below hb11)
        replace HBW := Lib.hid (HBW.out.step hb11)
        have HR11 := Lib.hid (Row.mk_ ho11)
        have HZ11 := Lib.hid hb11.size
        obtain rfl : n11 = n6 := by have := hl6.out.1; omega
        clear ho11 hb11 hl11 hn11
        have HX11 := Lib.hid (Box.new w11 34 (.slice a11 n11 c11))
        replace HX0 := Lib.hid (HX0.out.below ((Below.refl _ _).alloc (Nat.le_refl _) (.cells #[.slice a11 n11 c11] 34)))
        replace HX6 := Lib.hid (HX6.out.below ((Below.refl _ _).alloc (Nat.le_refl _) (.cells #[.slice a11 n11 c11] 34)))
        replace HX9 := Lib.hid (HX9.out.below ((Below.refl _ _).alloc (Nat.le_refl _) (.cells #[.slice a11 n11 c11] 34)))
        replace HR6 := Lib.hid (HR6.out.below ((Below.refl _ _).alloc (Nat.le_refl _) (.cells #[.slice a11 n11 c11] 34)))
        replace HR8 := Lib.hid (HR8.out.below ((Below.refl _ _).alloc (Nat.le_refl _) (.cells #[.slice a11 n11 c11] 34)))
        replace HR9 := Lib.hid (HR9.out.below ((Below.refl _ _).alloc (Nat.le_refl _) (.cells #[.slice a11 n11 c11] 34)))
        replace HR11 := Lib.hid (HR11.out.below ((Below.refl _ _).alloc (Nat.le_refl _) (.cells #[.slice a11 n11 c11] 34)))
        replace HBW := Lib.hid (HBW.out.step ((Below.refl _ _).alloc (Nat.le_refl _) (.cells #[.slice a11 n11 c11] 34)))
        have HZA := Lib.hid (show (w9.alloc (.cells #[.slice (some ⟨g9, 0, none⟩) m m] 34)).heap.size = w9.heap.size + 1 from by simp)
        have HZs := Lib.hid (And.intro HZ0.out (And.intro HZ8.out (And.intro HZ9.out HZ11.out)))
        have kHX0 := HX0.out
        have kHX6 := HX6.out
        have kHX9 := HX9.out
        have kHX11 := HX11.out
        unfold Box at kHX0
        unfold Box at kHX6
        unfold Box at kHX9
        unfold Box at kHX11
        go_wp2_with fail
        refine (eqSole_any _ _ n11 _ _ ds _ hl6.out.1 (by have := hl6.out.2; omega) HR11.out.cells HR6.out.cells).mono ?_
        rintro e w12 ⟨rfl, hb12⟩
        clear kHX0 kHX6 kHX9 kHX11
        replace HX0 := Lib.hid (HX0.out.below hb12)
        replace HX6 := Lib.hid (HX6.out.below hb12)
        replace HX9 := Lib.hid (HX9.out.below hb12)
        replace HX11 := Lib.hid (HX11.out.below hb12)
        replace HR6 := Lib.hid (HR6.out.below hb12)
        replace HR8 := Lib.hid (HR8.out.below hb12)
        replace HR9 := Lib.hid (HR9.out.below hb12)
        replace HR11 := Lib.hid (HR11.out.below hb12)
        replace HBW := Lib.hid (HBW.out.step hb12)
        clear hb12
        have kHX0 := HX0.out
        have kHX6 := HX6.out
        have kHX9 := HX9.out
        have kHX11 := HX11.out
        unfold Box at kHX0
        unfold Box at kHX6
        unfold Box at kHX9
        unfold Box at kHX11
        go_wp2_with fail
        refine (toStuffS_any a n c S _ hn (HS.out.below HBW.out.1)).mono ?_
        rintro e w13 ⟨g13, rfl, ho13, hb13⟩
        clear kHX0 kHX6 kHX9 kHX11
        replace HX0 := Lib.hid (HX0.out.below hb13)
        replace HX6 := Lib.hid (HX6.out.below hb13)
        replace HX9 := Lib.hid (HX9.out.below hb13)
        replace HX11 := Lib.hid (HX11.out.below hb13)
        replace HR6 := Lib.hid (HR6.out.below hb13)
        replace HR8 := Lib.hid (HR8.out.below hb13)
        replace HR9 := Lib.hid (HR9.out.below hb13)
        replace HR11 := Lib.hid (HR11.out.below hb13)
        replace HBW := Lib.hid (HBW.out.step hb13)
        have HD13 := Lib.hid (CellsAt.of_own ho13)
        clear ho13 hb13
        have kHX0 := HX0.out
        have kHX6 := HX6.out
        have kHX9 := HX9.out
        have kHX11 := HX11.out
        unfold Box at kHX0
        unfold Box at kHX6
        unfold Box at kHX9
        unfold Box at kHX11
        go_wp2_with fail
        refine (eqStuffS_any _ _ n _ _ S _ (by omega) HR8.out.cells HD13.out).mono ?_
        rintro e w14 ⟨rfl, hb14⟩
        clear kHX0 kHX6 kHX9 kHX11
        replace HX0 := Lib.hid (HX0.out.below hb14)
        replace HX6 := Lib.hid (HX6.out.below hb14)
        replace HX9 := Lib.hid (HX9.out.below hb14)
        replace HX11 := Lib.hid (HX11.out.below hb14)
        replace HR6 := Lib.hid (HR6.out.below hb14)
        replace HR8 := Lib.hid (HR8.out.below hb14)
        replace HR9 := Lib.hid (HR9.out.below hb14)
        replace HR11 := Lib.hid (HR11.out.below hb14)
        replace HBW := Lib.hid (HBW.out.step hb14)
        clear hb14 HD13
        have kHX0 := HX0.out
        have kHX6 := HX6.out
        have kHX9 := HX9.out
        have kHX11 := HX11.out
        unfold Box at kHX0
        unfold Box at kHX6
        unfold Box at kHX9
        unfold Box at kHX11
        have HE14 := Lib.hid (show CellsAt w14.drew _ (zs.map (Value.int .i64)) from HR9.out.cells)
        have HZ14 := Lib.hid (show CellsAt w14.drew b (zs.map (Value.int .i64)) from HZ.out.below HBW.out.1.drew)
        have HXY := Lib.hid (And.intro kHX0 kHX9)
        go_wp2_with fail
        go_region_held3 (fun W => W.cell? ⟨w.heap.size, 0, none⟩ = some (.slice b m d) ∧ W.cell? ⟨w9.heap.size, 0, none⟩ = some (.slice (some ⟨g9, 0, none⟩) m m)) (first | go_keep | exact HX16.out | exact HX15.out | exact HXY.out)
          (first
            | (go_at_call 15; refine (toSole_any b m d zs w14.drew HL.out hm1 HZ14.out).mono ?_; rintro e w15 ⟨g15, rfl, ho15, hb15⟩; have HX15 := Lib.hid (And.intro ((hb15.cell (p := ⟨w.heap.size, 0, none⟩) (World.block_lt_of_cell? w14 _ HXY.out.1)).trans HXY.out.1) ((hb15.cell (p := ⟨w9.heap.size, 0, none⟩) (World.block_lt_of_cell? w14 _ HXY.out.2)).trans HXY.out.2)))
            | (go_at_call 17; refine (eqSole_any _ _ m _ _ zs _ HL.out (by omega) (HE14.out.below hb15) (CellsAt.of_own ho15)).mono ?_; rintro e w16 ⟨rfl, hb16⟩; have HX16 := Lib.hid (And.intro ((hb16.cell (p := ⟨w.heap.size, 0, none⟩) (World.block_lt_of_cell? w15 _ HX15.out.1)).trans HX15.out.1) ((hb16.cell (p := ⟨w9.heap.size, 0, none⟩) (World.block_lt_of_cell? w15 _ HX15.out.2)).trans HX15.out.2))))
        clear kHX0 kHX6 kHX9 kHX11
        have hb14d : Below w14.heap.size w14 w14.drew := (Below.refl _ _).drew
        replace HX0 := Lib.hid (HX0.out.below hb14d)
        replace HX6 := Lib.hid (HX6.out.below hb14d)
        replace HX9 := Lib.hid (HX9.out.below hb14d)
        replace HX11 := Lib.hid (HX11.out.below hb14d)
        replace HR6 := Lib.hid (HR6.out.below hb14d)
        replace HR8 := Lib.hid (HR8.out.below hb14d)
        replace HR9 := Lib.hid (HR9.out.below hb14d)
        replace HR11 := Lib.hid (HR11.out.below hb14d)
        replace HBW := Lib.hid (HBW.out.step hb14d)
        replace HX0 := Lib.hid (HX0.out.below hb15)
        replace HX6 := Lib.hid (HX6.out.below hb15)
        replace HX9 := Lib.hid (HX9.out.below hb15)
        replace HX11 := Lib.hid (HX11.out.below hb15)
        replace HR6 := Lib.hid (HR6.out.below hb15)
        replace HR8 := Lib.hid (HR8.out.below hb15)
        replace HR9 := Lib.hid (HR9.out.below hb15)
        replace HR11 := Lib.hid (HR11.out.below hb15)
        replace HBW := Lib.hid (HBW.out.step hb15)
        replace HX0 := Lib.hid (HX0.out.below hb16)
        replace HX6 := Lib.hid (HX6.out.below hb16)
        replace HX9 := Lib.hid (HX9.out.below hb16)
        replace HX11 := Lib.hid (HX11.out.below hb16)
        replace HR6 := Lib.hid (HR6.out.below hb16)
        replace HR8 := Lib.hid (HR8.out.below hb16)
        replace HR9 := Lib.hid (HR9.out.below hb16)
        replace HR11 := Lib.hid (HR11.out.below hb16)
        replace HBW := Lib.hid (HBW.out.step hb16)
        clear hb14d hb15 hb16 ho15 HXY HX15 HX16 HE14 HZ14
        have kHX0 := HX0.out
        have kHX6 := HX6.out
        have kHX9 := HX9.out
        have kHX11 := HX11.out
        unfold Box at kHX0
        unfold Box at kHX6
        unfold Box at kHX9
        unfold Box at kHX11
        go_wp2_with fail
        refine (markStuffS_any g8 n n _ 1 _ _ hn (by omega) (by omega) HR8.out.1).mono ?_
        rintro e w19 ⟨rfl, hg19⟩
        clear kHX0 kHX6 kHX9 kHX11
        replace HX0 := Lib.hid (HX0.out.grown hg19 (fun e => by have h0 := HR8.out.2 _ e; have h1 := HZs.out; simp at h1; have h2 := HZA.out; omega))
        replace HX6 := Lib.hid (HX6.out.grown hg19 (fun e => by have h0 := HR8.out.2 _ e; have h1 := HZs.out; simp at h1; have h2 := HZA.out; omega))
        replace HX9 := Lib.hid (HX9.out.grown hg19 (fun e => by have h0 := HR8.out.2 _ e; have h1 := HZs.out; simp at h1; have h2 := HZA.out; omega))
        replace HX11 := Lib.hid (HX11.out.grown hg19 (fun e => by have h0 := HR8.out.2 _ e; have h1 := HZs.out; simp at h1; have h2 := HZA.out; omega))
        replace HR6 := Lib.hid (HR6.out.grown hg19 (fun b e => by have h0 := HR8.out.2 _ e; have h1 := HZs.out; simp at h1; have h2 := HZA.out; omega))
        replace HR9 := Lib.hid (HR9.out.grown hg19 (fun b e => by have h0 := HR8.out.2 _ e; have h1 := HZs.out; simp at h1; have h2 := HZA.out; omega))
        replace HR11 := Lib.hid (HR11.out.grown hg19 (fun b e => by have h0 := HR8.out.2 _ e; have h1 := HZs.out; simp at h1; have h2 := HZA.out; omega))
        replace HBW := Lib.hid (HBW.out.grown hg19 (fun b e => by have h0 := HR8.out.2 _ e; have h1 := HZs.out; simp at h1; have h2 := HZA.out; omega))
        clear hg19
        have kHX0 := HX0.out
        have kHX6 := HX6.out
        have kHX9 := HX9.out
        have kHX11 := HX11.out
        unfold Box at kHX0
        unfold Box at kHX6
        unfold Box at kHX9
        unfold Box at kHX11
        go_wp2_with fail
        refine (markSole_any (some ⟨g9, 0, none⟩) m m _ _ _ _ hm1 (by omega) (by omega) HR9.out.1).mono ?_
        rintro e w20 ⟨rfl, ho20, hg20⟩
        clear kHX0 kHX6 kHX9 kHX11
        replace HX0 := Lib.hid (HX0.out.grown hg20 (fun e => by have h0 := HR9.out.2 _ e; have h1 := HZs.out; simp at h1; have h2 := HZA.out; omega))
        replace HX6 := Lib.hid (HX6.out.grown hg20 (fun e => by have h0 := HR9.out.2 _ e; have h1 := HZs.out; simp at h1; have h2 := HZA.out; omega))
        replace HX9 := Lib.hid (HX9.out.grown hg20 (fun e => by have h0 := HR9.out.2 _ e; have h1 := HZs.out; simp at h1; have h2 := HZA.out; omega))
        replace HX11 := Lib.hid (HX11.out.grown hg20 (fun e => by have h0 := HR9.out.2 _ e; have h1 := HZs.out; simp at h1; have h2 := HZA.out; omega))
        replace HR6 := Lib.hid (HR6.out.grown hg20 (fun b e => by have h0 := HR9.out.2 _ e; have h1 := HZs.out; simp at h1; have h2 := HZA.out; omega))
        replace HR11 := Lib.hid (HR11.out.grown hg20 (fun b e => by have h0 := HR9.out.2 _ e; have h1 := HZs.out; simp at h1; have h2 := HZA.out; omega))
        replace HBW := Lib.hid (HBW.out.grown hg20 (fun b e => by have h0 := HR9.out.2 _ e; have h1 := HZs.out; simp at h1; have h2 := HZA.out; omega))
        clear hg20 ho20
        have hk20 : (1 : Int) + ((n * 5 : Nat) : Int) + (m : Int) < 0 ↔ False := by simp only [iff_false]; omega
        have kHX0 := HX0.out
        have kHX6 := HX6.out
        have kHX9 := HX9.out
        have kHX11 := HX11.out
        unfold Box at kHX0
        unfold Box at kHX6
        unfold Box at kHX9
        unfold Box at kHX11
        go_wp2_with fail
        refine (eqSole_any _ _ n11 _ _ ds _ hl6.out.1 (by have := hl6.out.2; omega) HR11.out.cells HR6.out.cells).mono ?_
        rintro e w21 ⟨rfl, hb21⟩
        clear kHX0 kHX6 kHX9 kHX11
        replace HX0 := Lib.hid (HX0.out.below hb21)
        replace HX6 := Lib.hid (HX6.out.below hb21)
        replace HX9 := Lib.hid (HX9.out.below hb21)
        replace HX11 := Lib.hid (HX11.out.below hb21)
        replace HR6 := Lib.hid (HR6.out.below hb21)
        replace HR11 := Lib.hid (HR11.out.below hb21)
        replace HBW := Lib.hid (HBW.out.step hb21)
        clear hb21
        have kHX0 := HX0.out
        have kHX6 := HX6.out
        have kHX9 := HX9.out
        have kHX11 := HX11.out
        unfold Box at kHX0
        unfold Box at kHX6
        unfold Box at kHX9
        unfold Box at kHX11
        go_wp2_with fail
        refine (markSole_any a11 n11 c11 _ 1 _ _ hl6.out.2 (by omega) (by omega) HR11.out.1).mono ?_
        rintro e w24 ⟨rfl, ho24, hg24⟩
        clear kHX0 kHX6 kHX9 kHX11
        have HR24 := Lib.hid (HR11.out.turn ho24)
        replace HX0 := Lib.hid (HX0.out.grown hg24 (fun e => by have h0 := HR11.out.2 _ e; have h1 := HZs.out; simp at h1; have h2 := HZA.out; omega))
        replace HX6 := Lib.hid (HX6.out.grown hg24 (fun e => by have h0 := HR11.out.2 _ e; have h1 := HZs.out; simp at h1; have h2 := HZA.out; omega))
        replace HX9 := Lib.hid (HX9.out.grown hg24 (fun e => by have h0 := HR11.out.2 _ e; have h1 := HZs.out; simp at h1; have h2 := HZA.out; omega))
        replace HX11 := Lib.hid (HX11.out.grown hg24 (fun e => by have h0 := HR11.out.2 _ e; have h1 := HZs.out; simp at h1; have h2 := HZA.out; omega))
        replace HR6 := Lib.hid (HR6.out.grown hg24 (fun b e => by have h0 := HR11.out.2 _ e; have h1 := HZs.out; simp at h1; have h2 := HZA.out; omega))
        replace HBW := Lib.hid (HBW.out.grown hg24 (fun b e => by have h0 := HR11.out.2 _ e; have h1 := HZs.out; simp at h1; have h2 := HZA.out; omega))
        clear hg24 ho24
        have kHX0 := HX0.out
        have kHX6 := HX6.out
        have kHX9 := HX9.out
        have kHX11 := HX11.out
        unfold Box at kHX0
        unfold Box at kHX6
        unfold Box at kHX9
        unfold Box at kHX11
        go_wp2_with fail
        refine (heldSole_any a11 n11 c11 1 _ hl6.out.2 (by omega) (by omega) HR24.out.cells).mono ?_
        rintro e w26 ⟨rfl, hb26⟩
        clear kHX0 kHX6 kHX9 kHX11
        replace HX0 := Lib.hid (HX0.out.below hb26)
        replace HX6 := Lib.hid (HX6.out.below hb26)
        replace HX9 := Lib.hid (HX9.out.below hb26)
        replace HX11 := Lib.hid (HX11.out.below hb26)
        replace HR6 := Lib.hid (HR6.out.below hb26)
        replace HR24 := Lib.hid (HR24.out.below hb26)
        replace HBW := Lib.hid (HBW.out.step hb26)
        clear hb26
        have hm26 : ((1 : Int) + ((n11 : Nat) : Int) < 0) ↔ False := by simp only [iff_false]; omega
        have HKB := Lib.hid (fun W (h : Bel w26.heap.size w26 W) => show W.cell? ⟨w.heap.size, 0, none⟩ = some (.slice b m d) from HX0.out.below h.1)
        have HSB := Lib.hid (HS.out.below HBW.out.1)
        have HZB := Lib.hid (HZ.out.below HBW.out.1)
        have kHX0 := HX0.out
        have kHX6 := HX6.out
        have kHX9 := HX9.out
        have kHX11 := HX11.out
        unfold Box at kHX0
        unfold Box at kHX6
        unfold Box at kHX9
        unfold Box at kHX11
        go_wp2_with fail
        go_upto_region 31 with fail
        go_cut [15, 16] (fun sA sB W => ∃ (q n5 c5 : Nat) (a5 : Option Addr), sA = .pointer (some ⟨q, 0, none⟩) ∧ sB = .int .i64 r ∧ Hid (W.cell? ⟨q, 0, none⟩ = some (.slice a5 n5 c5)) ∧ Hid (ds.length = n5 ∧ n5 ≤ 1048576) ∧ Hid (W.ownsRow w26.heap.size 2 1 (.slice a5 n5 c5) n5 (ds.map (Value.int .i64))) ∧ Hid (Bel w26.heap.size w26 W))
        case first =>
          go_region_held3 (fun W => W.cell? ⟨w.heap.size, 0, none⟩ = some (.slice b m d)) (first | exact HKB.out _ (by repeat (first | assumption | exact Bel.refl _ | refine Bel.drew ?_ | refine Bel.drewN ?_ _ | refine Bel.alloc ?_ _ | refine Bel.setCell ?_ (by simp; try omega) _)) | go_keep)
            (first
              | (go_at_call 10; refine (toStuffS_any a n c S _ hn (HSB.out.below (show Bel w26.heap.size w26 _ from (by repeat (first | assumption | exact Bel.refl _ | refine Bel.drew ?_ | refine Bel.drewN ?_ _ | refine Bel.alloc ?_ _ | refine Bel.setCell ?_ (by simp; try omega) _))).1)).mono ?_; rintro e w27 ⟨g27, rfl, ho27, hb27⟩; have hB27 := Bel.step (B := w26.heap.size) (a := w26) (by repeat (first | assumption | exact Bel.refl _ | refine Bel.drew ?_ | refine Bel.drewN ?_ _ | refine Bel.alloc ?_ _ | refine Bel.setCell ?_ (by simp; try omega) _)) hb27; have hS27 := Lib.hid (CellsAt.of_own ho27); have hz27 := hb27.size; (try simp at hz27); obtain ⟨hc27, hf27, hl27'⟩ := bcell hb27; (try have hq27 := hl27' w26.heap.size (by first | (simp; done) | (simp; omega))); clear ho27 hb27)
              | (go_at_call 15; refine (toSole_any b m d zs _ HL.out hm1 (HZB.out.below (show Bel w26.heap.size w26 _ from (by repeat (first | assumption | exact Bel.refl _ | refine Bel.drew ?_ | refine Bel.drewN ?_ _ | refine Bel.alloc ?_ _ | refine Bel.setCell ?_ (by simp; try omega) _))).1)).mono ?_; rintro e w28 ⟨g28, rfl, ho28, hb28⟩; have hB28 := Bel.step (B := w26.heap.size) (a := w26) (by repeat (first | assumption | exact Bel.refl _ | refine Bel.drew ?_ | refine Bel.drewN ?_ _ | refine Bel.alloc ?_ _ | refine Bel.setCell ?_ (by simp; try omega) _)) hb28; have hC28 := Bel.step (B := w27.heap.size) (a := w27) (by repeat (first | assumption | exact Bel.refl _ | refine Bel.drew ?_ | refine Bel.drewN ?_ _ | refine Bel.alloc ?_ _ | refine Bel.setCell ?_ (by simp; try omega) _)) hb28; have hS28 := Lib.hid (CellsAt.of_own ho28); have hz28 := hb28.size; (try simp at hz28); obtain ⟨hc28, hf28, hl28'⟩ := bcell hb28; (try have hq28 := hl28' w26.heap.size (by first | assumption | (simp; done) | (simp; omega))); clear ho28 hb28)
              | (go_at_call 21; refine (HC2.out hm1 _ _ _ _ (hS27.out.below (show Bel w27.heap.size w27 _ from (by repeat (first | assumption | exact Bel.refl _ | refine Bel.drew ?_ | refine Bel.drewN ?_ _ | refine Bel.alloc ?_ _ | refine Bel.setCell ?_ (by simp; try omega) _))).1) (hS28.out.below (show Bel w28.heap.size w28 _ from (by repeat (first | assumption | exact Bel.refl _ | refine Bel.drew ?_ | refine Bel.drewN ?_ _ | refine Bel.alloc ?_ _ | refine Bel.setCell ?_ (by simp; try omega) _))).1)).mono ?_; rintro e w29 ⟨a29, n29, c29, rfl, hln29, hn29, ho29, hb29⟩; have hB29 := Bel.step (B := w26.heap.size) (a := w26) (by repeat (first | assumption | exact Bel.refl _ | refine Bel.drew ?_ | refine Bel.drewN ?_ _ | refine Bel.alloc ?_ _ | refine Bel.setCell ?_ (by simp; try omega) _)) hb29; have hS29 := Lib.hid (And.intro hln29 (And.intro hn29 ho29)); have hz29 := hb29.size; (try simp at hz29); obtain ⟨hc29, hf29, hl29'⟩ := bcell hb29; (try have hq29 := hl29' w26.heap.size (by first | assumption | (simp; done) | (simp; omega))); clear ho29 hb29 hln29 hn29))
          all_goals
            go_wp2_with fail
            go_meet
          all_goals
            have hL := hS29.out.2.2
            have hle := hB29.2
            have hle4 := hB28.2
            have hle3 := hB27.2
            first
            | exact ⟨w29.heap.size, n29, c29, a29, rfl, rfl, Lib.hid (by simp [go_sem]), Lib.hid ⟨hS29.out.1, hS29.out.2.1⟩, Lib.hid ((own_base hL (by first | omega | (simp; done) | (simp; omega))).alloc _), Lib.hid (hB29.alloc _)⟩
            | exact ⟨_, n29, c29, a29, rfl, rfl, Lib.hid (World.cell?_setCell_same _ _ _ (u := .slice none 0 0) (by simp [go_sem, *])), Lib.hid ⟨hS29.out.1, hS29.out.2.1⟩, Lib.hid (own_set (own_base hL (by first | omega | (simp; done) | (simp; omega))) _ _ _ (fun e => by have h0 := own_block hL e; first | omega | (simp at h0; done) | (simp at h0; omega))), Lib.hid (hB29.setCell (by first | omega | (simp; done) | (simp; omega)) _)⟩
        case rest =>
          obtain ⟨q30, n30, c30, a30, rfl, rfl, hq30, hl30, hO30, hB30⟩ := hcut
          obtain rfl : n30 = n11 := by have := hl6.out.1; have := hl30.out.1; omega
          clear kHX0 kHX6 kHX9 kHX11
          replace HX0 := Lib.hid (HX0.out.below hB30.out.1)
          replace HX6 := Lib.hid (HX6.out.below hB30.out.1)
          replace HX9 := Lib.hid (HX9.out.below hB30.out.1)
          replace HX11 := Lib.hid (HX11.out.below hB30.out.1)
          replace HR6 := Lib.hid (HR6.out.below hB30.out.1)
          replace HR24 := Lib.hid (HR24.out.below hB30.out.1)
          replace HBW := Lib.hid (HBW.out.step hB30.out.1)
          have HX30 := Lib.hid (show Box _ q30 (.slice a30 n30 c30) from hq30.out)
          have HR30 := Lib.hid (Row.mk_ hO30.out)
          clear hq30 hO30 hB30 HKB HSB HZB
          have kHX0 := HX0.out
          have kHX6 := HX6.out
          have kHX9 := HX9.out
          have kHX11 := HX11.out
          have kHX30 := HX30.out
          unfold Box at kHX0
          unfold Box at kHX6
          unfold Box at kHX9
          unfold Box at kHX11
          unfold Box at kHX30
          go_wp2_with fail
          refine (eqSole_any _ _ n30 _ _ ds _ hl6.out.1 (by have := hl6.out.2; omega) HR30.out.cells HR6.out.cells).mono ?_
          rintro e w32 ⟨rfl, hb32⟩
          clear kHX0 kHX6 kHX9 kHX11 kHX30
          replace HX0 := Lib.hid (HX0.out.below hb32)
          replace HX6 := Lib.hid (HX6.out.below hb32)
          replace HX9 := Lib.hid (HX9.out.below hb32)
          replace HX11 := Lib.hid (HX11.out.below hb32)
          replace HX30 := Lib.hid (HX30.out.below hb32)
          replace HR6 := Lib.hid (HR6.out.below hb32)
          replace HR24 := Lib.hid (HR24.out.below hb32)
          replace HR30 := Lib.hid (HR30.out.below hb32)
          replace HBW := Lib.hid (HBW.out.step hb32)
          clear hb32
          have kHX0 := HX0.out
          have kHX6 := HX6.out
          have kHX9 := HX9.out
          have kHX11 := HX11.out
          have kHX30 := HX30.out
          unfold Box at kHX0
          unfold Box at kHX6
          unfold Box at kHX9
          unfold Box at kHX11
          unfold Box at kHX30
          go_wp2_with fail
          refine (heldSole_any a11 n30 c11 1 _ hl6.out.2 (by omega) (by omega) HR24.out.cells).mono ?_
          rintro e w35 ⟨rfl, hb35⟩
          clear kHX0 kHX6 kHX9 kHX11 kHX30
          replace HX0 := Lib.hid (HX0.out.below hb35)
          replace HX6 := Lib.hid (HX6.out.below hb35)
          replace HX9 := Lib.hid (HX9.out.below hb35)
          replace HX11 := Lib.hid (HX11.out.below hb35)
          replace HX30 := Lib.hid (HX30.out.below hb35)
          replace HR6 := Lib.hid (HR6.out.below hb35)
          replace HR24 := Lib.hid (HR24.out.below hb35)
          replace HR30 := Lib.hid (HR30.out.below hb35)
          replace HBW := Lib.hid (HBW.out.step hb35)
          clear hb35
          have kHX0 := HX0.out
          have kHX6 := HX6.out
          have kHX9 := HX9.out
          have kHX11 := HX11.out
          have kHX30 := HX30.out
          unfold Box at kHX0
          unfold Box at kHX6
          unfold Box at kHX9
          unfold Box at kHX11
          unfold Box at kHX30
          go_wp2_with fail
          go_ret
          exact lawEnd_of HBW.out

/-! ### From the walk to the statement -/
set_option maxRecDepth 100000 in
theorem FnExactTurnSole_lifted (os : Os) (started : os.Started) (H : Type) (enc : TypeId × Value → H) :
    ReturnsInHanded {} Try.checked os 6 .any (Rows.fnExactTurnSoleSpec.pre6 enc Try.prog Try.f6 Rows.fnExactTurnSoleRow.domain false) (Rows.fnExactTurnSoleSpec.post enc Try.prog Try.f6 false true false false) := by
  refine lifted_law (C := Try.checked) (tb := 4) own started (by kernel_rfl) Try.func6
    (ChangeSpec.witness6 (enc := enc) (C := Try.checked) false ⟨#[], #[.slice none 0 0, .agg #[.slice none 0 0]], []⟩ 8 (by kernel_rfl) (by kernel_rfl) (by kernel_rfl) (by kernel_rfl))
    laidOut (by kernel_rfl) rfl rfl Try.underlying4 (fun ds h => by match ds, h with | [_, _], _ => rfl) ?_
  intro W base args ds p hval hA
  rw [Try.params6] at hA hval
  obtain ⟨v0, vs0, d0, ds0, p0, q0, hargs, rfl, rfl, h0, r0⟩ := trodAll_cons hA
  obtain ⟨v1, vs1, d1, ds1, p1, q1, rfl, rfl, rfl, h1, r1⟩ := trodAll_cons r0
  obtain ⟨rfl, rfl, rfl⟩ := trodAll_nil r1
  obtain rfl : args = #[v0, v1] := by cases args; simp_all
  obtain ⟨a0, n0, c0, S0, rfl, m0, s0, w0⟩ := open_stuff_at (tI := 2) (tS := 9) Try.underlying22 Try.underlying48 (by kernel_rfl) (by kernel_rfl) Try.underlying2 Try.underlying9 (by rfl) (hval 0 22 v0 rfl rfl) h0
  obtain ⟨a1, n1, c1, z1, rfl, l1, m1, s1, w1⟩ := open_sole_at Try.underlying31 (by kernel_rfl) (by kernel_rfl) Try.underlying29 Try.underlying2 (by kernel_rfl) (by rfl) (hval 1 31 v1 rfl rfl) h1
  first | exact FnExactTurnSole_walk a0 n0 c0 S0 m0 s0 w0 a1 n1 c1 z1 l1 m1 s1 w1 W | exact FnExactTurnSole_walk W a0 n0 c0 S0 m0 s0 w0 a1 n1 c1 z1 l1 m1 s1 w1

theorem FnExactTurnSole_over : Rows.fnExactTurnSoleRow.holds Try.pinned (OpenSpec.ofChange Rows.fnExactTurnSoleSpec) :=
  OpenClaim.holds_of_wide 6 Try.f6 rfl rfl rfl rfl rfl rfl rfl ⟨rfl, rfl, rfl, rfl, rfl⟩ rfl rfl rfl rfl rfl (by kernel_rfl) Try.func6 (by kernel_rfl)
    (of_decide_eq_true (by kernel_rfl)) (by unfold Func.isWrapper; first | (rw [if_pos (by decide +kernel)]; kernel_rfl) | (rw [if_neg (by decide +kernel)]; exact ⟨rfl, rfl⟩))
    (fun os started H enc _ => FnExactTurnSole_lifted os started H enc)

/-- The statement. -/
theorem FnExactTurnSole_holds : Rows.FnExactTurnSoleSaid := FnExactTurnSole_over
#print axioms FnExactTurnSole_holds

end Go.Proofs.Ythihhkabbdkohaa
