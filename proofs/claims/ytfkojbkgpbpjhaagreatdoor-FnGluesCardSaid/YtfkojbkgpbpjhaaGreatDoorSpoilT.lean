/-
  Contracts of the draws of texts: one of some texts, a text with a change, a drawn text of a glue. No condition of its own.
-/
import Derived.Test.YtfkojbkgpbpjhaaGreatDoorGluesDraw2
import Derived.Test.YtfkojbkgpbpjhaaGreatDoorReadI
namespace Go.Proofs.YtfkojbkgpbpjhaaGreatDoor
open Go.ChangeShapes Go.WideShapes Go.ChangeAt Go.RowKit Go.Deep

/-- A draw of one of some texts that lie in a block of their own. -/
theorem text_any (w0 w : World) (p nc cc A : Nat) (ac : Option Addr) (b m c : Nat) (zs : List ByteArray) (hl : zs.length = m) (h1 : 1 ≤ m) (hm : m ≤ 1000) (hL : ∀ (j : Nat) (u : ByteArray), zs[j]? = some u → w.cell? ⟨b, j, none⟩ = some (.string u)) (hbp : p < b) (hbs : b < w.heap.size)
    (hc : CodeAt w0 ac nc) (hb : Bel w0.heap.size w0 w) (hs : SrcAt w w0.heap.size p ac nc cc A) (hA : A ≤ 1000000) :
    Calls Tryz.prog 63 #[.pointer (some ⟨p, 0, none⟩), .slice (some ⟨b, 0, none⟩) m c] w fun e w' => ∃ r : ByteArray, e = .returned (.string r) ∧ r ∈ zs ∧ SrcAt w' w0.heap.size p ac nc cc (A + 2) ∧ w.grownBy w' (some p) := by
  have HP := Lib.hid (pick_any w0 w p nc cc A ac (m : Int) hc hb hs hA (by omega))
  have HL := Lib.hid hL
  have Hl := Lib.hid hl
  clear hc hb hs hL hl
  go_enter Tryz.func63, Tryz.ntmps63
  go_wp2_with fail
  refine HP.out.mono ?_
  rintro e w1 ⟨r, rfl, r1, r2, hs1, hg1⟩
  obtain ⟨k, rfl⟩ : ∃ k : Nat, r = (k : Int) := ⟨r.toNat, by omega⟩
  have hk : k < m := by omega
  have hkl : k < zs.length := by rw [Hl.out]; exact hk
  obtain ⟨u, hu⟩ : ∃ u, zs[k]? = some u := ⟨zs[k], List.getElem?_eq_getElem hkl⟩
  have hcell : w1.cell? ⟨b, k, none⟩ = some (.string u) := (hg1.cell_far ⟨b, k, none⟩ hbs (fun e => by have h1 : b = p := (by simpa using e); omega)).trans (HL.out k u hu)
  have HM := Lib.hid (List.mem_of_getElem? hu)
  have H := Lib.hid (And.intro hs1 hg1)
  clear hs1 hg1 hu hkl r1 r2
  go_wp2_with fail
  go_ret
  exact ⟨u, rfl, HM.out, H.out.1, H.out.2⟩
/-- The texts of a literal in memory. -/
theorem lit_texts (w : World) (zs : List ByteArray) (T : Nat) : ∀ (j : Nat) (u : ByteArray), zs[j]? = some u → (w.alloc (.cells (zs.map Value.string).toArray T)).cell? ⟨w.heap.size, j, none⟩ = some (.string u) := by
  intro j u hj
  have h := World.news_of_block (heap_alloc_new w (.cells (zs.map Value.string).toArray T)) j (.string u) (by simp [hj])
  rw [addr_add, Nat.zero_add] at h
  exact h
/-- A draw of one of a literal's texts, told from the world ahead of the literal. -/
theorem text_lit (w0 w : World) (p nc cc A m T : Nat) (ac : Option Addr) (zs : List ByteArray) (hl : zs.length = m) (h1 : 1 ≤ m) (hm : m ≤ 1000)
    (hc : CodeAt w0 ac nc) (hb : Bel w0.heap.size w0 w) (hs : SrcAt w w0.heap.size p ac nc cc A) (hA : A ≤ 1000000) :
    Calls Tryz.prog 63 #[.pointer (some ⟨p, 0, none⟩), .slice (some ⟨w.heap.size, 0, none⟩) m m] (w.alloc (.cells (zs.map Value.string).toArray T)) fun e w' => ∃ r : ByteArray, e = .returned (.string r) ∧ r ∈ zs ∧ SrcAt w' w0.heap.size p ac nc cc (A + 2) ∧ w.grownBy w' (some p) := by
  refine (text_any w0 _ p nc cc A ac w.heap.size m m zs hl h1 hm (lit_texts w zs T) hs.base.2 (by simp) hc (hb.alloc _) (hs.alloc _) hA).mono ?_
  rintro e w' ⟨r, he, hr, h3, h4⟩
  exact ⟨r, he, hr, h3, grown_trans_row (World.grownBy_alloc w _ (some p)) h4⟩
/-- A text with a change is not much longer. -/
def SpoilTEnd (w0 w : World) (t : ByteArray) (p : Nat) (ac : Option Addr) (nc cc A : Nat) (e : Ending) (w' : World) : Prop :=
  ∃ r : ByteArray, e = .returned (.string r) ∧ r.size ≤ t.size + 1 ∧ SrcAt w' w0.heap.size p ac nc cc A ∧ w.grownBy w' (some p)
set_option maxRecDepth 100000 in
set_option maxHeartbeats 3200000 in
theorem l01Spoil_any (w0 w : World) (t : ByteArray) (ht : t.size ≤ 1000) (p nc cc A : Nat) (ac : Option Addr) (hc : CodeAt w0 ac nc) (hb : Bel w0.heap.size w0 w) (hs : SrcAt w w0.heap.size p ac nc cc A) (hA : A ≤ 90000) :
    Calls Tryz.prog 51 #[.pointer (some ⟨p, 0, none⟩), .string t] w fun e w' => ∃ B, SpoilTEnd w0 w t p ac nc cc B e w' := by
  obtain ⟨hp1, hp2⟩ := hs.base
  have HC := Lib.hid hc
  have HG := Lib.hid (fun (W W' : World) (h : Bel w0.heap.size w0 W) (hg : W.grownBy W' (some p)) => h.grown hg (fun k h => by cases h; exact hp1))
  have HB := Lib.hid hb
  have HS := Lib.hid hs
  clear hc hb hs
  go_enter Tryz.func51, Tryz.ntmps51
  go_wp2_with fail
  refine (pick_any w0 w p nc cc A ac 5 HC.out HB.out HS.out (by omega) (by omega)).mono ?_
  rintro e w1 ⟨r, rfl, ra, rb, hs1, hg1⟩
  have HS1 := Lib.hid hs1
  have HB1 := Lib.hid (HG.out _ _ HB.out hg1)
  have HG1 := Lib.hid hg1
  clear hs1 hg1
  by_cases h0 : r = 0
  · subst h0
    go_wp2_with fail
    refine (pick_any w0 w1 p nc cc (A + 2) ac ((t.size : Int) + 1) HC.out HB1.out HS1.out (by omega) (by omega)).mono ?_
    rintro e w2 ⟨x, rfl, xa, xb, hs2, hg2⟩
    obtain ⟨k, rfl⟩ : ∃ k : Nat, x = (k : Int) := ⟨x.toNat, by omega⟩
    have hk : k ≤ t.size := by omega
    have HS2 := Lib.hid hs2
    have HB2 := Lib.hid (HG.out _ _ HB1.out hg2)
    have HG2 := Lib.hid (grown_more HG1.out hg2)
    clear hs2 hg2
    have n1 : ¬ 9223372036854775807 < k + 1 := by omega
    have n2 : ¬ 9223372036854775807 < k + 1 + (t.size - k) := by omega
    have HSd := Lib.hid (show SrcAt w2.drew w0.heap.size p ac nc cc (A + 2 + 2) from HS2.out)
    go_wp2_with fail
    go_region_held3 (fun _ => True) (first | trivial | go_keep)
      ((refine (text_lit w0 w2.drew p nc cc (A + 2 + 2) 7 9 ac [⟨#[32]⟩, ⟨#[48]⟩, ⟨#[45]⟩, ⟨#[120]⟩, ⟨#[49]⟩, ⟨#[57]⟩, ⟨#[46]⟩] rfl (by omega) (by omega) HC.out HB2.out.drew HSd.out (by omega)).mono ?_; rintro e w3 ⟨u, rfl, hu, hs3, hg3⟩; have hu1 : u.size = 1 := (by simp only [List.mem_cons, List.not_mem_nil, or_false] at hu; rcases hu with rfl | rfl | rfl | rfl | rfl | rfl | rfl <;> rfl); have HN := Lib.hid (And.intro hs3 hg3); clear hu hs3 hg3))
    go_wp2_with fail
    go_ret
    exact ⟨A + 2 + 2 + 2, _, rfl, by simp only [ByteArray.size_append, ByteArray.size_extract]; omega, HN.out.1, grown_more HG2.out (grown_from_drew HN.out.2)⟩
  · by_cases h1 : r = 1
    · subst h1
      by_cases h2 : t.size = 0
      · have ht0 : t.toList = [] := by
          have h3 : t = ⟨#[]⟩ := by
            obtain ⟨⟨l⟩⟩ := t
            simp [ByteArray.size] at h2
            subst h2
            rfl
          subst h3
          simp
        go_wp2_with fail
        go_ret
        exact ⟨A + 2, t, rfl, by omega, HS1.out, HG1.out⟩
      · have ht0 : t.toList.isEmpty = false := by
          have hne0 : ¬ t.toList = [] := fun e => h2 (by rw [Lib.size_eq, ← Lib.toList_data, e]; rfl)
          simpa using hne0
        go_wp2_with fail
        refine (pick_any w0 w1 p nc cc (A + 2) ac (t.size : Int) HC.out HB1.out HS1.out (by omega) (by omega)).mono ?_
        rintro e w2 ⟨x, rfl, xa, xb, hs2, hg2⟩
        obtain ⟨k, rfl⟩ : ∃ k : Nat, x = (k : Int) := ⟨x.toNat, by omega⟩
        have hk : k < t.size := by omega
        have HE := Lib.hid (And.intro hs2 (grown_more HG1.out hg2))
        clear hs2 hg2
        go_wp2_with fail
        go_big_region
        go_wp2_with fail
        go_ret
        exact ⟨A + 2 + 2, _, rfl, by simp only [ByteArray.size_append, ByteArray.size_extract]; omega, HE.out.1, grown_drew HE.out.2⟩
    · go_wp2_with fail
      go_ret
      exact ⟨A + 2, t, rfl, by omega, HS1.out, HG1.out⟩

theorem glueT0_size {d o p : Int} (h : 0 ≤ d ∧ d ≤ 1000 ∧ 0 ≤ o ∧ o ≤ 1000 ∧ 0 ≤ p ∧ p ≤ 1000) : (glueT0 d o p).size ≤ 200 := by
  have z1 := dec_size d (by omega) (by omega)
  have z2 := dec_size o (by omega) (by omega)
  have z3 := dec_size p (by omega) (by omega)
  unfold glueT0
  simp only [ByteArray.size_append]
  have e1 : (⟨#[100, 114, 121, 32]⟩ : ByteArray).size = 4 := rfl
  have e2 : (⟨#[32, 111, 112, 101, 110, 32]⟩ : ByteArray).size = 6 := rfl
  have e3 : (⟨#[32, 112, 114, 101, 115, 115, 32]⟩ : ByteArray).size = 7 := rfl
  omega
/-- A drawn text. -/
def DrawReadGlueEnd (w : World) (e : Ending) (w' : World) : Prop := ∃ s : ByteArray, e = .returned (.string s) ∧ s.size ≤ 1000 ∧ Bel w.heap.size w w'
set_option maxRecDepth 100000 in
set_option maxHeartbeats 3200000 in
theorem drawReadGlue_any (w : World) (nc cc : Nat) (ac : Option Addr) (hc : CodeAt w ac nc) : Calls Tryz.prog 20 #[.slice ac nc cc] w (DrawReadGlueEnd w) := by
  have HC := Lib.hid hc
  clear hc
  go_enter Tryz.func20, Tryz.ntmps20
  go_wp2_with fail
  refine (l00From_any w w.heap.size ac nc cc (Nat.le_refl _)).mono ?_
  rintro e w1 ⟨rfl, hs1, hb1⟩
  have HS1 := Lib.hid hs1
  have HB1 := Lib.hid (Bel.of hb1)
  clear hs1 hb1
  go_wp2_with fail
  refine (l19Draw_any w w1 w.heap.size nc cc 0 ac HC.out HB1.out HS1.out (by omega)).mono ?_
  rintro e w2 ⟨d, o, y, rfl, hbd, hs2, hg2⟩
  have HT := Lib.hid (fun W => l19Text_any d o y W (glueB_true.2 (by omega)))
  have hsz := glueT0_size (d := d) (o := o) (p := y) (by omega)
  have HB2 := Lib.hid (HB1.out.grown hg2 (fun k h => by cases h; exact Nat.le_refl _))
  have HS2 := Lib.hid hs2
  generalize glueT0 d o y = t at HT hsz ⊢
  clear hs2 hg2 hbd
  go_wp2_with fail
  refine (HT.out _).mono ?_
  rintro e w3 ⟨rfl, hb3⟩
  have HB3 := Lib.hid (HB2.out.step hb3)
  have HS3 := Lib.hid (HS2.out.below hb3)
  clear hb3
  go_wp2_with fail
  refine (one_any w w3 w.heap.size nc cc (0 + 6) ac 3 HC.out HB3.out HS3.out (by omega) (by omega)).mono ?_
  rintro e w4 ⟨b, rfl, hs4, hg4⟩
  have HB4 := Lib.hid (HB3.out.grown hg4 (fun k h => by cases h; exact Nat.le_refl _))
  have HS4 := Lib.hid hs4
  clear hs4 hg4
  cases b
  · go_wp2_with fail
    go_ret
    exact ⟨t, rfl, by omega, HB4.out⟩
  · go_wp2_with fail
    refine (l01Spoil_any w w4 t (by omega) w.heap.size nc cc (0 + 6 + 2) ac HC.out HB4.out HS4.out (by omega)).mono ?_
    rintro e w5 ⟨B, r, rfl, hr, hs5, hg5⟩
    have HB5 := Lib.hid (HB4.out.grown hg5 (fun k h => by cases h; exact Nat.le_refl _))
    clear hs5 hg5
    go_wp2_with fail
    go_ret
    exact ⟨r, rfl, by omega, HB5.out⟩
end Go.Proofs.YtfkojbkgpbpjhaaGreatDoor
