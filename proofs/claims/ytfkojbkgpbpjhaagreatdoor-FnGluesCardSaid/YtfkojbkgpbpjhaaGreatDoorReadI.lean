/-
  The contract of ReadDecimal of the program. Conditions: the listed tables are laid.
-/
import Derived.Test.YtfkojbkgpbpjhaaGreatDoorReadN
namespace Go.Proofs.YtfkojbkgpbpjhaaGreatDoor
open Go.ChangeShapes Go.WideShapes Go.ChangeAt Go.RowKit Go.Deep Go.Shelf Go.Sort

/-- The variables of the library that a reading looks at. -/
def Tabs (w : World) : Prop := Pow w ∧ (∃ tp p, w.cell? ⟨2, 0, none⟩ = some (.iface tp p)) ∧ (∃ tp p, w.cell? ⟨3, 0, none⟩ = some (.iface tp p)) ∧ ∃ m, w.cell? ⟨1, 0, none⟩ = some (.int .i64 m)
theorem Tabs.below {W W' : World} (h : Tabs W) (hb : Below W.heap.size W W') : Tabs W' := by
  obtain ⟨h1, ⟨a, b, h2⟩, ⟨c, d, h3⟩, m, h4⟩ := h
  exact ⟨h1.below hb, ⟨a, b, (hb.cell (Lib.lt_of_cell h2)).trans h2⟩, ⟨c, d, (hb.cell (Lib.lt_of_cell h3)).trans h3⟩, m, (hb.cell (Lib.lt_of_cell h4)).trans h4⟩

theorem toList_ne {s t : ByteArray} (h : ¬ s = t) : (s.toList == t.toList) = false := by
  rw [beq_eq_false_iff_ne, Lib.toList_data, Lib.toList_data]
  intro e
  apply h
  have := ba_ext e
  rw [this]

set_option maxRecDepth 100000 in
set_option maxHeartbeats 3200000 in
theorem readDecimal_ex (s : ByteArray) (w : World) (hs : s.size ≤ 1048576) (ht : Tabs w) :
    Calls Tryz.prog 48 #[.string s] w fun e w' => (∃ v b, NumRes s v b ∧ e = .returned (.tuple #[.int .i64 v, .bool b])) ∧ Below w.heap.size w w' := by
  obtain ⟨t, htt⟩ : ∃ t : ByteArray, (⟨(Lib.trimPrefix s.data.toList [45]).toArray⟩ : ByteArray) = t := ⟨_, rfl⟩
  have htl : t.size = (Lib.trimPrefix s.data.toList [45]).length := by rw [← htt]; rw [Lib.size_eq]
  have HTR := Lib.hid (fun W => Tryz.strings_TrimPrefix s ⟨#[45]⟩ W)
  rw [show (⟨#[45]⟩ : ByteArray).data.toList = [45] from rfl, htt] at HTR
  clear htt
  by_cases h19 : 19 < s.size
  · have HN := Lib.hid (numRes_no (no_long h19))
    have h19' : (19 : Int) < (s.size : Int) := by omega
    clear h19 ht htl
    go_enter Tryz.func48, Tryz.ntmps48
    go_wp2
    go_ret2
    exact ⟨⟨0, false, HN.out, rfl⟩, (by repeat (first | exact Below.refl _ _ | assumption | refine Below.drew ?_ | refine below_drewN ?_ _ | refine Below.alloc ?_ (by simp; try omega) _ | refine Below.setCell ?_ (by simp; try omega) _))⟩
  have h19' : ¬ (19 : Int) < (s.size : Int) := by omega
  by_cases h18 : 18 < t.size
  · have HN := Lib.hid (numRes_no (s := s) (no_trim (by omega)))
    have h18' : (18 : Int) < (t.size : Int) := by omega
    clear h19 ht htl h18
    go_enter Tryz.func48, Tryz.ntmps48
    go_wp2_with (go_at_call 60; refine (HTR.out _).mono ?_; rintro e w ⟨rfl, rfl⟩)
    go_ret2
    exact ⟨⟨0, false, HN.out, rfl⟩, (by repeat (first | exact Below.refl _ _ | assumption | refine Below.drew ?_ | refine below_drewN ?_ _ | refine Below.alloc ?_ (by simp; try omega) _ | refine Below.setCell ?_ (by simp; try omega) _))⟩
  have h18' : ¬ (18 : Int) < (t.size : Int) := by omega
  have htn : (Lib.trimPrefix s.data.toList [45]).length ≤ 18 := by omega
  have HTN := Lib.hid htn
  clear htn htl h18 h19
  have HPW := Lib.hid ht
  obtain ⟨_, ⟨te, pe, hE⟩, ⟨tr, pr, hR⟩, _⟩ := ht
  have HE := Lib.hid hE
  have HR := Lib.hid hR
  clear hE hR
  cases hp : Lib.parseIntB 64 s.data.toList
  · rename_i v
    have HP := Lib.hid (fun W => Tryz.strconv_ParseInt_10_at64_ok s (by omega) v hp W)
    have hb64 := Lib.parseIntB_bounds hp
    have HD := Lib.hid (fun W (hb : Below w.heap.size w W) => decimal_all v W (by have := hb64.1; simp at this; omega) (by have := hb64.2; simp at this; omega) (HPW.out.below hb).1)
    clear hb64
    by_cases hd : dec v = s
    · have HY := Lib.hid (numRes_yes (rd_of hd HTN.out))
      clear hp
      go_enter Tryz.func48, Tryz.ntmps48
      go_wp2_with (first | (go_at_call 60; refine (HTR.out _).mono ?_; rintro e w ⟨rfl, rfl⟩) | (go_at_call 61; refine (HP.out _).mono ?_; rintro e w2 ⟨rfl, hq⟩; have HB : Hid (Below w.heap.size w w2) := Lib.hid (by rcases hq with rfl | ⟨_, rfl⟩; exact Below.refl _ _; exact Lib.bytesWorld_below _ _ _); clear hq) | (go_at_call 46; refine (HD.out _ HB.out).mono ?_; rintro e w3 ⟨rfl, hb3⟩; have HB3 := Lib.hid (HB.out.trans (hb3.mono HB.out.size)); clear hb3))
      go_ret2
      exact ⟨⟨v, true, HY.out, rfl⟩, HB3.out⟩
    · have HN := Lib.hid (numRes_no (s := s) (no_dec hp hd))
      have e1 : ((dec v).toList == s.toList) = false := toList_ne hd
      clear hp
      go_enter Tryz.func48, Tryz.ntmps48
      go_wp2_with (first | (go_at_call 60; refine (HTR.out _).mono ?_; rintro e w ⟨rfl, rfl⟩) | (go_at_call 61; refine (HP.out _).mono ?_; rintro e w2 ⟨rfl, hq⟩; have HB : Hid (Below w.heap.size w w2) := Lib.hid (by rcases hq with rfl | ⟨_, rfl⟩; exact Below.refl _ _; exact Lib.bytesWorld_below _ _ _); clear hq) | (go_at_call 46; refine (HD.out _ HB.out).mono ?_; rintro e w3 ⟨rfl, hb3⟩; have HB3 := Lib.hid (HB.out.trans (hb3.mono HB.out.size)); clear hb3))
      go_ret2
      exact ⟨⟨0, false, HN.out, rfl⟩, HB3.out⟩
  · have HN := Lib.hid (numRes_no (s := s) (no_parse (by simp [hp])))
    have HP := Lib.hid (fun W hv => Tryz.strconv_ParseInt_10_at64_bad s (by omega) hp (.iface te pe) W hv (.inr ⟨te, pe, rfl⟩))
    clear hp
    go_enter Tryz.func48, Tryz.ntmps48
    go_wp2_with (first | (go_at_call 60; refine (HTR.out _).mono ?_; rintro e w ⟨rfl, rfl⟩) | (go_at_call 61; refine (HP.out _ HE.out).mono ?_; rintro e w2 ⟨N, rfl, hz, _, hb⟩; have HB := Lib.hid hb; clear hb))
    go_ret2
    exact ⟨⟨0, false, HN.out, rfl⟩, HB.out⟩
  · have HN := Lib.hid (numRes_no (s := s) (no_parse (by simp [hp])))
    have HP := Lib.hid (fun W hv => Tryz.strconv_ParseInt_10_at64_range s (by omega) hp (.iface tr pr) W hv (.inr ⟨tr, pr, rfl⟩))
    clear hp
    generalize Lib.intSat 64 s.data.toList = sat at HP
    go_enter Tryz.func48, Tryz.ntmps48
    go_wp2_with (first | (go_at_call 60; refine (HTR.out _).mono ?_; rintro e w ⟨rfl, rfl⟩) | (go_at_call 61; refine (HP.out _ HR.out).mono ?_; rintro e w2 ⟨N, rfl, hz, _, hb⟩; have HB := Lib.hid hb; clear hb))
    go_ret2
    exact ⟨⟨0, false, HN.out, rfl⟩, HB.out⟩

theorem readDecimal_any (s : ByteArray) (w : World) (hs : s.size ≤ 1048576) (ht : Tabs w) (v : Int) (b : Bool) (hv : NumRes s v b) :
    Calls Tryz.prog 48 #[.string s] w fun e w' => e = .returned (.tuple #[.int .i64 v, .bool b]) ∧ Below w.heap.size w w' := by
  refine (readDecimal_ex s w hs ht).mono ?_
  rintro e w' ⟨⟨v', b', h', rfl⟩, hb⟩
  obtain ⟨rfl, rfl⟩ := hv.same h'
  exact ⟨rfl, hb⟩
end Go.Proofs.YtfkojbkgpbpjhaaGreatDoor
