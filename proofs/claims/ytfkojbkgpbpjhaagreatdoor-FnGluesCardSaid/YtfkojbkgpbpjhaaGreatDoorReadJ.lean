/-
  The contract of the reading of a number of the specification. No condition of its own.
-/
import Derived.Test.YtfkojbkgpbpjhaaGreatDoorReadI
namespace Go.Proofs.YtfkojbkgpbpjhaaGreatDoor
open Go.ChangeShapes Go.WideShapes Go.ChangeAt Go.RowKit Go.Deep Go.Shelf Go.Sort

theorem list_at {t : ByteArray} {k : Nat} (h : k < t.size) : t.data.toList[k]? = some (t[k]'h) := by
  rw [Array.getElem?_toList, Array.getElem?_eq_getElem (by exact h)]
  rfl
theorem val_take {T : ByteArray} {k v : Nat} (h : Lib.decFrom 0 (T.data.toList.take k) = some v) : v < 10 ^ k := by
  have h1 := Lib.decFrom_lt _ 0 v h
  have h2 : 10 ^ (T.data.toList.take k).length ≤ 10 ^ k := Nat.pow_le_pow_right (by decide) (by rw [List.length_take]; omega)
  omega
theorem val17 {k v : Nat} (h : v < 10 ^ k) (hk : k ≤ 17) : v < 100000000000000000 := by
  have h2 : 10 ^ k ≤ 10 ^ 17 := Nat.pow_le_pow_right (by decide) hk
  have e : (10 : Nat) ^ 17 = 100000000000000000 := by decide
  omega
theorem digit_is {b : UInt8} {d : Nat} (h : Lib.digitVal b = some d) : 48 ≤ b.toNat ∧ b.toNat ≤ 57 ∧ d = b.toNat - 48 := by
  unfold Lib.digitVal at h
  split at h
  · rename_i h'
    exact ⟨h'.1, h'.2, (Option.some.inj h).symm⟩
  · cases h

/-- How a reading of a number ends. -/
def NumPost (s : ByteArray) (e : Ending) : Prop := ∃ v b, NumRes s v b ∧ e = .returned (.tuple #[.int .i64 v, .bool b])

set_option maxRecDepth 100000 in
set_option maxHeartbeats 6400000 in
theorem l01Number_ex (s : ByteArray) (w : World) (hs : s.size ≤ 1048576) :
    Calls Tryz.prog 53 #[.string s] w fun e w' => NumPost s e ∧ Below w.heap.size w w' := by
  by_cases h0 : s.size = 0
  · obtain rfl : s = ⟨#[]⟩ := by
      have := ba_ext (s := s) (l := []) (by have h := Lib.size_eq s; rw [h0] at h; exact List.length_eq_zero_iff.1 h.symm)
      exact this
    have HN := Lib.hid (numRes_no (s := ⟨#[]⟩) (no_unsign (.inl (by decide))))
    go_enter Tryz.func53, Tryz.ntmps53
    go_wp2
    go_ret2
    exact ⟨⟨0, false, HN.out, rfl⟩, (by repeat (first | exact Below.refl _ _ | assumption | refine Below.drew ?_ | refine below_drewN ?_ _ | refine Below.alloc ?_ (by simp; try omega) _ | refine Below.setCell ?_ (by simp; try omega) _))⟩
  have hp : 0 < s.size := by omega
  have hne0 : ¬ s.toList = [] := fun e => h0 (by rw [Lib.size_eq, ← Lib.toList_data, e]; rfl)
  have hne : s.toList.isEmpty = false := by simpa using hne0
  have hhd := list_at hp
  cases h45 : ((s[0]'hp).toNat : Int) == 45 with
  | true =>
    have HU : Hid (unsign s = s.extract 1 s.size) := Lib.hid (by
      unfold unsign
      rw [if_pos]
      rw [List.head?_eq_getElem?, hhd]
      have h := beq_iff_eq.1 h45
      have : (s[0]'hp).toNat = (45 : UInt8).toNat := by show _ = 45; omega
      rw [UInt8.toNat_inj.1 this])
    obtain ⟨t, ht⟩ : ∃ t, s.extract 1 s.size = t := ⟨_, rfl⟩
    rw [ht] at HU
    have htl : t.size < s.size := by
      rw [← HU.out, unsign_lt]
      rw [List.head?_eq_getElem?, hhd]
      have h := beq_iff_eq.1 h45
      have : (s[0]'hp).toNat = (45 : UInt8).toNat := by show _ = 45; omega
      rw [UInt8.toNat_inj.1 this]
    have htl' : (t.size : Int) < (s.size : Int) := by omega
    clear hhd h0
    by_cases hz0 : t.size = 0
    · have HN := Lib.hid (numRes_no (s := s) (no_unsign (by rw [HU.out]; omega)))
      have hz1 : (t.size : Int) < 1 := by omega
      clear hz0
      go_enter Tryz.func53, Tryz.ntmps53
      go_wp2
      go_ret2
      exact ⟨⟨0, false, HN.out, rfl⟩, (by repeat (first | exact Below.refl _ _ | assumption | refine Below.drew ?_ | refine below_drewN ?_ _ | refine Below.alloc ?_ (by simp; try omega) _ | refine Below.setCell ?_ (by simp; try omega) _))⟩
    have hz1 : ¬ (t.size : Int) < 1 := by omega
    by_cases h18 : 18 < t.size
    · have HN := Lib.hid (numRes_no (s := s) (no_unsign (by rw [HU.out]; omega)))
      have hz2 : (18 : Int) < (t.size : Int) := by omega
      clear hz0 h18
      go_enter Tryz.func53, Tryz.ntmps53
      go_wp2
      go_ret2
      exact ⟨⟨0, false, HN.out, rfl⟩, (by repeat (first | exact Below.refl _ _ | assumption | refine Below.drew ?_ | refine below_drewN ?_ _ | refine Below.alloc ?_ (by simp; try omega) _ | refine Below.setCell ?_ (by simp; try omega) _))⟩
    have hz2 : ¬ (18 : Int) < (t.size : Int) := by omega
    clear hz0
    have HL18 := Lib.hid (show t.size ≤ 18 by omega)
    clear h18
    go_enter Tryz.func53, Tryz.ntmps53
    go_wp2
    go_loop [5, 6] (fun n i => ∃ k v : Nat, i = .int .i64 k ∧ n = .int .i64 v ∧ k ≤ t.size ∧ Hid (Lib.decFrom 0 (t.data.toList.take k) = some v)) (fun _ i => t.size - (intOf i).toNat)
    case atStart => exact ⟨0, 0, rfl, rfl, Nat.zero_le _, Lib.hid rfl⟩
    case round =>
      obtain ⟨k, v, rfl, rfl, hk, hv⟩ := hrel
      have hvb := val_take (T := t) (k := k) hv.out
      by_cases hlt : k < t.size
      · have hv17 : (v : Int) < 100000000000000000 := by have := val17 hvb (by have := HL18.out; omega); omega
        have hk17 : (k : Int) ≤ 17 := by have := HL18.out; omega
        have hlt' : (k : Int) < (t.size : Int) := by omega
        clear hvb
        cases hd : Lib.digitVal (t[k]'hlt) with
        | none =>
          have HN := Lib.hid (numRes_no (s := s) (no_digit (k := k) (by rw [HU.out]; exact list_at hlt) hd))
          have HD := Lib.hid (fun W => l01Digit_any (t[k]'hlt) W)
          rw [hd] at HD
          clear hd
          go_wp2_with (go_at_call 64; refine (HD.out _).mono ?_; rintro e w1 ⟨rfl, rfl⟩)
          go_ret2
          exact ⟨⟨0, false, HN.out, rfl⟩, (by repeat (first | exact Below.refl _ _ | assumption | refine Below.drew ?_ | refine below_drewN ?_ _ | refine Below.alloc ?_ (by simp; try omega) _ | refine Below.setCell ?_ (by simp; try omega) _))⟩
        | some d =>
          have HD := Lib.hid (fun W => l01Digit_any (t[k]'hlt) W)
          rw [hd] at HD
          obtain ⟨hb1, hb2, hbd⟩ := digit_is hd
          have HS := Lib.hid (Lib.decFrom_take _ k 0 v _ d hv.out (list_at hlt) hd)
          have hb1' : (48 : Int) ≤ ((t[k]'hlt).toNat : Int) := by omega
          have hb2' : ((t[k]'hlt).toNat : Int) ≤ 57 := by omega
          have hz48 : ((t[k]'hlt).toNat : Int) - 48 = (d : Int) := by omega
          have hd9 : (d : Int) ≤ 9 := by omega
          have hdv := Lib.hid hz48
          clear hd hb1 hb2 hbd
          go_wp2_with (go_at_call 64; refine (HD.out _).mono ?_; rintro e w1 ⟨rfl, rfl⟩)
          go_round
          case rel => exact ⟨k + 1, v * 10 + d, by go_num, by first | (go_num; done) | (congr 1; omega), by omega, HS⟩
          case measure => simp [intOf]; omega
      · have hkl : k = t.size := by omega
        have hall : Lib.decFrom 0 (unsign s).data.toList = some v := by
          rw [HU.out]
          have h := hv.out
          rw [hkl, Lib.size_eq, List.take_length] at h
          exact h
        have hvl := val_lt (by rw [HU.out]; exact HL18.out) hall
        have hsg : signed18 s v = -(v : Int) := by unfold signed18; rw [HU.out]; exact if_pos htl
        have HV := Lib.hid (fun W => l01Dec_all (-(v : Int)) W (by omega) (by omega))
        have hv18 : (v : Int) < 1000000000000000000 := by omega
        clear hvb
        by_cases hd : dec (-(v : Int)) = s
        · have HY := Lib.hid (numRes_yes (rd_of hd (by rw [← unsign_list, HU.out, ← Lib.size_eq]; exact HL18.out)))
          clear hall hvl hsg
          go_wp2_with (go_at_call 62; refine (HV.out _).mono ?_; rintro e w1 ⟨rfl, hb⟩; have HB := Lib.hid hb; clear hb)
          go_ret2
          exact ⟨⟨_, true, HY.out, rfl⟩, HB.out⟩
        · have HN := Lib.hid (numRes_no (s := s) (no_value hall (by rw [hsg]; exact hd)))
          have e1 : ((dec (-(v : Int))).toList == s.toList) = false := toList_ne hd
          clear hall hvl hsg
          go_wp2_with (go_at_call 62; refine (HV.out _).mono ?_; rintro e w1 ⟨rfl, hb⟩; have HB := Lib.hid hb; clear hb)
          go_ret2
          exact ⟨⟨0, false, HN.out, rfl⟩, HB.out⟩
  | false =>
    have HU : Hid (unsign s = s) := Lib.hid (by
      unfold unsign
      rw [if_neg]
      rw [List.head?_eq_getElem?, hhd]
      intro e
      have e := Option.some.inj e
      rw [e] at h45
      cases h45)
    clear hhd h0
    by_cases hz0 : s.size = 0
    · have HN := Lib.hid (numRes_no (s := s) (no_unsign (by rw [HU.out]; omega)))
      have hz1 : (s.size : Int) < 1 := by omega
      clear hz0
      go_enter Tryz.func53, Tryz.ntmps53
      go_wp2
      go_ret2
      exact ⟨⟨0, false, HN.out, rfl⟩, (by repeat (first | exact Below.refl _ _ | assumption | refine Below.drew ?_ | refine below_drewN ?_ _ | refine Below.alloc ?_ (by simp; try omega) _ | refine Below.setCell ?_ (by simp; try omega) _))⟩
    have hz1 : ¬ (s.size : Int) < 1 := by omega
    by_cases h18 : 18 < s.size
    · have HN := Lib.hid (numRes_no (s := s) (no_unsign (by rw [HU.out]; omega)))
      have hz2 : (18 : Int) < (s.size : Int) := by omega
      clear hz0 h18
      go_enter Tryz.func53, Tryz.ntmps53
      go_wp2
      go_ret2
      exact ⟨⟨0, false, HN.out, rfl⟩, (by repeat (first | exact Below.refl _ _ | assumption | refine Below.drew ?_ | refine below_drewN ?_ _ | refine Below.alloc ?_ (by simp; try omega) _ | refine Below.setCell ?_ (by simp; try omega) _))⟩
    have hz2 : ¬ (18 : Int) < (s.size : Int) := by omega
    clear hz0
    have HL18 := Lib.hid (show s.size ≤ 18 by omega)
    clear h18
    go_enter Tryz.func53, Tryz.ntmps53
    go_wp2
    go_loop [5, 6] (fun n i => ∃ k v : Nat, i = .int .i64 k ∧ n = .int .i64 v ∧ k ≤ s.size ∧ Hid (Lib.decFrom 0 (s.data.toList.take k) = some v)) (fun _ i => s.size - (intOf i).toNat)
    case atStart => exact ⟨0, 0, rfl, rfl, Nat.zero_le _, Lib.hid rfl⟩
    case round =>
      obtain ⟨k, v, rfl, rfl, hk, hv⟩ := hrel
      have hvb := val_take (T := s) (k := k) hv.out
      by_cases hlt : k < s.size
      · have hv17 : (v : Int) < 100000000000000000 := by have := val17 hvb (by have := HL18.out; omega); omega
        have hk17 : (k : Int) ≤ 17 := by have := HL18.out; omega
        have hlt' : (k : Int) < (s.size : Int) := by omega
        clear hvb
        cases hd : Lib.digitVal (s[k]'hlt) with
        | none =>
          have HN := Lib.hid (numRes_no (s := s) (no_digit (k := k) (by rw [HU.out]; exact list_at hlt) hd))
          have HD := Lib.hid (fun W => l01Digit_any (s[k]'hlt) W)
          rw [hd] at HD
          clear hd
          go_wp2_with (go_at_call 64; refine (HD.out _).mono ?_; rintro e w1 ⟨rfl, rfl⟩)
          go_ret2
          exact ⟨⟨0, false, HN.out, rfl⟩, (by repeat (first | exact Below.refl _ _ | assumption | refine Below.drew ?_ | refine below_drewN ?_ _ | refine Below.alloc ?_ (by simp; try omega) _ | refine Below.setCell ?_ (by simp; try omega) _))⟩
        | some d =>
          have HD := Lib.hid (fun W => l01Digit_any (s[k]'hlt) W)
          rw [hd] at HD
          obtain ⟨hb1, hb2, hbd⟩ := digit_is hd
          have HS := Lib.hid (Lib.decFrom_take _ k 0 v _ d hv.out (list_at hlt) hd)
          have hb1' : (48 : Int) ≤ ((s[k]'hlt).toNat : Int) := by omega
          have hb2' : ((s[k]'hlt).toNat : Int) ≤ 57 := by omega
          have hz48 : ((s[k]'hlt).toNat : Int) - 48 = (d : Int) := by omega
          have hd9 : (d : Int) ≤ 9 := by omega
          have hdv := Lib.hid hz48
          clear hd hb1 hb2 hbd
          go_wp2_with (go_at_call 64; refine (HD.out _).mono ?_; rintro e w1 ⟨rfl, rfl⟩)
          go_round
          case rel => exact ⟨k + 1, v * 10 + d, by go_num, by first | (go_num; done) | (congr 1; omega), by omega, HS⟩
          case measure => simp [intOf]; omega
      · have hkl : k = s.size := by omega
        have hall : Lib.decFrom 0 (unsign s).data.toList = some v := by
          rw [HU.out]
          have h := hv.out
          rw [hkl, Lib.size_eq, List.take_length] at h
          exact h
        have hvl := val_lt (by rw [HU.out]; exact HL18.out) hall
        have hsg : signed18 s v = (v : Int) := by unfold signed18; rw [HU.out]; exact if_neg (Nat.lt_irrefl _)
        have HV := Lib.hid (fun W => l01Dec_all ((v : Int)) W (by omega) (by omega))
        have hv18 : (v : Int) < 1000000000000000000 := by omega
        clear hvb
        by_cases hd : dec ((v : Int)) = s
        · have HY := Lib.hid (numRes_yes (rd_of hd (by rw [← unsign_list, HU.out, ← Lib.size_eq]; exact HL18.out)))
          clear hall hvl hsg
          go_wp2_with (go_at_call 62; refine (HV.out _).mono ?_; rintro e w1 ⟨rfl, hb⟩; have HB := Lib.hid hb; clear hb)
          go_ret2
          exact ⟨⟨_, true, HY.out, rfl⟩, HB.out⟩
        · have HN := Lib.hid (numRes_no (s := s) (no_value hall (by rw [hsg]; exact hd)))
          have e1 : ((dec ((v : Int))).toList == s.toList) = false := toList_ne hd
          clear hall hvl hsg
          go_wp2_with (go_at_call 62; refine (HV.out _).mono ?_; rintro e w1 ⟨rfl, hb⟩; have HB := Lib.hid hb; clear hb)
          go_ret2
          exact ⟨⟨0, false, HN.out, rfl⟩, HB.out⟩

theorem l01Number_any (s : ByteArray) (w : World) (hs : s.size ≤ 1048576) (v : Int) (b : Bool) (hv : NumRes s v b) :
    Calls Tryz.prog 53 #[.string s] w fun e w' => e = .returned (.tuple #[.int .i64 v, .bool b]) ∧ Below w.heap.size w w' := by
  refine (l01Number_ex s w hs).mono ?_
  rintro e w' ⟨⟨v', b', h', rfl⟩, hb⟩
  obtain ⟨rfl, rfl⟩ := hv.same h'
  exact ⟨rfl, hb⟩
end Go.Proofs.YtfkojbkgpbpjhaaGreatDoor
