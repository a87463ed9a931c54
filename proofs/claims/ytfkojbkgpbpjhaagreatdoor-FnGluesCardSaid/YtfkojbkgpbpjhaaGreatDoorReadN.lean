/-
  Contracts of the reading of a number, both sides. No condition of its own.
-/
import Derived.Test.YtfkojbkgpbpjhaaGreatDoorReadP
import Derived.Test.YtfkojbkgpbpjhaaGreatDoorShelfP
import Derived.WalkLawsBesides
namespace Go.Proofs.YtfkojbkgpbpjhaaGreatDoor
open Go.ChangeShapes Go.WideShapes Go.ChangeAt Go.RowKit Go.Deep Go.Shelf Go.Sort

theorem decimal_all (n : Int) (w : World) (h0 : -9223372036854775808 ≤ n) (h1 : n ≤ 9223372036854775807) (ht : Pow w) :
    Calls Tryz.prog 46 #[.int .i64 n] w fun e w' => e = .returned (.string (dec n)) ∧ Below w.heap.size w w' := by
  have HF := Lib.hid (Tryz.strconv_FormatInt_10 n (by omega) (by omega) w ht)
  clear ht
  go_enter Tryz.func46, Tryz.ntmps46
  go_wp2_with fail
  refine HF.out.mono ?_
  rintro e w1 ⟨rfl, k, os, rfl⟩
  have HB := Lib.hid (Lib.below_grow w.heap.size w (Nat.le_refl _) k os)
  go_wp2_with fail
  go_ret
  exact ⟨rfl, HB.out⟩

set_option maxRecDepth 100000 in
set_option maxHeartbeats 3200000 in
theorem l01Dec_neg (n : Nat) (w : World) (hp : 0 < n) (hn : n < 1000000000000000000) :
    Calls Tryz.prog 62 #[.int .i64 (-(n : Int))] w fun e w' => e = .returned (.string (dec (-(n : Int)))) ∧ Below w.heap.size w w' := by
  have HE := Lib.hid (show dec (-(n : Int)) = ⟨(45 :: Lib.decDigits n).toArray⟩ by
    unfold dec Lib.itoa
    rw [if_pos (by omega), show (-(n : Int)).natAbs = n by omega])
  obtain ⟨i8, hi8, hz0, hz1, hz2⟩ := info_parts infoU8
  have HO := Lib.hid (own_none w 5 1)
  have HB := Lib.hid ((Bel.refl w).alloc (.cells #[] 5))
  go_enter Tryz.func62, Tryz.ntmps62
  go_wp2_with fail
  go_loopw [3, 4, 5] (fun v t _ wr => ∃ (k g c : Nat) (l : List UInt8), t = .int .i64 (-(k : Int)) ∧ v = .slice (some ⟨g, 0, none⟩) l.length c ∧ k ≤ n ∧ Hid (DecInv n k l) ∧ Hid (wr.ownsRow w.heap.size 5 1 (.slice (some ⟨g, 0, none⟩) l.length c) l.length (u8s l)) ∧ Hid (Bel w.heap.size w wr)) (fun _ t _ _ => (-(intOf t)).toNat)
  case atStart => exact ⟨n, w.heap.size, 0, [], rfl, rfl, Nat.le_refl _, Lib.hid (decInv_start n), Lib.hid (by simpa [u8s] using HO.out), HB⟩
  case round =>
    obtain ⟨k, g, c, l, rfl, rfl, hkn, hinv, hown, hbw⟩ := hrel
    have hlen := decInv_len hinv.out (by omega)
    by_cases hk : 0 < k
    · have hkne : (-(k : Int) != 0) = true := by simp; omega
      have hw8 : IntKind.u8.wrap (48 + (k : Int) % 10) = 48 + (k : Int) % 10 := by
        have e1 : IntKind.u8.wrap (48 + (k : Int) % 10) = (48 + (k : Int) % 10) % 256 := by simp [IntKind.wrap, IntKind.signed, IntKind.bits]
        rw [e1]; omega
      have hbt := Lib.hid (show 48 + (k : Int) % 10 = ((UInt8.ofNat (48 + k % 10)).toNat : Int) by
        rw [UInt8.toNat_ofNat', Nat.mod_eq_of_lt (by omega)]; omega)
      have hm : (-(k : Int)).tmod 10 = -((k : Int) % 10) := by
        rw [Int.neg_tmod, Int.tmod_eq_emod_of_nonneg (by omega)]
      have hq : (-(k : Int)).tdiv 10 = -((k / 10 : Nat) : Int) := by
        rw [Int.neg_tdiv, Int.tdiv_eq_ediv_of_nonneg (by omega)]; omega
      have hm0 : 0 ≤ (k : Int) % 10 := by omega
      have hm1 : (k : Int) % 10 ≤ 9 := by omega
      have hq1 : ((k / 10 : Nat) : Int) ≤ 9223372036854775807 := by omega
      rcases Nat.eq_zero_or_pos (k % 10) with h10 | h10
      · have hz : (k : Int) % 10 = 0 := by omega
        have hb0 := Lib.hid (show (48 : Int) = ((UInt8.ofNat (48 + k % 10)).toNat : Int) by have := hbt.out; omega)
        go_wp2_with (at_builtin; refine appPre (by rfl) _ _ (by rfl) w.heap.size (UInt8.ofNat (48 + k % 10)) _ hb0.out l g c (by rfl) (by rfl) hown.out (by omega) hbw.out ?_; intro g5 cap5 w5 ho5 hb5; have Ho5 := Lib.hid ho5; have Hb5 := Lib.hid hb5; clear ho5 hb5)
        go_roundw
        case rel => exact ⟨k / 10, g5, cap5, UInt8.ofNat (48 + k % 10) :: l, rfl, rfl, by omega, Lib.hid (decInv_step hinv.out hk), Ho5, Hb5⟩
        case measure =>
          simp [intOf]; omega
      · have hz : -((k : Int) % 10) < 0 := by omega
        go_wp2_with (at_builtin; refine appPre (by rfl) _ _ (by rfl) w.heap.size (UInt8.ofNat (48 + k % 10)) _ hbt.out l g c (by rfl) (by rfl) hown.out (by omega) hbw.out ?_; intro g5 cap5 w5 ho5 hb5; have Ho5 := Lib.hid ho5; have Hb5 := Lib.hid hb5; clear ho5 hb5)
        go_roundw
        case rel => exact ⟨k / 10, g5, cap5, UInt8.ofNat (48 + k % 10) :: l, rfl, rfl, by omega, Lib.hid (decInv_step hinv.out hk), Ho5, Hb5⟩
        case measure =>
          simp [intOf]; omega
    · have hk0 : k = 0 := by omega
      subst hk0
      rcases decInv_end hinv.out with ⟨rfl, rfl⟩ | ⟨h1, h2, rfl⟩
      · omega
      · have hne : (((Lib.decDigits n).length : Int) == 0) = false := by rw [beq_eq_false_iff_ne]; omega
        have hn0 : -(n : Int) < 0 := by omega
        have hs1 : (⟨#[45]⟩ : ByteArray) ++ ⟨(Lib.decDigits n).toArray⟩ = ⟨(45 :: Lib.decDigits n).toArray⟩ := by
          apply ByteArray.ext
          simp
        have hrun := run_convert_bytes_back (P := Tryz.prog) wr 22 9 5 ⟨g, 0, none⟩ c (Lib.decDigits n) Tryz.underlying22 (by kernel_rfl) (by kernel_rfl) (by
          intro j hj
          refine own_cells_add hown.out j _ ?_
          simp [u8s, hj])
        go_wp2_with fail
        go_ret
        exact ⟨by rw [HE.out, ← hs1]; rfl, hbw.out.1⟩
theorem l01Dec_all (n : Int) (w : World) (h0 : -1000000000000000000 < n) (h1 : n < 1000000000000000000) :
    Calls Tryz.prog 62 #[.int .i64 n] w fun e w' => e = .returned (.string (dec n)) ∧ Below w.heap.size w w' := by
  by_cases h : n < 0
  · obtain ⟨m, rfl⟩ : ∃ m : Nat, n = -(m : Int) := ⟨n.natAbs, by omega⟩
    exact l01Dec_neg m w (by omega) (by omega)
  · exact l01Dec_any n w (by omega) (by omega)

theorem l01Digit_any (b : UInt8) (w : World) : Calls Tryz.prog 64 #[.int .u8 (b.toNat : Int)] w fun e w' => e = .returned (.bool (Lib.digitVal b).isSome) ∧ w = w' := by
  have hb := b.toNat_lt
  by_cases h : 48 ≤ b.toNat
  · by_cases h' : b.toNat ≤ 57
    · have e := Lib.hid (show (Lib.digitVal b).isSome = true by unfold Lib.digitVal; rw [if_pos ⟨h, h'⟩]; rfl)
      have h1 : (48 : Int) ≤ (b.toNat : Int) := by omega
      have h2 : (b.toNat : Int) ≤ 57 := by omega
      clear h h' hb
      go_enter Tryz.func64, Tryz.ntmps64
      go_wp2
      go_ret
      exact ⟨by rw [e.out]; rfl, rfl⟩
    · have e := Lib.hid (show (Lib.digitVal b).isSome = false by unfold Lib.digitVal; rw [if_neg (fun h => h' h.2)]; rfl)
      have h1 : (48 : Int) ≤ (b.toNat : Int) := by omega
      have h2 : ¬ (b.toNat : Int) ≤ 57 := by omega
      clear h h' hb
      go_enter Tryz.func64, Tryz.ntmps64
      go_wp2
      go_ret
      exact ⟨by rw [e.out]; rfl, rfl⟩
  · have e := Lib.hid (show (Lib.digitVal b).isSome = false by unfold Lib.digitVal; rw [if_neg (fun h' => h h'.1)]; rfl)
    have h1 : ¬ (48 : Int) ≤ (b.toNat : Int) := by omega
    clear h hb
    go_enter Tryz.func64, Tryz.ntmps64
    go_wp2
    go_ret
    exact ⟨by rw [e.out]; rfl, rfl⟩
end Go.Proofs.YtfkojbkgpbpjhaaGreatDoor
