/-
  The contract of the parts of a text of the specification (l01Split). No condition of its own.
-/
import Derived.Test.YtfkojbkgpbpjhaaGreatDoorSplitP
import Derived.Test.YtfkojbkgpbpjhaaGreatDoorNumT
namespace Go.Proofs.YtfkojbkgpbpjhaaGreatDoor
open Go.ChangeShapes Go.WideShapes Go.ChangeAt Go.RowKit Go.Deep Go.Shelf Go.Sort

theorem splitInv_len {s : ByteArray} {c : UInt8} {done : List ByteArray} {f i : Nat} (h : SplitInv s c done f i) : done.length ≤ s.size := by
  have h1 := congrArg List.length h.1
  rw [List.length_append, List.length_map, splitC_len] at h1
  have h2 : (splitC c (s.data.toList.drop f)).length ≥ 1 := by rw [splitC_len]; omega
  have h3 := List.count_le_length (a := c) (l := s.data.toList)
  rw [← Lib.size_eq] at h3
  omega

set_option maxRecDepth 100000 in
set_option maxHeartbeats 6400000 in
theorem l01Split_any (s : ByteArray) (c : UInt8) (w : World) (hs : s.size ≤ 1048576) :
    Calls Tryz.prog 52 #[.string s, .int .u8 (c.toNat : Int)] w fun e w' => ∃ g cap, e = .returned (.slice (some ⟨g, 0, none⟩) ((partsC c s).length) cap) ∧ w'.ownsRow w.heap.size 9 1 (.slice (some ⟨g, 0, none⟩) ((partsC c s).length) cap) ((partsC c s).length) (strs (partsC c s)) ∧ Bel w.heap.size w w' := by
  obtain ⟨i9, hi9, hz0, hz1, hz2⟩ := info_parts infoStr
  have HO := Lib.hid (own_none_str w)
  have HB := Lib.hid ((Bel.refl w).alloc (.cells #[] 9))
  go_enter Tryz.func52, Tryz.ntmps52
  go_wp2_with fail
  go_loopw [5, 6, 7] (fun v x u wr => ∃ (i f g cc : Nat) (done : List ByteArray), i ≤ s.size ∧ f ≤ i ∧ u = .int .i64 (i : Int) ∧ x = .int .i64 (f : Int) ∧ v = .slice (some ⟨g, 0, none⟩) done.length cc ∧ Hid (SplitInv s c done f i) ∧ Hid (wr.ownsRow w.heap.size 9 1 (.slice (some ⟨g, 0, none⟩) done.length cc) done.length (strs done)) ∧ Hid (Bel w.heap.size w wr)) (fun _ _ u _ => s.size - (intOf u).toNat)
  case atStart => exact ⟨0, 0, w.heap.size, 0, [], by omega, by omega, rfl, rfl, rfl, Lib.hid (splitInv_start s c), Lib.hid (by simpa [strs] using HO.out), HB⟩
  case round =>
    obtain ⟨i, f, g, cc, done, hin, hfi, rfl, rfl, rfl, hinv, hown, hbw⟩ := hrel
    have hdl := splitInv_len hinv.out
    by_cases hlt : i < s.size
    · have hlt' : (i : Int) < (s.size : Int) := by omega
      have hfi' : (f : Int) ≤ (i : Int) := by omega
      by_cases hb : s[i]'hlt = c
      · have hbe : ((s[i]'hlt).toNat : Int) = (c.toNat : Int) := by rw [hb]
        have HC := Lib.hid (hinv.out.cut (by rw [list_at hlt, hb]))
        clear hb
        go_wp2_with (at_builtin; refine appStr (by rfl) _ _ (by rfl) w.heap.size _ done.length done (by rfl) hown.out (s.extract f i) 1 (by rfl) (by omega) hbw.out ?_; intro g5 cap5 w5 ho5 hb5; have Ho5 := Lib.hid ho5; have Hb5 := Lib.hid hb5; clear ho5 hb5)
        go_roundw
        case rel => exact ⟨i + 1, i + 1, g5, cap5, done ++ [s.extract f i], by omega, by omega, by go_num, by go_num, by simp, HC, by simpa using Ho5, Hb5⟩
        case measure =>
          simp [intOf]; omega
      · have hbe : ¬ ((s[i]'hlt).toNat : Int) = (c.toNat : Int) := fun e => hb (UInt8.toNat_inj.1 (by omega))
        have HC := Lib.hid (hinv.out.skip (list_at hlt) hb)
        clear hb
        go_wp2_with fail
        go_roundw
        case rel => exact ⟨i + 1, f, g, cc, done, by omega, by omega, by go_num, rfl, rfl, HC, hown, hbw⟩
        case measure =>
          simp [intOf]; omega
    · obtain rfl : i = s.size := by omega
      have HF := Lib.hid (hinv.out.finish (Nat.le_refl _))
      have HF2 := Lib.hid (show done.length + 1 = (partsC c s).length by rw [← HF.out]; simp)
      have hfi' : (f : Int) ≤ (s.size : Int) := by omega
      go_wp2_with (at_builtin; refine appStr (by rfl) _ _ (by rfl) w.heap.size _ done.length done (by rfl) hown.out (s.extract f s.size) 1 (by rfl) (by omega) hbw.out ?_; intro g5 cap5 w5 ho5 hb5; have Ho5 := Lib.hid ho5; have Hb5 := Lib.hid hb5; clear ho5 hb5)
      go_ret
      exact ⟨g5, cap5, by rw [← HF2.out]; rfl, by rw [← HF2.out, ← HF.out]; exact Ho5.out, Hb5.out⟩
end Go.Proofs.YtfkojbkgpbpjhaaGreatDoor
