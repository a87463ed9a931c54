/-
  The specification's text of a seam. No condition of its own.
-/
import Derived.Test.YtfkojbkgpbpjhaaDoorSeamT
namespace Go.Proofs.YtfkojbkgpbpjhaaDoor
open Go.ChangeShapes Go.WideShapes Go.ChangeAt Go.RowKit Go.Deep Go.Shelf Go.Sort

def seamA (zs : List Int) (s : Int) : Nat → ByteArray
  | 0 => ⟨#[]⟩
  | i + 1 => (if 0 < i then seamA zs s i ++ ⟨#[32]⟩ else seamA zs s i) ++ sideT s (zs.getD i 0)
theorem join_snoc (r : List (List UInt8)) (y sep : List UInt8) (h : r ≠ []) : Lib.join (r ++ [y]) sep = Lib.join r sep ++ sep ++ y := by
  match r, h with
  | x :: r, _ =>
    rw [List.cons_append, Lib.join_cons, Lib.join_cons]
    simp [Lib.joinTail]
theorem seamA_list {zs : List Int} {s : Int} {n : Nat} (hl : zs.length = n) : ∀ i, i ≤ n → (seamA zs s i).data.toList = Lib.join ((seamL zs s i).map (·.data.toList)) [32]
  | 0, _ => by simp [seamA, seamL, Lib.join_nil]
  | i + 1, h => by
    have ih := seamA_list (s := s) hl i (by omega)
    rw [seamL_next hl (show i < n by omega) rfl, seamA, List.map_append]
    by_cases h0 : 0 < i
    · rw [if_pos h0, List.map_cons, List.map_nil, join_snoc _ _ _ (by
        intro e
        have e2 : ((seamL zs s i).map (·.data.toList)).length = i := by simp [seamL]; omega
        rw [e] at e2
        simp at e2
        omega), ← ih]
      simp
    · obtain rfl : i = 0 := by omega
      simp [seamA, seamL, Lib.join_one]
theorem seamA_end {zs : List Int} {s : Int} {n : Nat} (hl : zs.length = n) : seamA zs s n = seamJ zs s := by
  apply ByteArray.ext
  apply Array.toList_inj.1
  rw [seamA_list hl n (Nat.le_refl _)]
  simp [seamJ, seamL, List.take_of_length_le (show zs.length ≤ n by omega)]
theorem seamA_size {zs : List Int} {s : Int} {n : Nat} (hz : ∀ k, k < n → 1 ≤ zs.getD k 0 ∧ zs.getD k 0 ≤ 5000) (hs : 10 ≤ s) : ∀ i, i ≤ n → (seamA zs s i).size ≤ 62 * i
  | 0, _ => Nat.le_refl 0
  | i + 1, h => by
    have ih := seamA_size hz hs i (by omega)
    have h2 := sideT_size (hz i (by omega)).1 (hz i (by omega)).2 hs
    have e : (⟨#[32]⟩ : ByteArray).size = 1 := rfl
    rw [seamA]
    split <;> simp only [ByteArray.size_append] <;> omega

set_option maxRecDepth 100000 in
set_option maxHeartbeats 6400000 in
theorem spec_SeamText (b n c : Nat) (zs : List Int) (s : Int) (w : World) (hl : zs.length = n) (hn : n ≤ 1048576) (hc : CellsAt w (some ⟨b, 0, none⟩) (zs.map (Value.int .i64))) :
    Calls Tryd.prog 29 #[.slice (some ⟨b, 0, none⟩) n c, .int .i64 s] w fun e w' => e = .returned (.string (seamT zs n s)) ∧ Below w.heap.size w w' := by
  have HV := Lib.hid (l15Code_any (some ⟨b, 0, none⟩) n c zs s w hl (by omega) hc)
  by_cases h0 : sidesC zs n s = 0
  case neg =>
    have HE := Lib.hid (show seamT zs n s = ⟨#[]⟩ by simp [seamT, h0])
    have hne : (sidesC zs n s != 0) = true := by simpa using h0
    clear hc hl
    go_enter Tryd.func29, Tryd.ntmps29
    go_wp2_with (go_at_call 70; refine HV.out.mono ?_; rintro e w1 ⟨rfl, hb1⟩; have HB1 := Lib.hid hb1; clear hb1)
    go_ret
    exact ⟨by rw [HE.out]; rfl, HB1.out⟩
  have HE := Lib.hid (show seamT zs n s = seamA zs s n by rw [seamA_end hl]; simp [seamT, h0])
  obtain ⟨hb, s1, s2⟩ := sidesC_zero h0
  obtain ⟨k1, k2⟩ := sides_n hb
  rcases hc with hc | ⟨b', off, hbe, hbs, hcc⟩
  · simp at hc; subst hc; simp at hl; omega
  cases hbe
  have HC := Lib.hid hcc
  have HS := Lib.hid (fun k (hk : k < n) => sides_at hb hl hk)
  have HL := Lib.hid hl
  rw [h0] at HV
  clear hcc hl h0 hb
  go_enter Tryd.func29, Tryd.ntmps29
  go_wp2_with (go_at_call 70; refine HV.out.mono ?_; rintro e w1 ⟨rfl, hb1⟩; have HB1 := Lib.hid (Bel.of hb1); clear hb1)
  go_loopw [5, 6] (fun v u wr => ∃ (i : Nat), i ≤ n ∧ u = .int .i64 (i : Int) ∧ v = .string (seamA zs s i) ∧ Hid (Bel w.heap.size w wr)) (fun _ u _ => n - (intOf u).toNat)
  case atStart => exact ⟨0, by omega, rfl, rfl, HB1⟩
  case round =>
    obtain ⟨i, hin, rfl, rfl, hbw⟩ := hrel
    by_cases hlt : i < n
    · have hlt' : (i : Int) < (n : Int) := by omega
      obtain ⟨z, hzz⟩ : ∃ z, zs.getD i 0 = z := ⟨_, rfl⟩
      obtain ⟨z1, z2⟩ := HS.out i hlt
      rw [hzz] at z1 z2
      have hcell : wr.cell? ⟨b, 0 + i, none⟩ = some (.int .i64 z) := cell_at1 hbs hbw.out.1 HC.out (by rw [HL.out]; exact hlt) hzz
      rw [Nat.zero_add] at hcell
      obtain ⟨q1, q2⟩ := cntI_bd (a := z) (s := s) (by omega) (by omega)
      obtain ⟨kk, hkk⟩ : ∃ kk, cntI z s = kk := ⟨_, rfl⟩
      have hA : seamA zs s (i + 1) = (if 0 < i then seamA zs s i ++ ⟨#[32]⟩ else seamA zs s i) ++ (dec kk ++ ⟨#[47]⟩ ++ dec z) := by rw [seamA, hzz, sideT, hkk]
      have hsz := seamA_size HS.out s1 i hin
      have cK := fun q os => Calls.regrown_of (d := q) (os := os) (w := wr) ((l15Count_any z s (grow (redrawn wr q) os) (by omega) (by omega) (by omega) (by omega)).mono fun _ _ ⟨he, hw⟩ => ⟨he, by rw [← hw]; exact Below.refl _ _⟩)
      rw [hkk] at cK q1 q2
      have cD : ∀ (n : Int), 0 ≤ n → n ≤ 10000 → ∀ q os, Calls Tryd.prog 71 #[.int .i64 n] (grow (redrawn wr q) os) fun e w'' => e = .returned (.string (dec n)) ∧ ∃ p : Regrown, w'' = grow (redrawn wr p.d) p.os :=
        fun n a b q os => Calls.regrown_of (l01Dec_any n _ a (by omega))
      have cx := cD kk (by omega) (by omega)
      have cz := cD z (by omega) (by omega)
      have e1 := dec_size kk (by omega) (by omega)
      have e2 := dec_size z (by omega) (by omega)
      have n1 : ¬ 9223372036854775807 < (dec kk).size + 1 := by omega
      have n2 : ¬ 9223372036854775807 < (dec kk).size + 1 + (dec z).size := by omega
      have n3 : ¬ 9223372036854775807 < (seamA zs s i).size + 1 := by omega
      have n4 : ¬ 9223372036854775807 < (seamA zs s i).size + ((dec kk).size + 1 + (dec z).size) := by omega
      have n5 : ¬ 9223372036854775807 < (seamA zs s i).size + 1 + ((dec kk).size + 1 + (dec z).size) := by omega
      have k0 := cell_regrown hcell
      have HA := Lib.hid hA
      clear hzz hkk cD hA
      by_cases hp : 0 < i
      all_goals
        have hp' := (show decide (0 < (i : Int)) = decide (0 < i) by simp)
        go_upto_region 9 with fail
        refine wp_region_quiet_below (by kernel_rfl) (by kernel_rfl) ?_
        repeat (quiet_step (first | with_reducible exact cK _ _ | with_reducible exact cx _ _ | with_reducible exact cz _ _))
        refine wpQuiet_nil ?_
        intro _ hw'
        obtain ⟨⟨dq, osq⟩, hw''⟩ := hw'
        subst hw''
        clear k0 cx cz cK
        go_wp2_with fail
        go_roundw
        case rel => exact ⟨i + 1, by omega, by go_num, by rw [HA.out]; simp [hp], Lib.hid (Bel.step hbw.out (below_regrown wr dq osq))⟩
        case measure =>
          simp [intOf]; omega
    · obtain rfl : i = n := by omega
      have hlt' : ¬ (i : Int) < (i : Int) := by omega
      go_wp2_with fail
      go_ret
      exact ⟨by rw [HE.out]; rfl, hbw.out.1⟩
end Go.Proofs.YtfkojbkgpbpjhaaDoor
