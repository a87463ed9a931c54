/-
  Contracts of NearestHeel, both sides. No condition of its own.
-/
import Derived.Test.YtlaapndncejlgaaHeights
import Derived.Test.YtlaapndncejlgaaFrac
namespace Go.Proofs.Ytlaapndncejlgaa
open Go.ChangeShapes Go.WideShapes Go.ChangeAt Go.RowKit Go.Deep Go.Shelf

def stepN (h b x : Int) : Int := if ((x - h).natAbs : Int) < ((b - h).natAbs : Int) then x else b
def nearF (zs : List Int) (n : Nat) (h : Int) : Int := if hcodeI zs n h = 0 then (segI (canP zs n 1) 0 1201).foldl (stepN h) 0 else 0
theorem fold_take {L : List Int} {h b x : Int} {k : Nat} (hb : (L.take k).foldl (stepN h) 0 = b) (hx : L[k]? = some x) : (L.take (k + 1)).foldl (stepN h) 0 = stepN h b x := by
  rw [List.take_add_one, hx, List.foldl_append, hb]
  rfl
theorem fold_seg {p : Nat → Bool} {h b : Int} {i : Nat} (hb : (segI p 0 i).foldl (stepN h) 0 = b) : (segI p 0 (i + 1)).foldl (stepN h) 0 = if p i then stepN h b i else b := by
  rw [segI_snoc, List.foldl_append, hb]
  split <;> rfl
theorem fold_one (p : Nat → Bool) (h : Int) : (segI p 0 1).foldl (stepN h) 0 = 0 := by
  simp only [segI, List.append_nil]
  split
  · simp [stepN]
  · rfl
theorem apart_any (x y : Int) (w : World) (h1 : -1000000000000 ≤ x) (h2 : x ≤ 1000000000000) (h3 : -1000000000000 ≤ y) (h4 : y ≤ 1000000000000) :
    Calls Try.prog 73 #[.int .i64 x, .int .i64 y] w fun e w' => e = .returned (.int .i64 ((x - y).natAbs : Int)) ∧ w = w' := by
  go_enter Try.func73, Try.ntmps73
  go_wp2
  all_goals
    go_ret
    exact ⟨ret_int (by omega), rfl⟩

set_option maxRecDepth 100000 in
set_option maxHeartbeats 3200000 in
theorem implNear_c (w : World) (g n c : Nat) (zs : List Int) (hl : zs.length = n * 2) (hn : n ≤ 1048576) (hc : CellsAt w (some ⟨g, 0, none⟩) (zs.map (Value.int .i64))) (m : Int) :
    Calls Try.prog 34 #[.slice (some ⟨g, 0, none⟩) n c, .int .i64 m] w fun e w' => e = .returned (.tuple #[.int .i64 (nearF zs n m), .int .i64 (hcodeI zs n m)]) ∧ Below w.heap.size w w' := by
  have h1 := stockCode_any (some ⟨g, 0, none⟩) n c zs m w hl (by omega) hc
  change Calls _ _ _ _ (fun e w' => e = .returned (.int .i64 (hcodeI zs n m)) ∧ _) at h1
  obtain ⟨r, hr⟩ : ∃ r, nearF zs n m = r := ⟨_, rfl⟩
  obtain ⟨q, hq⟩ : ∃ q, hcodeI zs n m = q := ⟨_, rfl⟩
  rw [hr, hq]
  rw [hq] at h1
  by_cases h0 : q = 0
  · subst h0
    obtain ⟨hok, m1, m2⟩ := hcode_ok hq
    have h2 := fun W (e : Below w.heap.size w W) => heights_any W g n c 1200 zs hl (hc.below e) hok (by omega)
    rw [show (((1200 : Nat) : Int)) = 1200 from rfl] at h2
    obtain ⟨L, hL⟩ : ∃ L, segI (canP zs n 1) 0 (1200 + 1) = L := ⟨_, rfl⟩
    have hr' : L.foldl (stepN m) 0 = r := by rw [← hr, ← hL]; simp [nearF, hq]
    have hlen := segI_length (canP zs n 1) 0 (1200 + 1)
    have hbd := fun x (hx : x ∈ L) => segI_bd (p := canP zs n 1) (a := 0) (d := 1200 + 1) (x := x) (by rw [hL]; exact hx)
    rw [hL] at h2 hlen
    have H1 := Lib.hid h1
    have H2 := Lib.hid h2
    have HR := Lib.hid hr'
    have HX := Lib.hid hbd
    clear h1 h2 hr hr' hq hok hl hc hL hbd
    go_enter Try.func34, Try.ntmps34
    go_wp2_with (first | (go_at_call 71; refine H1.out.mono ?_; rintro e w1 ⟨rfl, hb1⟩; have HB1 := Lib.hid (Bel.of hb1); clear hb1) | (go_at_call 72; refine (H2.out _ HB1.out.1).mono ?_; rintro e w2 ⟨aL, capL, rfl, hoL, hb2⟩; have HO := Lib.hid (own_base hoL HB1.out.2); have HB2 := Lib.hid (HB1.out.step hb2); clear hoL hb2))
    go_loopw [7, 19] (fun v u wr => ∃ k : Nat, k ≤ L.length ∧ u = .int .i64 k ∧ ∃ b : Int, v = .int .i64 b ∧ 0 ≤ b ∧ b ≤ 1200 ∧ Hid ((L.take k).foldl (stepN m) 0 = b) ∧ Hid (wr = w2)) (fun _ u _ => L.length - (intOf u).toNat)
    case atStart => exact ⟨0, Nat.zero_le _, rfl, 0, rfl, by omega, by omega, Lib.hid rfl, Lib.hid rfl⟩
    case round =>
      obtain ⟨k, hk, rfl, b, rfl, b1, b2, hb, hw⟩ := hrel
      have hw' := hw.out
      subst hw'
      by_cases hlt : k < L.length
      · rcases own_form HO.out with h0 | ⟨gL, rfl⟩
        · omega
        obtain ⟨x, hx⟩ : ∃ x, L[k]? = some x := ⟨L[k], List.getElem?_eq_getElem hlt⟩
        have hcx : wr.cell? ⟨gL, k, none⟩ = some (.int .i64 x) := by rw [HO.out.cellAt k (by omega), List.getElem?_map, hx]; rfl
        have xb := HX.out x (List.mem_of_getElem? hx)
        obtain ⟨x1, x2⟩ := xb
        have hx1 : 0 ≤ x := by simpa using x1
        have hx2 : x ≤ 1200 := by simp at x2; omega
        have hN := fold_take hb.out hx
        have c1 := fun W => apart_any x m W (by omega) (by omega) (by omega) (by omega)
        have c2 := fun W => apart_any b m W (by omega) (by omega) (by omega) (by omega)
        obtain ⟨d1, hd1⟩ : ∃ d, ((x - m).natAbs : Int) = d := ⟨_, rfl⟩
        obtain ⟨d2, hd2⟩ : ∃ d, ((b - m).natAbs : Int) = d := ⟨_, rfl⟩
        simp only [stepN, hd1, hd2] at hN
        simp only [hd1] at c1
        simp only [hd2] at c2
        have C1 := Lib.hid c1
        have C2 := Lib.hid c2
        have HN := Lib.hid hN
        clear hx c1 c2 hd1 hd2 hN x1 x2
        by_cases hlt2 : d1 < d2
        · go_wp2_with fail
          refine (C1.out _).mono ?_
          rintro e w3 ⟨rfl, rfl⟩
          go_wp2_with fail
          refine (C2.out _).mono ?_
          rintro e w3 ⟨rfl, rfl⟩
          go_wp2_with fail
          go_roundw
          case rel => exact ⟨k + 1, by omega, by go_num, x, rfl, hx1, hx2, Lib.hid (by rw [HN.out, if_pos hlt2]), Lib.hid trivial⟩
          case measure => simp [intOf]; omega
        · go_wp2_with fail
          refine (C1.out _).mono ?_
          rintro e w3 ⟨rfl, rfl⟩
          go_wp2_with fail
          refine (C2.out _).mono ?_
          rintro e w3 ⟨rfl, rfl⟩
          go_wp2_with fail
          go_roundw
          case rel => exact ⟨k + 1, by omega, by go_num, b, rfl, b1, b2, Lib.hid (by rw [HN.out, if_neg (by omega)]), Lib.hid trivial⟩
          case measure => simp [intOf]; omega
      · obtain rfl : b = r := by rw [← hb.out, ← HR.out, List.take_of_length_le (by omega)]
        go_wp2
        go_ret2
        exact ⟨rfl, HB2.out.1⟩
  · obtain rfl : r = 0 := by rw [← hr]; simp [nearF, hq, h0]
    have h0' : (q != 0) = true := by simpa using h0
    have H1 := Lib.hid h1
    clear h1 hr hq h0 hl hc
    go_enter Try.func34, Try.ntmps34
    go_wp2_with (go_at_call 71; refine H1.out.mono ?_; rintro e w1 ⟨rfl, hb1⟩)
    go_ret2
    exact ⟨rfl, hb1⟩

theorem impl_NearestHeel (w : World) (g n : Nat) (zs : List Int) (hl : zs.length = n * 2) (hn : n ≤ 1048576) (hc : CellsAt w (some ⟨g, 0, none⟩) (zs.map (Value.int .i64))) (_ : ∀ z ∈ zs, (Lit.int .i64 z).wf = true) (m : Int) (_ : (Lit.int .i64 m).wf = true) :
    Calls Try.prog 34 #[.slice (some ⟨g, 0, none⟩) n n, .int .i64 m] w fun e w' => e = .returned (.tuple #[.int .i64 (nearF zs n m), .int .i64 (hcodeI zs n m)]) ∧ Below w.heap.size w w' := implNear_c w g n n zs hl hn hc m

set_option maxRecDepth 100000 in
set_option maxHeartbeats 3200000 in
theorem spec_NearestHeel (w : World) (g n : Nat) (zs : List Int) (hl : zs.length = n * 2) (hn : n ≤ 1048576) (hc : CellsAt w (some ⟨g, 0, none⟩) (zs.map (Value.int .i64))) (_ : ∀ z ∈ zs, (Lit.int .i64 z).wf = true) (m : Int) (_ : (Lit.int .i64 m).wf = true) :
    Calls Try.prog 33 #[.slice (some ⟨g, 0, none⟩) n n, .int .i64 m] w fun e w' => e = .returned (.tuple #[.int .i64 (nearF zs n m), .int .i64 (hcodeI zs n m)]) ∧ Below w.heap.size w w' := by
  have h1 := l18Code_any (some ⟨g, 0, none⟩) n n zs m w hl (by omega) hc
  change Calls _ _ _ _ (fun e w' => e = .returned (.int .i64 (hcodeI zs n m)) ∧ _) at h1
  obtain ⟨r, hr⟩ : ∃ r, nearF zs n m = r := ⟨_, rfl⟩
  obtain ⟨q, hq⟩ : ∃ q, hcodeI zs n m = q := ⟨_, rfl⟩
  rw [hr, hq]
  rw [hq] at h1
  by_cases h0 : q = 0
  · subst h0
    obtain ⟨hok, m1, m2⟩ := hcode_ok hq
    have h2 := fun W (e : Below w.heap.size w W) => l18Few_any W g n n zs 1 hl (hc.below e) hok (by omega) (by omega)
    have hr' : (segI (canP zs n 1) 0 1201).foldl (stepN m) 0 = r := by rw [← hr]; simp [nearF, hq]
    have H1 := Lib.hid h1
    have H2 := Lib.hid h2
    have HR := Lib.hid hr'
    clear h1 h2 hr hr' hq hok hl hc
    go_enter Try.func33, Try.ntmps33
    go_wp2_with (go_at_call 68; refine H1.out.mono ?_; rintro e w1 ⟨rfl, hb1⟩; have HB1 := Lib.hid (Bel.of hb1); clear hb1)
    refine (H2.out _ HB1.out.1).mono ?_
    rintro e w2 ⟨gO, S, rfl, htab, hb2⟩
    have HT := Lib.hid htab
    have HB2 := Lib.hid (HB1.out.step hb2)
    clear htab hb2
    go_wp2
    go_loopw [8, 9] (fun v u wr => ∃ i : Nat, 1 ≤ i ∧ i ≤ 1201 ∧ u = .int .i64 i ∧ ∃ b : Int, v = .int .i64 b ∧ 0 ≤ b ∧ b ≤ 1200 ∧ Hid ((segI (canP zs n 1) 0 i).foldl (stepN m) 0 = b) ∧ Hid (wr = w2)) (fun _ u _ => 1201 - (intOf u).toNat)
    case atStart => exact ⟨1, Nat.le_refl _, by omega, rfl, 0, rfl, by omega, by omega, Lib.hid (fold_one _ _), Lib.hid rfl⟩
    case round =>
      obtain ⟨i, hi1, hi, rfl, b, rfl, b1, b2, hb, hw⟩ := hrel
      have hw' := hw.out
      subst hw'
      by_cases hlt : i < 1201
      · obtain ⟨gx, cx, k1, k2⟩ := HT.out.get (j := 0) (Nat.le_refl _) (by omega)
        have k3 := k2 i (by omega)
        obtain ⟨x, hx⟩ : ∃ x, fewT zs n 1 0 i = x := ⟨_, rfl⟩
        rw [hx] at k3
        have f4 : (0 : Int) < (n : Int) + 1 := by omega
        have f5 : (i : Int) ≤ 1200 := by omega
        have hN := fold_seg hb.out
        have c1 := fun W => l02Size_any ((i : Int) - m) W (by omega) (by omega)
        have c2 := fun W => l02Size_any (b - m) W (by omega) (by omega)
        obtain ⟨d1, hd1⟩ : ∃ d, (((i : Int) - m).natAbs : Int) = d := ⟨_, rfl⟩
        obtain ⟨d2, hd2⟩ : ∃ d, ((b - m).natAbs : Int) = d := ⟨_, rfl⟩
        simp only [stepN, hd1, hd2, canP, hx] at hN
        simp only [hd1] at c1
        simp only [hd2] at c2
        have C1 := Lib.hid c1
        have C2 := Lib.hid c2
        have HN := Lib.hid hN
        clear hx c1 c2 hd1 hd2 hN k2
        by_cases hx0 : 0 ≤ x
        · by_cases hlt2 : d1 < d2
          · go_wp2_with fail
            refine (C1.out _).mono ?_
            rintro e w3 ⟨rfl, rfl⟩
            go_wp2_with fail
            refine (C2.out _).mono ?_
            rintro e w3 ⟨rfl, rfl⟩
            go_wp2_with fail
            go_roundw
            case rel => exact ⟨i + 1, by omega, by omega, by go_num, (i : Int), rfl, by omega, by omega, Lib.hid (by rw [HN.out]; simp [hx0, hlt2]), Lib.hid trivial⟩
            case measure => simp [intOf]; omega
          · go_wp2_with fail
            refine (C1.out _).mono ?_
            rintro e w3 ⟨rfl, rfl⟩
            go_wp2_with fail
            refine (C2.out _).mono ?_
            rintro e w3 ⟨rfl, rfl⟩
            go_wp2_with fail
            go_roundw
            case rel => exact ⟨i + 1, by omega, by omega, by go_num, b, rfl, b1, b2, Lib.hid (by rw [HN.out]; simp [hx0]; omega), Lib.hid trivial⟩
            case measure => simp [intOf]; omega
        · go_wp2_with fail
          go_roundw
          case rel => exact ⟨i + 1, by omega, by omega, by go_num, b, rfl, b1, b2, Lib.hid (by rw [HN.out]; simp [hx0]), Lib.hid trivial⟩
          case measure => simp [intOf]; omega
      · obtain rfl : i = 1201 := by omega
        obtain rfl : b = r := by rw [← hb.out, ← HR.out]
        go_wp2
        go_ret2
        exact ⟨rfl, HB2.out.1⟩
  · obtain rfl : r = 0 := by rw [← hr]; simp [nearF, hq, h0]
    have h0' : (q != 0) = true := by simpa using h0
    have H1 := Lib.hid h1
    clear h1 hr hq h0 hl hc
    go_enter Try.func33, Try.ntmps33
    go_wp2_with (go_at_call 68; refine H1.out.mono ?_; rintro e w1 ⟨rfl, hb1⟩)
    go_ret2
    exact ⟨rfl, hb1⟩
end Go.Proofs.Ytlaapndncejlgaa
