/-
  Contracts of BuildHeel and PairHeels, both sides. No condition of its own.
-/
import Derived.Test.YtlaapndncejlgaaHeel
namespace Go.Proofs.Ytlaapndncejlgaa
open Go.ChangeShapes Go.WideShapes Go.ChangeAt Go.RowKit Go.Deep Go.Shelf

def bhF (zs : List Int) (n : Nat) (t m : Int) : List Int := if hcodeI zs n m = 0 then heelF zs n t m else []
def bhC (zs : List Int) (n : Nat) (t m : Int) : Int := if hcodeI zs n m = 0 then heelC zs n t m else hcodeI zs n m

/-! ### Stocks with half the counts -/
def halfL (zs : List Int) : Nat → List Int
  | 0 => []
  | i + 1 => halfL zs i ++ [zs.getD (i * 2) 0, zs.getD (i * 2 + 1) 0 / 2]
theorem length_halfL (zs : List Int) (i : Nat) : (halfL zs i).length = i * 2 := by
  induction i with
  | zero => rfl
  | succ i ih => simp only [halfL, List.length_append, ih, List.length_cons, List.length_nil]; omega
theorem getD_app_left {l m : List Int} {i : Nat} (h : i < l.length) : (l ++ m).getD i 0 = l.getD i 0 := by simp [List.getElem?_append_left h]
theorem getD_app_right {l m : List Int} {i : Nat} (h : l.length ≤ i) : (l ++ m).getD i 0 = m.getD (i - l.length) 0 := by simp [List.getElem?_append_right h]
theorem halfL_at (zs : List Int) {n : Nat} : ∀ {k : Nat}, k < n → (halfL zs n).getD (k * 2) 0 = zs.getD (k * 2) 0 ∧ (halfL zs n).getD (k * 2 + 1) 0 = zs.getD (k * 2 + 1) 0 / 2 := by
  induction n with
  | zero => intro k hk; omega
  | succ n ih =>
    intro k hk
    simp only [halfL]
    by_cases e : k = n
    · subst e
      constructor
      · rw [getD_app_right (by rw [length_halfL]; omega), length_halfL, Nat.sub_self]; rfl
      · rw [getD_app_right (by rw [length_halfL]; omega), length_halfL, show k * 2 + 1 - k * 2 = 1 by omega]; rfl
    · have := ih (k := k) (by omega)
      constructor
      · rw [getD_app_left (by rw [length_halfL]; omega)]; exact this.1
      · rw [getD_app_left (by rw [length_halfL]; omega)]; exact this.2
theorem half_store (zs : List Int) (k : Nat) (hk : k * 2 + 1 < zs.length) : (halfL zs k ++ zs.drop (k * 2)).set (k * 2 + 1) (zs.getD (k * 2 + 1) 0 / 2) = halfL zs (k + 1) ++ zs.drop ((k + 1) * 2) := by
  rw [List.set_append_right _ _ (by rw [length_halfL]; omega), length_halfL, show k * 2 + 1 - k * 2 = 1 from by omega, List.drop_eq_getElem_cons (by omega), List.drop_eq_getElem_cons (by omega), show (k + 1) * 2 = k * 2 + 1 + 1 from by omega]
  simp only [List.set_cons_succ, List.set_cons_zero, halfL, List.append_assoc, List.cons_append, List.nil_append]
  congr 2
  simp [List.getElem?_eq_getElem (show k * 2 < zs.length by omega)]
theorem half_stock {zs : List Int} {n : Nat} (h : stockB zs n = true) : stockB (halfL zs n) n = true := by
  simp only [stockB, Bool.and_eq_true, decide_eq_true_eq] at h ⊢
  refine ⟨fun k hk => ?_, h.2⟩
  have h1 := h.1 k hk
  have h2 := halfL_at zs hk
  simp only [liftAt, h2.1, h2.2, Bool.and_eq_true, inB_true] at h1 ⊢
  refine ⟨h1.1, by omega, ?_⟩
  rcases Nat.eq_zero_or_pos k with rfl | hp
  · simp
  · rw [(halfL_at zs (show k - 1 < n by omega)).1]
    exact h1.2.2
theorem fewD_congr {th ct th' ct' : Nat → Nat} {n : Nat} (h : ∀ k, k < n → th k = th' k ∧ ct k = ct' k) : ∀ {d : Nat}, d ≤ n → fewD th ct n d = fewD th' ct' n d := by
  intro d
  induction d with
  | zero => intro _; rfl
  | succ d ih =>
    intro hd
    funext x
    simp only [fewD, ih (by omega), (h (n - 1 - d) (by omega)).1, (h (n - 1 - d) (by omega)).2]
theorem half_parts (zs : List Int) {n k : Nat} (hk : k < n) : thN (halfL zs n) k = thN zs k ∧ ctN (halfL zs n) 1 k = ctN zs 2 k := by
  have := halfL_at zs hk
  simp only [thN, ctN, this.1, this.2, Int.ediv_one]
  exact ⟨trivial, trivial⟩
theorem fewT_half (zs : List Int) (n : Nat) : fewT (halfL zs n) n 1 = fewT zs n 2 := by
  funext k h
  unfold fewT
  rw [fewD_congr (fun k hk => half_parts zs hk) (by omega)]
theorem pickC_half (zs : List Int) {n k : Nat} (hk : k < n) (h : Nat) : pickC (halfL zs n) n 1 k h = pickC zs n 2 k h := by
  simp only [pickC, fewT_half, (half_parts zs hk).1, (half_parts zs hk).2]
theorem heelSt_half (zs : List Int) (n H : Nat) : ∀ {k : Nat}, k ≤ n → heelSt (halfL zs n) n 1 H k = heelSt zs n 2 H k := by
  intro k
  induction k with
  | zero => intro _; rfl
  | succ k ih =>
    intro hk
    simp only [heelSt, ih (by omega), pickC_half zs (show k < n by omega), (half_parts zs (show k < n by omega)).1]
theorem heelF_half (zs : List Int) (n : Nat) (m : Int) : heelF (halfL zs n) n 1 m = heelF zs n 2 m ∧ heelC (halfL zs n) n 1 m = heelC zs n 2 m := by
  simp only [heelF, heelC, canP, fewT_half, heelSt_half zs n _ (Nat.le_refl n)]
  exact ⟨rfl, rfl⟩

set_option maxHeartbeats 1600000 in
theorem implBuild_c (w : World) (g n c : Nat) (zs : List Int) (hl : zs.length = n * 2) (hn : n ≤ 1048576) (hc : CellsAt w (some ⟨g, 0, none⟩) (zs.map (Value.int .i64))) (m : Int) :
    Calls Try.prog 39 #[.slice (some ⟨g, 0, none⟩) n c, .int .i64 m] w (RowEnd w 2 1 (bhF zs n 1 m) (bhC zs n 1 m)) := by
  have h1 := stockCode_any (some ⟨g, 0, none⟩) n c zs m w hl (by omega) hc
  change Calls _ _ _ _ (fun e w' => e = .returned (.int .i64 (hcodeI zs n m)) ∧ _) at h1
  obtain ⟨q, hq⟩ : ∃ q, hcodeI zs n m = q := ⟨_, rfl⟩
  rw [hq] at h1
  by_cases h0 : q = 0
  · subst h0
    rw [show bhF zs n 1 m = heelF zs n 1 m by simp [bhF, hq], show bhC zs n 1 m = heelC zs n 1 m by simp [bhC, hq]]
    obtain ⟨hok, m1, m2⟩ := hcode_ok hq
    obtain ⟨M, rfl⟩ : ∃ M : Nat, m = (M : Int) := ⟨m.toNat, by omega⟩
    have h2 := fun W (e : Below w.heap.size w W) => buildHeel_any W g n c M zs hl (hc.below e) hok (by omega)
    generalize heelF zs n 1 (M : Int) = r at h2 ⊢
    generalize heelC zs n 1 (M : Int) = s at h2 ⊢
    have H1 := Lib.hid h1
    have H2 := Lib.hid h2
    clear h1 h2 hq hok hl hc
    go_enter Try.func39, Try.ntmps39
    go_wp2_with (first | (go_at_call 71; refine H1.out.mono ?_; rintro e w1 ⟨rfl, hb1⟩; have HB1 := Lib.hid (Bel.of hb1); clear hb1) | (go_at_call 75; refine (H2.out _ HB1.out.1).mono ?_; rintro e w2 ⟨aL, nL, capL, rfl, hlen, hn2, hoL, hb2⟩; have HO := Lib.hid (own_base hoL HB1.out.2); have HB2 := Lib.hid (HB1.out.step hb2); have HL := Lib.hid hlen; clear hoL hb2 hlen))
    go_ret2
    exact ⟨aL, nL, capL, rfl, HL.out, hn2, HO.out, HB2.out.1⟩
  · rw [show bhF zs n 1 m = [] by simp [bhF, hq, h0], show bhC zs n 1 m = q by simp [bhC, hq, h0]]
    have h0' : (q != 0) = true := by simpa using h0
    have H1 := Lib.hid h1
    clear h1 hq h0 hl hc
    go_enter Try.func39, Try.ntmps39
    go_wp2_with (go_at_call 71; refine H1.out.mono ?_; rintro e w1 ⟨rfl, hb1⟩)
    go_ret2
    exact rowEnd_bad hb1
theorem impl_BuildHeel (w : World) (g n : Nat) (zs : List Int) (hl : zs.length = n * 2) (hn : n ≤ 1048576) (hc : CellsAt w (some ⟨g, 0, none⟩) (zs.map (Value.int .i64))) (_ : ∀ z ∈ zs, (Lit.int .i64 z).wf = true) (m : Int) (_ : (Lit.int .i64 m).wf = true) :
    Calls Try.prog 39 #[.slice (some ⟨g, 0, none⟩) n n, .int .i64 m] w (RowEnd w 2 1 (bhF zs n 1 m) (bhC zs n 1 m)) := implBuild_c w g n n zs hl hn hc m

set_option maxHeartbeats 1600000 in
theorem spec_BuildHeel (w : World) (g n : Nat) (zs : List Int) (hl : zs.length = n * 2) (hn : n ≤ 1048576) (hc : CellsAt w (some ⟨g, 0, none⟩) (zs.map (Value.int .i64))) (_ : ∀ z ∈ zs, (Lit.int .i64 z).wf = true) (m : Int) (_ : (Lit.int .i64 m).wf = true) :
    Calls Try.prog 38 #[.slice (some ⟨g, 0, none⟩) n n, .int .i64 m] w (RowEnd w 2 1 (bhF zs n 1 m) (bhC zs n 1 m)) := by
  have h1 := l18Code_any (some ⟨g, 0, none⟩) n n zs m w hl (by omega) hc
  change Calls _ _ _ _ (fun e w' => e = .returned (.int .i64 (hcodeI zs n m)) ∧ _) at h1
  obtain ⟨q, hq⟩ : ∃ q, hcodeI zs n m = q := ⟨_, rfl⟩
  rw [hq] at h1
  by_cases h0 : q = 0
  · subst h0
    rw [show bhF zs n 1 m = heelF zs n 1 m by simp [bhF, hq], show bhC zs n 1 m = heelC zs n 1 m by simp [bhC, hq]]
    obtain ⟨hok, m1, m2⟩ := hcode_ok hq
    obtain ⟨M, rfl⟩ : ∃ M : Nat, m = (M : Int) := ⟨m.toNat, by omega⟩
    have h2 := fun W (e : Below w.heap.size w W) => l18First_any W g n n M zs 1 hl (hc.below e) hok (by omega) (by omega) (by omega)
    cases hcan : canP zs n 1 M with
    | true =>
      rw [show heelC zs n 1 (M : Int) = 0 by simp [heelC, hcan]]
      rw [hcan] at h2
      generalize heelF zs n 1 (M : Int) = r at h2 ⊢
      have H1 := Lib.hid h1
      have H2 := Lib.hid h2
      clear h1 h2 hq hok hl hc hcan
      go_enter Try.func38, Try.ntmps38
      go_wp2_with (first | (go_at_call 68; refine H1.out.mono ?_; rintro e w1 ⟨rfl, hb1⟩; have HB1 := Lib.hid (Bel.of hb1); clear hb1) | (go_at_call 74; refine (H2.out _ HB1.out.1).mono ?_; rintro e w2 ⟨aL, nL, capL, rfl, hlen, hn2, hoL, hb2⟩; have HO := Lib.hid (own_base hoL HB1.out.2); have HB2 := Lib.hid (HB1.out.step hb2); have HL := Lib.hid hlen; clear hoL hb2 hlen))
      go_ret2
      exact ⟨aL, nL, capL, rfl, by have := HL.out; omega, by omega, HO.out, HB2.out.1⟩
    | false =>
      rw [show heelC zs n 1 (M : Int) = 3 by simp [heelC, hcan], show heelF zs n 1 (M : Int) = [] by simp [heelF, hcan]]
      rw [hcan, show heelF zs n 1 (M : Int) = [] by simp [heelF, hcan]] at h2
      have H1 := Lib.hid h1
      have H2 := Lib.hid h2
      clear h1 h2 hq hok hl hc hcan
      go_enter Try.func38, Try.ntmps38
      go_wp2_with (first | (go_at_call 68; refine H1.out.mono ?_; rintro e w1 ⟨rfl, hb1⟩; have HB1 := Lib.hid (Bel.of hb1); clear hb1) | (go_at_call 74; refine (H2.out _ HB1.out.1).mono ?_; rintro e w2 ⟨aL, nL, capL, rfl, hlen, hn2, hoL, hb2⟩; have HB2 := Lib.hid (HB1.out.step hb2); clear hoL hb2 hlen))
      go_ret2
      exact rowEnd_bad HB2.out.1
  · rw [show bhF zs n 1 m = [] by simp [bhF, hq, h0], show bhC zs n 1 m = q by simp [bhC, hq, h0]]
    have h0' : (q != 0) = true := by simpa using h0
    have H1 := Lib.hid h1
    clear h1 hq h0 hl hc
    go_enter Try.func38, Try.ntmps38
    go_wp2_with (go_at_call 68; refine H1.out.mono ?_; rintro e w1 ⟨rfl, hb1⟩)
    go_ret2
    exact rowEnd_bad hb1

set_option maxHeartbeats 1600000 in
theorem spec_PairHeels (w : World) (g n : Nat) (zs : List Int) (hl : zs.length = n * 2) (hn : n ≤ 1048576) (hc : CellsAt w (some ⟨g, 0, none⟩) (zs.map (Value.int .i64))) (_ : ∀ z ∈ zs, (Lit.int .i64 z).wf = true) (m : Int) (_ : (Lit.int .i64 m).wf = true) :
    Calls Try.prog 40 #[.slice (some ⟨g, 0, none⟩) n n, .int .i64 m] w (RowEnd w 2 1 (bhF zs n 2 m) (bhC zs n 2 m)) := by
  have h1 := l18Code_any (some ⟨g, 0, none⟩) n n zs m w hl (by omega) hc
  change Calls _ _ _ _ (fun e w' => e = .returned (.int .i64 (hcodeI zs n m)) ∧ _) at h1
  obtain ⟨q, hq⟩ : ∃ q, hcodeI zs n m = q := ⟨_, rfl⟩
  rw [hq] at h1
  by_cases h0 : q = 0
  · subst h0
    rw [show bhF zs n 2 m = heelF zs n 2 m by simp [bhF, hq], show bhC zs n 2 m = heelC zs n 2 m by simp [bhC, hq]]
    obtain ⟨hok, m1, m2⟩ := hcode_ok hq
    obtain ⟨M, rfl⟩ : ∃ M : Nat, m = (M : Int) := ⟨m.toNat, by omega⟩
    have h2 := fun W (e : Below w.heap.size w W) => l18First_any W g n n M zs 2 hl (hc.below e) hok (by omega) (by omega) (by omega)
    cases hcan : canP zs n 2 M with
    | true =>
      rw [show heelC zs n 2 (M : Int) = 0 by simp [heelC, hcan]]
      rw [hcan] at h2
      generalize heelF zs n 2 (M : Int) = r at h2 ⊢
      have H1 := Lib.hid h1
      have H2 := Lib.hid h2
      clear h1 h2 hq hok hl hc hcan
      go_enter Try.func40, Try.ntmps40
      go_wp2_with (first | (go_at_call 68; refine H1.out.mono ?_; rintro e w1 ⟨rfl, hb1⟩; have HB1 := Lib.hid (Bel.of hb1); clear hb1) | (go_at_call 74; refine (H2.out _ HB1.out.1).mono ?_; rintro e w2 ⟨aL, nL, capL, rfl, hlen, hn2, hoL, hb2⟩; have HO := Lib.hid (own_base hoL HB1.out.2); have HB2 := Lib.hid (HB1.out.step hb2); have HL := Lib.hid hlen; clear hoL hb2 hlen))
      go_ret2
      exact ⟨aL, nL, capL, rfl, by have := HL.out; omega, by omega, HO.out, HB2.out.1⟩
    | false =>
      rw [show heelC zs n 2 (M : Int) = 3 by simp [heelC, hcan], show heelF zs n 2 (M : Int) = [] by simp [heelF, hcan]]
      rw [hcan, show heelF zs n 2 (M : Int) = [] by simp [heelF, hcan]] at h2
      have H1 := Lib.hid h1
      have H2 := Lib.hid h2
      clear h1 h2 hq hok hl hc hcan
      go_enter Try.func40, Try.ntmps40
      go_wp2_with (first | (go_at_call 68; refine H1.out.mono ?_; rintro e w1 ⟨rfl, hb1⟩; have HB1 := Lib.hid (Bel.of hb1); clear hb1) | (go_at_call 74; refine (H2.out _ HB1.out.1).mono ?_; rintro e w2 ⟨aL, nL, capL, rfl, hlen, hn2, hoL, hb2⟩; have HB2 := Lib.hid (HB1.out.step hb2); clear hoL hb2 hlen))
      go_ret2
      exact rowEnd_bad HB2.out.1
  · rw [show bhF zs n 2 m = [] by simp [bhF, hq, h0], show bhC zs n 2 m = q by simp [bhC, hq, h0]]
    have h0' : (q != 0) = true := by simpa using h0
    have H1 := Lib.hid h1
    clear h1 hq h0 hl hc
    go_enter Try.func40, Try.ntmps40
    go_wp2_with (go_at_call 68; refine H1.out.mono ?_; rintro e w1 ⟨rfl, hb1⟩)
    go_ret2
    exact rowEnd_bad hb1

set_option maxRecDepth 100000 in
set_option maxHeartbeats 3200000 in
theorem implPair_c (w : World) (g n c : Nat) (zs : List Int) (hl : zs.length = n * 2) (hn : n ≤ 1048576) (hc : CellsAt w (some ⟨g, 0, none⟩) (zs.map (Value.int .i64))) (m : Int) :
    Calls Try.prog 41 #[.slice (some ⟨g, 0, none⟩) n c, .int .i64 m] w (RowEnd w 2 1 (bhF zs n 2 m) (bhC zs n 2 m)) := by
  have h1 := stockCode_any (some ⟨g, 0, none⟩) n c zs m w hl (by omega) hc
  change Calls _ _ _ _ (fun e w' => e = .returned (.int .i64 (hcodeI zs n m)) ∧ _) at h1
  obtain ⟨q, hq⟩ : ∃ q, hcodeI zs n m = q := ⟨_, rfl⟩
  rw [hq] at h1
  by_cases h0 : q = 0
  · subst h0
    rw [show bhF zs n 2 m = heelF zs n 2 m by simp [bhF, hq], show bhC zs n 2 m = heelC zs n 2 m by simp [bhC, hq]]
    obtain ⟨hok, m1, m2⟩ := hcode_ok hq
    obtain ⟨M, rfl⟩ : ∃ M : Nat, m = (M : Int) := ⟨m.toNat, by omega⟩
    have h2 := fun W (e : Below w.heap.size w W) => cloneLiftG g n c zs W hl (by omega) (hc.below e)
    have h3 := fun g W c (e : CellsAt W (some ⟨g, 0, none⟩) ((halfL zs n).map (Value.int .i64))) => buildHeel_any W g n c M (halfL zs n) (length_halfL zs n) e (half_stock hok) (by omega)
    rw [(heelF_half zs n M).1, (heelF_half zs n M).2] at h3
    have hat := fun k (hk : k < n) => stockB_at hok hk
    generalize heelF zs n 2 (M : Int) = r at h3 ⊢
    generalize heelC zs n 2 (M : Int) = s at h3 ⊢
    have H1 := Lib.hid h1
    have H2 := Lib.hid h2
    have H3 := Lib.hid h3
    have HAt := Lib.hid hat
    have Hz := Lib.hid hl
    clear h1 h2 h3 hat hq hok hl hc
    go_enter Try.func41, Try.ntmps41
    go_wp2_with (go_at_call 71; refine H1.out.mono ?_; rintro e w1 ⟨rfl, hb1⟩; have HB1 := Lib.hid (Bel.of hb1); clear hb1)
    refine (H2.out _ HB1.out.1).mono ?_
    rintro e w2 ⟨gL, capL, rfl, hoL, hb2⟩
    have HL0 := Lib.hid (own_base hoL HB1.out.2)
    have HB2 := Lib.hid (HB1.out.step hb2)
    clear hoL hb2
    go_wp2
    go_loopw [19] (fun t wr => ∃ k : Nat, k ≤ n ∧ t = .int .i64 k ∧ Hid (wr.ownsRow w.heap.size 50 2 (.slice (some ⟨gL, 0, none⟩) n capL) n ((halfL zs k ++ zs.drop (k * 2)).map (Value.int .i64))) ∧ Hid (Bel w.heap.size w wr)) (fun t _ => n - (intOf t).toNat)
    case atStart => exact ⟨0, Nat.zero_le _, rfl, Lib.hid (by simpa [halfL] using HL0.out), HB2⟩
    case round =>
      obtain ⟨k, hk, rfl, hown, hbw⟩ := hrel
      by_cases hlt : k < n
      · obtain ⟨u, hu⟩ : ∃ z, zs.getD (k * 2 + 1) 0 = z := ⟨_, rfl⟩
        have hub := (HAt.out k hlt).2.2
        rw [hu] at hub
        obtain ⟨hu0, hu1⟩ := hub
        have hkz : k * 2 + 1 < zs.length := by rw [Hz.out]; omega
        have hcl : wr.cell? ⟨gL, k * 2 + 1, none⟩ = some (.int .i64 u) := by
          rw [hown.out.cellAt (k * 2 + 1) (by omega), List.getElem?_map, List.getElem?_append_right (by rw [length_halfL]; omega), length_halfL, List.getElem?_drop, show k * 2 + (k * 2 + 1 - k * 2) = k * 2 + 1 from by omega, ← hu]
          simp [List.getElem?_eq_getElem hkz]
        have hfz := hown.out.frozenAt (k * 2 + 1)
        have hstd := hown.out.stored (k * 2 + 1) (.int .i64 (u / 2))
        have HS := Lib.hid (show (wr.setCell ⟨gL, k * 2 + 1, none⟩ (.int .i64 (u / 2))).ownsRow w.heap.size 50 2 (.slice (some ⟨gL, 0, none⟩) n capL) n ((halfL zs (k + 1) ++ zs.drop ((k + 1) * 2)).map (Value.int .i64)) by
          rw [← half_store zs k hkz, List.map_set, hu]; exact hstd.1)
        have HbS := Lib.hid (hbw.out.grown hstd.2 (fun k h => by cases h; exact (own_block hown.out rfl).1))
        have hlt' : (k : Int) < (n : Int) := by omega
        clear hstd hu hkz
        go_wp2
        go_roundw
        case rel => exact ⟨k + 1, by omega, by go_num, HS, HbS⟩
        case measure => simp [intOf]; omega
      · obtain rfl : k = n := by omega
        have hlast : wr.ownsRow w.heap.size 50 2 (.slice (some ⟨gL, 0, none⟩) k capL) k ((halfL zs k).map (Value.int .i64)) := by
          have h := hown.out
          rw [List.drop_of_length_le (by rw [Hz.out]; omega), List.append_nil] at h
          exact h
        have H4 := Lib.hid (H3.out gL wr capL (CellsAt.of_own hlast))
        clear hlast
        go_wp2_with (go_at_call 75; refine H4.out.mono ?_; rintro e w3 ⟨aL, nL, capL, rfl, hlen, hn2, hoL, hb2⟩; have HO := Lib.hid (own_base hoL hbw.out.2); have HB3 := Lib.hid (hbw.out.step hb2); have HL := Lib.hid hlen; clear hoL hb2 hlen)
        go_ret2
        exact ⟨aL, nL, capL, rfl, HL.out, hn2, HO.out, HB3.out.1⟩
  · rw [show bhF zs n 2 m = [] by simp [bhF, hq, h0], show bhC zs n 2 m = q by simp [bhC, hq, h0]]
    have h0' : (q != 0) = true := by simpa using h0
    have H1 := Lib.hid h1
    clear h1 hq h0 hl hc
    go_enter Try.func41, Try.ntmps41
    go_wp2_with (go_at_call 71; refine H1.out.mono ?_; rintro e w1 ⟨rfl, hb1⟩)
    go_ret2
    exact rowEnd_bad hb1
theorem impl_PairHeels (w : World) (g n : Nat) (zs : List Int) (hl : zs.length = n * 2) (hn : n ≤ 1048576) (hc : CellsAt w (some ⟨g, 0, none⟩) (zs.map (Value.int .i64))) (_ : ∀ z ∈ zs, (Lit.int .i64 z).wf = true) (m : Int) (_ : (Lit.int .i64 m).wf = true) :
    Calls Try.prog 41 #[.slice (some ⟨g, 0, none⟩) n n, .int .i64 m] w (RowEnd w 2 1 (bhF zs n 2 m) (bhC zs n 2 m)) := implPair_c w g n n zs hl hn hc m

end Go.Proofs.Ytlaapndncejlgaa
