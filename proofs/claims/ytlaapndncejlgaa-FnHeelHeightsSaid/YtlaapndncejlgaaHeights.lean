/-
  Contracts of HeelHeights and NearestHeel, both sides. No condition of its own.
-/
import Derived.Test.YtlaapndncejlgaaFew
import Derived.Test.YtlaapndncejlgaaRow
namespace Go.Proofs.Ytlaapndncejlgaa
open Go.ChangeShapes Go.WideShapes Go.ChangeAt Go.RowKit Go.Deep Go.Shelf

/-- The numbers from a on, d of them, at which p holds. -/
def segI (p : Nat → Bool) (a : Nat) : Nat → List Int
  | 0 => []
  | d + 1 => (if p a then [(a : Int)] else []) ++ segI p (a + 1) d
theorem segI_append (p : Nat → Bool) (a d1 d2 : Nat) : segI p a (d1 + d2) = segI p a d1 ++ segI p (a + d1) d2 := by
  induction d1 generalizing a with
  | zero => simp [segI]
  | succ d1 ih => rw [show d1 + 1 + d2 = (d1 + d2) + 1 by omega]; simp only [segI, ih, List.append_assoc]; rw [show a + 1 + d1 = a + (d1 + 1) by omega]
theorem segI_snoc (p : Nat → Bool) (i : Nat) : segI p 0 (i + 1) = segI p 0 i ++ (if p i then [(i : Int)] else []) := by
  rw [segI_append]; simp [segI]
theorem segI_bd {p : Nat → Bool} {a d : Nat} {x : Int} (h : x ∈ segI p a d) : (a : Int) ≤ x ∧ x < (a : Int) + (d : Int) := by
  induction d generalizing a with
  | zero => simp [segI] at h
  | succ d ih =>
    simp only [segI, List.mem_append] at h
    rcases h with h | h
    · split at h
      · simp at h; omega
      · simp at h
    · have := ih h; omega
theorem segI_congr {p q : Nat → Bool} {a d : Nat} (h : ∀ i, a ≤ i → i < a + d → p i = q i) : segI p a d = segI q a d := by
  induction d generalizing a with
  | zero => rfl
  | succ d ih => simp only [segI]; rw [h a (by omega) (by omega), ih (fun i h1 h2 => h i (by omega) (by omega))]
theorem segI_none {p : Nat → Bool} {a d : Nat} (h : ∀ i, a ≤ i → i < a + d → p i = false) : segI p a d = [] := by
  induction d generalizing a with
  | zero => rfl
  | succ d ih => simp only [segI]; rw [h a (by omega) (by omega), ih (fun i h1 h2 => h i (by omega) (by omega))]; rfl
theorem segI_length (p : Nat → Bool) (a d : Nat) : (segI p a d).length ≤ d := by
  induction d generalizing a with
  | zero => simp [segI]
  | succ d ih => have := ih (a + 1); simp only [segI, List.length_append]; split <;> simp <;> omega
theorem seg_yes {p : Nat → Bool} {i : Nat} {ds : List Int} (h : ds = segI p 0 i) (hp : p i = true) : ds ++ [(i : Int)] = segI p 0 (i + 1) := by
  rw [h, segI_snoc, hp]; rfl
theorem seg_no {p : Nat → Bool} {i : Nat} {ds : List Int} (h : ds = segI p 0 i) (hp : p i = false) : ds = segI p 0 (i + 1) := by
  rw [h, segI_snoc, hp]; simp

theorem isHeel_any (h : Int) (w : World) : Calls Try.prog 58 #[.int .i64 h] w fun e w' => e = .returned (.bool (inB h 0 1200)) ∧ w = w' := by
  go_enter Try.func58, Try.ntmps58
  go_wp2_with (go_at_call 59; refine (within_any _ _ _ _).mono ?_; rintro e w1 ⟨rfl, rfl⟩)
  go_ret
  exact ⟨rfl, rfl⟩
theorem l18Height_any (h : Int) (w : World) : Calls Try.prog 56 #[.int .i64 h] w fun e w' => e = .returned (.bool (inB h 0 1200)) ∧ w = w' := by
  go_enter Try.func56, Try.ntmps56
  go_wp2_with (go_at_call 60; refine (l00In_any _ _ _ _).mono ?_; rintro e w1 ⟨rfl, rfl⟩)
  go_ret
  exact ⟨rfl, rfl⟩
theorem stockCode_any (a : Option Addr) (n c : Nat) (zs : List Int) (h : Int) (w : World) (hz : zs.length = n * 2) (hn : n ≤ 1073741824) (ha : CellsAt w a (zs.map (Value.int .i64))) :
    Calls Try.prog 71 #[.slice a n c, .int .i64 h] w fun e w' => e = .returned (.int .i64 (if stockB zs n then (if inB h 0 1200 then 0 else 2) else 1)) ∧ Below w.heap.size w w' := by
  have h1 := implStockOk a n c zs w hz hn ha
  generalize stockB zs n = q at h1 ⊢
  have H1 := Lib.hid h1
  clear h1 hz ha
  cases q
  · go_enter Try.func71, Try.ntmps71
    go_wp2_with (go_at_call 22; refine H1.out.mono ?_; rintro e w1 ⟨rfl, hb1⟩; have HB1 := Lib.hid hb1; clear hb1)
    go_ret
    exact ⟨rfl, HB1.out⟩
  · cases g : inB h 0 1200
    all_goals
      go_enter Try.func71, Try.ntmps71
      go_wp2_with (first | (go_at_call 22; refine H1.out.mono ?_; rintro e w1 ⟨rfl, hb1⟩; have HB1 := Lib.hid hb1; clear hb1) | (go_at_call 58; refine (isHeel_any _ _).mono ?_; rintro e w1 ⟨rfl, rfl⟩))
      go_ret
      exact ⟨rfl, HB1.out⟩
theorem l18Code_any (a : Option Addr) (n c : Nat) (zs : List Int) (h : Int) (w : World) (hz : zs.length = n * 2) (hn : n ≤ 1073741824) (ha : CellsAt w a (zs.map (Value.int .i64))) :
    Calls Try.prog 68 #[.slice a n c, .int .i64 h] w fun e w' => e = .returned (.int .i64 (if stockB zs n then (if inB h 0 1200 then 0 else 2) else 1)) ∧ Below w.heap.size w w' := by
  have h1 := specStockOk a n c zs w hz hn ha
  generalize stockB zs n = q at h1 ⊢
  have H1 := Lib.hid h1
  clear h1 hz ha
  cases q
  · go_enter Try.func68, Try.ntmps68
    go_wp2_with (go_at_call 62; refine H1.out.mono ?_; rintro e w1 ⟨rfl, hb1⟩; have HB1 := Lib.hid hb1; clear hb1)
    go_ret
    exact ⟨rfl, HB1.out⟩
  · cases g : inB h 0 1200
    all_goals
      go_enter Try.func68, Try.ntmps68
      go_wp2_with (first | (go_at_call 62; refine H1.out.mono ?_; rintro e w1 ⟨rfl, hb1⟩; have HB1 := Lib.hid hb1; clear hb1) | (go_at_call 56; refine (l18Height_any _ _).mono ?_; rintro e w1 ⟨rfl, rfl⟩))
      go_ret
      exact ⟨rfl, HB1.out⟩
def hcodeI (zs : List Int) (n : Nat) (h : Int) : Int := if stockB zs n then (if inB h 0 1200 then 0 else 2) else 1
theorem hcode_ok {zs : List Int} {n : Nat} {h : Int} (k : hcodeI zs n h = 0) : stockB zs n = true ∧ 0 ≤ h ∧ h ≤ 1200 := by
  unfold hcodeI at k
  split at k
  · split at k
    · rename_i h1 h2
      exact ⟨h1, inB_true.1 h2⟩
    · omega
  · omega
/-- A height that can be built. -/
def canP (zs : List Int) (n : Nat) (t : Int) (h : Nat) : Bool := decide (0 ≤ fewT zs n t 0 h)
theorem own_cap_le {W : World} {B E k n c g : Nat} {cs : List Value} (h : W.ownsRow B E k (.slice (some ⟨g, 0, none⟩) n c) n cs) : n ≤ c := by
  rcases h.2 with ⟨h0, _⟩ | ⟨g', cap, cur, hv, _, _, hc, _⟩
  · cases h0
  · simp only [Value.slice.injEq] at hv
    obtain ⟨_, _, rfl⟩ := hv
    exact hc
theorem Tab.row0 {W : World} {B S gO n : Nat} {f : Nat → Nat → Int} (h : Tab W B S gO n 0 f) :
    ∃ g c, W.cell? ⟨gO, 0, none⟩ = some (.slice (some ⟨g, 0, none⟩) 1201 c) ∧ 1201 ≤ c ∧ g < S ∧ W.ownsRow B 2 1 (.slice (some ⟨g, 0, none⟩) 1201 c) 1201 (rowL (f 0)) := by
  obtain ⟨hS, xs, ho, hj⟩ := h
  obtain ⟨g, c, h3, h4, h5, h6⟩ := hj 0 (Nat.le_refl _) (by omega)
  exact ⟨g, c, by rw [ho.cellAt 0 (by omega)]; exact h3, own_cap_le h6, h4, h6⟩

set_option maxRecDepth 100000 in
set_option maxHeartbeats 3200000 in
theorem heights_any (w : World) (g n c M : Nat) (zs : List Int) (hl : zs.length = n * 2) (hc : CellsAt w (some ⟨g, 0, none⟩) (zs.map (Value.int .i64))) (hok : stockB zs n = true) (hM : M ≤ 1200) :
    Calls Try.prog 72 #[.slice (some ⟨g, 0, none⟩) n c, .int .i64 (M : Int)] w (OwnRow w 2 1 (segI (canP zs n 1) 0 (M + 1)).length ((segI (canP zs n 1) 0 (M + 1)).map (Value.int .i64))) := by
  have h1 := fun W (e : Below w.heap.size w W) => fewest_any W g n c zs hl (hc.below e) hok
  obtain ⟨r, hr⟩ : ∃ r, segI (canP zs n 1) 0 (M + 1) = r := ⟨_, rfl⟩
  rw [hr]
  have HR := Lib.hid hr
  have H1 := Lib.hid h1
  clear hr h1 hl hc hok
  go_enter Try.func72, Try.ntmps72
  go_wp2_with fail
  refine (H1.out _ (((Bel.refl w).alloc _).1)).mono ?_
  rintro e w1 ⟨gO, S, rfl, htab, hb1⟩
  obtain ⟨gx, cx, k1, k2, k3, k4⟩ := htab.row0
  have HO := Lib.hid k4
  have HB1 := Lib.hid (((Bel.refl w).alloc (.cells #[] 2)).step hb1)
  have HZ := Lib.hid (own_below (own_none' w w.heap.size 2 1 (Nat.le_refl _)) hb1)
  have HNE := Lib.hid (show w.heap.size < gx by have := (own_block k4 rfl).1; simp at this; omega)
  have f1 : (M : Int) + 1 ≤ (cx : Int) := by omega
  have f2 : (0 : Int) ≤ (M : Int) + 1 := by omega
  have f3 : ((M : Int) + 1).toNat = M + 1 := by omega
  have f4 : (0 : Int) < (n : Int) + 1 := by omega
  clear htab k4 hb1
  go_wp2
  clear k1 k2
  go_loopw [5, 17] (fun v u wr => ∃ i : Nat, i ≤ M + 1 ∧ u = .int .i64 i ∧ ∃ (ds : List Int) (ao : Option Addr) (co : Nat), v = .slice ao ds.length co ∧ Hid (ds = segI (canP zs n 1) 0 i) ∧ Hid (∀ k, (Value.slice ao ds.length co).ownBlock = some k → k ≠ gx) ∧ Hid (wr.ownsRow w.heap.size 2 1 (.slice ao ds.length co) ds.length (ds.map (Value.int .i64))) ∧ Hid (gx < wr.heap.size ∧ wr.ownsRow w.heap.size 2 1 (.slice (some ⟨gx, 0, none⟩) 1201 cx) 1201 (rowL (fewT zs n 1 0))) ∧ Hid (Bel w.heap.size w wr)) (fun _ u _ => (M + 1) - (intOf u).toNat)
  case atStart => exact ⟨0, Nat.zero_le _, rfl, [], _, _, rfl, Lib.hid rfl, Lib.hid (fun k hk => by have h1 : w.heap.size = k := (by simpa [Value.ownBlock] using hk); have := HNE.out; omega), HZ, Lib.hid ⟨(own_block HO.out rfl).2, own_base HO.out (by simp)⟩, HB1⟩
  case round =>
    obtain ⟨i, hi, rfl, ds, ao, co, rfl, hds, hne, hown, hrow, hbw⟩ := hrel
    have hdl : ds.length ≤ i := by have := segI_length (canP zs n 1) 0 i; rw [← hds.out] at this; exact this
    by_cases hlt : i < M + 1
    · have hcx := row_cell hrow.out.2 (h := i) (by omega)
      obtain ⟨x, hx⟩ : ∃ x, fewT zs n 1 0 i = x := ⟨_, rfl⟩
      rw [hx] at hcx
      have hlt' : (i : Int) < (M : Int) + 1 := by omega
      by_cases h0 : 0 ≤ x
      · have HN := Lib.hid (seg_yes hds.out (show canP zs n 1 i = true by simp [canP, hx, h0]))
        clear hx
        go_wp2_with (at_builtin; refine appJ (by rfl) _ _ (by rfl) w.heap.size _ _ _ (by rfl) hown.out _ 1 wr.heap.size (by simp) (by rfl) (by omega) hbw.out ?_; intro g5 cap5 w5 ho5 hb5 hg5 hat5; have Ho5 := Lib.hid ho5; have Hb5 := Lib.hid hb5; have Hr5 := Lib.hid (And.intro (Nat.lt_of_lt_of_le hrow.out.1 hg5.size) (own_grown_ne hrow.out.2 hg5 (fun b hb e => by cases hb; exact hne.out _ e rfl))); have Hne5 := Lib.hid (show g5 ≠ gx from fun e => by rcases hat5 with h | h; exact hne.out _ h e; have := hrow.out.1; omega); clear ho5 hb5 hg5 hat5)
        go_roundw
        case rel => exact ⟨i + 1, by omega, by go_num, ds ++ [(i : Int)], some ⟨g5, 0, none⟩, cap5, by simp, HN, Lib.hid (fun k hk => by have h1 : g5 = k := (by simpa [Value.ownBlock] using hk); have := Hne5.out; omega), Lib.hid (by simpa using Ho5.out), Hr5, Hb5⟩
        case measure => simp [intOf]; omega
      · have HN := Lib.hid (seg_no hds.out (show canP zs n 1 i = false by simp [canP, hx]; omega))
        clear hx
        go_wp2
        go_roundw
        case rel => exact ⟨i + 1, by omega, by go_num, ds, ao, co, rfl, HN, hne, hown, hrow, hbw⟩
        case measure => simp [intOf]; omega
    · obtain rfl : i = M + 1 := by omega
      obtain rfl : ds = r := by rw [hds.out, HR.out]
      go_wp2
      go_ret
      exact ⟨ao, co, rfl, hown.out, hbw.out.1⟩

def hhF (zs : List Int) (n : Nat) (m : Int) : List Int := if hcodeI zs n m = 0 then segI (canP zs n 1) 0 (m.toNat + 1) else []
theorem rowEnd_bad {w w' : World} {E k : Nat} {c : Int} (hb : Below w.heap.size w w') : RowEnd w E k [] c (.returned (.tuple #[.slice none 0 0, .int .i64 c])) w' :=
  ⟨none, 0, 0, rfl, by simp, by omega, World.ownsRow_nil _ _ _ _, hb⟩
theorem Tab.grownO {W W' : World} {B S gO n k : Nat} {row : Option Nat} {f : Nat → Nat → Int} (h : Tab W B S gO n k f) (hg : W.grownBy W' row) (hr : ∀ b, row = some b → S ≤ b) : Tab W' B S gO n k f := by
  obtain ⟨hS, xs, ho, hj⟩ := h
  refine ⟨hS, xs, own_grown_ne ho hg (fun b hb e => ?_), fun j h1 h2 => ?_⟩
  · have e1 : gO = b := by simpa [Value.ownBlock] using hb
    have := hr b e
    omega
  · obtain ⟨g, c, h3, h4, h5, h6⟩ := hj j h1 h2
    refine ⟨g, c, h3, h4, h5, own_grown_ne h6 hg (fun b hb e => ?_)⟩
    have e1 : g = b := by simpa [Value.ownBlock] using hb
    have := hr b e
    omega
theorem Tab.size {W : World} {B S gO n : Nat} {f : Nat → Nat → Int} (h : Tab W B S gO n 0 f) : ∃ S', S' ≤ W.heap.size ∧ Tab W B S' gO n 0 f := by
  obtain ⟨hS, xs, ho, hj⟩ := h
  refine ⟨W.heap.size, Nat.le_refl _, (own_block ho rfl).2, xs, ho, fun j h1 h2 => ?_⟩
  obtain ⟨g, c, h3, h4, h5, h6⟩ := hj j h1 h2
  exact ⟨g, c, h3, (own_block h6 rfl).2, h5, h6⟩

set_option maxHeartbeats 1600000 in
theorem implHeights_c (w : World) (g n c : Nat) (zs : List Int) (hl : zs.length = n * 2) (hn : n ≤ 1048576) (hc : CellsAt w (some ⟨g, 0, none⟩) (zs.map (Value.int .i64))) (m : Int) :
    Calls Try.prog 36 #[.slice (some ⟨g, 0, none⟩) n c, .int .i64 m] w (RowEnd w 2 1 (hhF zs n m) (hcodeI zs n m)) := by
  have h1 := stockCode_any (some ⟨g, 0, none⟩) n c zs m w hl (by omega) hc
  change Calls _ _ _ _ (fun e w' => e = .returned (.int .i64 (hcodeI zs n m)) ∧ _) at h1
  obtain ⟨r, hr⟩ : ∃ r, hhF zs n m = r := ⟨_, rfl⟩
  obtain ⟨q, hq⟩ : ∃ q, hcodeI zs n m = q := ⟨_, rfl⟩
  rw [hr, hq]
  rw [hq] at h1
  by_cases h0 : q = 0
  · subst h0
    obtain ⟨hok, m1, m2⟩ := hcode_ok hq
    obtain ⟨M, rfl⟩ : ∃ M : Nat, m = (M : Int) := ⟨m.toNat, by omega⟩
    have hr' : segI (canP zs n 1) 0 (M + 1) = r := by rw [← hr]; simp [hhF, hq]
    have h2 := fun W (e : Below w.heap.size w W) => heights_any W g n c M zs hl (hc.below e) hok (by omega)
    have hlen := segI_length (canP zs n 1) 0 (M + 1)
    rw [hr'] at h2 hlen
    have H1 := Lib.hid h1
    have H2 := Lib.hid h2
    clear h1 h2 hr hr' hq hok hl hc
    go_enter Try.func36, Try.ntmps36
    go_wp2_with (first | (go_at_call 71; refine H1.out.mono ?_; rintro e w1 ⟨rfl, hb1⟩; have HB1 := Lib.hid (Bel.of hb1); clear hb1) | (go_at_call 72; refine (H2.out _ HB1.out.1).mono ?_; rintro e w2 ⟨aL, capL, rfl, hoL, hb2⟩; have HO := Lib.hid (own_base hoL HB1.out.2); have HB2 := Lib.hid (HB1.out.step hb2); clear hoL hb2))
    go_ret2
    exact ⟨aL, r.length, capL, rfl, by omega, by omega, HO.out, HB2.out.1⟩
  · obtain rfl : r = [] := by rw [← hr]; simp [hhF, hq, h0]
    have h0' : (q != 0) = true := by simpa using h0
    have H1 := Lib.hid h1
    clear h1 hr hq h0 hl hc
    go_enter Try.func36, Try.ntmps36
    go_wp2_with (go_at_call 71; refine H1.out.mono ?_; rintro e w1 ⟨rfl, hb1⟩)
    go_ret2
    exact rowEnd_bad hb1

theorem impl_HeelHeights (w : World) (g n : Nat) (zs : List Int) (hl : zs.length = n * 2) (hn : n ≤ 1048576) (hc : CellsAt w (some ⟨g, 0, none⟩) (zs.map (Value.int .i64))) (_ : ∀ z ∈ zs, (Lit.int .i64 z).wf = true) (m : Int) (_ : (Lit.int .i64 m).wf = true) :
    Calls Try.prog 36 #[.slice (some ⟨g, 0, none⟩) n n, .int .i64 m] w (RowEnd w 2 1 (hhF zs n m) (hcodeI zs n m)) := implHeights_c w g n n zs hl hn hc m

set_option maxRecDepth 100000 in
set_option maxHeartbeats 3200000 in
theorem spec_HeelHeights (w : World) (g n : Nat) (zs : List Int) (hl : zs.length = n * 2) (hn : n ≤ 1048576) (hc : CellsAt w (some ⟨g, 0, none⟩) (zs.map (Value.int .i64))) (_ : ∀ z ∈ zs, (Lit.int .i64 z).wf = true) (m : Int) (_ : (Lit.int .i64 m).wf = true) :
    Calls Try.prog 35 #[.slice (some ⟨g, 0, none⟩) n n, .int .i64 m] w (RowEnd w 2 1 (hhF zs n m) (hcodeI zs n m)) := by
  have h1 := l18Code_any (some ⟨g, 0, none⟩) n n zs m w hl (by omega) hc
  change Calls _ _ _ _ (fun e w' => e = .returned (.int .i64 (hcodeI zs n m)) ∧ _) at h1
  obtain ⟨r, hr⟩ : ∃ r, hhF zs n m = r := ⟨_, rfl⟩
  obtain ⟨q, hq⟩ : ∃ q, hcodeI zs n m = q := ⟨_, rfl⟩
  rw [hr, hq]
  rw [hq] at h1
  by_cases h0 : q = 0
  · subst h0
    obtain ⟨hok, m1, m2⟩ := hcode_ok hq
    obtain ⟨M, rfl⟩ : ∃ M : Nat, m = (M : Int) := ⟨m.toNat, by omega⟩
    have hr' : segI (canP zs n 1) 0 (M + 1) = r := by rw [← hr]; simp [hhF, hq]
    have h2 := fun W (e : Below w.heap.size w W) => l18Few_any W g n n zs 1 hl (hc.below e) hok (by omega) (by omega)
    have H1 := Lib.hid h1
    have H2 := Lib.hid h2
    have HR := Lib.hid hr'
    clear h1 h2 hr hr' hq hok hl hc
    go_enter Try.func35, Try.ntmps35
    go_wp2_with (go_at_call 68; refine H1.out.mono ?_; rintro e w1 ⟨rfl, hb1⟩; have HB1 := Lib.hid (Bel.of hb1); clear hb1)
    refine (H2.out _ HB1.out.1).mono ?_
    rintro e w2 ⟨gO, S0, rfl, htab0, hb2⟩
    obtain ⟨S, hS, htab⟩ := htab0.size
    have HT := Lib.hid (htab.base HB1.out.2)
    have HS := Lib.hid hS
    have HB2 := Lib.hid (HB1.out.step hb2)
    clear htab0 htab hb2 hS
    go_wp2
    go_loopw [8, 9] (fun v u wr => ∃ i : Nat, i ≤ M + 1 ∧ u = .int .i64 i ∧ ∃ (ds : List Int) (ao : Option Addr) (co : Nat), v = .slice ao ds.length co ∧ Hid (ds = segI (canP zs n 1) 0 i) ∧ Hid (∀ k, (Value.slice ao ds.length co).ownBlock = some k → S ≤ k) ∧ Hid (wr.ownsRow w.heap.size 2 1 (.slice ao ds.length co) ds.length (ds.map (Value.int .i64))) ∧ Hid (S ≤ wr.heap.size ∧ Tab wr w.heap.size S gO n 0 (fewT zs n 1)) ∧ Hid (Bel w.heap.size w wr)) (fun _ u _ => (M + 1) - (intOf u).toNat)
    case atStart => exact ⟨0, Nat.zero_le _, rfl, [], _, _, rfl, Lib.hid rfl, Lib.hid (fun k hk => by have h1 : w2.heap.size = k := (by simpa [Value.ownBlock] using hk); have := HS.out; omega), Lib.hid (own_none' w2 w.heap.size 2 1 HB2.out.2), Lib.hid ⟨by have := HS.out; simp; omega, HT.out.alloc _⟩, Lib.hid (HB2.out.alloc _)⟩
    case round =>
      obtain ⟨i, hi, rfl, ds, ao, co, rfl, hds, hne, hown, htab, hbw⟩ := hrel
      have hdl : ds.length ≤ i := by have := segI_length (canP zs n 1) 0 i; rw [← hds.out] at this; exact this
      by_cases hlt : i < M + 1
      · obtain ⟨gx, cx, k1, k2⟩ := htab.out.2.get (j := 0) (Nat.le_refl _) (by omega)
        have k3 := k2 i (by omega)
        obtain ⟨x, hx⟩ : ∃ x, fewT zs n 1 0 i = x := ⟨_, rfl⟩
        rw [hx] at k3
        have hlt' : (i : Int) ≤ (M : Int) := by omega
        have f4 : (0 : Int) < (n : Int) + 1 := by omega
        clear k2
        by_cases h0 : 0 ≤ x
        · have HN := Lib.hid (seg_yes hds.out (show canP zs n 1 i = true by simp [canP, hx, h0]))
          clear hx
          go_wp2_with (at_builtin; refine appJ (by rfl) _ _ (by rfl) w.heap.size _ _ _ (by rfl) hown.out _ 1 wr.heap.size (by simp) (by rfl) (by omega) hbw.out ?_; intro g5 cap5 w5 ho5 hb5 hg5 hat5; have Ho5 := Lib.hid ho5; have Hb5 := Lib.hid hb5; have Ht5 := Lib.hid (And.intro (Nat.le_trans htab.out.1 hg5.size) (htab.out.2.grownO hg5 hne.out)); have Hne5 := Lib.hid (show S ≤ g5 from by rcases hat5 with h | h; exact hne.out _ h; have := htab.out.1; omega); clear ho5 hb5 hg5 hat5)
          go_roundw
          case rel => exact ⟨i + 1, by omega, by go_num, ds ++ [(i : Int)], some ⟨g5, 0, none⟩, cap5, by simp, HN, Lib.hid (fun k hk => by have h1 : g5 = k := (by simpa [Value.ownBlock] using hk); have := Hne5.out; omega), Lib.hid (by simpa using Ho5.out), Ht5, Hb5⟩
          case measure => simp [intOf]; omega
        · have HN := Lib.hid (seg_no hds.out (show canP zs n 1 i = false by simp [canP, hx]; omega))
          clear hx
          go_wp2
          go_roundw
          case rel => exact ⟨i + 1, by omega, by go_num, ds, ao, co, rfl, HN, hne, hown, htab, hbw⟩
          case measure => simp [intOf]; omega
      · obtain rfl : i = M + 1 := by omega
        obtain rfl : ds = r := by rw [hds.out, HR.out]
        go_wp2
        go_ret2
        exact ⟨ao, ds.length, co, rfl, by omega, by omega, hown.out, hbw.out.1⟩
  · obtain rfl : r = [] := by rw [← hr]; simp [hhF, hq, h0]
    have h0' : (q != 0) = true := by simpa using h0
    have H1 := Lib.hid h1
    clear h1 hr hq h0 hl hc
    go_enter Try.func35, Try.ntmps35
    go_wp2_with (go_at_call 68; refine H1.out.mono ?_; rintro e w1 ⟨rfl, hb1⟩)
    go_ret2
    exact rowEnd_bad hb1
end Go.Proofs.Ytlaapndncejlgaa
