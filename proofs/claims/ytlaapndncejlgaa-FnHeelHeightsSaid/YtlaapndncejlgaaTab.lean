/-
  The table of the fewest lifts: plain functions, and the table in memory. No condition of its own.
-/
import Derived.Test.YtlaapndncejlgaaStockOk
import Derived.Test.YtlaapndncejlgaaUse
import Derived.Test.YtlaapndncejlgaaRepeat
namespace Go.Proofs.Ytlaapndncejlgaa
open Go.ChangeShapes Go.WideShapes Go.ChangeAt Go.RowKit Go.Deep Go.Shelf

/-! ### Rows of 1201 numbers -/
def rowL (v : Nat → Int) : List Value := (List.range 1201).map fun h => .int .i64 (v h)
theorem length_rowL (v : Nat → Int) : (rowL v).length = 1201 := by simp [rowL]
theorem rowL_get {v : Nat → Int} {h : Nat} (hh : h < 1201) : (rowL v)[h]? = some (.int .i64 (v h)) := by simp [rowL, hh]
def upd (v : Nat → Int) (h : Nat) (x : Int) : Nat → Int := fun i => if i = h then x else v i
theorem upd_eq (v : Nat → Int) (h : Nat) (x : Int) : upd v h x h = x := by simp [upd]
theorem upd_lt {v : Nat → Int} {h i : Nat} {x : Int} (hi : i < h) : upd v h x i = v i := by simp [upd]; omega
theorem rowL_set (v : Nat → Int) (h : Nat) (x : Int) : (rowL v).set h (.int .i64 x) = rowL (upd v h x) := by
  refine List.ext_getElem (by simp [rowL]) (fun i h1 h2 => ?_)
  rw [List.getElem_set]
  simp only [rowL, List.getElem_map, List.getElem_range, upd]
  by_cases e : h = i
  · subst e; simp
  · rw [if_neg e, if_neg (by omega)]
theorem rowL_congr {v u : Nat → Int} (h : ∀ i, i < 1201 → v i = u i) : rowL v = rowL u := by
  refine List.map_congr_left (fun i hi => ?_)
  rw [h i (by simpa using hi)]
theorem rowL_const (x : Int) : rowL (fun _ => x) = List.replicate 1201 (.int .i64 x) := by
  simp [rowL, List.map_const']

/-! ### The fewest lifts -/
/-- The least number of lifts with a height, of the first c counts of a kind. -/
def scanZ (f : Nat → Int) (T h : Nat) : Nat → Int
  | 0 => -1
  | c + 1 => if 0 ≤ f (h - c * T) ∧ (scanZ f T h c < 0 ∨ f (h - c * T) + (c : Int) < scanZ f T h c) then f (h - c * T) + (c : Int) else scanZ f T h c
theorem scan_yes {f : Nat → Int} {T h c : Nat} {b x : Int} (hb : scanZ f T h c = b) (hx : f (h - c * T) = x) (k : 0 ≤ x ∧ (b < 0 ∨ x + (c : Int) < b)) : scanZ f T h (c + 1) = x + (c : Int) := by
  simp only [scanZ, hb, hx, if_pos k]
theorem scan_no {f : Nat → Int} {T h c : Nat} {b x : Int} (hb : scanZ f T h c = b) (hx : f (h - c * T) = x) (k : ¬ (0 ≤ x ∧ (b < 0 ∨ x + (c : Int) < b))) : scanZ f T h (c + 1) = b := by
  simp only [scanZ, hb, hx, if_neg k]
def fewD (th ct : Nat → Nat) (n : Nat) : Nat → Nat → Int
  | 0, h => if h = 0 then 0 else -1
  | d + 1, h => scanZ (fewD th ct n d) (th (n - 1 - d)) h (min (ct (n - 1 - d)) (h / th (n - 1 - d)) + 1)
theorem scanZ_bd {f : Nat → Int} {T h : Nat} {A : Int} (hA : 0 ≤ A) (hf : ∀ i, -1 ≤ f i ∧ f i ≤ A) (c : Nat) : -1 ≤ scanZ f T h c ∧ scanZ f T h c ≤ A + c := by
  induction c with
  | zero => simp [scanZ]; omega
  | succ c ih =>
    have := hf (h - c * T)
    simp only [scanZ]
    split <;> omega
theorem fewD_bd {th ct : Nat → Nat} {n : Nat} (hc : ∀ k, k < n → ct k ≤ 20) : ∀ {d : Nat}, d ≤ n → ∀ h, -1 ≤ fewD th ct n d h ∧ fewD th ct n d h ≤ 21 * d := by
  intro d
  induction d with
  | zero => intro _ h; simp only [fewD]; split <;> simp
  | succ d ih =>
    intro hd h
    simp only [fewD]
    have h1 := scanZ_bd (f := fewD th ct n d) (T := th (n - 1 - d)) (h := h) (A := 21 * d) (by omega) (ih (by omega)) (min (ct (n - 1 - d)) (h / th (n - 1 - d)) + 1)
    have h2 := hc (n - 1 - d) (by omega)
    omega
def thN (zs : List Int) (k : Nat) : Nat := (zs.getD (k * 2) 0).toNat
def ctN (zs : List Int) (t : Int) (k : Nat) : Nat := (zs.getD (k * 2 + 1) 0 / t).toNat
/-- For the kinds from k on: the least number of lifts with a height, -1 if there is none. -/
def fewT (zs : List Int) (n : Nat) (t : Int) (k h : Nat) : Int := fewD (thN zs) (ctN zs t) n (n - k) h
theorem ctN_le {zs : List Int} {n : Nat} {t : Int} (hok : stockB zs n = true) : ∀ k, k < n → ctN zs t k ≤ 20 := by
  intro k hk
  have h1 := (stockB_at hok hk).2.2
  have h2 : zs.getD (k * 2 + 1) 0 / t ≤ zs.getD (k * 2 + 1) 0 := Int.ediv_le_self _ h1.1
  unfold ctN
  omega
theorem fewT_bd {zs : List Int} {n : Nat} {t : Int} (hok : stockB zs n = true) (k h : Nat) : -1 ≤ fewT zs n t k h ∧ fewT zs n t k h ≤ 126 := by
  have h1 := fewD_bd (th := thN zs) (ct := ctN zs t) (n := n) (ctN_le hok) (d := n - k) (by omega) h
  have h2 : n ≤ 6 := by
    simp only [stockB, Bool.and_eq_true, decide_eq_true_eq] at hok
    exact hok.2
  unfold fewT
  omega
theorem fewT_end (zs : List Int) (n : Nat) (t : Int) (h : Nat) : fewT zs n t n h = if h = 0 then 0 else -1 := by
  simp [fewT, fewD]
theorem fewT_step {zs : List Int} {n k T C : Nat} {t : Int} (hk : k < n) (hT : thN zs k = T) (hC : ctN zs t k = C) (h : Nat) : fewT zs n t k h = scanZ (fewT zs n t (k + 1)) T h (min C (h / T) + 1) := by
  have e : n - k = (n - (k + 1)) + 1 := by omega
  have e2 : n - 1 - (n - (k + 1)) = k := by omega
  unfold fewT
  rw [e]
  simp only [fewD, e2, hT, hC]
theorem many_iff {C T h c : Nat} (hT : 1 ≤ T) : c < min C (h / T) + 1 ↔ c ≤ C ∧ c * T ≤ h := by
  have : c ≤ h / T ↔ c * T ≤ h := Nat.le_div_iff_mul_le hT
  rw [← this]; omega

/-! ### The table in memory -/
/-- From row k on the table's rows hold f; all blocks of the table are below S. -/
def Tab (W : World) (B S gO n k : Nat) (f : Nat → Nat → Int) : Prop :=
  gO < S ∧ ∃ xs : List Value, W.ownsRow B 33 1 (.slice (some ⟨gO, 0, none⟩) (n + 1) (n + 1)) (n + 1) xs ∧
    ∀ j, k ≤ j → j ≤ n → ∃ g c, xs[j]? = some (.slice (some ⟨g, 0, none⟩) 1201 c) ∧ g < S ∧ g ≠ gO ∧ W.ownsRow B 2 1 (.slice (some ⟨g, 0, none⟩) 1201 c) 1201 (rowL (f j))
theorem Tab.grown {W W' : World} {B S gO n k r : Nat} {f : Nat → Nat → Int} (h : Tab W B S gO n k f) (hg : W.grownBy W' (some r)) (hr : S ≤ r) : Tab W' B S gO n k f := by
  obtain ⟨hS, xs, ho, hj⟩ := h
  refine ⟨hS, xs, own_grown_ne ho hg (fun b hb e => ?_), fun j h1 h2 => ?_⟩
  · have e1 : gO = b := by simpa [Value.ownBlock] using hb
    have e2 : r = b := by simpa using e
    omega
  · obtain ⟨g, c, h3, h4, h5, h6⟩ := hj j h1 h2
    refine ⟨g, c, h3, h4, h5, own_grown_ne h6 hg (fun b hb e => ?_)⟩
    have e1 : g = b := by simpa [Value.ownBlock] using hb
    have e2 : r = b := by simpa using e
    omega
theorem Tab.below {W W' : World} {B S gO n k : Nat} {f : Nat → Nat → Int} (h : Tab W B S gO n k f) (hb : Below W.heap.size W W') : Tab W' B S gO n k f := by
  obtain ⟨hS, xs, ho, hj⟩ := h
  refine ⟨hS, xs, own_below ho hb, fun j h1 h2 => ?_⟩
  obtain ⟨g, c, h3, h4, h5, h6⟩ := hj j h1 h2
  exact ⟨g, c, h3, h4, h5, own_below h6 hb⟩
theorem Tab.alloc {W : World} {B S gO n k : Nat} {f : Nat → Nat → Int} (h : Tab W B S gO n k f) (o : Obj) : Tab (W.alloc o) B S gO n k f := h.below ((Below.refl _ _).alloc (Nat.le_refl _) _)
theorem Tab.drewN {W : World} {B S gO n k : Nat} {f : Nat → Nat → Int} (h : Tab W B S gO n k f) (q : Nat) : Tab (W.drewN q) B S gO n k f := h
theorem Tab.base {W : World} {B B' S gO n k : Nat} {f : Nat → Nat → Int} (h : Tab W B S gO n k f) (hB : B' ≤ B) : Tab W B' S gO n k f := by
  obtain ⟨hS, xs, ho, hj⟩ := h
  refine ⟨hS, xs, own_base ho hB, fun j h1 h2 => ?_⟩
  obtain ⟨g, c, h3, h4, h5, h6⟩ := hj j h1 h2
  exact ⟨g, c, h3, h4, h5, own_base h6 hB⟩
/-- A row of the table, read. -/
theorem Tab.get {W : World} {B S gO n k j : Nat} {f : Nat → Nat → Int} (h : Tab W B S gO n k f) (h1 : k ≤ j) (h2 : j ≤ n) :
    ∃ g c, W.cell? ⟨gO, j, none⟩ = some (.slice (some ⟨g, 0, none⟩) 1201 c) ∧ ∀ m, m < 1201 → W.cell? ⟨g, m, none⟩ = some (.int .i64 (f j m)) := by
  obtain ⟨hS, xs, ho, hj⟩ := h
  obtain ⟨g, c, h3, h4, h5, h6⟩ := hj j h1 h2
  exact ⟨g, c, by rw [ho.cellAt j (by omega)]; exact h3, fun m hm => by rw [h6.cellAt m (by omega), rowL_get hm]⟩
/-- The place of a row, to be stored into. -/
theorem Tab.spot {W : World} {B S gO n k : Nat} {f : Nat → Nat → Int} (h : Tab W B S gO n k f) {q : Nat} (hq : q ≤ n) : (∃ u, W.cell? ⟨gO, q, none⟩ = some u) ∧ W.frozen? ⟨gO, q, none⟩ = false := by
  obtain ⟨hS, xs, ho, hj⟩ := h
  refine ⟨⟨_, (ho.cellAt q (by omega)).trans (List.getElem?_eq_getElem (by rw [ho.1]; omega))⟩, ho.frozenAt q⟩
theorem Tab.put {W : World} {B S S' gO gR c n q : Nat} {f : Nat → Nat → Int} {v : Nat → Int} (h : Tab W B S gO n (q + 1) f) (hq : q ≤ n) (hrow : W.ownsRow B 2 1 (.slice (some ⟨gR, 0, none⟩) 1201 c) 1201 (rowL v)) (hv : ∀ i, i < 1201 → v i = f q i) (hR : S ≤ gR) (hS' : gR < S') :
    Tab (W.setCell ⟨gO, q, none⟩ (.slice (some ⟨gR, 0, none⟩) 1201 c)) B S' gO n q f ∧ W.grownBy (W.setCell ⟨gO, q, none⟩ (.slice (some ⟨gR, 0, none⟩) 1201 c)) (some gO) := by
  obtain ⟨hS, xs, ho, hj⟩ := h
  have hst := ho.stored q (.slice (some ⟨gR, 0, none⟩) 1201 c)
  have hne : ∀ {g : Nat} {cs : List Value} {d : Nat}, g ≠ gO → W.ownsRow B 2 1 (.slice (some ⟨g, 0, none⟩) 1201 d) 1201 cs → (W.setCell ⟨gO, q, none⟩ (.slice (some ⟨gR, 0, none⟩) 1201 c)).ownsRow B 2 1 (.slice (some ⟨g, 0, none⟩) 1201 d) 1201 cs := fun hg h6 =>
    own_grown_ne h6 hst.2 (fun b hb e => by
      have e1 := (show _ = b by simpa [Value.ownBlock] using hb)
      have e2 : gO = b := by simpa using e
      omega)
  refine ⟨⟨by omega, xs.set q (.slice (some ⟨gR, 0, none⟩) 1201 c), hst.1, fun j h1 h2 => ?_⟩, hst.2⟩
  by_cases e : q = j
  · subst e
    refine ⟨gR, c, ?_, hS', by omega, ?_⟩
    · rw [List.getElem?_set_self (by rw [ho.1]; omega)]
    · rw [← rowL_congr hv]
      exact hne (by omega) hrow
  · obtain ⟨g, d, h3, h4, h5, h6⟩ := hj j (by omega) h2
    refine ⟨g, d, ?_, by omega, h5, hne h5 h6⟩
    rw [List.getElem?_set_ne e]
    exact h3
/-- What the making of a table answers. -/
def TabEnd (w : World) (n : Nat) (f : Nat → Nat → Int) (e : Ending) (w' : World) : Prop :=
  ∃ gO S, e = .returned (.slice (some ⟨gO, 0, none⟩) (n + 1) (n + 1)) ∧ Tab w' w.heap.size S gO n 0 f ∧ Below w.heap.size w w'
theorem infoRows : (Try.prog.info? 33).map (fun i => (i.zero, i.size, i.bytes)) = some (some (.slice none 0 0), 1, 24) := by kernel_rfl
theorem tab_start (w : World) (n : Nat) (hn : n ≤ 6) (f : Nat → Nat → Int) : Tab (w.alloc (.cells (madeCells #[.slice none 0 0] (n + 1)) 33)) w.heap.size (w.heap.size + 1) w.heap.size n (n + 1) f := by
  refine ⟨by omega, (madeCells #[.slice none 0 0] (n + 1)).toList, World.ownsRow_lit (size := 1) (e := 33) w _ (n + 1) (Nat.le_refl _) (by unfold maxLen; omega) (by rw [size_madeCells]; simp), fun j h1 h2 => by omega⟩
end Go.Proofs.Ytlaapndncejlgaa
