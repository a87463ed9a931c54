/-
  Contracts of LockPlaces, both sides. No condition of its own.
-/
import Derived.Test.YtgdndmpnnocgiaaApp2
import Derived.Test.YtgdndmpnnocgiaaHoles
import Derived.Test.YtgdndmpnnocgiaaClone
namespace Go.Proofs.Ytgdndmpnnocgiaa
open Go.ChangeShapes Go.WideShapes Go.ChangeAt Go.RowKit Go.Deep Go.Shelf

/-- The numbers from a on, d of them, at which p holds. -/
def segI (p : Nat → Bool) (a : Nat) : Nat → List Int
  | 0 => []
  | d + 1 => (if p a then [(a : Int)] else []) ++ segI p (a + 1) d
theorem segI_append (p : Nat → Bool) (a d1 d2 : Nat) : segI p a (d1 + d2) = segI p a d1 ++ segI p (a + d1) d2 := by
  induction d1 generalizing a with
  | zero => simp [segI]
  | succ d1 ih => rw [show d1 + 1 + d2 = (d1 + d2) + 1 by omega]; simp only [segI, ih, List.append_assoc]; rw [show a + 1 + d1 = a + (d1 + 1) by omega]
theorem segI_snoc (p : Nat → Bool) (i : Nat) : segI p 0 (i + 1) = segI p 0 i ++ (if p i then [(i : Int)] else []) := by
  rw [segI_append]; simp [segI]
theorem segI_bd {p : Nat → Bool} {a d : Nat} {x : Int} (h : x ∈ segI p a d) : (a : Int) ≤ x ∧ x < (a : Int) + (d : Int) := by
  induction d generalizing a with
  | zero => simp [segI] at h
  | succ d ih =>
    simp only [segI, List.mem_append] at h
    rcases h with h | h
    · split at h
      · simp at h; omega
      · simp at h
    · have := ih h; omega
theorem segI_congr {p q : Nat → Bool} {a d : Nat} (h : ∀ i, a ≤ i → i < a + d → p i = q i) : segI p a d = segI q a d := by
  induction d generalizing a with
  | zero => rfl
  | succ d ih => simp only [segI]; rw [h a (by omega) (by omega), ih (fun i h1 h2 => h i (by omega) (by omega))]
theorem segI_none {p : Nat → Bool} {a d : Nat} (h : ∀ i, a ≤ i → i < a + d → p i = false) : segI p a d = [] := by
  induction d generalizing a with
  | zero => rfl
  | succ d ih => simp only [segI]; rw [h a (by omega) (by omega), ih (fun i h1 h2 => h i (by omega) (by omega))]; rfl
theorem segI_length (p : Nat → Bool) (a d : Nat) : (segI p a d).length ≤ d := by
  induction d generalizing a with
  | zero => simp [segI]
  | succ d ih => have := ih (a + 1); simp only [segI, List.length_append]; split <;> simp <;> omega
/-- A number put to its place among others. -/
def putR (n : Int) : List Int → List Int
  | [] => [n]
  | x :: xs => if n ≤ x then (if n < x then n :: x :: xs else x :: xs) else x :: putR n xs
theorem putR_append {n : Int} {A B : List Int} (h : ∀ x ∈ A, x < n) : putR n (A ++ B) = A ++ putR n B := by
  induction A with
  | nil => rfl
  | cons a A ih =>
    have := h a (by simp)
    simp only [List.cons_append, putR]
    rw [if_neg (by omega), ih (fun x hx => h x (by simp [hx]))]
theorem putR_length (n : Int) (xs : List Int) : (putR n xs).length ≤ xs.length + 1 := by
  induction xs with
  | nil => simp [putR]
  | cons x xs ih => simp only [putR]; split; · split <;> simp
                    · simp; omega
theorem putR_above {n : Int} {B : List Int} (h : ∀ x ∈ B, n < x) : putR n B = n :: B := by
  cases B with
  | nil => rfl
  | cons x xs => have := h x (by simp); simp only [putR]; rw [if_pos (by omega), if_pos this]
theorem putR_seg {p q : Nat → Bool} {k H : Nat} (hk : k < H) (hq : q k = true) (h : ∀ i, i ≠ k → p i = q i) : putR k (segI p 0 H) = segI q 0 H := by
  obtain ⟨d, rfl⟩ : ∃ d, H = k + (1 + d) := ⟨H - k - 1, by omega⟩
  rw [segI_append, segI_append, segI_append, segI_append]
  rw [putR_append (fun x hx => by have := segI_bd hx; omega)]
  rw [segI_congr (p := p) (q := q) (a := 0) (d := k) (fun i _ h2 => h i (by omega)), segI_congr (p := p) (q := q) (a := 0 + k + 1) (d := d) (fun i h1 _ => h i (by omega))]
  congr 1
  simp only [segI, Nat.zero_add, hq, if_true, List.append_nil]
  have hB : ∀ x ∈ segI q (k + 1) d, (k : Int) < x := fun x hx => by have := segI_bd hx; omega
  cases hp : p k
  · simp only [Bool.false_eq_true, if_false, List.nil_append]
    rw [putR_above hB]; rfl
  · simp [putR]
theorem segI_mod {e : Nat} {k d : Nat} (hk : k % e = 0) (h1 : 1 ≤ d) (h2 : d ≤ e) : segI (fun i => decide (i % e = 0)) 0 (k + d) = segI (fun i => decide (i % e = 0)) 0 k ++ [(k : Int)] := by
  obtain ⟨d, rfl⟩ : ∃ c, d = c + 1 := ⟨d - 1, by omega⟩
  rw [segI_append]
  congr 1
  simp only [segI, Nat.zero_add, hk, decide_true, if_true]
  rw [segI_none (fun i h3 h4 => ?_), List.append_nil]
  obtain ⟨r, rfl⟩ : ∃ r, i = k + r := ⟨i - k, by omega⟩
  rw [Nat.add_mod, hk, Nat.zero_add, Nat.mod_mod, Nat.mod_eq_of_lt (by omega)]
  simp; omega
def lockB (h e b : Int) : Bool := inB h 1 1000 && (inB e 1 1000 && inB b 0 10)
def lockP (h e b : Int) (i : Nat) : Bool := decide ((i : Int) % e = 0) || decide (h - b ≤ (i : Int))
def lockF (h e b : Int) : List Int := if lockB h e b then segI (lockP h e b) 0 h.toNat else []
def lockC (h e b : Int) : Int := if lockB h e b then 0 else 2
theorem seg_yes {p : Nat → Bool} {i : Nat} {ds : List Int} (h : ds = segI p 0 i) (hp : p i = true) : ds ++ [(i : Int)] = segI p 0 (i + 1) := by
  rw [h, segI_snoc, hp]; rfl
theorem seg_no {p : Nat → Bool} {i : Nat} {ds : List Int} (h : ds = segI p 0 i) (hp : p i = false) : ds = segI p 0 (i + 1) := by
  rw [h, segI_snoc, hp]; simp

set_option maxRecDepth 100000 in
set_option maxHeartbeats 3200000 in
theorem impl_LockPlaces (w : World) (h : Int) (_ : (Lit.int .i64 h).wf = true) (e : Int) (_ : (Lit.int .i64 e).wf = true) (b : Int) (_ : (Lit.int .i64 b).wf = true) :
    Calls Try.prog 18 #[.int .i64 h, .int .i64 e, .int .i64 b] w (RowEnd w 2 1 (lockF h e b) (lockC h e b)) := by
  cases hB : lockB h e b with
  | false =>
    rw [show lockF h e b = [] by simp [lockF, hB], show lockC h e b = 2 by simp [lockC, hB]]
    simp only [lockB] at hB
    cases q1 : inB h 1 1000
    · clear hB
      go_enter Try.func18, Try.ntmps18
      go_wp2_with (go_at_call 53; refine (within_any _ _ _ _).mono ?_; rintro e w1 ⟨rfl, rfl⟩)
      go_ret2
      exact rowEnd_fail (Below.refl _ _)
    · cases q2 : inB e 1 1000
      · clear hB
        go_enter Try.func18, Try.ntmps18
        go_wp2_with (go_at_call 53; refine (within_any _ _ _ _).mono ?_; rintro e w1 ⟨rfl, rfl⟩)
        go_ret2
        exact rowEnd_fail (Below.refl _ _)
      · simp only [q1, q2, Bool.true_and] at hB
        go_enter Try.func18, Try.ntmps18
        go_wp2_with (go_at_call 53; refine (within_any _ _ _ _).mono ?_; rintro e w1 ⟨rfl, rfl⟩)
        go_ret2
        exact rowEnd_fail (Below.refl _ _)
  | true =>
    rw [show lockC h e b = 0 by simp [lockC, hB]]
    obtain ⟨r0, hr⟩ : ∃ r, lockF h e b = r := ⟨_, rfl⟩
    rw [hr]
    rw [show lockF h e b = segI (lockP h e b) 0 h.toNat by simp [lockF, hB]] at hr
    simp only [lockB, Bool.and_eq_true] at hB
    obtain ⟨q1, q2, q3⟩ := hB
    obtain ⟨h1, h2⟩ := inB_true.1 q1
    obtain ⟨e1, e2⟩ := inB_true.1 q2
    obtain ⟨b1, b2⟩ := inB_true.1 q3
    obtain ⟨H, rfl⟩ : ∃ H : Nat, h = (H : Int) := ⟨h.toNat, by omega⟩
    rw [Int.toNat_natCast] at hr
    have HR := Lib.hid hr
    clear hr
    go_enter Try.func18, Try.ntmps18
    go_wp2_with (go_at_call 53; refine (within_any _ _ _ _).mono ?_; rintro e w1 ⟨rfl, rfl⟩)
    clear q1 q2 q3
    go_loopw [8, 25] (fun v t wr => ∃ i : Nat, i ≤ H ∧ t = .int .i64 i ∧ ∃ (ds : List Int) (ao : Option Addr) (co : Nat), v = .slice ao ds.length co ∧ Hid (ds = segI (lockP H e b) 0 i) ∧ Hid (wr.ownsRow w.heap.size 2 1 (.slice ao ds.length co) ds.length (ds.map (Value.int .i64))) ∧ Hid (Bel w.heap.size w wr)) (fun _ t _ => H - (intOf t).toNat)
    case atStart => exact ⟨0, Nat.zero_le _, rfl, [], _, _, rfl, Lib.hid rfl, Lib.hid (own_none' w w.heap.size 2 1 (Nat.le_refl _)), Lib.hid ((Bel.refl w).alloc _)⟩
    case round =>
      obtain ⟨i, hi, rfl, ds, ao, co, rfl, hds, hown, hbw⟩ := hrel
      have hdl : ds.length ≤ i := by have := segI_length (lockP H e b) 0 i; rw [← hds.out] at this; exact this
      by_cases hlt : i < H
      · have hlt' : (i : Int) < (H : Int) := by omega
        have hm1 := Int.emod_nonneg (i : Int) (show e ≠ 0 by omega)
        have hm2 := Int.emod_lt_of_pos (i : Int) (show 0 < e by omega)
        by_cases hm : (i : Int) % e = 0
        · have gg : ((i : Int) % e == 0) = true := by simpa using hm
          have HP := Lib.hid (show lockP H e b i = true by simp [lockP, hm])
          clear hm
          go_wp2_with (at_builtin; refine appJ (by rfl) _ _ (by rfl) w.heap.size _ _ _ (by rfl) hown.out _ 1 wr.heap.size (by simp) (by rfl) (by omega) hbw.out ?_; intro g5 cap5 w5 ho5 hb5 hg5 hat5; have Ho5 := Lib.hid ho5; have Hb5 := Lib.hid hb5; clear ho5 hb5 hg5 hat5)
          go_roundw
          case rel => exact ⟨i + 1, by omega, by go_num, ds ++ [(i : Int)], some ⟨g5, 0, none⟩, cap5, by simp, Lib.hid (seg_yes hds.out HP.out), Lib.hid (by simpa using Ho5.out), Hb5⟩
          case measure => simp [intOf]; omega
        · have gg : ((i : Int) % e == 0) = false := by simpa using hm
          by_cases hg : (H : Int) - b ≤ (i : Int)
          · have HP := Lib.hid (show lockP H e b i = true by simp [lockP, hg])
            clear hm
            go_wp2_with (at_builtin; refine appJ (by rfl) _ _ (by rfl) w.heap.size _ _ _ (by rfl) hown.out _ 1 wr.heap.size (by simp) (by rfl) (by omega) hbw.out ?_; intro g5 cap5 w5 ho5 hb5 hg5 hat5; have Ho5 := Lib.hid ho5; have Hb5 := Lib.hid hb5; clear ho5 hb5 hg5 hat5)
            go_roundw
            case rel => exact ⟨i + 1, by omega, by go_num, ds ++ [(i : Int)], some ⟨g5, 0, none⟩, cap5, by simp, Lib.hid (seg_yes hds.out HP.out), Lib.hid (by simpa using Ho5.out), Hb5⟩
            case measure => simp [intOf]; omega
          · have HP := Lib.hid (show lockP H e b i = false by simp [lockP, hm]; omega)
            clear hm
            go_wp2
            go_roundw
            case rel => exact ⟨i + 1, by omega, by go_num, ds, ao, co, rfl, Lib.hid (seg_no hds.out HP.out), hown, hbw⟩
            case measure => simp [intOf]; omega
      · obtain rfl : i = H := by omega
        obtain rfl : ds = r0 := by rw [hds.out, HR.out]
        go_wp2
        go_ret2
        exact ⟨ao, ds.length, co, rfl, by omega, by omega, hown.out, hbw.out.1⟩

theorem put_at {n x : Int} {xs : List Int} {i : Nat} (hx : xs[i]? = some x) (h : ∀ y ∈ xs.take i, y < n) : putR n xs = xs.take i ++ putR n (x :: xs.drop (i + 1)) := by
  have hi := (List.getElem?_eq_some_iff.1 hx).1
  have e : xs = xs.take i ++ (x :: xs.drop (i + 1)) := by
    have hxi : xs[i] = x := (List.getElem?_eq_some_iff.1 hx).2
    rw [← hxi, ← List.drop_eq_getElem_cons hi, List.take_append_drop]
  rw [show putR n xs = putR n (xs.take i ++ (x :: xs.drop (i + 1))) by rw [← e], putR_append h]
theorem put_end {n : Int} {xs : List Int} {i : Nat} (hi : xs.length ≤ i) (h : ∀ y ∈ xs.take i, y < n) : putR n xs = xs.take i ++ [n] := by
  rw [List.take_of_length_le hi] at h ⊢
  have := putR_append (n := n) (A := xs) (B := []) h
  simpa [putR] using this
theorem take_more {n x : Int} {xs : List Int} {i : Nat} (hx : xs[i]? = some x) (h : ∀ y ∈ xs.take i, y < n) (hn : x < n) : ∀ y ∈ xs.take (i + 1), y < n := by
  rw [List.take_add_one, hx]
  intro y hy
  rcases List.mem_append.1 hy with hy | hy
  · exact h y hy
  · simp at hy; omega
theorem take_next {x : Int} {xs : List Int} {i : Nat} (hx : xs[i]? = some x) : xs.take (i + 1) = xs.take i ++ [x] := by
  rw [List.take_add_one, hx]; rfl
theorem get_someL {xs : List Int} {i : Nat} {x : Int} (hi : i < xs.length) (hx : xs.getD i 0 = x) : xs[i]? = some x := by
  rw [← hx]; simp [List.getElem?_eq_getElem hi]
/-- How far the putting is. -/
def PutSt (n : Int) (xs : List Int) (i : Nat) (d : Bool) (ds : List Int) : Prop :=
  (d = false ∧ (∀ y ∈ xs.take i, y < n) ∧ ds = xs.take i) ∨ (d = true ∧ ds ++ xs.drop i = putR n xs)
theorem putSt_go {n x : Int} {xs ds : List Int} {i : Nat} (h : PutSt n xs i false ds) (hx : xs[i]? = some x) (hn : x < n) : PutSt n xs (i + 1) false (ds ++ [x]) := by
  rcases h with ⟨_, h1, rfl⟩ | ⟨h, _⟩
  · exact .inl ⟨rfl, take_more hx h1 hn, (take_next hx).symm⟩
  · cases h
theorem putSt_eq {n : Int} {xs ds : List Int} {i : Nat} (h : PutSt n xs i false ds) (hx : xs[i]? = some n) : PutSt n xs (i + 1) true (ds ++ [n]) := by
  rcases h with ⟨_, h1, rfl⟩ | ⟨h, _⟩
  · exact .inr ⟨rfl, by rw [put_at hx h1]; simp [putR]⟩
  · cases h
theorem putSt_in {n x : Int} {xs ds : List Int} {i : Nat} (h : PutSt n xs i false ds) (hx : xs[i]? = some x) (hn : n < x) : PutSt n xs (i + 1) true ((ds ++ [n]) ++ [x]) := by
  rcases h with ⟨_, h1, rfl⟩ | ⟨h, _⟩
  · refine .inr ⟨rfl, ?_⟩
    rw [put_at hx h1]
    simp only [putR]
    rw [if_pos (by omega), if_pos hn]
    simp
  · cases h
theorem putSt_on {n x : Int} {xs ds : List Int} {i : Nat} (h : PutSt n xs i true ds) (hx : xs[i]? = some x) : PutSt n xs (i + 1) true (ds ++ [x]) := by
  rcases h with ⟨h, _⟩ | ⟨_, h⟩
  · cases h
  · refine .inr ⟨rfl, ?_⟩
    rw [← h, List.append_assoc]
    congr 1
    have hxi := (List.getElem?_eq_some_iff.1 hx)
    obtain ⟨hi, hxi⟩ := hxi
    rw [List.drop_eq_getElem_cons hi, hxi]
    rfl

set_option maxRecDepth 100000 in
set_option maxHeartbeats 3200000 in
theorem l00Put_any (a : Option Addr) (m c : Nat) (xs : List Int) (n : Int) (w : World) (hl : xs.length = m) (hm : m ≤ 1048576) (hc : CellsAt w a (xs.map (Value.int .i64))) :
    Calls Try.prog 56 #[.slice a m c, .int .i64 n] w (OwnRow w 2 1 (putR n xs).length ((putR n xs).map (Value.int .i64))) := by
  obtain ⟨r0, hr⟩ : ∃ r, putR n xs = r := ⟨_, rfl⟩
  rw [hr]
  have HR := Lib.hid hr
  have Hz := Lib.hid hl
  have HA := Lib.hid hc
  clear hr hl hc
  go_enter Try.func56, Try.ntmps56
  go_wp2
  go_loopw [5, 6, 7] (fun v d t wr => ∃ i : Nat, i ≤ m ∧ t = .int .i64 i ∧ ∃ (q : Bool) (ds : List Int) (ao : Option Addr) (co : Nat), d = .bool q ∧ v = .slice ao ds.length co ∧ ds.length ≤ i + 1 ∧ Hid (PutSt n xs i q ds) ∧ Hid (wr.ownsRow w.heap.size 2 1 (.slice ao ds.length co) ds.length (ds.map (Value.int .i64))) ∧ Hid (Bel w.heap.size w wr)) (fun _ _ t _ => m - (intOf t).toNat)
  case atStart => exact ⟨0, Nat.zero_le _, rfl, false, [], _, _, rfl, rfl, by simp, Lib.hid (.inl ⟨rfl, by simp, by simp⟩), Lib.hid (own_none' w w.heap.size 2 1 (Nat.le_refl _)), Lib.hid ((Bel.refl w).alloc _)⟩
  case round =>
    obtain ⟨i, hi, rfl, q, ds, ao, co, rfl, rfl, hdl, hst, hown, hbw⟩ := hrel
    by_cases hlt : i < m
    · obtain ⟨b, o, rfl, hb, hcc⟩ := HA.out.at_ (by have := Hz.out; simp; omega)
      obtain ⟨x, hx⟩ : ∃ z, xs.getD i 0 = z := ⟨_, rfl⟩
      have HCX := Lib.hid (fun W (h : Bel w.heap.size w W) => cell_int hb h.1 hcc (by rw [Hz.out]; exact hlt) hx)
      have hcx := HCX.out _ hbw.out
      have HX := Lib.hid (get_someL (by rw [Hz.out]; exact hlt) hx)
      have hlt' : (i : Int) < (m : Int) := by omega
      clear hcc hx
      cases q with
      | true =>
        go_wp2_with (at_builtin; refine appJ (by rfl) _ _ (by rfl) w.heap.size _ _ _ (by rfl) hown.out _ 1 wr.heap.size (by simp) (by rfl) (by omega) hbw.out ?_; intro g5 cap5 w5 ho5 hb5 hg5 hat5; have Ho5 := Lib.hid ho5; have Hb5 := Lib.hid hb5; clear ho5 hb5 hg5 hat5)
        go_roundw
        case rel => exact ⟨i + 1, by omega, by go_num, true, ds ++ [x], some ⟨g5, 0, none⟩, cap5, rfl, by simp, by simp; omega, Lib.hid (putSt_on hst.out HX.out), Lib.hid (by simpa using Ho5.out), Hb5⟩
        case measure => simp [intOf]; omega
      | false =>
        have hdl2 : ds.length ≤ i := by
          rcases hst.out with ⟨_, _, h⟩ | ⟨h, _⟩
          · rw [h]; exact List.length_take_le _ _
          · cases h
        by_cases h1 : n ≤ x
        · by_cases h2 : n < x
          · go_wp2_with (first | (at_builtin; refine appJ (by rfl) _ _ (by rfl) w.heap.size _ _ _ (by rfl) hown.out _ 1 wr.heap.size (by simp) (by rfl) (by omega) hbw.out ?_; intro g5 cap5 w5 ho5 hb5 hg5 hat5; have Ho5 := Lib.hid (show w5.ownsRow w.heap.size 2 1 (.slice (some ⟨g5, 0, none⟩) (ds.length + 1) cap5) (ds.length + 1) ((ds ++ [n]).map (Value.int .i64)) by simpa using ho5); have Hb5 := Lib.hid hb5; have hcx5 := HCX.out _ hb5; clear ho5 hb5 hg5 hat5) | (at_builtin; refine appJ (by rfl) _ _ (by rfl) w.heap.size _ _ _ (by rfl) Ho5.out _ 1 w5.heap.size (by simp) (by rfl) (by omega) Hb5.out ?_; intro g6 cap6 w6 ho6 hb6 hg6 hat6; have Ho6 := Lib.hid ho6; have Hb6 := Lib.hid hb6; clear ho6 hb6 hg6 hat6))
            go_roundw
            case rel => exact ⟨i + 1, by omega, by go_num, true, (ds ++ [n]) ++ [x], some ⟨g6, 0, none⟩, cap6, rfl, by simp, by simp; omega, Lib.hid (putSt_in hst.out HX.out h2), Lib.hid (by simpa using Ho6.out), Hb6⟩
            case measure => simp [intOf]; omega
          · obtain rfl : x = n := by omega
            go_wp2_with (at_builtin; refine appJ (by rfl) _ _ (by rfl) w.heap.size _ _ _ (by rfl) hown.out _ 1 wr.heap.size (by simp) (by rfl) (by omega) hbw.out ?_; intro g5 cap5 w5 ho5 hb5 hg5 hat5; have Ho5 := Lib.hid ho5; have Hb5 := Lib.hid hb5; clear ho5 hb5 hg5 hat5)
            go_roundw
            case rel => exact ⟨i + 1, by omega, by go_num, true, ds ++ [x], some ⟨g5, 0, none⟩, cap5, rfl, by simp, by simp; omega, Lib.hid (putSt_eq hst.out HX.out), Lib.hid (by simpa using Ho5.out), Hb5⟩
            case measure => simp [intOf]; omega
        · go_wp2_with (at_builtin; refine appJ (by rfl) _ _ (by rfl) w.heap.size _ _ _ (by rfl) hown.out _ 1 wr.heap.size (by simp) (by rfl) (by omega) hbw.out ?_; intro g5 cap5 w5 ho5 hb5 hg5 hat5; have Ho5 := Lib.hid ho5; have Hb5 := Lib.hid hb5; clear ho5 hb5 hg5 hat5)
          go_roundw
          case rel => exact ⟨i + 1, by omega, by go_num, false, ds ++ [x], some ⟨g5, 0, none⟩, cap5, rfl, by simp, by simp; omega, Lib.hid (putSt_go hst.out HX.out (by omega)), Lib.hid (by simpa using Ho5.out), Hb5⟩
          case measure => simp [intOf]; omega
    · obtain rfl : i = m := by omega
      cases q with
      | true =>
        obtain rfl : ds = r0 := by
          rcases hst.out with ⟨h, _⟩ | ⟨_, h⟩
          · cases h
          · rw [List.drop_of_length_le (by rw [Hz.out]; omega), List.append_nil] at h
            rw [h, HR.out]
        go_wp2
        go_ret
        exact ⟨ao, co, rfl, hown.out, hbw.out.1⟩
      | false =>
        obtain rfl : r0 = ds ++ [n] := by
          rcases hst.out with ⟨_, h1, h2⟩ | ⟨h, _⟩
          · rw [← HR.out, put_end (by rw [Hz.out]; omega) h1, h2]
          · cases h
        go_wp2_with (at_builtin; refine appJ (by rfl) _ _ (by rfl) w.heap.size _ _ _ (by rfl) hown.out _ 1 wr.heap.size (by simp) (by rfl) (by omega) hbw.out ?_; intro g5 cap5 w5 ho5 hb5 hg5 hat5; have Ho5 := Lib.hid ho5; have Hb5 := Lib.hid hb5; clear ho5 hb5 hg5 hat5)
        go_ret
        exact ⟨some ⟨g5, 0, none⟩, cap5, by simp, by simpa using Ho5.out, Hb5.out.1⟩

def modP (E : Nat) (i : Nat) : Bool := decide (i % E = 0)
def backP (E S k : Nat) (i : Nat) : Bool := decide (i % E = 0) || (decide (S ≤ i) && decide (i < k))
theorem mod_step {E k H : Nat} {ds : List Int} (h : ds = segI (modP E) 0 (min k H)) (hk : k % E = 0) (hE : 1 ≤ E) (hlt : k < H) : ds ++ [(k : Int)] = segI (modP E) 0 (min (k + E) H) := by
  rw [h, Nat.min_eq_left (by omega)]
  obtain ⟨d, hd1, hd2, hd3⟩ : ∃ d, min (k + E) H = k + d ∧ 1 ≤ d ∧ d ≤ E := ⟨min E (H - k), by omega, by omega, by omega⟩
  rw [hd1]
  exact (segI_mod hk hd2 hd3).symm
theorem back_start {E S k H : Nat} {ds : List Int} (h : ds = segI (modP E) 0 (min k H)) (hk : H ≤ k) : ds = segI (backP E S S) 0 H := by
  rw [h, Nat.min_eq_right hk]
  refine segI_congr (fun i _ _ => ?_)
  simp only [modP, backP]
  have : (decide (S ≤ i) && decide (i < S)) = false := by simp
  rw [this, Bool.or_false]
theorem back_step {E S k H : Nat} {ds : List Int} (h : ds = segI (backP E S k) 0 H) (h1 : S ≤ k) (h2 : k < H) : putR (k : Int) ds = segI (backP E S (k + 1)) 0 H := by
  rw [h]
  refine putR_seg h2 (by simp [backP, h1]) (fun i hi => ?_)
  simp only [backP]
  have : decide (i < k) = decide (i < k + 1) := decide_eq_decide.2 (by omega)
  rw [this]
theorem back_end {E S H : Nat} {b : Int} {ds : List Int} (h : ds = segI (backP E S H) 0 H) (hS : max 0 ((H : Int) - b) = (S : Int)) : ds = segI (lockP H E b) 0 H := by
  rw [h]
  refine segI_congr (fun i _ hi => ?_)
  simp only [backP, lockP]
  have e1 : decide (i % E = 0) = decide ((i : Int) % (E : Int) = 0) := decide_eq_decide.2 (by show _ ↔ ((i % E : Nat) : Int) = 0; omega)
  have e2 : (decide (S ≤ i) && decide (i < H)) = decide ((H : Int) - b ≤ (i : Int)) := by rw [Bool.eq_iff_iff]; simp; omega
  rw [e1, e2]

set_option maxRecDepth 100000 in
set_option maxHeartbeats 3200000 in
theorem spec_LockPlaces (w : World) (h : Int) (_ : (Lit.int .i64 h).wf = true) (e : Int) (_ : (Lit.int .i64 e).wf = true) (b : Int) (_ : (Lit.int .i64 b).wf = true) :
    Calls Try.prog 17 #[.int .i64 h, .int .i64 e, .int .i64 b] w (RowEnd w 2 1 (lockF h e b) (lockC h e b)) := by
  cases hB : lockB h e b with
  | false =>
    rw [show lockF h e b = [] by simp [lockF, hB], show lockC h e b = 2 by simp [lockC, hB]]
    simp only [lockB] at hB
    cases q1 : inB h 1 1000
    · clear hB
      go_enter Try.func17, Try.ntmps17
      go_wp2_with (go_at_call 50; refine (l00In_any _ _ _ _).mono ?_; rintro e w1 ⟨rfl, rfl⟩)
      go_ret2
      exact rowEnd_fail (Below.refl _ _)
    · cases q2 : inB e 1 1000
      · clear hB
        go_enter Try.func17, Try.ntmps17
        go_wp2_with (go_at_call 50; refine (l00In_any _ _ _ _).mono ?_; rintro e w1 ⟨rfl, rfl⟩)
        go_ret2
        exact rowEnd_fail (Below.refl _ _)
      · simp only [q1, q2, Bool.true_and] at hB
        go_enter Try.func17, Try.ntmps17
        go_wp2_with (go_at_call 50; refine (l00In_any _ _ _ _).mono ?_; rintro e w1 ⟨rfl, rfl⟩)
        go_ret2
        exact rowEnd_fail (Below.refl _ _)
  | true =>
    rw [show lockC h e b = 0 by simp [lockC, hB]]
    obtain ⟨r0, hr⟩ : ∃ r, lockF h e b = r := ⟨_, rfl⟩
    rw [hr]
    rw [show lockF h e b = segI (lockP h e b) 0 h.toNat by simp [lockF, hB]] at hr
    simp only [lockB, Bool.and_eq_true] at hB
    obtain ⟨q1, q2, q3⟩ := hB
    obtain ⟨h1, h2⟩ := inB_true.1 q1
    obtain ⟨e1, e2⟩ := inB_true.1 q2
    obtain ⟨b1, b2⟩ := inB_true.1 q3
    obtain ⟨H, rfl⟩ : ∃ H : Nat, h = (H : Int) := ⟨h.toNat, by omega⟩
    obtain ⟨E, rfl⟩ : ∃ E : Nat, e = (E : Int) := ⟨e.toNat, by omega⟩
    obtain ⟨S, hS⟩ : ∃ S : Nat, max 0 ((H : Int) - b) = (S : Int) := ⟨(max 0 ((H : Int) - b)).toNat, by omega⟩
    have hSH : S ≤ H := by omega
    have hmx := fun W => l00Max_any 0 ((H : Int) - b) W
    simp only [hS] at hmx
    rw [Int.toNat_natCast] at hr
    have HR := Lib.hid hr
    have HS := Lib.hid hS
    have HM := Lib.hid hmx
    clear hr hS hmx
    go_enter Try.func17, Try.ntmps17
    go_wp2_with (go_at_call 50; refine (l00In_any _ _ _ _).mono ?_; rintro e w1 ⟨rfl, rfl⟩)
    clear q1 q2 q3
    go_loopw [8, 9] (fun v t wr => ∃ k : Nat, k ≤ H + E ∧ t = .int .i64 k ∧ ∃ (ds : List Int) (ao : Option Addr) (co : Nat), v = .slice ao ds.length co ∧ Hid (k % E = 0) ∧ Hid (ds = segI (modP E) 0 (min k H)) ∧ Hid (wr.ownsRow w.heap.size 2 1 (.slice ao ds.length co) ds.length (ds.map (Value.int .i64))) ∧ Hid (Bel w.heap.size w wr)) (fun _ t _ => H - (intOf t).toNat)
    case atStart => exact ⟨0, Nat.zero_le _, rfl, [], _, _, rfl, Lib.hid (Nat.zero_mod _), Lib.hid (by simp [segI]), Lib.hid (own_none' w w.heap.size 2 1 (Nat.le_refl _)), Lib.hid ((Bel.refl w).alloc _)⟩
    case round =>
      obtain ⟨k, hk, rfl, ds, ao, co, rfl, hmod, hds, hown, hbw⟩ := hrel
      have hdl : ds.length ≤ H := by have := segI_length (modP E) 0 (min k H); rw [← hds.out] at this; omega
      by_cases hlt : k < H
      · have hlt' : (k : Int) < (H : Int) := by omega
        go_wp2_with (at_builtin; refine appJ (by rfl) _ _ (by rfl) w.heap.size _ _ _ (by rfl) hown.out _ 1 wr.heap.size (by simp) (by rfl) (by omega) hbw.out ?_; intro g5 cap5 w5 ho5 hb5 hg5 hat5; have Ho5 := Lib.hid ho5; have Hb5 := Lib.hid hb5; clear ho5 hb5 hg5 hat5)
        go_roundw
        case rel => exact ⟨k + E, by omega, by go_num, ds ++ [(k : Int)], some ⟨g5, 0, none⟩, cap5, by simp, Lib.hid (by rw [Nat.add_mod_right]; exact hmod.out), Lib.hid (mod_step hds.out hmod.out (by omega) hlt), Lib.hid (by simpa using Ho5.out), Hb5⟩
        case measure => simp [intOf]; omega
      · have HD := Lib.hid (back_start (S := S) hds.out (by omega))
        clear hmod hds
        go_wp2_with (go_at_call 55; refine (HM.out _).mono ?_; rintro e w1 ⟨rfl, rfl⟩)
        go_loopw [8, 10] (fun v t wi => ∃ k : Nat, S ≤ k ∧ k ≤ H ∧ t = .int .i64 k ∧ ∃ (ds : List Int) (ao : Option Addr) (co : Nat), v = .slice ao ds.length co ∧ Hid (ds = segI (backP E S k) 0 H) ∧ Hid (wi.ownsRow w.heap.size 2 1 (.slice ao ds.length co) ds.length (ds.map (Value.int .i64))) ∧ Hid (Bel w.heap.size w wi)) (fun _ t _ => H - (intOf t).toNat)
        case atStart => exact ⟨S, Nat.le_refl _, hSH, rfl, ds, ao, co, rfl, HD, hown, hbw⟩
        case round =>
          obtain ⟨k, hk1, hk2, rfl, ds, ao, co, rfl, hds, hown, hbw⟩ := hrel
          have hdl : ds.length ≤ H := by have := segI_length (backP E S k) 0 H; rw [← hds.out] at this; omega
          by_cases hlk : k < H
          · have hput := l00Put_any ao ds.length co ds (k : Int) wr rfl (by omega) (CellsAt.of_own hown.out)
            rw [back_step hds.out hk1 hlk] at hput
            obtain ⟨d2, hd2⟩ : ∃ d2, segI (backP E S (k + 1)) 0 H = d2 := ⟨_, rfl⟩
            rw [hd2] at hput
            have HP := Lib.hid hput
            have HD2 := Lib.hid hd2.symm
            clear hput hd2
            go_wp2_with (go_at_call 56; refine HP.out.mono ?_; rintro e w2 ⟨aL, capL, rfl, hoL, hb2⟩; have HL := Lib.hid (own_base hoL hbw.out.2); have HB2 := Lib.hid (hbw.out.step hb2); clear hoL hb2)
            go_roundw
            case rel => exact ⟨k + 1, by omega, by omega, by go_num, d2, aL, capL, rfl, HD2, HL, HB2⟩
            case measure => simp [intOf]; omega
          · obtain rfl : k = H := by omega
            obtain rfl : ds = r0 := by rw [back_end hds.out HS.out, HR.out]
            go_wp2
            go_ret2
            exact ⟨ao, ds.length, co, rfl, by omega, by omega, hown.out, hbw.out.1⟩
end Go.Proofs.Ytgdndmpnnocgiaa
