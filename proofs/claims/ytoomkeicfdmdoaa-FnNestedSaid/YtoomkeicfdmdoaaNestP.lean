/-
  The search for the best rows, in plain Lean. No condition of its own.
-/
import Derived.Test.YtoomkeicfdmdoaaRow
import Derived.Test.YtoomkeicfdmdoaaSlices
namespace Go.Proofs.Ytoomkeicfdmdoaa

/-- A number is put at a place, or behind the last one. -/
def putW (ws : List Int) (k : Nat) (x : Int) : List Int := if k < ws.length then ws.set k x else ws ++ [x]
/-- The search: a block goes into each row with room in turn, then into a new one. zs: the widths and heights of the blocks that are left. -/
def nestTo (roll : Int) : List Int → List Int → List Int → List Int → Int → List Int × Int → List Int × Int
  | bw :: bh :: bs, ws, hs, pre, sum, st => if 0 ≤ st.2 ∧ st.2 ≤ sum then st else
      (List.range (ws.length + 1)).foldl (fun s k => if roll < ws.getD k 0 + bw then s else nestTo roll bs (putW ws k (ws.getD k 0 + bw)) (putW hs k (max (hs.getD k 0) bh)) (pre ++ [(k : Int)]) (sum + (max (hs.getD k 0) bh - hs.getD k 0)) s) st
  | _, _, _, pre, sum, st => if 0 ≤ st.2 ∧ st.2 ≤ sum then st else (pre, sum)
def nestAt (roll bw bh : Int) (bs ws hs pre : List Int) (sum : Int) (st : List Int × Int) (k : Nat) : List Int × Int :=
  (List.range k).foldl (fun s k => if roll < ws.getD k 0 + bw then s else nestTo roll bs (putW ws k (ws.getD k 0 + bw)) (putW hs k (max (hs.getD k 0) bh)) (pre ++ [(k : Int)]) (sum + (max (hs.getD k 0) bh - hs.getD k 0)) s) st
theorem nestTo_cut {roll bw bh : Int} {bs ws hs pre : List Int} {sum : Int} {st : List Int × Int} (h0 : 0 ≤ st.2) (h1 : st.2 ≤ sum) : nestTo roll (bw :: bh :: bs) ws hs pre sum st = st := by
  simp only [nestTo, if_pos (And.intro h0 h1)]
theorem nestTo_cut0 {roll : Int} {ws hs pre : List Int} {sum : Int} {st : List Int × Int} (h0 : 0 ≤ st.2) (h1 : st.2 ≤ sum) : nestTo roll [] ws hs pre sum st = st := by
  simp only [nestTo, if_pos (And.intro h0 h1)]
theorem nestTo_end {roll : Int} {ws hs pre : List Int} {sum : Int} {st : List Int × Int} (h : ¬ (0 ≤ st.2 ∧ st.2 ≤ sum)) : nestTo roll [] ws hs pre sum st = (pre, sum) := by
  simp only [nestTo, if_neg h]
theorem nestTo_more {roll bw bh : Int} {bs ws hs pre : List Int} {sum : Int} {st : List Int × Int} (h : ¬ (0 ≤ st.2 ∧ st.2 ≤ sum)) : nestTo roll (bw :: bh :: bs) ws hs pre sum st = nestAt roll bw bh bs ws hs pre sum st (ws.length + 1) := by
  simp only [nestTo, if_neg h, nestAt]
theorem nestAt_step (roll bw bh : Int) (bs ws hs pre : List Int) (sum : Int) (st : List Int × Int) (k : Nat) : nestAt roll bw bh bs ws hs pre sum st (k + 1) = if roll < ws.getD k 0 + bw then nestAt roll bw bh bs ws hs pre sum st k else nestTo roll bs (putW ws k (ws.getD k 0 + bw)) (putW hs k (max (hs.getD k 0) bh)) (pre ++ [(k : Int)]) (sum + (max (hs.getD k 0) bh - hs.getD k 0)) (nestAt roll bw bh bs ws hs pre sum st k) := by
  simp only [nestAt, List.range_succ, List.foldl_append, List.foldl_cons, List.foldl_nil]
theorem nestAt_skip {roll bw bh v : Int} {bs ws hs pre : List Int} {sum : Int} {st : List Int × Int} {k : Nat} (hv : ws.getD k 0 = v) (h : roll < v + bw) : nestAt roll bw bh bs ws hs pre sum st (k + 1) = nestAt roll bw bh bs ws hs pre sum st k := by
  subst hv
  rw [nestAt_step, if_pos h]
theorem nestAt_go {roll bw bh v q J : Int} {bs ws hs pre : List Int} {sum : Int} {st : List Int × Int} {k : Nat} (hv : ws.getD k 0 = v) (h : ¬ roll < v + bw) (hq : hs.getD k 0 = q) (hJ : J = max q bh) : nestAt roll bw bh bs ws hs pre sum st (k + 1) = nestTo roll bs (putW ws k (v + bw)) (putW hs k J) (pre ++ [(k : Int)]) (sum + (J - q)) (nestAt roll bw bh bs ws hs pre sum st k) := by
  subst hv hq hJ
  rw [nestAt_step, if_neg h]
theorem putW_len {ws : List Int} {k : Nat} {x : Int} (h : k ≤ ws.length) : (putW ws k x).length = max ws.length (k + 1) := by
  unfold putW
  split
  · simp; omega
  · simp; omega
theorem putW_getD {ws : List Int} {k j : Nat} {x : Int} (h : k ≤ ws.length) : (putW ws k x).getD j 0 = if k = j then x else ws.getD j 0 := by
  unfold putW
  split
  · rename_i hk
    by_cases e : k = j
    · subst e; simp [hk]
    · rw [if_neg e]; simp [List.getElem?_set_ne e]
  · have e0 : k = ws.length := by omega
    subst e0
    by_cases e : ws.length = j
    · subst e; simp
    · rw [if_neg e]
      by_cases hj : j < ws.length
      · simp [List.getElem?_append_left hj]
      · simp [List.getElem?_eq_none (show ws.length ≤ j by omega), List.getElem?_eq_none (show (ws ++ [x]).length ≤ j by simp; omega)]
/-- All numbers of a list, with zeros behind it, lie between bounds. -/
def Between (ws : List Int) (hi : Int) : Prop := ∀ j, 0 ≤ ws.getD j 0 ∧ ws.getD j 0 ≤ hi
theorem Between.put {ws : List Int} {hi x : Int} {k : Nat} (h : Between ws hi) (hk : k ≤ ws.length) (h0 : 0 ≤ x) (h1 : x ≤ hi) : Between (putW ws k x) hi := fun j => by
  rw [putW_getD hk]
  split
  · exact ⟨h0, h1⟩
  · exact h j
/-- Nine places: the rows' numbers, and zeros. -/
def pad9 (ws : List Int) : List Int := ws ++ List.replicate (9 - ws.length) 0
theorem pad9_len {ws : List Int} (h : ws.length ≤ 9) : (pad9 ws).length = 9 := by simp [pad9]; omega
theorem pad9_getD {ws : List Int} {j : Nat} : (pad9 ws).getD j 0 = ws.getD j 0 := by
  unfold pad9
  by_cases h : j < ws.length
  · simp [List.getElem?_append_left h]
  · simp only [List.getD_eq_getElem?_getD]
    rw [List.getElem?_append_right (by omega), List.getElem?_eq_none (show ws.length ≤ j by omega), List.getElem?_replicate]
    split <;> rfl
theorem pad9_set {ws : List Int} {k : Nat} {x : Int} (hk : k ≤ ws.length) (h9 : k < 9) (hl : ws.length ≤ 9) : (pad9 ws).set k x = pad9 (putW ws k x) := by
  unfold pad9 putW
  split
  · rename_i h
    rw [List.set_append_left _ _ h]
    simp
  · have e : k = ws.length := by omega
    subst e
    rw [List.set_append_right _ _ (by omega), Nat.sub_self]
    obtain ⟨q, hq⟩ : ∃ q, 9 - ws.length = q + 1 := ⟨8 - ws.length, by omega⟩
    have e2 : 9 - (ws ++ [x]).length = q := by simp; omega
    rw [hq, e2, List.replicate_succ, List.set_cons_zero]
    simp
theorem two_of {zs : List Int} {n : Nat} (h : zs.length = (n + 1) * 2) : ∃ a b t, zs = a :: b :: t := by
  rcases zs with _ | ⟨a, _ | ⟨b, t⟩⟩
  · simp at h
  · simp at h; omega
  · exact ⟨a, b, t, rfl⟩
/-- What the search finds: the length is between -1 and a bound. -/
theorem nestTo_bd (roll : Int) (n : Nat) : ∀ (zs ws hs pre : List Int) (sum : Int) (st : List Int × Int) (M : Int), zs.length = n * 2 → Between zs 5000 → Between hs 5000 → hs.length = ws.length → 0 ≤ sum → sum + 5000 * n ≤ M → -1 ≤ st.2 → st.2 ≤ M → -1 ≤ (nestTo roll zs ws hs pre sum st).2 ∧ (nestTo roll zs ws hs pre sum st).2 ≤ M := by
  induction n with
  | zero =>
    intro zs ws hs pre sum st M hl _ _ _ h0 h1 h2 h3
    have e : zs = [] := List.eq_nil_of_length_eq_zero (by omega)
    subst e
    by_cases hc : 0 ≤ st.2 ∧ st.2 ≤ sum
    · rw [nestTo_cut0 hc.1 hc.2]; exact ⟨h2, h3⟩
    · rw [nestTo_end hc]; exact ⟨by simp only; omega, by simp only; omega⟩
  | succ n ih =>
    intro zs ws hs pre sum st M hl hz hh hlen h0 h1 h2 h3
    obtain ⟨bw, bh, bs, rfl⟩ := two_of hl
    by_cases hc : 0 ≤ st.2 ∧ st.2 ≤ sum
    · rw [nestTo_cut hc.1 hc.2]; exact ⟨h2, h3⟩
    · rw [nestTo_more hc]
      have hzb : Between bs 5000 := fun j => by have := hz (j + 2); simpa using this
      have hbh := hz 1
      simp at hbh
      have inner : ∀ k, k ≤ ws.length + 1 → -1 ≤ (nestAt roll bw bh bs ws hs pre sum st k).2 ∧ (nestAt roll bw bh bs ws hs pre sum st k).2 ≤ M := by
        intro k
        induction k with
        | zero => exact fun _ => ⟨h2, h3⟩
        | succ k ihk =>
          intro hk
          have i1 := ihk (by omega)
          rw [nestAt_step]
          split
          · exact i1
          · have hq := hh k
            refine ih bs _ _ _ _ _ M (by simp at hl; omega) hzb (hh.put (by omega) (by omega) (by omega)) ?_ (by omega) (by omega) i1.1 i1.2
            rw [putW_len (by omega), putW_len (by omega), hlen]
      exact inner _ (Nat.le_refl _)
theorem nestAt_bd {roll bw bh : Int} {n : Nat} {bs ws hs pre : List Int} {sum : Int} {st : List Int × Int} {M : Int} (hl : bs.length = n * 2) (hz : Between bs 5000) (hh : Between hs 5000) (hlen : hs.length = ws.length) (hb0 : 0 ≤ bh) (hb1 : bh ≤ 5000) (h0 : 0 ≤ sum) (h1 : sum + 5000 * (n + 1) ≤ M) (h2 : -1 ≤ st.2) (h3 : st.2 ≤ M) :
    ∀ k, k ≤ ws.length + 1 → -1 ≤ (nestAt roll bw bh bs ws hs pre sum st k).2 ∧ (nestAt roll bw bh bs ws hs pre sum st k).2 ≤ M := by
  intro k
  induction k with
  | zero => exact fun _ => ⟨h2, h3⟩
  | succ k ihk =>
    intro hk
    have i1 := ihk (by omega)
    rw [nestAt_step]
    split
    · exact i1
    · have hq := hh k
      refine nestTo_bd roll n bs _ _ _ _ _ M hl hz (hh.put (by omega) (by omega) (by omega)) ?_ (by omega) (by omega) i1.1 i1.2
      rw [putW_len (by omega), putW_len (by omega), hlen]
/-- The number of rows that the search tells. -/
theorem nestTo_len (roll : Int) (n : Nat) : ∀ (zs ws hs pre : List Int) (sum : Int) (st : List Int × Int) (N : Nat), zs.length = n * 2 → pre.length + n ≤ N → st.1.length ≤ N → (nestTo roll zs ws hs pre sum st).1.length ≤ N := by
  induction n with
  | zero =>
    intro zs ws hs pre sum st N hl hp hs
    have e : zs = [] := List.eq_nil_of_length_eq_zero (by omega)
    subst e
    by_cases hc : 0 ≤ st.2 ∧ st.2 ≤ sum
    · rw [nestTo_cut0 hc.1 hc.2]; exact hs
    · rw [nestTo_end hc]; simp only; omega
  | succ n ih =>
    intro zs ws hs pre sum st N hl hp hst
    obtain ⟨bw, bh, bs, rfl⟩ := two_of hl
    by_cases hc : 0 ≤ st.2 ∧ st.2 ≤ sum
    · rw [nestTo_cut hc.1 hc.2]; exact hst
    · rw [nestTo_more hc]
      generalize ws.length + 1 = K
      induction K with
      | zero => exact hst
      | succ K ihk =>
        rw [nestAt_step]
        split
        · exact ihk
        · exact ih bs _ _ _ _ _ N (by simp at hl; omega) (by simp; omega) ihk
end Go.Proofs.Ytoomkeicfdmdoaa
