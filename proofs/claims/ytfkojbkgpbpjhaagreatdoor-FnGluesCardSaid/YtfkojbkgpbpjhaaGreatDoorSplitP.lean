/-
  The plain law of the parts of a text between bytes. No program in sight.
-/
import Derived.Test.YtfkojbkgpbpjhaaGreatDoorReadJ
import Derived.Lib.SplitLaws
namespace Go.Proofs.YtfkojbkgpbpjhaaGreatDoor
open Go.ChangeShapes Go.WideShapes Go.ChangeAt Go.RowKit Go.Deep Go.Shelf Go.Lib

def headCons (b : UInt8) : List (List UInt8) → List (List UInt8)
  | [] => [[b]]
  | h :: t => (b :: h) :: t
/-- The parts of a text between bytes c. -/
def splitC (c : UInt8) : List UInt8 → List (List UInt8)
  | [] => [[]]
  | b :: l => if b = c then [] :: splitC c l else headCons b (splitC c l)
theorem splitC_ne (c : UInt8) (l : List UInt8) : splitC c l ≠ [] := by
  cases l with
  | nil => simp [splitC]
  | cons b l =>
    unfold splitC
    split
    · simp
    · cases splitC c l <;> simp [headCons]
theorem splitC_none (c : UInt8) : ∀ (a : List UInt8), c ∉ a → splitC c a = [a]
  | [], _ => rfl
  | b :: a, h => by
    have h1 : b ≠ c := fun e => h (by simp [e])
    have h2 : c ∉ a := fun e => h (List.mem_cons_of_mem _ e)
    unfold splitC
    rw [if_neg h1, splitC_none c a h2]
    rfl
theorem splitC_cut (c : UInt8) (r : List UInt8) : ∀ (a : List UInt8), c ∉ a → splitC c (a ++ c :: r) = a :: splitC c r
  | [], _ => by simp [splitC]
  | b :: a, h => by
    have h1 : b ≠ c := fun e => h (by simp [e])
    have h2 : c ∉ a := fun e => h (List.mem_cons_of_mem _ e)
    show splitC c (b :: (a ++ c :: r)) = _
    rw [splitC, if_neg h1, splitC_cut c r a h2]
    rfl
def joinC (c : UInt8) : List (List UInt8) → List UInt8
  | [] => []
  | [p] => p
  | p :: q :: t => p ++ c :: joinC c (q :: t)
theorem joinC_split (c : UInt8) : ∀ (l : List UInt8), joinC c (splitC c l) = l
  | [] => rfl
  | b :: l => by
    have ih := joinC_split c l
    unfold splitC
    by_cases h : b = c
    · subst h
      rw [if_pos rfl]
      cases hs : splitC b l with
      | nil => exact absurd hs (splitC_ne b l)
      | cons q t =>
        rw [hs] at ih
        show [] ++ b :: joinC b (q :: t) = _
        rw [ih]
        rfl
    · rw [if_neg h]
      cases hs : splitC c l with
      | nil => exact absurd hs (splitC_ne c l)
      | cons q t =>
        rw [hs] at ih
        rw [← ih]
        cases t <;> rfl
theorem splitC_len (c : UInt8) : ∀ (l : List UInt8), (splitC c l).length = l.count c + 1
  | [] => rfl
  | b :: l => by
    have ih := splitC_len c l
    unfold splitC
    by_cases h : b = c
    · subst h
      rw [if_pos rfl, List.length_cons, ih]
      simp
    · rw [if_neg h, List.count_cons_of_ne (by simpa using h)]
      cases hs : splitC c l with
      | nil => exact absurd hs (splitC_ne c l)
      | cons q t => rw [hs] at ih; exact ih
theorem index_same (c : UInt8) (l : List UInt8) : index (c :: l) [c] = 0 := by rw [index]; simp [List.isPrefixOf]
theorem index_other (b c : UInt8) (l : List UInt8) (h : b ≠ c) : index (b :: l) [c] = if index l [c] == -1 then -1 else index l [c] + 1 := by
  rw [index]
  simp [List.isPrefixOf, Ne.symm h]
theorem splitK_same (c : UInt8) (k : Nat) (l : List UInt8) : splitK [c] 0 (k + 1) (c :: l) = [] :: splitK [c] 0 k l := by
  rw [splitK, index_same]
  simp
theorem splitK_other (b c : UInt8) (h : b ≠ c) (k : Nat) (l : List UInt8) : splitK [c] 0 k (b :: l) = headCons b (splitK [c] 0 k l) := by
  cases k with
  | zero => rfl
  | succ k =>
    rw [splitK, splitK, index_other b c l h]
    have hge := index_ge l [c]
    by_cases hm : index l [c] = -1
    · simp [hm, headCons]
    · obtain ⟨i, hi⟩ : ∃ i : Nat, index l [c] = (i : Int) := ⟨(index l [c]).toNat, by omega⟩
      rw [hi]
      have e1 : ((i : Int) == -1) = false := by simp
      have e2 : ((i : Int) + 1 == -1) = false := by simp; omega
      have e3 : ((i : Int) + 1).toNat = i + 1 := by omega
      simp [e1, e2, e3, headCons]
theorem splitK_eq (c : UInt8) : ∀ (l : List UInt8) (k : Nat), l.count c ≤ k → splitK [c] 0 k l = splitC c l
  | [], k, _ => by
    cases k with
    | zero => rfl
    | succ k => simp [splitK, index, splitC]
  | b :: l, k, h => by
    by_cases hb : b = c
    · subst hb
      simp only [List.count_cons_self] at h
      obtain ⟨k, rfl⟩ : ∃ k', k = k' + 1 := ⟨k - 1, by omega⟩
      rw [splitK_same, splitK_eq b l k (by omega), splitC, if_pos rfl]
    · rw [List.count_cons_of_ne (by simpa using hb)] at h
      rw [splitK_other b c hb, splitK_eq c l k h, splitC, if_neg hb]
theorem splitK_len (c : UInt8) : ∀ (l : List UInt8) (k : Nat), (splitK [c] 0 k l).length = min k (l.count c) + 1
  | [], k => by
    cases k with
    | zero => rfl
    | succ k => simp [splitK, index]
  | b :: l, k => by
    by_cases hb : b = c
    · subst hb
      cases k with
      | zero => simp [splitK]
      | succ k =>
        rw [splitK_same, List.length_cons, splitK_len b l k]
        simp only [List.count_cons_self]
        omega
    · rw [List.count_cons_of_ne (by simpa using hb), splitK_other b c hb, ← splitK_len c l k]
      cases hs : splitK [c] 0 k l with
      | nil => have := splitK_len c l k; rw [hs] at this; simp at this
      | cons q t => rfl
/-- The parts as texts. -/
def partsC (c : UInt8) (s : ByteArray) : List ByteArray := (splitC c s.data.toList).map fun l => ⟨l.toArray⟩
theorem parts_of {c : UInt8} {s : ByteArray} {ps : List ByteArray} (h : ps.map (·.data.toList) = splitC c s.data.toList) : ps = partsC c s := by
  unfold partsC
  rw [← h, List.map_map]
  conv => lhs; rw [← List.map_id ps]
  apply List.map_congr_left
  intro p _
  obtain ⟨⟨x⟩⟩ := p
  rfl
theorem splitB_parts (c : UInt8) (s : ByteArray) (k : Nat) (h : s.data.toList.count c ≤ k) : splitB ⟨#[c]⟩ 0 k s = partsC c s := by
  apply parts_of
  rw [splitB_data]
  exact splitK_eq c _ k h
theorem countB_one (c : UInt8) (s : ByteArray) : countB s ⟨#[c]⟩ = s.data.toList.count c := count_one c s.data.toList
theorem parts_len (c : UInt8) (s : ByteArray) : (partsC c s).length = s.data.toList.count c + 1 := by
  unfold partsC
  rw [List.length_map, splitC_len]
/-- What the loop of the specification has cut off. -/
def SplitInv (s : ByteArray) (c : UInt8) (done : List ByteArray) (f i : Nat) : Prop :=
  splitC c s.data.toList = done.map (·.data.toList) ++ splitC c (s.data.toList.drop f) ∧ f ≤ i ∧ ∀ j b, f ≤ j → j < i → s.data.toList[j]? = some b → b ≠ c
theorem splitInv_start (s : ByteArray) (c : UInt8) : SplitInv s c [] 0 0 := ⟨rfl, Nat.le_refl _, fun _ _ _ h => absurd h (Nat.not_lt_zero _)⟩
theorem SplitInv.skip {s : ByteArray} {c b : UInt8} {done : List ByteArray} {f i : Nat} (h : SplitInv s c done f i) (hb : s.data.toList[i]? = some b) (hne : b ≠ c) : SplitInv s c done f (i + 1) := by
  refine ⟨h.1, Nat.le_succ_of_le h.2.1, fun j b' h1 h2 h3 => ?_⟩
  rcases Nat.lt_or_ge j i with hlt | hge
  · exact h.2.2 j b' h1 hlt h3
  · obtain rfl : j = i := by omega
    rw [hb] at h3
    exact Option.some.inj h3 ▸ hne
theorem SplitInv.notMem {s : ByteArray} {c : UInt8} {done : List ByteArray} {f i : Nat} (h : SplitInv s c done f i) : c ∉ (s.data.toList.drop f).take (i - f) := by
  intro hm
  obtain ⟨j, hj⟩ := List.mem_iff_getElem?.1 hm
  rw [List.getElem?_take] at hj
  split at hj
  · rw [List.getElem?_drop] at hj
    exact h.2.2 (f + j) c (by omega) (by omega) hj rfl
  · cases hj
theorem SplitInv.cut {s : ByteArray} {c : UInt8} {done : List ByteArray} {f i : Nat} (h : SplitInv s c done f i) (hb : s.data.toList[i]? = some c) : SplitInv s c (done ++ [s.extract f i]) (i + 1) (i + 1) := by
  refine ⟨?_, Nat.le_refl _, fun _ _ h1 h2 => by omega⟩
  have hfi := h.2.1
  have e : s.data.toList.drop f = (s.data.toList.drop f).take (i - f) ++ c :: s.data.toList.drop (i + 1) := by
    conv => lhs; rw [← List.take_append_drop (i - f) (s.data.toList.drop f)]
    congr 1
    rw [List.drop_drop, show f + (i - f) = i by omega]
    rw [List.drop_eq_getElem?_toList_append, hb]
    rfl
  rw [h.1, List.map_append, List.append_assoc]
  congr 1
  rw [e, splitC_cut c _ _ h.notMem]
  simp
theorem SplitInv.finish {s : ByteArray} {c : UInt8} {done : List ByteArray} {f i : Nat} (h : SplitInv s c done f i) (hi : s.size ≤ i) : done ++ [s.extract f s.size] = partsC c s := by
  apply parts_of
  rw [h.1, List.map_append]
  congr 1
  have hn := h.notMem
  rw [List.take_of_length_le (by rw [List.length_drop, ← size_eq]; omega)] at hn
  rw [splitC_none c _ hn]
  simp only [List.map_cons, List.map_nil, extract_to_end]
end Go.Proofs.YtfkojbkgpbpjhaaGreatDoor
