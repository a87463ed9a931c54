/-
  The plain law of the reading of a thread. No program in sight.
-/
import Derived.Test.YtfkojbkgpbpjhaaDoorReadGP
import Derived.Test.YtfkojbkgpbpjhaaDoorThreadT
namespace Go.Proofs.YtfkojbkgpbpjhaaDoor
open Go.ChangeShapes Go.WideShapes Go.ChangeAt Go.RowKit Go.Deep Go.Shelf Go.Lib

def wWaxed : ByteArray := ⟨#[119, 97, 120, 101, 100]⟩
def threadW (x y : Int) : ByteArray := dec x ++ ⟨#[120]⟩ ++ dec y
def threadT0 (x y : Int) (b : Bool) : ByteArray := if b then dec x ++ ⟨#[120]⟩ ++ dec y ++ ⟨#[32, 119, 97, 120, 101, 100]⟩ else dec x ++ ⟨#[120]⟩ ++ dec y
theorem threadT_of {x y : Int} {b : Bool} (h : threadB x y = true) : threadT x y b = threadT0 x y b := by unfold threadT threadT0; rw [if_pos h]
theorem threadW_list (x y : Int) : (threadW x y).data.toList = itoa x ++ 120 :: itoa y := by
  unfold threadW
  simp only [data_app, dec_list]
  simp
theorem threadT0_list (x y : Int) (b : Bool) : (threadT0 x y b).data.toList = (threadW x y).data.toList ++ (if b then 32 :: [119, 97, 120, 101, 100] else []) := by
  unfold threadT0 threadW
  cases b <;> simp only [data_app, if_true, Bool.false_eq_true, if_false] <;> simp
theorem threadW_no (x y : Int) : (32 : UInt8) ∉ (threadW x y).data.toList := by
  rw [threadW_list]
  intro h
  rcases List.mem_append.1 h with h | h
  · exact itoa_no x 32 (by decide) (by decide) h
  · rcases List.mem_cons.1 h with h | h
    · exact absurd h (by decide)
    · exact itoa_no y 32 (by decide) (by decide) h
theorem threadW_parts (x y : Int) : partsC 120 (threadW x y) = [dec x, dec y] := by
  unfold partsC
  rw [threadW_list, splitC_cut _ _ _ (itoa_no x 120 (by decide) (by decide)), splitC_none _ _ (itoa_no y 120 (by decide) (by decide))]
  rfl
theorem threadT0_parts (x y : Int) (b : Bool) : partsC 32 (threadT0 x y b) = if b then [threadW x y, wWaxed] else [threadW x y] := by
  unfold partsC
  rw [threadT0_list]
  cases b
  · simp only [Bool.false_eq_true, if_false, List.append_nil]
    rw [splitC_none _ _ (threadW_no x y)]
    simp only [List.map_cons, List.map_nil, ba_list]
  · simp only [if_true]
    rw [splitC_cut _ _ _ (threadW_no x y), splitC_none _ _ (by decide)]
    simp only [List.map_cons, List.map_nil, ba_list]
    rfl
/-- s is the text of the valid thread x, y, b. -/
def RT (s : ByteArray) (x y : Int) (b : Bool) : Prop := threadB x y = true ∧ s = threadT0 x y b
theorem RT.nums {s : ByteArray} {x y : Int} {b : Bool} (h : RT s x y b) : RD (dec x) x ∧ RD (dec y) y := by
  obtain ⟨⟨h1, h2⟩, h3, h4⟩ := threadB_true.1 h.1
  exact ⟨⟨rfl, by omega, by omega⟩, ⟨rfl, by omega, by omega⟩⟩
theorem RT.parts {s : ByteArray} {x y : Int} {b : Bool} (h : RT s x y b) : partsC 32 s = if b then [threadW x y, wWaxed] else [threadW x y] := by rw [h.2, threadT0_parts]
theorem threadW_inj {x y x' y' : Int} (h : threadW x y = threadW x' y') : x = x' ∧ y = y' := by
  have e := threadW_parts x y
  rw [h, threadW_parts] at e
  simp only [List.cons.injEq, and_true] at e
  exact ⟨dec_inj e.1.symm, dec_inj e.2.symm⟩
theorem RT.inj {s : ByteArray} {x y x' y' : Int} {b b' : Bool} (h : RT s x y b) (h' : RT s x' y' b') : x = x' ∧ y = y' ∧ b = b' := by
  have e := h.parts.symm.trans h'.parts
  cases b <;> cases b' <;> simp at e
  · exact ⟨(threadW_inj e).1, (threadW_inj e).2, rfl⟩
  · exact ⟨(threadW_inj e).1, (threadW_inj e).2, rfl⟩
def ThreadRes (s : ByteArray) (x y : Int) (b ok : Bool) : Prop := (ok = true ∧ RT s x y b) ∨ (ok = false ∧ x = 0 ∧ y = 0 ∧ b = false ∧ ∀ x y b, ¬ RT s x y b)
theorem ThreadRes.same {s : ByteArray} {x y x' y' : Int} {b ok b' ok' : Bool} (h : ThreadRes s x y b ok) (h' : ThreadRes s x' y' b' ok') : x = x' ∧ y = y' ∧ b = b' ∧ ok = ok' := by
  rcases h with ⟨rfl, h⟩ | ⟨rfl, rfl, rfl, rfl, h⟩ <;> rcases h' with ⟨rfl, h'⟩ | ⟨rfl, rfl, rfl, rfl, h'⟩
  · obtain ⟨a, b, c⟩ := h.inj h'
    exact ⟨a, b, c, rfl⟩
  · exact absurd h (h' _ _ _)
  · exact absurd h' (h _ _ _)
  · exact ⟨rfl, rfl, rfl, rfl⟩
theorem thread_no {s : ByteArray} (h : ∀ x y b, ¬ RT s x y b) : ThreadRes s 0 0 false false := .inr ⟨rfl, rfl, rfl, rfl, h⟩
theorem thread_yes {s : ByteArray} {x y : Int} {b : Bool} (h : RT s x y b) : ThreadRes s x y b true := .inl ⟨rfl, h⟩
theorem threadRes_ex (s : ByteArray) : ∃ x y b ok, ThreadRes s x y b ok := by
  by_cases h : ∃ x y b, RT s x y b
  · obtain ⟨x, y, b, h⟩ := h
    exact ⟨x, y, b, true, thread_yes h⟩
  · exact ⟨0, 0, false, false, thread_no fun x y b hr => h ⟨x, y, b, hr⟩⟩
/-- What the text of a thread reads as. -/
theorem threadRes_text {x y : Int} {b : Bool} (h : threadB x y = true) : ThreadRes (threadT x y b) x y b true := thread_yes ⟨h, threadT_of h⟩
/-- The specification's ways out. -/
theorem no_thread_len {s : ByteArray} (h : 2 < (partsC 32 s).length) : ∀ x y b, ¬ RT s x y b := fun x y b hr => by
  rw [hr.parts] at h
  cases b <;> simp at h
theorem no_thread_word {s p0 p1 : ByteArray} (hp : partsC 32 s = [p0, p1]) (h : ¬ p1 = wWaxed) : ∀ x y b, ¬ RT s x y b := fun x y b hr => by
  rw [hr.parts] at hp
  cases b <;> simp at hp
  exact h hp.2.symm
/-- The first word p0, and whether there is a second. -/
def Words (s p0 : ByteArray) (b : Bool) : Prop := partsC 32 s = if b then [p0, wWaxed] else [p0]
theorem Words.of {s p0 : ByteArray} {b b' : Bool} {x y : Int} (h : Words s p0 b) (hr : RT s x y b') : p0 = threadW x y ∧ b = b' := by
  have e := h.symm.trans hr.parts
  cases b <;> cases b' <;> simp at e
  · exact ⟨e, rfl⟩
  · exact ⟨e, rfl⟩
theorem no_thread_sizes {s p0 : ByteArray} {b : Bool} (h : Words s p0 b) (h2 : (partsC 120 p0).length ≠ 2) : ∀ x y b, ¬ RT s x y b := fun x y b' hr => by
  rw [(h.of hr).1, threadW_parts] at h2
  exact h2 rfl
theorem thread_nums {s p0 q0 q1 : ByteArray} {b : Bool} {n0 n1 : Int} {b0 b1 : Bool} (h : Words s p0 b) (hq : partsC 120 p0 = [q0, q1]) (h0 : NumRes q0 n0 b0) (h1 : NumRes q1 n1 b1) {x y : Int} {b' : Bool} (hr : RT s x y b') : x = n0 ∧ y = n1 ∧ b = b' ∧ b0 = true ∧ b1 = true := by
  obtain ⟨e, hb⟩ := h.of hr
  rw [e, threadW_parts] at hq
  simp only [List.cons.injEq, and_true] at hq
  obtain ⟨rfl, rfl⟩ := hq
  have r0 := (numRes_yes hr.nums.1).same h0
  have r1 := (numRes_yes hr.nums.2).same h1
  exact ⟨r0.1, r1.1, hb, r0.2.symm, r1.2.symm⟩
theorem no_thread_num {s p0 q0 q1 : ByteArray} {b : Bool} {n0 n1 : Int} {b0 b1 : Bool} (h : Words s p0 b) (hq : partsC 120 p0 = [q0, q1]) (h0 : NumRes q0 n0 b0) (h1 : NumRes q1 n1 b1) (hb : b0 = false ∨ b1 = false) : ∀ x y b, ¬ RT s x y b := fun x y b' hr => by
  have := thread_nums h hq h0 h1 hr
  simp_all
theorem spec_thread_no {s p0 q0 q1 : ByteArray} {b : Bool} {n0 n1 : Int} {b0 b1 : Bool} (h : Words s p0 b) (hq : partsC 120 p0 = [q0, q1]) (h0 : NumRes q0 n0 b0) (h1 : NumRes q1 n1 b1) (hg : threadB n0 n1 = false) : ∀ x y b, ¬ RT s x y b := fun x y b' hr => by
  obtain ⟨rfl, rfl, _⟩ := thread_nums h hq h0 h1 hr
  have := hr.1
  rw [hg] at this
  cases this
theorem parts_inj {c : UInt8} {s t : ByteArray} (h : partsC c s = partsC c t) : s = t := by
  unfold partsC at h
  have h2 := congrArg (List.map (·.data.toList)) h
  simp only [List.map_map, Function.comp_def, List.map_id'] at h2
  have h3 := congrArg (joinC c) h2
  rw [joinC_split, joinC_split] at h3
  rw [← ba_list s, h3, ba_list]
theorem spec_thread_yes {s p0 q0 q1 : ByteArray} {b : Bool} {n0 n1 : Int} (h : Words s p0 b) (hq : partsC 120 p0 = [q0, q1]) (h0 : NumRes q0 n0 true) (h1 : NumRes q1 n1 true) (hg : threadB n0 n1 = true) : RT s n0 n1 b := by
  refine ⟨hg, ?_⟩
  have e0 : q0 = dec n0 := by rcases h0 with ⟨_, h, _⟩ | ⟨h, _⟩; exact h; cases h
  have e1 : q1 = dec n1 := by rcases h1 with ⟨_, h, _⟩ | ⟨h, _⟩; exact h; cases h
  subst e0 e1
  have hw : p0 = threadW n0 n1 := parts_inj (hq.trans (threadW_parts n0 n1).symm)
  subst hw
  exact parts_inj (c := 32) (h.trans (threadT0_parts n0 n1 b).symm)
/-- The program's ways: the suffix is cut off, then the numbers. -/
def sizesOf (s : ByteArray) : ByteArray := ⟨(trimSuffix s.data.toList [32, 119, 97, 120, 101, 100]).toArray⟩
theorem sizes_of {s : ByteArray} {x y : Int} {b : Bool} (hr : RT s x y b) : sizesOf s = threadW x y ∧ hasSuffix s.data.toList [32, 119, 97, 120, 101, 100] = b := by
  unfold sizesOf trimSuffix hasSuffix
  rw [hr.2, threadT0_list]
  cases b
  · simp only [Bool.false_eq_true, if_false, List.append_nil]
    have hn : ([32, 119, 97, 120, 101, 100] : List UInt8).isSuffixOf (threadW x y).data.toList = false := by
      cases h : ([32, 119, 97, 120, 101, 100] : List UInt8).isSuffixOf (threadW x y).data.toList with
      | false => rfl
      | true =>
        exfalso
        have h2 := List.isSuffixOf_iff_suffix.1 h
        exact threadW_no x y (h2.subset List.mem_cons_self)
    rw [hn]
    exact ⟨ba_list _, rfl⟩
  · simp only [if_true]
    have hy : ([32, 119, 97, 120, 101, 100] : List UInt8).isSuffixOf ((threadW x y).data.toList ++ [32, 119, 97, 120, 101, 100]) = true := List.isSuffixOf_iff_suffix.2 (List.suffix_append _ _)
    rw [hy]
    refine ⟨?_, rfl⟩
    simp only [if_true, List.length_append]
    rw [Nat.add_sub_cancel, List.take_left, ba_list]
theorem impl_thread_no_len {s : ByteArray} (h : (partsC 120 (sizesOf s)).length ≠ 2) : ∀ x y b, ¬ RT s x y b := fun x y b hr => by
  rw [(sizes_of hr).1, threadW_parts] at h
  exact h rfl
theorem impl_nums {s q0 q1 : ByteArray} {n0 n1 : Int} {b0 b1 : Bool} (hq : partsC 120 (sizesOf s) = [q0, q1]) (h0 : NumRes q0 n0 b0) (h1 : NumRes q1 n1 b1) {x y : Int} {b : Bool} (hr : RT s x y b) : x = n0 ∧ y = n1 ∧ b0 = true ∧ b1 = true := by
  rw [(sizes_of hr).1, threadW_parts] at hq
  simp only [List.cons.injEq, and_true] at hq
  obtain ⟨rfl, rfl⟩ := hq
  have r0 := (numRes_yes hr.nums.1).same h0
  have r1 := (numRes_yes hr.nums.2).same h1
  exact ⟨r0.1, r1.1, r0.2.symm, r1.2.symm⟩
theorem impl_thread_no_num {s q0 q1 : ByteArray} {n0 n1 : Int} {b0 b1 : Bool} (hq : partsC 120 (sizesOf s) = [q0, q1]) (h0 : NumRes q0 n0 b0) (h1 : NumRes q1 n1 b1) (hb : b0 = false ∨ b1 = false) : ∀ x y b, ¬ RT s x y b := fun x y b hr => by
  have := impl_nums hq h0 h1 hr
  simp_all
theorem impl_thread_no {s q0 q1 : ByteArray} {n0 n1 : Int} {b0 b1 : Bool} (hq : partsC 120 (sizesOf s) = [q0, q1]) (h0 : NumRes q0 n0 b0) (h1 : NumRes q1 n1 b1) (h : ¬ threadT n0 n1 (hasSuffix s.data.toList [32, 119, 97, 120, 101, 100]) = s) : ∀ x y b, ¬ RT s x y b := fun x y b hr => by
  obtain ⟨rfl, rfl, _, _⟩ := impl_nums hq h0 h1 hr
  apply h
  rw [(sizes_of hr).2, threadT_of hr.1]
  exact hr.2.symm
theorem impl_thread_yes {s q0 q1 : ByteArray} {n0 n1 : Int} (hq : partsC 120 (sizesOf s) = [q0, q1]) (h : threadT n0 n1 (hasSuffix s.data.toList [32, 119, 97, 120, 101, 100]) = s) : RT s n0 n1 (hasSuffix s.data.toList [32, 119, 97, 120, 101, 100]) := by
  cases hg : threadB n0 n1 with
  | true => exact ⟨hg, by rw [← threadT_of hg, h]⟩
  | false =>
    exfalso
    have e : s = ⟨#[]⟩ := by rw [← h]; simp [threadT, hg]
    subst e
    have hl := congrArg List.length hq
    rw [parts_len, show (sizesOf ⟨#[]⟩) = ⟨#[]⟩ by decide] at hl
    exact absurd hl (by simp)
end Go.Proofs.YtfkojbkgpbpjhaaDoor
