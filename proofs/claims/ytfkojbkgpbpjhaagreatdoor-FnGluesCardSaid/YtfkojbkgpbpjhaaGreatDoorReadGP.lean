/-
  The plain law of the reading of a glue. No program in sight.
-/
import Derived.Test.YtfkojbkgpbpjhaaGreatDoorSplit
namespace Go.Proofs.YtfkojbkgpbpjhaaGreatDoor
open Go.ChangeShapes Go.WideShapes Go.ChangeAt Go.RowKit Go.Deep Go.Shelf Go.Lib

theorem itoa_bytes (n : Int) (b : UInt8) (h : b ∈ itoa n) : b = 45 ∨ (48 ≤ b.toNat ∧ b.toNat ≤ 57) := by
  have key : ∀ m : Nat, b ∈ decDigits m → 48 ≤ b.toNat ∧ b.toNat ≤ 57 := by
    intro m hm
    obtain ⟨k, hk⟩ := List.mem_iff_getElem?.1 hm
    obtain ⟨d, hd⟩ := digit_of_decFrom _ _ _ (decFrom_digits m) k b hk
    have := digit_is hd
    exact ⟨this.1, this.2.1⟩
  unfold itoa at h
  split at h
  · rcases List.mem_cons.1 h with h | h
    · exact .inl h
    · exact .inr (key _ h)
  · exact .inr (key _ h)
theorem itoa_no (n : Int) (c : UInt8) (h1 : c ≠ 45) (h2 : c.toNat < 48 ∨ 57 < c.toNat) : c ∉ itoa n := by
  intro h
  rcases itoa_bytes n c h with h | h
  · exact h1 h
  · omega
theorem data_app (a b : ByteArray) : (a ++ b).data.toList = a.data.toList ++ b.data.toList := by simp
/-- The words of the text of a glue. -/
def wDry : ByteArray := ⟨#[100, 114, 121]⟩
def wOpen : ByteArray := ⟨#[111, 112, 101, 110]⟩
def wPress : ByteArray := ⟨#[112, 114, 101, 115, 115]⟩
theorem glue_list (d o p : Int) : (glueT0 d o p).data.toList = [100, 114, 121] ++ 32 :: (itoa d ++ 32 :: ([111, 112, 101, 110] ++ 32 :: (itoa o ++ 32 :: ([112, 114, 101, 115, 115] ++ 32 :: itoa p)))) := by
  unfold glueT0
  simp only [data_app, dec_list]
  simp
theorem ba_list (s : ByteArray) : (⟨s.data.toList.toArray⟩ : ByteArray) = s := by
  obtain ⟨⟨x⟩⟩ := s
  rfl
theorem glue_parts (d o p : Int) : partsC 32 (glueT0 d o p) = [wDry, dec d, wOpen, dec o, wPress, dec p] := by
  unfold partsC
  rw [glue_list, splitC_cut _ _ _ (by decide), splitC_cut _ _ _ (itoa_no d 32 (by decide) (by decide)), splitC_cut _ _ _ (by decide), splitC_cut _ _ _ (itoa_no o 32 (by decide) (by decide)), splitC_cut _ _ _ (by decide), splitC_none _ _ (itoa_no p 32 (by decide) (by decide))]
  rfl
/-- s is the text of the valid glue d, o, p. -/
def RG (s : ByteArray) (d o p : Int) : Prop := glueB d o p = true ∧ s = glueT0 d o p
theorem RG.parts {s : ByteArray} {d o p : Int} (h : RG s d o p) : partsC 32 s = [wDry, dec d, wOpen, dec o, wPress, dec p] ∧ RD (dec d) d ∧ RD (dec o) o ∧ RD (dec p) p := by
  obtain ⟨h, rfl⟩ := h
  obtain ⟨g1, g2, g3, g4, g5⟩ := glueB_true.1 h
  exact ⟨glue_parts d o p, ⟨rfl, by omega, by omega⟩, ⟨rfl, by omega, by omega⟩, ⟨rfl, by omega, by omega⟩⟩
def GlueRes (s : ByteArray) (d o p : Int) (b : Bool) : Prop := (b = true ∧ RG s d o p) ∨ (b = false ∧ d = 0 ∧ o = 0 ∧ p = 0 ∧ ∀ d o p, ¬ RG s d o p)
theorem RG.inj {s : ByteArray} {d o p d' o' p' : Int} (h : RG s d o p) (h' : RG s d' o' p') : d = d' ∧ o = o' ∧ p = p' := by
  have e := h.parts.1.symm.trans h'.parts.1
  simp only [List.cons.injEq, and_true, true_and] at e
  exact ⟨dec_inj e.1, dec_inj e.2.1, dec_inj e.2.2⟩
theorem GlueRes.same {s : ByteArray} {d o p d' o' p' : Int} {b b' : Bool} (h : GlueRes s d o p b) (h' : GlueRes s d' o' p' b') : d = d' ∧ o = o' ∧ p = p' ∧ b = b' := by
  rcases h with ⟨rfl, h⟩ | ⟨rfl, rfl, rfl, rfl, h⟩ <;> rcases h' with ⟨rfl, h'⟩ | ⟨rfl, rfl, rfl, rfl, h'⟩
  · obtain ⟨a, b, c⟩ := h.inj h'
    exact ⟨a, b, c, rfl⟩
  · exact absurd h (h' _ _ _)
  · exact absurd h' (h _ _ _)
  · exact ⟨rfl, rfl, rfl, rfl⟩
theorem glue_no {s : ByteArray} (h : ∀ d o p, ¬ RG s d o p) : GlueRes s 0 0 0 false := .inr ⟨rfl, rfl, rfl, rfl, h⟩
theorem glue_yes {s : ByteArray} {d o p : Int} (h : RG s d o p) : GlueRes s d o p true := .inl ⟨rfl, h⟩
theorem no_glue_len {s : ByteArray} (h : (partsC 32 s).length ≠ 6) : ∀ d o p, ¬ RG s d o p := fun d o p hr => by
  rw [hr.parts.1] at h
  exact h rfl
theorem no_glue_word {s p0 p1 p2 p3 p4 p5 : ByteArray} (hp : partsC 32 s = [p0, p1, p2, p3, p4, p5]) (h : ¬ p0 = wDry ∨ ¬ p2 = wOpen ∨ ¬ p4 = wPress) : ∀ d o p, ¬ RG s d o p := fun d o p hr => by
  rw [hr.parts.1] at hp
  simp only [List.cons.injEq, and_true] at hp
  obtain ⟨rfl, _, rfl, _, rfl, _⟩ := hp
  simp at h
theorem no_glue_num {s p0 p1 p2 p3 p4 p5 : ByteArray} {n1 n3 n5 : Int} {b1 b3 b5 : Bool} (hp : partsC 32 s = [p0, p1, p2, p3, p4, p5]) (h1 : NumRes p1 n1 b1) (h3 : NumRes p3 n3 b3) (h5 : NumRes p5 n5 b5)
    (h : b1 = false ∨ b3 = false ∨ b5 = false) : ∀ d o p, ¬ RG s d o p := fun d o p hr => by
  obtain ⟨e, r1, r3, r5⟩ := hr.parts
  rw [e] at hp
  simp only [List.cons.injEq, and_true] at hp
  obtain ⟨rfl, rfl, rfl, rfl, rfl, rfl⟩ := hp
  have := (numRes_yes r1).same h1
  have := (numRes_yes r3).same h3
  have := (numRes_yes r5).same h5
  simp_all
theorem glue_nums {s p0 p1 p2 p3 p4 p5 : ByteArray} {n1 n3 n5 : Int} (hp : partsC 32 s = [p0, p1, p2, p3, p4, p5]) (h1 : NumRes p1 n1 true) (h3 : NumRes p3 n3 true) (h5 : NumRes p5 n5 true) {d o p : Int} (hr : RG s d o p) : d = n1 ∧ o = n3 ∧ p = n5 := by
  obtain ⟨e, r1, r3, r5⟩ := hr.parts
  rw [e] at hp
  simp only [List.cons.injEq, and_true] at hp
  obtain ⟨rfl, rfl, rfl, rfl, rfl, rfl⟩ := hp
  exact ⟨((numRes_yes r1).same h1).1, ((numRes_yes r3).same h3).1, ((numRes_yes r5).same h5).1⟩
/-- The program's test: the text of what was read is the text itself. -/
theorem impl_glue_yes {s p0 p1 p2 p3 p4 p5 : ByteArray} {n1 n3 n5 : Int} (hp : partsC 32 s = [p0, p1, p2, p3, p4, p5]) (h : glueT n1 n3 n5 = s) : RG s n1 n3 n5 := by
  cases hg : glueB n1 n3 n5 with
  | true =>
    refine ⟨hg, ?_⟩
    rw [← h]
    simp [glueT, hg]
  | false =>
    exfalso
    have e : s = ⟨#[]⟩ := by rw [← h]; simp [glueT, hg]
    have hl := congrArg List.length hp
    rw [e, parts_len] at hl
    simp at hl
theorem impl_glue_no {s p0 p1 p2 p3 p4 p5 : ByteArray} {n1 n3 n5 : Int} (hp : partsC 32 s = [p0, p1, p2, p3, p4, p5]) (h1 : NumRes p1 n1 true) (h3 : NumRes p3 n3 true) (h5 : NumRes p5 n5 true) (h : ¬ glueT n1 n3 n5 = s) : ∀ d o p, ¬ RG s d o p := fun d o p hr => by
  obtain ⟨rfl, rfl, rfl⟩ := glue_nums hp h1 h3 h5 hr
  apply h
  rw [hr.2]
  simp [glueT, hr.1]
/-- The specification's test: the words and the glue. -/
theorem spec_glue_yes {s p1 p3 p5 : ByteArray} {n1 n3 n5 : Int} (hp : partsC 32 s = [wDry, p1, wOpen, p3, wPress, p5]) (h1 : NumRes p1 n1 true) (h3 : NumRes p3 n3 true) (h5 : NumRes p5 n5 true) (hg : glueB n1 n3 n5 = true) : RG s n1 n3 n5 := by
  refine ⟨hg, ?_⟩
  have e1 : p1 = dec n1 := by rcases h1 with ⟨_, h, _⟩ | ⟨h, _⟩; exact h; cases h
  have e3 : p3 = dec n3 := by rcases h3 with ⟨_, h, _⟩ | ⟨h, _⟩; exact h; cases h
  have e5 : p5 = dec n5 := by rcases h5 with ⟨_, h, _⟩ | ⟨h, _⟩; exact h; cases h
  subst e1 e3 e5
  have h := hp.trans (glue_parts n1 n3 n5).symm
  unfold partsC at h
  have h2 := congrArg (List.map (·.data.toList)) h
  simp only [List.map_map, Function.comp_def, List.map_id'] at h2
  have h3 := congrArg (joinC 32) h2
  rw [joinC_split, joinC_split] at h3
  rw [← ba_list s, h3, ba_list]
theorem spec_glue_no {s p0 p1 p2 p3 p4 p5 : ByteArray} {n1 n3 n5 : Int} (hp : partsC 32 s = [p0, p1, p2, p3, p4, p5]) (h1 : NumRes p1 n1 true) (h3 : NumRes p3 n3 true) (h5 : NumRes p5 n5 true) (hg : glueB n1 n3 n5 = false) : ∀ d o p, ¬ RG s d o p := fun d o p hr => by
  obtain ⟨rfl, rfl, rfl⟩ := glue_nums hp h1 h3 h5 hr
  have := hr.1
  rw [hg] at this
  cases this
theorem six_of {α : Type} {l : List α} (h : l.length = 6) : ∃ a b c d e f, l = [a, b, c, d, e, f] := by
  match l, h with
  | [a, b, c, d, e, f], _ => exact ⟨a, b, c, d, e, f, rfl⟩
theorem numRes_ex (s : ByteArray) : ∃ v b, NumRes s v b := by
  by_cases h : ∃ n, RD s n
  · obtain ⟨n, hn⟩ := h
    exact ⟨n, true, numRes_yes hn⟩
  · exact ⟨0, false, numRes_no fun n hn => h ⟨n, hn⟩⟩
theorem part_size {c : UInt8} {s p : ByteArray} (h : p ∈ partsC c s) : p.size ≤ s.size := by
  have key : ∀ (l : List UInt8) (q : List UInt8), q ∈ splitC c l → q.length ≤ l.length := by
    intro l
    induction l with
    | nil => intro q hq; simp [splitC] at hq; simp [hq]
    | cons b l ih =>
      intro q hq
      unfold splitC at hq
      split at hq
      · rcases List.mem_cons.1 hq with rfl | hq
        · simp
        · have := ih q hq; simp; omega
      · cases hs : splitC c l with
        | nil => exact absurd hs (splitC_ne c l)
        | cons h t =>
          rw [hs] at hq ih
          rcases List.mem_cons.1 hq with rfl | hq
          · have := ih h List.mem_cons_self
            simp; omega
          · have := ih q (List.mem_cons_of_mem _ hq)
            simp; omega
  unfold partsC at h
  obtain ⟨q, hq, rfl⟩ := List.mem_map.1 h
  have := key _ q hq
  rw [size_eq, size_eq s]
  simpa using this
end Go.Proofs.YtfkojbkgpbpjhaaGreatDoor
