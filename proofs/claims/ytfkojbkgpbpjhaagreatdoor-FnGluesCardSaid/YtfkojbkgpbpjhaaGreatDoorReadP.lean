/-
  The plain law of the reading of numbers: which texts are decimal forms. No program in sight.
-/
import Derived.Test.YtfkojbkgpbpjhaaGreatDoorGlueT
import Derived.Lib.ParseIntBTie
import Derived.Lib.AtoiTie
import Derived.Lib.Strings
namespace Go.Proofs.YtfkojbkgpbpjhaaGreatDoor
open Go.ChangeShapes Go.WideShapes Go.ChangeAt Go.RowKit Go.Deep Go.Shelf Go.Lib

/-- s is the decimal form of n, and n has at most 18 digits. -/
def RD (s : ByteArray) (n : Int) : Prop := s = dec n ∧ -1000000000000000000 < n ∧ n < 1000000000000000000
theorem ba_ext {s : ByteArray} {l : List UInt8} (h : s.data.toList = l) : s = ⟨l.toArray⟩ := by
  obtain ⟨⟨x⟩⟩ := s
  simp only at h
  subst h
  rfl
theorem dec_list (n : Int) : (dec n).data.toList = itoa n := by simp [dec]
theorem digitVal_of {d : Nat} (h : d < 10) : digitVal (UInt8.ofNat (48 + d)) = some d := by
  have e : (UInt8.ofNat (48 + d)).toNat = 48 + d := by rw [UInt8.toNat_ofNat', Nat.mod_eq_of_lt (by omega)]
  unfold digitVal
  rw [e, if_pos (by omega)]
  simp
theorem decFrom_snoc (b : UInt8) : ∀ (l : List UInt8) (acc v : Nat), decFrom acc l = some v → ∀ d, digitVal b = some d → decFrom acc (l ++ [b]) = some (v * 10 + d)
  | [], acc, v, h, d, hd => by
    simp only [decFrom, Option.some.injEq] at h
    subst h
    simp [decFrom, hd]
  | a :: t, acc, v, h, d, hd => by
    simp only [List.cons_append, decFrom] at h ⊢
    cases ha : digitVal a with
    | none => simp [ha] at h
    | some e =>
      simp only [ha] at h ⊢
      exact decFrom_snoc b t _ v h d hd
theorem decFrom_digits (n : Nat) : decFrom 0 (decDigits n) = some n := by
  induction n using Nat.strongRecOn with
  | _ n ih =>
    rw [decDigits]
    by_cases h : n < 10
    · rw [dif_pos h, decFrom, digitVal_of h]
      simp [decFrom]
    · rw [dif_neg h, decFrom_snoc _ _ _ _ (ih (n / 10) (by omega)) _ (digitVal_of (d := n % 10) (by omega))]
      congr 1
      omega
theorem decDigits_ne (n : Nat) : decDigits n ≠ [] := by
  intro h
  have := decDigits_length n
  rw [h] at this
  have := nDigits_pos n
  simp at *
  omega
theorem decNat_digits (n : Nat) : decNat (decDigits n) = some n := by
  unfold decNat
  rw [if_neg (by simp [decDigits_ne n]), decFrom_digits]
theorem decDigits_inj {m n : Nat} (h : decDigits m = decDigits n) : m = n := by
  have h1 := decFrom_digits m
  rw [h, decFrom_digits n] at h1
  exact (Option.some.inj h1).symm
theorem decDigits_short {n : Nat} (h : n < 1000000000000000000) : (decDigits n).length ≤ 18 := by
  rw [decDigits_length]
  rcases Nat.lt_or_ge (nDigits n) 19 with h1 | h1
  · omega
  · exfalso
    have key : ∀ (k u : Nat), k + 1 ≤ nDigits u → 1 ≤ k → 10 ^ k ≤ u := by
      intro k
      induction k with
      | zero => intro u _ h; omega
      | succ k ih =>
        intro u hu _
        by_cases hs : u < 10
        · rw [nDigits_small hs] at hu; omega
        · rw [nDigits_big hs] at hu
          rcases Nat.eq_zero_or_pos k with rfl | hk
          · simp; omega
          · have := ih (u / 10) (by omega) (by omega)
            rw [Nat.pow_succ]
            omega
    have := key 18 n (by omega) (by omega)
    have e : (10 : Nat) ^ 18 = 1000000000000000000 := by decide
    omega
theorem decDigits_long {n : Nat} (h : (decDigits n).length ≤ 18) : n < 1000000000000000000 := by
  rw [decDigits_length] at h
  have h1 := lt_pow_nDigits n
  have h2 : 10 ^ nDigits n ≤ 10 ^ 18 := Nat.pow_le_pow_right (by decide) h
  have e : (10 : Nat) ^ 18 = 1000000000000000000 := by decide
  omega
/-- The first byte of a numeral is a digit. -/
theorem decDigits_head (n : Nat) : ∃ c r, decDigits n = c :: r ∧ 48 ≤ c.toNat ∧ c.toNat ≤ 57 := by
  cases h : decDigits n with
  | nil => exact absurd h (decDigits_ne n)
  | cons c r =>
    have h1 := decFrom_digits n
    rw [h] at h1
    obtain ⟨d, hd⟩ := digit_of_decFrom _ _ _ h1 0 c rfl
    refine ⟨c, r, rfl, ?_⟩
    unfold digitVal at hd
    split at hd
    · assumption
    · cases hd
theorem trim_itoa (n : Int) : trimPrefix (itoa n) [45] = decDigits n.natAbs := by
  unfold itoa trimPrefix hasPrefix
  by_cases h : n < 0
  · rw [if_pos h, if_pos (by simp [List.isPrefixOf])]
    rfl
  · rw [if_neg h]
    have e : n.toNat = n.natAbs := by omega
    rw [e]
    obtain ⟨c, r, hc, h1, h2⟩ := decDigits_head n.natAbs
    rw [hc, if_neg]
    simp [List.isPrefixOf]
    intro e
    subst e
    simp at h1
theorem itoa_inj {m n : Int} (h : itoa m = itoa n) : m = n := by
  have h1 := trim_itoa m
  rw [h, trim_itoa] at h1
  have h2 := decDigits_inj h1
  unfold itoa at h
  obtain ⟨c, r, hc, h3, h4⟩ := decDigits_head n.natAbs
  obtain ⟨c', r', hc', h5, h6⟩ := decDigits_head m.natAbs
  by_cases hm : m < 0 <;> by_cases hn : n < 0
  · omega
  · exfalso
    rw [if_pos hm, if_neg hn, show n.toNat = n.natAbs by omega, hc] at h
    injection h with h _
    subst h; simp at h3
  · exfalso
    rw [if_neg hm, if_pos hn, show m.toNat = m.natAbs by omega, hc'] at h
    injection h with h _
    subst h; simp at h5
  · omega
theorem dec_inj {m n : Int} (h : dec m = dec n) : m = n := by
  have := congrArg (fun s : ByteArray => s.data.toList) h
  simp only [dec_list] at this
  exact itoa_inj this
theorem RD.inj {s : ByteArray} {m n : Int} (h : RD s m) (h' : RD s n) : m = n := dec_inj (h.1.symm.trans h'.1)
theorem RD.size {s : ByteArray} {n : Int} (h : RD s n) : s.size ≤ 19 := by
  obtain ⟨rfl, h1, h2⟩ := h
  have e : (dec n).size = (itoa n).length := by rw [size_eq, dec_list]
  rw [e]
  unfold itoa
  split
  · have := decDigits_short (n := n.natAbs) (by omega)
    simp; omega
  · have := decDigits_short (n := n.toNat) (by omega)
    omega
theorem RD.trim {s : ByteArray} {n : Int} (h : RD s n) : trimPrefix s.data.toList [45] = decDigits n.natAbs ∧ (decDigits n.natAbs).length ≤ 18 := by
  obtain ⟨rfl, h1, h2⟩ := h
  rw [dec_list, trim_itoa]
  exact ⟨rfl, decDigits_short (by omega)⟩
theorem rd_of {s : ByteArray} {n : Int} (h : dec n = s) (ht : (trimPrefix s.data.toList [45]).length ≤ 18) : RD s n := by
  subst h
  rw [dec_list, trim_itoa] at ht
  have := decDigits_long ht
  exact ⟨rfl, by omega, by omega⟩
theorem RD.parse {s : ByteArray} {n : Int} (h : RD s n) : parseIntB 64 s.data.toList = .ok n := by
  obtain ⟨rfl, h1, h2⟩ := h
  rw [dec_list, parseIntB_64]
  unfold itoa
  by_cases hn : n < 0
  · rw [if_pos hn, atoiAll_minus, signed_short (decDigits_short (by omega)), decNat_digits]
    simp only [Option.map, NumEnd.ofOption]
    congr 1
    omega
  · rw [if_neg hn]
    obtain ⟨c, r, hc, h3, h4⟩ := decDigits_head n.toNat
    have hs := signless_short (l := decDigits n.toNat) (decDigits_short (by omega))
    rw [decNat_digits] at hs
    rw [hc] at hs ⊢
    rw [atoiAll_plain c r (by omega) (by omega), hs]
    simp only [Option.map, NumEnd.ofOption]
    congr 1
    omega
/-- What a reading answers. -/
def NumRes (s : ByteArray) (v : Int) (b : Bool) : Prop := (b = true ∧ RD s v) ∨ (b = false ∧ v = 0 ∧ ∀ n, ¬ RD s n)
theorem NumRes.same {s : ByteArray} {v v' : Int} {b b' : Bool} (h : NumRes s v b) (h' : NumRes s v' b') : v = v' ∧ b = b' := by
  rcases h with ⟨rfl, h⟩ | ⟨rfl, rfl, h⟩ <;> rcases h' with ⟨rfl, h'⟩ | ⟨rfl, rfl, h'⟩
  · exact ⟨h.inj h', rfl⟩
  · exact absurd h (h' _)
  · exact absurd h' (h _)
  · exact ⟨rfl, rfl⟩
theorem numRes_yes {s : ByteArray} {n : Int} (h : RD s n) : NumRes s n true := .inl ⟨rfl, h⟩
theorem numRes_no {s : ByteArray} (h : ∀ n, ¬ RD s n) : NumRes s 0 false := .inr ⟨rfl, rfl, h⟩
theorem NumRes.bound {s : ByteArray} {v : Int} {b : Bool} (h : NumRes s v b) : -1000000000000000000 < v ∧ v < 1000000000000000000 := by
  rcases h with ⟨_, _, h1, h2⟩ | ⟨_, rfl, _⟩
  · exact ⟨h1, h2⟩
  · omega
theorem no_long {s : ByteArray} (h : 19 < s.size) : ∀ n, ¬ RD s n := fun n hn => by have := hn.size; omega
theorem no_trim {s : ByteArray} (h : 18 < (trimPrefix s.data.toList [45]).length) : ∀ n, ¬ RD s n := fun n hn => by
  have := hn.trim
  rw [this.1] at h
  omega
theorem no_parse {s : ByteArray} (h : ∀ n, parseIntB 64 s.data.toList ≠ .ok n) : ∀ n, ¬ RD s n := fun n hn => h n hn.parse
theorem no_dec {s : ByteArray} {v : Int} (h : parseIntB 64 s.data.toList = .ok v) (hd : dec v ≠ s) : ∀ n, ¬ RD s n := fun n hn => by
  have := hn.parse
  rw [h] at this
  injection this with this
  subst this
  exact hd hn.1.symm
/-- A text without its sign. -/
def unsign (s : ByteArray) : ByteArray := if s.data.toList.head? = some 45 then s.extract 1 s.size else s
theorem unsign_list (s : ByteArray) : (unsign s).data.toList = trimPrefix s.data.toList [45] := by
  unfold unsign trimPrefix hasPrefix
  cases h : s.data.toList with
  | nil => simp [List.isPrefixOf, h]
  | cons c r =>
    by_cases hc : c = 45
    · subst hc
      rw [if_pos (by simp), if_pos (by simp [List.isPrefixOf]), extract_to_end, h]
      rfl
    · rw [if_neg (by simpa using hc), if_neg (by simpa [List.isPrefixOf] using Ne.symm hc), h]
theorem no_unsign {s : ByteArray} (h : (unsign s).size < 1 ∨ 18 < (unsign s).size) : ∀ n, ¬ RD s n := fun n hn => by
  have h1 := hn.trim
  rw [size_eq, unsign_list, h1.1] at h
  have := decDigits_ne n.natAbs
  rcases h with h | h
  · have h0 : (decDigits n.natAbs).length = 0 := by omega
    exact this (List.length_eq_zero_iff.1 h0)
  · omega
theorem no_digit {s : ByteArray} {k : Nat} {b : UInt8} (hk : (unsign s).data.toList[k]? = some b) (hb : digitVal b = none) : ∀ n, ¬ RD s n := fun n hn => by
  have h1 := hn.trim.1
  rw [← unsign_list] at h1
  rw [h1] at hk
  obtain ⟨d, hd⟩ := digit_of_decFrom _ _ _ (decFrom_digits n.natAbs) k b hk
  rw [hb] at hd
  cases hd
theorem val_lt {s : ByteArray} {v : Nat} (h : (unsign s).size ≤ 18) (hv : decFrom 0 (unsign s).data.toList = some v) : v < 1000000000000000000 := by
  have h1 := decFrom_lt _ 0 v hv
  rw [size_eq] at h
  have hp : 10 ^ (unsign s).data.toList.length ≤ 10 ^ 18 := Nat.pow_le_pow_right (by decide) h
  have e18 : (10 : Nat) ^ 18 = 1000000000000000000 := by decide
  omega
/-- The value with the sign of the text. -/
def signed18 (s : ByteArray) (v : Nat) : Int := if (unsign s).size < s.size then -(v : Int) else (v : Int)
theorem unsign_lt {s : ByteArray} : (unsign s).size < s.size ↔ s.data.toList.head? = some 45 := by
  unfold unsign
  cases h : s.data.toList with
  | nil => simp
  | cons c r =>
    by_cases hc : c = 45
    · subst hc
      rw [if_pos (by simp)]
      refine ⟨fun _ => rfl, fun _ => ?_⟩
      have e1 := size_eq (s.extract 1 s.size)
      have e2 := size_eq s
      rw [extract_to_end, h] at e1
      rw [h] at e2
      simp only [List.drop_succ_cons, List.drop_zero, List.length_cons] at e1 e2
      omega
    · rw [if_neg (by simpa using hc)]
      simp [hc]
theorem no_value {s : ByteArray} {v : Nat} (hv : decFrom 0 (unsign s).data.toList = some v) (hd : dec (signed18 s v) ≠ s) : ∀ n, ¬ RD s n := fun n hn => by
  have h1 := hn.trim.1
  rw [← unsign_list] at h1
  rw [h1, decFrom_digits] at hv
  have hv := Option.some.inj hv
  apply hd
  have e : signed18 s v = n := by
    unfold signed18
    have hh := unsign_lt (s := s)
    rw [hn.1, dec_list] at hh
    rw [hn.1]
    by_cases h0 : n < 0
    · have : (itoa n).head? = some 45 := by unfold itoa; rw [if_pos h0]; rfl
      rw [if_pos (hh.2 this)]
      omega
    · have : ¬ (itoa n).head? = some 45 := by
        unfold itoa
        rw [if_neg h0]
        obtain ⟨c, r, hc, h3, h4⟩ := decDigits_head n.toNat
        rw [hc]
        intro e
        simp at e
        subst e
        simp at h3
      rw [if_neg (fun h => this (hh.1 h))]
      omega
  rw [e]
  exact hn.1.symm
end Go.Proofs.YtfkojbkgpbpjhaaGreatDoor
