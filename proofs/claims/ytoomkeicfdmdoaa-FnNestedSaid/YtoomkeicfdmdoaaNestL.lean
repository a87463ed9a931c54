/-
  Rows of blocks in plain Lean: what rows make of the widths and heights, and that the search's rows are the shortest. No condition of its own.
-/
import Derived.Test.YtoomkeicfdmdoaaNestC
namespace Go.Proofs.Ytoomkeicfdmdoaa
open Go.Deep

def hsum : List Int → Int
  | [] => 0
  | z :: zs => z + hsum zs

/-- The widths of the rows behind some blocks. -/
def rowsW : List Int → List Int → List Int → List Int
  | bw :: _ :: bs, r :: rs, W => rowsW bs rs (W.set r.toNat (W.getD r.toNat 0 + bw))
  | _, _, W => W
/-- The heights of the rows behind some blocks. -/
def rowsH : List Int → List Int → List Int → List Int
  | _ :: bh :: bs, r :: rs, H => rowsH bs rs (H.set r.toNat (max (H.getD r.toNat 0) bh))
  | _, _, H => H
theorem rowsW_len (zs : List Int) : ∀ (rs W : List Int), (rowsW zs rs W).length = W.length := by
  suffices h : ∀ (n : Nat) (zs rs W : List Int), zs.length ≤ n → (rowsW zs rs W).length = W.length from fun rs W => h zs.length zs rs W (Nat.le_refl _)
  intro n
  induction n with
  | zero =>
    intro zs rs W h
    rw [List.eq_nil_of_length_eq_zero (by omega : zs.length = 0)]
    rfl
  | succ n ih =>
    intro zs rs W h
    match zs, rs with
    | bw :: bh :: bs, r :: rs => simp only [rowsW]; rw [ih _ _ _ (by simp at h; omega)]; simp
    | [], _ => rfl
    | [_], _ => rfl
    | _ :: _ :: _, [] => rfl
theorem rowsH_len (zs : List Int) : ∀ (rs W : List Int), (rowsH zs rs W).length = W.length := by
  suffices h : ∀ (n : Nat) (zs rs W : List Int), zs.length ≤ n → (rowsH zs rs W).length = W.length from fun rs W => h zs.length zs rs W (Nat.le_refl _)
  intro n
  induction n with
  | zero =>
    intro zs rs W h
    rw [List.eq_nil_of_length_eq_zero (by omega : zs.length = 0)]
    rfl
  | succ n ih =>
    intro zs rs W h
    match zs, rs with
    | bw :: bh :: bs, r :: rs => simp only [rowsH]; rw [ih _ _ _ (by simp at h; omega)]; simp
    | [], _ => rfl
    | [_], _ => rfl
    | _ :: _ :: _, [] => rfl
theorem getD_set (W : List Int) (k j : Nat) (x : Int) (h : k < W.length) : (W.set k x).getD j 0 = if k = j then x else W.getD j 0 := by
  by_cases e : k = j
  · subst e; simp [h]
  · rw [if_neg e]; simp [List.getElem?_set_ne e]
theorem hsum_set (W : List Int) (k : Nat) (x : Int) (h : k < W.length) : hsum (W.set k x) = hsum W + (x - W.getD k 0) := by
  induction W generalizing k with
  | nil => simp at h
  | cons a W ih =>
    cases k with
    | zero => simp [hsum]; omega
    | succ k =>
      simp only [List.set_cons_succ, hsum, ih k (by simpa using h), List.getD_cons_succ]
      omega
theorem hsum_nonneg {W : List Int} (h : ∀ j, 0 ≤ W.getD j 0) : 0 ≤ hsum W := by
  induction W with
  | nil => simp [hsum]
  | cons a W ih =>
    have h0 := h 0
    simp at h0
    have := ih (fun j => by have := h (j + 1); simpa using this)
    simp only [hsum]; omega
theorem getD_le_hsum {W : List Int} (h : ∀ j, 0 ≤ W.getD j 0) (k : Nat) : W.getD k 0 ≤ hsum W := by
  induction W generalizing k with
  | nil => simp [hsum]
  | cons a W ih =>
    have h0 := h 0
    simp at h0
    have hn := hsum_nonneg (W := W) (fun j => by have := h (j + 1); simpa using this)
    cases k with
    | zero => simp [hsum]; omega
    | succ k =>
      have := ih (fun j => by have := h (j + 1); simpa using this) k
      simp only [hsum, List.getD_cons_succ]; omega
theorem hsum_zeros (n : Nat) : hsum (List.replicate n 0) = 0 := by
  induction n with
  | zero => simp [hsum]
  | succ n ih => simp [List.replicate_succ, hsum, ih]
theorem getD_zeros (n j : Nat) : (List.replicate n (0 : Int)).getD j 0 = 0 := by
  simp only [List.getD_eq_getElem?_getD, List.getElem?_replicate]
  split <;> rfl
/-- The rows' numbers, in the range. -/
def RowsIn (rs : List Int) : Prop := ∀ r ∈ rs, 0 ≤ r ∧ r ≤ 8
/-- Widths only grow. -/
theorem rowsW_mono (n : Nat) : ∀ (zs rs W : List Int), zs.length = n * 2 → W.length = 9 → RowsIn rs → (∀ j, 0 ≤ zs.getD j 0) → ∀ j, W.getD j 0 ≤ (rowsW zs rs W).getD j 0 := by
  induction n with
  | zero =>
    intro zs rs W hl _ _ _ j
    rw [List.eq_nil_of_length_eq_zero (by omega : zs.length = 0)]
    simp [rowsW]
  | succ n ih =>
    intro zs rs W hl h9 hr hz j
    obtain ⟨bw, bh, bs, rfl⟩ := two_of hl
    cases rs with
    | nil => simp [rowsW]
    | cons r rs =>
      have hr0 := hr r (by simp)
      have h0 := hz 0
      simp at h0
      simp only [rowsW]
      have h1 := ih bs rs (W.set r.toNat (W.getD r.toNat 0 + bw)) (by simp at hl; omega) (by simp [h9]) (fun x hx => hr x (by simp [hx])) (fun j => by have := hz (j + 2); simpa using this) j
      rw [getD_set W _ j _ (by omega)] at h1
      refine Int.le_trans ?_ h1
      split
      · rename_i e; rw [← e]; omega
      · exact Int.le_refl _
theorem rowsH_mono (n : Nat) : ∀ (zs rs H : List Int), zs.length = n * 2 → H.length = 9 → RowsIn rs → hsum H ≤ hsum (rowsH zs rs H) ∧ ∀ j, H.getD j 0 ≤ (rowsH zs rs H).getD j 0 := by
  induction n with
  | zero =>
    intro zs rs W hl _ _
    rw [List.eq_nil_of_length_eq_zero (by omega : zs.length = 0)]
    exact ⟨by simp [rowsH], fun j => by simp [rowsH]⟩
  | succ n ih =>
    intro zs rs H hl h9 hr
    obtain ⟨bw, bh, bs, rfl⟩ := two_of hl
    cases rs with
    | nil => exact ⟨by simp [rowsH], fun j => by simp [rowsH]⟩
    | cons r rs =>
      have hr0 := hr r (by simp)
      simp only [rowsH]
      have h1 := ih bs rs (H.set r.toNat (max (H.getD r.toNat 0) bh)) (by simp at hl; omega) (by simp [h9]) (fun x hx => hr x (by simp [hx]))
      refine ⟨?_, fun j => ?_⟩
      · have h2 := h1.1
        rw [hsum_set _ _ _ (by omega)] at h2
        omega
      · have h2 := h1.2 j
        rw [getD_set H _ j _ (by omega)] at h2
        refine Int.le_trans ?_ h2
        split
        · rename_i e; rw [← e]; omega
        · exact Int.le_refl _
/-- The least length that is known only falls. -/
theorem nestTo_fall (roll : Int) (n : Nat) : ∀ (zs ws hs pre : List Int) (sum : Int) (st : List Int × Int), zs.length = n * 2 → 0 ≤ sum → 0 ≤ st.2 → 0 ≤ (nestTo roll zs ws hs pre sum st).2 ∧ (nestTo roll zs ws hs pre sum st).2 ≤ st.2 := by
  induction n with
  | zero =>
    intro zs ws hs pre sum st hl h0 hs0
    have e : zs = [] := List.eq_nil_of_length_eq_zero (by omega)
    subst e
    by_cases hc : 0 ≤ st.2 ∧ st.2 ≤ sum
    · rw [nestTo_cut0 hc.1 hc.2]; exact ⟨hs0, Int.le_refl _⟩
    · rw [nestTo_end hc]; exact ⟨h0, by simp only; omega⟩
  | succ n ih =>
    intro zs ws hs pre sum st hl h0 hs0
    obtain ⟨bw, bh, bs, rfl⟩ := two_of hl
    by_cases hc : 0 ≤ st.2 ∧ st.2 ≤ sum
    · rw [nestTo_cut hc.1 hc.2]; exact ⟨hs0, Int.le_refl _⟩
    · rw [nestTo_more hc]
      generalize ws.length + 1 = K
      induction K with
      | zero => exact ⟨hs0, Int.le_refl _⟩
      | succ K ihk =>
        rw [nestAt_step]
        split
        · exact ihk
        · have h2 := ih bs (putW ws K (ws.getD K 0 + bw)) (putW hs K (max (hs.getD K 0) bh)) (pre ++ [(K : Int)]) (sum + (max (hs.getD K 0) bh - hs.getD K 0)) _ (by simp at hl; omega) (by omega) ihk.1
          exact ⟨h2.1, Int.le_trans h2.2 ihk.2⟩
theorem nestAt_fall {roll bw bh : Int} {n : Nat} {bs ws hs pre : List Int} {sum : Int} {st : List Int × Int} {k : Nat} (hl : bs.length = n * 2) (h0 : 0 ≤ sum) (hk : 0 ≤ (nestAt roll bw bh bs ws hs pre sum st k).2) (d : Nat) :
    0 ≤ (nestAt roll bw bh bs ws hs pre sum st (k + d)).2 ∧ (nestAt roll bw bh bs ws hs pre sum st (k + d)).2 ≤ (nestAt roll bw bh bs ws hs pre sum st k).2 := by
  induction d with
  | zero => exact ⟨hk, Int.le_refl _⟩
  | succ d ih =>
    rw [← Nat.add_assoc, nestAt_step]
    split
    · exact ih
    · have h2 := nestTo_fall roll n bs (putW ws (k + d) (ws.getD (k + d) 0 + bw)) (putW hs (k + d) (max (hs.getD (k + d) 0) bh)) (pre ++ [((k + d : Nat) : Int)]) (sum + (max (hs.getD (k + d) 0) bh - hs.getD (k + d) 0)) _ hl (by omega) ih.1
      exact ⟨h2.1, Int.le_trans h2.2 ih.2⟩
/-- Rows in another numbering: σ tells the number of each row of the search. -/
structure Same9 (ws hs W H : List Int) (σ : List Nat) : Prop where
  len : σ.length = ws.length
  lenH : hs.length = ws.length
  nodup : σ.Nodup
  lt : ∀ x ∈ σ, x < 9
  here : ∀ k (h : k < σ.length), W.getD σ[k] 0 = ws.getD k 0 ∧ H.getD σ[k] 0 = hs.getD k 0
  out : ∀ j, j ∉ σ → W.getD j 0 = 0 ∧ H.getD j 0 = 0
/-- A row has a place in the search: an old one or the next one. -/
theorem Same9.place {ws hs W H : List Int} {σ : List Nat} (h : Same9 ws hs W H σ) {r : Nat} (h9 : r < 9) (hW : W.length = 9) (hH : H.length = 9) (x y : Int) :
    ∃ k σ', k ≤ ws.length ∧ ws.getD k 0 = W.getD r 0 ∧ hs.getD k 0 = H.getD r 0 ∧ Same9 (putW ws k x) (putW hs k y) (W.set r x) (H.set r y) σ' := by
  by_cases hr : r ∈ σ
  · obtain ⟨k, hk, rfl⟩ := List.getElem_of_mem hr
    have hkw : k < ws.length := by rw [← h.len]; exact hk
    have hkh : k < hs.length := by rw [h.lenH]; exact hkw
    refine ⟨k, σ, by omega, (h.here k hk).1.symm, (h.here k hk).2.symm, ⟨?_, ?_, h.nodup, h.lt, ?_, ?_⟩⟩
    · rw [putW_len (by omega), h.len]; omega
    · have := h.lenH; rw [putW_len (by omega), putW_len (by omega)]; omega
    · intro j hj
      rw [getD_set W _ _ _ (by omega), getD_set H _ _ _ (by omega), putW_getD (by omega), putW_getD (by omega)]
      by_cases e : k = j
      · subst e; simp
      · have hne : σ[k] ≠ σ[j] := fun e2 => e ((List.getElem_inj h.nodup).1 e2)
        rw [if_neg hne, if_neg hne, if_neg e, if_neg e]
        exact h.here j hj
    · intro j hj
      have hne : σ[k] ≠ j := fun e => hj (by rw [← e]; exact List.getElem_mem hk)
      rw [getD_set W _ _ _ (by omega), getD_set H _ _ _ (by omega), if_neg hne, if_neg hne]
      exact h.out j hj
  · have h0 := h.out r hr
    refine ⟨ws.length, σ ++ [r], Nat.le_refl _, ?_, ?_, ⟨?_, ?_, ?_, ?_, ?_, ?_⟩⟩
    · rw [h0.1]; simp
    · rw [h0.2, ← h.lenH]; simp
    · rw [putW_len (by omega)]; simp [h.len]
    · have := h.lenH; rw [putW_len (by omega), putW_len (by omega)]; omega
    · rw [List.nodup_append]
      refine ⟨h.nodup, by simp, ?_⟩
      intro a ha b hb e
      simp at hb
      exact hr (by rw [← hb, ← e]; exact ha)
    · intro x hx
      rcases List.mem_append.1 hx with hx | hx
      · exact h.lt x hx
      · simp at hx; omega
    · intro j hj
      have hl := h.lenH
      rw [getD_set W _ _ _ (by omega), getD_set H _ _ _ (by omega), putW_getD (by omega), putW_getD (by omega)]
      by_cases e : j < σ.length
      · have hne : r ≠ σ[j] := fun e2 => hr (by rw [e2]; exact List.getElem_mem e)
        have hlen := h.len
        rw [List.getElem_append_left e, if_neg hne, if_neg hne, if_neg (by omega), if_neg (by omega)]
        exact h.here j e
      · have e2 : j = σ.length := by simp at hj; omega
        have hlen := h.len
        subst e2
        rw [List.getElem_append_right (by omega)]
        simp [hlen]
    · intro j hj
      have hne : r ≠ j := fun e => hj (by rw [← e]; simp)
      rw [getD_set W _ _ _ (by omega), getD_set H _ _ _ (by omega), if_neg hne, if_neg hne]
      exact h.out j (fun hm => hj (by simp [hm]))
/-- No rows without fault are shorter than the search's. -/
theorem nest_least (roll : Int) (n : Nat) : ∀ (zs ws hs pre : List Int) (sum : Int) (st : List Int × Int) (W H rs : List Int) (σ : List Nat), zs.length = n * 2 → rs.length = n → W.length = 9 → H.length = 9 → RowsIn rs → (∀ j, 0 ≤ zs.getD j 0) → 0 ≤ sum →
    Same9 ws hs W H σ → (∀ j, (rowsW zs rs W).getD j 0 ≤ roll) →
    0 ≤ (nestTo roll zs ws hs pre sum st).2 ∧ (nestTo roll zs ws hs pre sum st).2 ≤ sum + (hsum (rowsH zs rs H) - hsum H) := by
  induction n with
  | zero =>
    intro zs ws hs pre sum st W H rs σ hl hrl _ _ _ _ h0 _ _
    have e : zs = [] := List.eq_nil_of_length_eq_zero (by omega)
    subst e
    simp only [rowsH]
    by_cases hc : 0 ≤ st.2 ∧ st.2 ≤ sum
    · rw [nestTo_cut0 hc.1 hc.2]; omega
    · rw [nestTo_end hc]; simp only; omega
  | succ n ih =>
    intro zs ws hs pre sum st W H rs σ hl hrl hW hH hr hz h0 hS hfit
    obtain ⟨bw, bh, bs, rfl⟩ := two_of hl
    obtain ⟨r, rs, rfl⟩ : ∃ r t, rs = r :: t := by
      cases rs with
      | nil => simp at hrl
      | cons r t => exact ⟨r, t, rfl⟩
    have hlb : bs.length = n * 2 := by simp at hl; omega
    have hr0 := hr r (by simp)
    have hrs : RowsIn rs := fun x hx => hr x (by simp [hx])
    have hzb : ∀ j, 0 ≤ bs.getD j 0 := fun j => by have := hz (j + 2); simpa using this
    have hm := rowsH_mono (n + 1) (bw :: bh :: bs) (r :: rs) H hl hH hr
    by_cases hc : 0 ≤ st.2 ∧ st.2 ≤ sum
    · rw [nestTo_cut hc.1 hc.2]; omega
    · rw [nestTo_more hc]
      have hset : (W.set r.toNat (W.getD r.toNat 0 + bw)).length = 9 := by simp [hW]
      have hg := rowsW_mono n bs rs (W.set r.toNat (W.getD r.toNat 0 + bw)) hlb hset hrs hzb r.toNat
      rw [getD_set W _ _ _ (by omega), if_pos rfl] at hg
      have hf := hfit r.toNat
      simp only [rowsW] at hf
      obtain ⟨k, σ', hk, hkw, hkh, hS'⟩ := hS.place (r := r.toNat) (by omega) hW hH (W.getD r.toNat 0 + bw) (max (H.getD r.toNat 0) bh)
      have hst := nestAt_go (roll := roll) (bw := bw) (bh := bh) (v := ws.getD k 0) (q := hs.getD k 0) (J := max (hs.getD k 0) bh) (bs := bs) (ws := ws) (hs := hs) (pre := pre) (sum := sum) (st := st) (k := k) rfl (by rw [hkw]; omega) rfl rfl
      rw [hkw, hkh] at hst
      have hi := ih bs (putW ws k (W.getD r.toNat 0 + bw)) (putW hs k (max (H.getD r.toNat 0) bh)) (pre ++ [(k : Int)]) (sum + (max (H.getD r.toNat 0) bh - H.getD r.toNat 0)) (nestAt roll bw bh bs ws hs pre sum st k) _ _ rs σ' hlb (by simpa using hrl) hset (by simp [hH]) hrs hzb (by omega) hS' (fun j => by have := hfit j; simpa only [rowsW] using this)
      rw [← hst, hsum_set H _ _ (by omega)] at hi
      have hfall := nestAt_fall (k := k + 1) hlb h0 hi.1 (ws.length - k)
      rw [show k + 1 + (ws.length - k) = ws.length + 1 by omega] at hfall
      simp only [rowsH]
      exact ⟨hfall.1, by have := hi.2; have := hfall.2; omega⟩
/-- What the search tells is rows without fault, and their length. -/
theorem nest_fine (roll : Int) (n : Nat) : ∀ (zs ws hs pre : List Int) (sum : Int) (st : List Int × Int), zs.length = n * 2 → ws.length + n ≤ 9 → hs.length = ws.length → (∀ j, ws.getD j 0 ≤ roll) →
    nestTo roll zs ws hs pre sum st = st ∨ ∃ rs, rs.length = n ∧ RowsIn rs ∧ nestTo roll zs ws hs pre sum st = (pre ++ rs, sum + (hsum (rowsH zs rs (pad9 hs)) - hsum (pad9 hs))) ∧ ∀ j, (rowsW zs rs (pad9 ws)).getD j 0 ≤ roll := by
  induction n with
  | zero =>
    intro zs ws hs pre sum st hl _ _ hw
    have e : zs = [] := List.eq_nil_of_length_eq_zero (by omega)
    subst e
    by_cases hc : 0 ≤ st.2 ∧ st.2 ≤ sum
    · rw [nestTo_cut0 hc.1 hc.2]; exact .inl rfl
    · rw [nestTo_end hc]
      refine .inr ⟨[], rfl, by intro r h; simp at h, by simp [rowsH], fun j => ?_⟩
      simp only [rowsW]
      rw [pad9_getD]
      exact hw j
  | succ n ih =>
    intro zs ws hs pre sum st hl h9 hlen hw
    obtain ⟨bw, bh, bs, rfl⟩ := two_of hl
    by_cases hc : 0 ≤ st.2 ∧ st.2 ≤ sum
    · rw [nestTo_cut hc.1 hc.2]; exact .inl rfl
    · rw [nestTo_more hc]
      have inner : ∀ K, K ≤ ws.length + 1 → nestAt roll bw bh bs ws hs pre sum st K = st ∨ ∃ rs, rs.length = n + 1 ∧ RowsIn rs ∧ nestAt roll bw bh bs ws hs pre sum st K = (pre ++ rs, sum + (hsum (rowsH (bw :: bh :: bs) rs (pad9 hs)) - hsum (pad9 hs))) ∧ ∀ j, (rowsW (bw :: bh :: bs) rs (pad9 ws)).getD j 0 ≤ roll := by
        intro K
        induction K with
        | zero => exact fun _ => .inl rfl
        | succ K ihk =>
          intro hK
          have i1 := ihk (by omega)
          rw [nestAt_step]
          split
          · exact i1
          · rename_i hfit
            have hp1 : (pad9 ws).length = 9 := pad9_len (by omega)
            have hp2 : (pad9 hs).length = 9 := pad9_len (by omega)
            rcases ih bs (putW ws K (ws.getD K 0 + bw)) (putW hs K (max (hs.getD K 0) bh)) (pre ++ [(K : Int)]) (sum + (max (hs.getD K 0) bh - hs.getD K 0)) (nestAt roll bw bh bs ws hs pre sum st K) (by simp at hl; omega) (by rw [putW_len (by omega)]; omega) (by rw [putW_len (by omega), putW_len (by omega), hlen]) (fun j => by
                rw [putW_getD (by omega)]
                split
                · omega
                · exact hw j) with h | ⟨rs, h1, h2, h3, h4⟩
            · rw [h]; exact i1
            · refine .inr ⟨(K : Int) :: rs, by simp [h1], ?_, ?_, ?_⟩
              · intro r hr
                rcases List.mem_cons.1 hr with e | hr
                · omega
                · exact h2 r hr
              · rw [h3, ← pad9_set (by omega) (by omega) (by omega)]
                simp only [rowsH, Int.toNat_natCast, pad9_getD]
                rw [hsum_set _ _ _ (by omega), pad9_getD]
                simp only [List.append_assoc, List.singleton_append, Prod.mk.injEq, true_and]
                omega
              · intro j
                have := h4 j
                rw [← pad9_set (by omega) (by omega) (by omega)] at this
                simpa only [rowsW, Int.toNat_natCast, pad9_getD] using this
      exact inner _ (Nat.le_refl _)

/-! ### The bound -/
def dotI : List Int → List Int → Int
  | a :: us, b :: vs => a * b + dotI us vs
  | _, _ => 0
theorem dotI_set (W H : List Int) (k : Nat) (x y : Int) (h1 : k < W.length) (h2 : k < H.length) : dotI (W.set k x) (H.set k y) = dotI W H + (x * y - W.getD k 0 * H.getD k 0) := by
  induction W generalizing H k with
  | nil => simp at h1
  | cons a W ih =>
    cases H with
    | nil => simp at h2
    | cons b H =>
      cases k with
      | zero => simp [dotI]; omega
      | succ k =>
        simp only [List.set_cons_succ, dotI, ih H k (by simpa using h1) (by simpa using h2), List.getD_cons_succ]
        omega
theorem dotI_le {roll : Int} (W H : List Int) (h0 : ∀ j, 0 ≤ H.getD j 0) (hr : 0 ≤ roll) (h : ∀ j, W.getD j 0 ≤ roll) : dotI W H ≤ roll * hsum H := by
  induction W generalizing H with
  | nil => simp only [dotI]; exact Int.mul_nonneg hr (hsum_nonneg h0)
  | cons a W ih =>
    cases H with
    | nil => simp [dotI, hsum]
    | cons b H =>
      have hb := h0 0
      have ha := h 0
      simp at hb ha
      have h1 := ih H (fun j => by have := h0 (j + 1); simpa using this) (fun j => by have := h (j + 1); simpa using this)
      have h2 := Int.mul_le_mul_of_nonneg_right ha hb
      simp only [dotI, hsum, Int.mul_add]
      omega
theorem dotI_zeros (n : Nat) (H : List Int) : dotI (List.replicate n 0) H = 0 := by
  induction n generalizing H with
  | zero => simp [dotI]
  | succ n ih =>
    cases H with
    | nil => simp [dotI, List.replicate_succ]
    | cons b H => simp [dotI, List.replicate_succ, ih]
/-- The blocks' area, and the greatest height. -/
def areaTo : List Int → Int
  | bw :: bh :: bs => bw * bh + areaTo bs
  | _ => 0
def tallest : List Int → Int
  | _ :: bh :: bs => max bh (tallest bs)
  | _ => 0
theorem area_dot (n : Nat) : ∀ (zs rs W H : List Int), zs.length = n * 2 → rs.length = n → W.length = 9 → H.length = 9 → RowsIn rs → (∀ j, 0 ≤ zs.getD j 0) → (∀ j, 0 ≤ W.getD j 0) → dotI W H + areaTo zs ≤ dotI (rowsW zs rs W) (rowsH zs rs H) := by
  induction n with
  | zero =>
    intro zs rs W H hl _ _ _ _ _ _
    rw [List.eq_nil_of_length_eq_zero (by omega : zs.length = 0)]
    simp [areaTo, rowsW, rowsH]
  | succ n ih =>
    intro zs rs W H hl hrl hW hH hr hz hw
    obtain ⟨bw, bh, bs, rfl⟩ := two_of hl
    obtain ⟨r, rs, rfl⟩ : ∃ r t, rs = r :: t := by
      cases rs with
      | nil => simp at hrl
      | cons r t => exact ⟨r, t, rfl⟩
    have hr0 := hr r (by simp)
    have h0 := hz 0
    simp at h0
    have hwr := hw r.toNat
    have h1 := ih bs rs (W.set r.toNat (W.getD r.toNat 0 + bw)) (H.set r.toNat (max (H.getD r.toNat 0) bh)) (by simp at hl; omega) (by simpa using hrl) (by simp [hW]) (by simp [hH]) (fun x hx => hr x (by simp [hx])) (fun j => by have := hz (j + 2); simpa using this)
      (fun j => by
        rw [getD_set W _ _ _ (by omega)]
        split
        · omega
        · exact hw j)
    rw [dotI_set _ _ _ _ _ (by omega) (by omega)] at h1
    simp only [areaTo, rowsW, rowsH]
    generalize W.getD r.toNat 0 = u at *
    generalize H.getD r.toNat 0 = v at *
    have h2 : u * v + bw * bh ≤ (u + bw) * max v bh := by
      have a1 : u * v ≤ u * max v bh := Int.mul_le_mul_of_nonneg_left (by omega) hwr
      have a2 : bw * bh ≤ bw * max v bh := Int.mul_le_mul_of_nonneg_left (by omega) h0
      rw [Int.add_mul]
      omega
    omega
theorem tallest_le (n : Nat) : ∀ (zs rs H : List Int) (M : Int), zs.length = n * 2 → rs.length = n → H.length = 9 → RowsIn rs → (∀ j, (rowsH zs rs H).getD j 0 ≤ M) → 0 ≤ M → tallest zs ≤ M := by
  induction n with
  | zero =>
    intro zs rs H M hl _ _ _ _ h0
    rw [List.eq_nil_of_length_eq_zero (by omega : zs.length = 0)]
    simpa [tallest] using h0
  | succ n ih =>
    intro zs rs H M hl hrl hH hr hM h0
    obtain ⟨bw, bh, bs, rfl⟩ := two_of hl
    obtain ⟨r, rs, rfl⟩ : ∃ r t, rs = r :: t := by
      cases rs with
      | nil => simp at hrl
      | cons r t => exact ⟨r, t, rfl⟩
    have hr0 := hr r (by simp)
    have hlb : bs.length = n * 2 := by simp at hl; omega
    have hrs : RowsIn rs := fun x hx => hr x (by simp [hx])
    have hset : (H.set r.toNat (max (H.getD r.toNat 0) bh)).length = 9 := by simp [hH]
    have h1 := ih bs rs _ M hlb (by simpa using hrl) hset hrs (fun j => by have := hM j; simpa only [rowsH] using this) h0
    have h2 := (rowsH_mono n bs rs _ hlb hset hrs).2 r.toNat
    rw [getD_set H _ _ _ (by omega), if_pos rfl] at h2
    have h3 := hM r.toNat
    simp only [rowsH] at h3
    simp only [tallest]
    omega
end Go.Proofs.Ytoomkeicfdmdoaa
