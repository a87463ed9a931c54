/-
  Contracts of the decimal forms of numbers, both sides. No condition of its own.
-/
import Derived.Test.YtfkojbkgpbpjhaaGreatDoorShelf
import Derived.Test.YtfkojbkgpbpjhaaGreatDoorBase
import Derived.Test.YtfkojbkgpbpjhaaGreatDoorRow
import Derived.Test.YtfkojbkgpbpjhaaGreatDoorApp
import Derived.Lib.ItoaLen
import Derived.Laws.IdiomStrings
namespace Go.Proofs.YtfkojbkgpbpjhaaGreatDoor
open Go.ChangeShapes Go.WideShapes Go.ChangeAt Go.RowKit Go.Deep Go.Shelf

theorem infoU8 : (Tryz.prog.info? 5).map (fun i => (i.zero, i.size, i.bytes)) = some (some (.int .u8 0), 1, 1) := by kernel_rfl
def u8s (l : List UInt8) : List Value := l.map fun b => .int .u8 (b.toNat : Int)
/-- k is what is left of n, l the digits that were taken. -/
def DecInv (n k : Nat) (l : List UInt8) : Prop := (n = 0 ∧ k = 0 ∧ l = []) ∨ (0 < n ∧ 0 < k ∧ Lib.decDigits n = Lib.decDigits k ++ l) ∨ (0 < n ∧ k = 0 ∧ Lib.decDigits n = l)
theorem decInv_start (n : Nat) : DecInv n n [] := by
  rcases Nat.eq_zero_or_pos n with h | h
  · exact .inl ⟨h, h, rfl⟩
  · exact .inr (.inl ⟨h, h, by simp⟩)
theorem decInv_step {n k : Nat} {l : List UInt8} (h : DecInv n k l) (hk : 0 < k) : DecInv n (k / 10) (UInt8.ofNat (48 + k % 10) :: l) := by
  rcases h with ⟨_, h, _⟩ | ⟨h1, _, h3⟩ | ⟨_, h, _⟩
  · omega
  · by_cases h10 : k < 10
    · refine .inr (.inr ⟨h1, by omega, ?_⟩)
      rw [h3, Lib.decDigits, dif_pos h10, show k % 10 = k by omega]
      rfl
    · refine .inr (.inl ⟨h1, by omega, ?_⟩)
      rw [h3, Lib.decDigits, dif_neg h10]
      simp
  · omega
theorem decInv_len {n k : Nat} {l : List UInt8} (h : DecInv n k l) (hn : n ≤ 9223372036854775807) : l.length ≤ 21 := by
  have h1 := Lib.itoa_length_le (n : Int) (by omega) (by omega)
  rw [Lib.itoa_nonneg] at h1
  rcases h with ⟨_, _, h⟩ | ⟨_, _, h⟩ | ⟨_, _, h⟩
  · rw [h]; simp
  · rw [h] at h1; simp at h1; omega
  · rw [h] at h1; omega
theorem decInv_end {n : Nat} {l : List UInt8} (h : DecInv n 0 l) : (n = 0 ∧ l = []) ∨ (0 < n ∧ 0 < l.length ∧ l = Lib.decDigits n) := by
  rcases h with ⟨h1, _, h3⟩ | ⟨_, h2, _⟩ | ⟨h1, _, h3⟩
  · exact .inl ⟨h1, h3⟩
  · omega
  · refine .inr ⟨h1, ?_, h3.symm⟩
    rw [← h3, Lib.decDigits]
    split <;> simp
theorem own_u8 (W : World) (x : Int) (B H : Nat) (hH : H = W.heap.size) (hB : B ≤ W.heap.size) : (W.alloc (.cells #[.int .u8 x] 5)).ownsRow B 5 1 (.slice (some ⟨H, 0, none⟩) 1 1) 1 [.int .u8 x] := by
  subst hH
  exact own_base (World.ownsRow_lit (base := W.heap.size) (size := 1) (e := 5) W #[.int .u8 x] 1 (Nat.le_refl _) (by unfold maxLen; omega) (by simp)) hB
theorem own_cells_add {W : World} {B g n c : Nat} {cs : List Value} (h : W.ownsRow B 5 1 (.slice (some ⟨g, 0, none⟩) n c) n cs) : ∀ (j : Nat) (u : Value), cs[j]? = some u → W.cell? ((⟨g, 0, none⟩ : Addr).add j) = some u := by
  intro j u hj
  have hl := h.1
  have hjl := (List.getElem?_eq_some_iff.1 hj).1
  rw [addr_add, Nat.zero_add, h.cellAt j (by omega)]
  exact hj

theorem appPre {w0 W : World} {ops : Array Oper} {rest : List Oper} {o : Oper} {a : Act} {Q : Exit → Act → World → Prop} (hgd : o.guard = none) (s x : Operand)
    (ho : o.op = .call { callee := .builtin .append, args := #[s, x], argTypes := #[22, 22] }) (B : Nat) (b : UInt8) (z : Int) (hz : z = (b.toNat : Int)) (l : List UInt8) (g c : Nat) (hs : a.eval s = .slice (some ⟨W.heap.size, 0, none⟩) 1 1)
    (hx : a.eval x = .slice (some ⟨g, 0, none⟩) l.length c) (hown : W.ownsRow B 5 1 (.slice (some ⟨g, 0, none⟩) l.length c) l.length (u8s l)) (hl : l.length ≤ 1000) (hb : Bel B w0 W)
    (h : ∀ g' cap' w', w'.ownsRow B 5 1 (.slice (some ⟨g', 0, none⟩) (b :: l).length cap') (b :: l).length (u8s (b :: l)) → Bel B w0 w' → wpList Tryz.prog ops Q rest (a.put o.dst (.slice (some ⟨g', 0, none⟩) (b :: l).length cap')) w') :
    wpList Tryz.prog ops Q (o :: rest) a (W.alloc (.cells #[.int .u8 z] 5)) := by
  subst hz
  obtain ⟨i, hi, h0, h1, h2⟩ := info_parts infoU8
  have hv := own_u8 W (b.toNat : Int) B W.heap.size rfl hb.2
  refine wpList_append_own_at _ hgd s x 22 ho B 5 i (.int .u8 0) 1 1 Tryz.underlying22 hi h0 h1 h2 rfl (by omega) _ 1 _ hs hv ⟨g, 0, none⟩ l.length c (u8s l) hx (by simp [u8s]) (own_cells_add (hown.alloc _)) ?_ (by unfold maxLen; omega) (by omega) (by have := hb.2; simp; omega) ?_
  · intro u hu
    simp only [u8s, List.mem_map] at hu
    obtain ⟨b', _, rfl⟩ := hu
    rfl
  · intro v' w' h3 h4 _ _
    obtain ⟨g', cap', rfl, _, _⟩ := h3.form (by omega)
    have e : (b :: l).length = 1 + l.length := by simp; omega
    rw [← e] at h3 ⊢
    refine h g' cap' w' ?_ ?_
    · simpa [u8s] using h3
    · exact (hb.alloc _).grown h4 (fun k hk => (own_block hv hk).1)

theorem dd0 : (⟨(Lib.decDigits 0).toArray⟩ : ByteArray) = ⟨#[48]⟩ := by rw [Lib.decDigits]; rfl
set_option maxRecDepth 100000 in
set_option maxHeartbeats 3200000 in
theorem l01Dec_nat (n : Nat) (w : World) (hn : n ≤ 9223372036854775807) :
    Calls Tryz.prog 62 #[.int .i64 (n : Int)] w fun e w' => e = .returned (.string ⟨(Lib.itoa (n : Int)).toArray⟩) ∧ Below w.heap.size w w' := by
  rw [Lib.itoa_nonneg]
  obtain ⟨i8, hi8, hz0, hz1, hz2⟩ := info_parts infoU8
  have HO := Lib.hid (own_none w 5 1)
  have HB := Lib.hid ((Bel.refl w).alloc (.cells #[] 5))
  go_enter Tryz.func62, Tryz.ntmps62
  go_wp2_with fail
  go_loopw [3, 4, 5] (fun v t _ wr => ∃ (k g c : Nat) (l : List UInt8), t = .int .i64 (k : Int) ∧ v = .slice (some ⟨g, 0, none⟩) l.length c ∧ k ≤ n ∧ Hid (DecInv n k l) ∧ Hid (wr.ownsRow w.heap.size 5 1 (.slice (some ⟨g, 0, none⟩) l.length c) l.length (u8s l)) ∧ Hid (Bel w.heap.size w wr)) (fun _ t _ _ => (intOf t).toNat)
  case atStart => exact ⟨n, w.heap.size, 0, [], rfl, rfl, Nat.le_refl _, Lib.hid (decInv_start n), Lib.hid (by simpa [u8s] using HO.out), HB⟩
  case round =>
    obtain ⟨k, g, c, l, rfl, rfl, hkn, hinv, hown, hbw⟩ := hrel
    have hlen := decInv_len hinv.out hn
    by_cases hk : 0 < k
    · have hkne : ((k : Int) != 0) = true := by simp; omega
      have hm0 : 0 ≤ (k : Int) % 10 := by omega
      have hm1 : (k : Int) % 10 ≤ 9 := by omega
      have hw8 : IntKind.u8.wrap (48 + (k : Int) % 10) = 48 + (k : Int) % 10 := by
        have e1 : IntKind.u8.wrap (48 + (k : Int) % 10) = (48 + (k : Int) % 10) % 256 := by simp [IntKind.wrap, IntKind.signed, IntKind.bits]
        rw [e1]; omega
      have hq0 : 0 ≤ (k : Int) / 10 := by omega
      have hq1 : (k : Int) / 10 ≤ 9223372036854775807 := by omega
      have hqk := Lib.hid (show (k : Int) / 10 = ((k / 10 : Nat) : Int) by omega)
      have hbt := Lib.hid (show 48 + (k : Int) % 10 = ((UInt8.ofNat (48 + k % 10)).toNat : Int) by
        rw [UInt8.toNat_ofNat', Nat.mod_eq_of_lt (by omega)]; omega)
      go_wp2_with (at_builtin; refine appPre (by rfl) _ _ (by rfl) w.heap.size (UInt8.ofNat (48 + k % 10)) _ hbt.out l g c (by rfl) (by rfl) hown.out (by omega) hbw.out ?_; intro g5 cap5 w5 ho5 hb5; have Ho5 := Lib.hid ho5; have Hb5 := Lib.hid hb5; clear ho5 hb5)
      go_roundw
      case rel => exact ⟨k / 10, g5, cap5, UInt8.ofNat (48 + k % 10) :: l, by rw [hqk.out], rfl, by omega, Lib.hid (decInv_step hinv.out hk), Ho5, Hb5⟩
      case measure =>
        simp [intOf]; omega
    · have hk0 : k = 0 := by omega
      subst hk0
      rcases decInv_end hinv.out with ⟨rfl, rfl⟩ | ⟨h1, h2, rfl⟩
      · go_wp2_with fail
        go_ret
        exact ⟨by rw [dd0]; rfl, hbw.out.1⟩
      · have hne : (((Lib.decDigits n).length : Int) == 0) = false := by rw [beq_eq_false_iff_ne]; omega
        have hn0 : ¬ ((n : Int) < 0) := by omega
        have hrun := run_convert_bytes_back (P := Tryz.prog) wr 22 9 5 ⟨g, 0, none⟩ c (Lib.decDigits n) Tryz.underlying22 (by kernel_rfl) (by kernel_rfl) (by
          intro j hj
          refine own_cells_add hown.out j _ ?_
          simp [u8s, hj])
        go_wp2_with fail
        go_ret
        exact ⟨rfl, hbw.out.1⟩
end Go.Proofs.YtfkojbkgpbpjhaaGreatDoor
