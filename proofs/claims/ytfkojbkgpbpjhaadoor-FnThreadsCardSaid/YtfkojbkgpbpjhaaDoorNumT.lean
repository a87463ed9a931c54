/-
  The text of two numbers with a word between them (impl.numbersText). No condition of its own.
-/
import Derived.Test.YtfkojbkgpbpjhaaDoorGlueT
import Derived.Test.YtfkojbkgpbpjhaaDoorApp
import Derived.Deep.AppendLies
namespace Go.Proofs.YtfkojbkgpbpjhaaDoor
open Go.ChangeShapes Go.WideShapes Go.ChangeAt Go.RowKit Go.Deep Go.Shelf Go.Sort

theorem infoStr : (Tryd.prog.info? 9).map (fun i => (i.zero, i.size, i.bytes)) = some (some (.string ⟨#[]⟩), 1, 16) := by kernel_rfl
def strs (l : List ByteArray) : List Value := l.map Value.string
theorem own_str (W : World) (x : ByteArray) (B H : Nat) (hH : H = W.heap.size) (hB : B ≤ W.heap.size) : (W.alloc (.cells #[.string x] 9)).ownsRow B 9 1 (.slice (some ⟨H, 0, none⟩) 1 1) 1 [.string x] := by
  subst hH
  exact own_base (World.ownsRow_lit (base := W.heap.size) (size := 1) (e := 9) W #[.string x] 1 (Nat.le_refl _) (by unfold maxLen; omega) (by simp)) hB
theorem appStr {w0 W : World} {ops : Array Oper} {rest : List Oper} {o : Oper} {a : Act} {Q : Exit → Act → World → Prop} (hgd : o.guard = none) (s x : Operand)
    (ho : o.op = .call { callee := .builtin .append, args := #[s, x], argTypes := #[73, 73] }) (B : Nat) (v : Value) (n : Nat) (xs : List ByteArray) (hs : a.eval s = v) (hown : W.ownsRow B 9 1 v n (strs xs))
    (z : ByteArray) (c : Nat) (hx : a.eval x = .slice (some ⟨W.heap.size, 0, none⟩) 1 c) (hn : n ≤ 1048576) (hb : Bel B w0 W)
    (h : ∀ g cap w', w'.ownsRow B 9 1 (.slice (some ⟨g, 0, none⟩) (n + 1) cap) (n + 1) (strs (xs ++ [z])) → Bel B w0 w' → wpList Tryd.prog ops Q rest (a.put o.dst (.slice (some ⟨g, 0, none⟩) (n + 1) cap)) w') :
    wpList Tryd.prog ops Q (o :: rest) a (W.alloc (.cells #[.string z] 9)) := by
  obtain ⟨i, hi, h0, h1, h2⟩ := info_parts infoStr
  refine wpList_append_lies _ hgd s x 73 ho B 9 i (.string ⟨#[]⟩) 1 16 Tryd.underlying73 hi h0 h1 h2 rfl (by omega) v n (strs xs) hs (hown.alloc _) ⟨W.heap.size, 0, none⟩ 1 c [.string z] hx rfl ?_ ?_ (by omega) (by unfold maxLen; omega) (by omega) (by have := hb.2; simp; omega) _ rfl ?_
  · intro j u hj
    match j, hj with
    | 0, hj => simp at hj; subst hj; simp [Addr.add]
  · intro u hu
    simp at hu
    subst hu
    rfl
  · intro g cap w' h3 h4 _ _
    exact h g cap w' (by simpa [strs] using h3) ((hb.alloc _).grown h4 (fun k hk => (own_block hown hk).1))

theorem own_none_str (w : World) : (w.alloc (.cells #[] 9)).ownsRow w.heap.size 9 1 (.slice (some ⟨w.heap.size, 0, none⟩) 0 0) 0 [] := own_none w 9 1
theorem own_cap_le {w : World} {B E k n g c : Nat} {cs : List Value} (h : w.ownsRow B E k (.slice (some ⟨g, 0, none⟩) n c) n cs) : n ≤ c := by
  rcases h.2 with ⟨h0, _⟩ | ⟨g', cap, cur, hv, _, _, h5, _⟩
  · cases h0
  · cases hv; exact h5
theorem take_next {zs : List Int} {i n : Nat} (hl : zs.length = n) (hi : i < n) {z : Int} (h : zs.getD i 0 = z) : (zs.take (i + 1)).map dec = (zs.take i).map dec ++ [dec z] := by
  subst h
  rw [List.take_succ_eq_append_getElem (by omega), List.map_append]
  simp [List.getD, List.getElem?_eq_getElem (show i < zs.length by omega)]

set_option maxRecDepth 100000 in
set_option maxHeartbeats 3200000 in
theorem numbersText_any (b n c : Nat) (zs : List Int) (sep : ByteArray) (w : World) (hl : zs.length = n) (hn0 : 0 < n) (hn : n ≤ 1000) (hbw0 : b < w.heap.size) (hz : ∀ i, i < n → 0 ≤ zs.getD i 0 ∧ zs.getD i 0 ≤ 9223372036854775807)
    (hc : ∀ i, i < n → w.cell? ⟨b, i, none⟩ = some (.int .i64 (zs.getD i 0))) (ht : Pow w) (hj : (Lib.join (zs.map fun z => (dec z).data.toList) sep.data.toList).length ≤ 140737488355328) :
    Calls Tryd.prog 55 #[.string sep, .slice (some ⟨b, 0, none⟩) n c] w fun e w' => e = .returned (.string ⟨(Lib.join (zs.map fun z => (dec z).data.toList) sep.data.toList).toArray⟩) ∧ Below w.heap.size w w' := by
  obtain ⟨i9, hi9, hz0, hz1, hz2⟩ := info_parts infoStr
  have HO := Lib.hid (own_none_str w)
  have HB := Lib.hid ((Bel.refl w).alloc (.cells #[] 9))
  have HZ := Lib.hid hz
  have HC := Lib.hid hc
  have HT := Lib.hid ht
  have HJ := Lib.hid hj
  have HL := Lib.hid hl
  clear hz hc ht hj hl
  go_enter Tryd.func55, Tryd.ntmps55
  go_wp2_with fail
  go_loopw [5, 7, 11] (fun v _ u wr => ∃ (i g cc : Nat), i ≤ n ∧ u = .int .i64 (i : Int) ∧ v = .slice (some ⟨g, 0, none⟩) i cc ∧ Hid (wr.ownsRow w.heap.size 9 1 (.slice (some ⟨g, 0, none⟩) i cc) i (strs ((zs.take i).map dec))) ∧ Hid (Bel w.heap.size w wr)) (fun _ _ u _ => n - (intOf u).toNat)
  case atStart => exact ⟨0, w.heap.size, 0, by omega, rfl, rfl, Lib.hid (by simpa [strs] using HO.out), HB⟩
  case round =>
    obtain ⟨i, g, cc, hin, rfl, rfl, hown, hbw⟩ := hrel
    by_cases hlt : i < n
    · have hlt' : (i : Int) < (n : Int) := by omega
      obtain ⟨z, hzz⟩ : ∃ z, zs.getD i 0 = z := ⟨_, rfl⟩
      obtain ⟨z1, z2⟩ := HZ.out i hlt
      have hcell : wr.cell? ⟨b, i, none⟩ = some (.int .i64 z) := by rw [hbw.out.1.cell hbw0, HC.out i hlt, hzz]
      rw [hzz] at z1 z2
      have HZZ := Lib.hid hzz
      have HD := Lib.hid (decimal_any z wr z1 z2 (HT.out.below hbw.out.1))
      clear hzz
      go_wp2_with (first | (go_at_call 67; refine HD.out.mono ?_; rintro e w1 ⟨rfl, hb1⟩; have Hb1 := Lib.hid hb1; clear hb1) | (at_builtin; refine appStr (by rfl) _ _ (by rfl) w.heap.size _ i ((zs.take i).map dec) (by rfl) (own_below hown.out Hb1.out) (dec z) 1 (by rfl) (by omega) (Bel.step hbw.out Hb1.out) ?_; intro g5 cap5 w5 ho5 hb5; have Ho5 := Lib.hid ho5; have Hb5 := Lib.hid hb5; clear ho5 hb5))
      go_roundw
      case rel => exact ⟨i + 1, g5, cap5, by omega, by go_num, rfl, Lib.hid (by rw [take_next HL.out hlt HZZ.out]; exact Ho5.out), Hb5⟩
      case measure =>
        simp [intOf]; omega
    · obtain rfl : i = n := by omega
      have hlt' : ¬ (i : Int) < (i : Int) := by omega
      have hl : ((zs.take i).map dec) = zs.map dec := by rw [List.take_of_length_le (by rw [HL.out]; omega)]
      have hown2 := hown.out
      rw [hl] at hown2
      have hlen : (zs.map dec).length = i := by simp [HL.out]
      have hJ := Tryd.strings_Join g 0 cc (zs.map dec) sep wr (by
          intro j x hx
          rw [Nat.zero_add, hown2.cellAt j (by have := (List.getElem?_eq_some_iff.1 hx).1; omega)]
          simpa [strs] using hx) (own_block hown2 rfl).2 (by omega) (by rw [hlen]; exact own_cap_le hown2) (by simpa [List.map_map, Function.comp_def] using HJ.out)
      rw [hlen] at hJ
      have HF := Lib.hid hJ
      clear hJ hl hown2 hlen
      go_wp2_with (go_at_call 75; refine HF.out.mono ?_; rintro e w1 ⟨rfl, hb1⟩; have Hb1 := Lib.hid hb1; clear hb1)
      go_ret
      exact ⟨rfl, (Bel.step hbw.out Hb1.out).1⟩

theorem join_two (x y : Int) (sep : ByteArray) : (⟨(Lib.join ([x, y].map fun z => (dec z).data.toList) sep.data.toList).toArray⟩ : ByteArray) = dec x ++ sep ++ dec y := by
  apply ByteArray.ext
  simp [Lib.join, List.intercalate, List.intersperse]
theorem numbers2 (b c : Nat) (x y : Int) (sep : ByteArray) (w : World) (hs : sep.size ≤ 100) (hb : b < w.heap.size) (x0 : 0 ≤ x) (x1 : x ≤ 9223372036854775807) (y0 : 0 ≤ y) (y1 : y ≤ 9223372036854775807)
    (h0 : w.cell? ⟨b, 0, none⟩ = some (.int .i64 x)) (h1 : w.cell? ⟨b, 1, none⟩ = some (.int .i64 y)) (ht : Pow w) :
    Calls Tryd.prog 55 #[.string sep, .slice (some ⟨b, 0, none⟩) 2 c] w fun e w' => e = .returned (.string (dec x ++ sep ++ dec y)) ∧ Below w.heap.size w w' := by
  rw [← join_two]
  refine numbersText_any b 2 c [x, y] sep w rfl (by omega) (by omega) hb ?_ ?_ ht ?_
  · intro i hi
    match i, hi with
    | 0, _ => exact ⟨x0, x1⟩
    | 1, _ => exact ⟨y0, y1⟩
  · intro i hi
    match i, hi with
    | 0, _ => exact h0
    | 1, _ => exact h1
  · have h := join_two x y sep
    have h2 := congrArg ByteArray.size h
    have e1 := dec_size x x0 x1
    have e2 := dec_size y y0 y1
    simp only [ByteArray.size_append] at h2
    have e3 : (⟨(Lib.join ([x, y].map fun z => (dec z).data.toList) sep.data.toList).toArray⟩ : ByteArray).size = (Lib.join ([x, y].map fun z => (dec z).data.toList) sep.data.toList).length := by show Array.size _ = _; simp
    omega
end Go.Proofs.YtfkojbkgpbpjhaaDoor
