/-
  The text of two numbers with a word between them (impl.numbersText). No condition of its own.
-/
import Derived.Test.YtfkojbkgpbpjhaaGreatDoorGlueT
import Derived.Test.YtfkojbkgpbpjhaaGreatDoorApp
import Derived.Deep.AppendLies
namespace Go.Proofs.YtfkojbkgpbpjhaaGreatDoor
open Go.ChangeShapes Go.WideShapes Go.ChangeAt Go.RowKit Go.Deep Go.Shelf Go.Sort

theorem infoStr : (Tryz.prog.info? 9).map (fun i => (i.zero, i.size, i.bytes)) = some (some (.string ⟨#[]⟩), 1, 16) := by kernel_rfl
def strs (l : List ByteArray) : List Value := l.map Value.string
theorem own_str (W : World) (x : ByteArray) (B H : Nat) (hH : H = W.heap.size) (hB : B ≤ W.heap.size) : (W.alloc (.cells #[.string x] 9)).ownsRow B 9 1 (.slice (some ⟨H, 0, none⟩) 1 1) 1 [.string x] := by
  subst hH
  exact own_base (World.ownsRow_lit (base := W.heap.size) (size := 1) (e := 9) W #[.string x] 1 (Nat.le_refl _) (by unfold maxLen; omega) (by simp)) hB
theorem appStr {w0 W : World} {ops : Array Oper} {rest : List Oper} {o : Oper} {a : Act} {Q : Exit → Act → World → Prop} (hgd : o.guard = none) (s x : Operand)
    (ho : o.op = .call { callee := .builtin .append, args := #[s, x], argTypes := #[71, 71] }) (B : Nat) (v : Value) (n : Nat) (xs : List ByteArray) (hs : a.eval s = v) (hown : W.ownsRow B 9 1 v n (strs xs))
    (z : ByteArray) (c : Nat) (hx : a.eval x = .slice (some ⟨W.heap.size, 0, none⟩) 1 c) (hn : n ≤ 1048576) (hb : Bel B w0 W)
    (h : ∀ g cap w', w'.ownsRow B 9 1 (.slice (some ⟨g, 0, none⟩) (n + 1) cap) (n + 1) (strs (xs ++ [z])) → Bel B w0 w' → wpList Tryz.prog ops Q rest (a.put o.dst (.slice (some ⟨g, 0, none⟩) (n + 1) cap)) w') :
    wpList Tryz.prog ops Q (o :: rest) a (W.alloc (.cells #[.string z] 9)) := by
  obtain ⟨i, hi, h0, h1, h2⟩ := info_parts infoStr
  refine wpList_append_lies _ hgd s x 71 ho B 9 i (.string ⟨#[]⟩) 1 16 Tryz.underlying71 hi h0 h1 h2 rfl (by omega) v n (strs xs) hs (hown.alloc _) ⟨W.heap.size, 0, none⟩ 1 c [.string z] hx rfl ?_ ?_ (by omega) (by unfold maxLen; omega) (by omega) (by have := hb.2; simp; omega) _ rfl ?_
  · intro j u hj
    match j, hj with
    | 0, hj => simp at hj; subst hj; simp [Addr.add]
  · intro u hu
    simp at hu
    subst hu
    rfl
  · intro g cap w' h3 h4 _ _
    exact h g cap w' (by simpa [strs] using h3) ((hb.alloc _).grown h4 (fun k hk => (own_block hown hk).1))

theorem own_none_str (w : World) : (w.alloc (.cells #[] 9)).ownsRow w.heap.size 9 1 (.slice (some ⟨w.heap.size, 0, none⟩) 0 0) 0 [] := own_none w 9 1
theorem own_cap_le {w : World} {B E k n g c : Nat} {cs : List Value} (h : w.ownsRow B E k (.slice (some ⟨g, 0, none⟩) n c) n cs) : n ≤ c := by
  rcases h.2 with ⟨h0, _⟩ | ⟨g', cap, cur, hv, _, _, h5, _⟩
  · cases h0
  · cases hv; exact h5
theorem take_next {zs : List Int} {i n : Nat} (hl : zs.length = n) (hi : i < n) {z : Int} (h : zs.getD i 0 = z) : (zs.take (i + 1)).map dec = (zs.take i).map dec ++ [dec z] := by
  subst h
  rw [List.take_succ_eq_append_getElem (by omega), List.map_append]
  simp [List.getD, List.getElem?_eq_getElem (show i < zs.length by omega)]

end Go.Proofs.YtfkojbkgpbpjhaaGreatDoor
