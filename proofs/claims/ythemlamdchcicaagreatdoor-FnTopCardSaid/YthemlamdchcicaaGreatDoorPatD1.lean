/-
  Patterns as the reference draws them: the plain part and the memory. No condition of its own.
-/
import Derived.Test.YthemlamdchcicaaGreatDoorPatOb
import Derived.Test.YthemlamdchcicaaGreatDoorPatNw
namespace Go.Proofs.YthemlamdchcicaaGreatDoor
open Go.ChangeShapes Go.WideShapes Go.ChangeAt Go.RowKit Go.Deep Go.Shelf Go.ChangeMaps

/-- A pattern's pieces alone, as drawn. -/
structure Pat.Pre (p : Pat) : Prop where
  len : ∀ i, i < p.n → 3 ≤ p.len i ∧ p.len i ≤ 8
  name : ∀ i, i < p.n → okName (p.name i) = true ∧ (p.name i).size ≤ 20
  val : ∀ i j, i < p.n → j < p.len i → 1 ≤ p.val i j ∧ p.val i j ≤ 10000
  m : p.m = 0
theorem Pat.Pre.ok {p : Pat} (h : p.Pre) (h1 : 1 ≤ p.n) (h2 : p.n ≤ 10) : p.Ok :=
  ⟨h1, h2, h.len, h.name, h.val, by have := h.m; omega, fun k hk => by have := h.m; omega, fun k hk => by have := h.m; omega, fun j k _ hk => by have := h.m; omega⟩
def pat0 : Pat := ⟨0, fun _ => ByteArray.empty, fun _ => 0, fun _ _ => 0, 0, fun _ => (0, 0), fun _ => (0, 0)⟩
theorem pat0_pre : pat0.Pre := ⟨fun _ h => absurd h (Nat.not_lt_zero _), fun _ h => absurd h (Nat.not_lt_zero _), fun _ _ h => absurd h (Nat.not_lt_zero _), rfl⟩
/-- One piece more. -/
def Pat.addPc (p : Pat) (s : ByteArray) (zs : List Int) : Pat :=
  { p with n := p.n + 1, name := fun i => if i = p.n then s else p.name i, len := fun i => if i = p.n then zs.length else p.len i, val := fun i j => if i = p.n then zs.getD j 0 else p.val i j }
theorem Pat.addPc_at (p : Pat) (s : ByteArray) (zs : List Int) : (p.addPc s zs).name p.n = s ∧ (p.addPc s zs).len p.n = zs.length ∧ ∀ j, (p.addPc s zs).val p.n j = zs.getD j 0 := ⟨if_pos rfl, if_pos rfl, fun _ => if_pos rfl⟩
theorem Pat.addPc_lt (p : Pat) (s : ByteArray) (zs : List Int) {i : Nat} (h : i < p.n) : (p.addPc s zs).name i = p.name i ∧ (p.addPc s zs).len i = p.len i ∧ ∀ j, (p.addPc s zs).val i j = p.val i j := ⟨if_neg (by omega), if_neg (by omega), fun _ => if_neg (by omega)⟩
theorem Pat.Pre.addPc {p : Pat} (h : p.Pre) {s : ByteArray} {zs : List Int} (hs : okName s = true ∧ s.size ≤ 20) (hl : 3 ≤ zs.length ∧ zs.length ≤ 6) (hz : ∀ z ∈ zs, 1 ≤ z ∧ z ≤ 10000) : (p.addPc s zs).Pre := by
  obtain ⟨a1, a2, a3⟩ := p.addPc_at s zs
  refine ⟨fun i hi => ?_, fun i hi => ?_, fun i j hi hj => ?_, h.m⟩
  · have hi : i < p.n + 1 := hi
    by_cases e : i = p.n
    · subst e; rw [a2]; omega
    · rw [(p.addPc_lt s zs (show i < p.n by omega)).2.1]; exact h.len i (by omega)
  · have hi : i < p.n + 1 := hi
    by_cases e : i = p.n
    · subst e; rw [a1]; exact hs
    · rw [(p.addPc_lt s zs (show i < p.n by omega)).1]; exact h.name i (by omega)
  · have hi : i < p.n + 1 := hi
    by_cases e : i = p.n
    · subst e
      rw [a3]
      rw [a2] at hj
      rw [List.getD_eq_getElem?_getD, List.getElem?_eq_getElem hj]
      exact hz _ (List.getElem_mem hj)
    · rw [(p.addPc_lt s zs (show i < p.n by omega)).2.2]
      rw [(p.addPc_lt s zs (show i < p.n by omega)).2.1] at hj
      exact h.val i j (by omega) hj
theorem pcC_addPc (p : Pat) (s : ByteArray) (zs : List Int) (g cE : Nat → Nat) : ∀ k, k ≤ p.n → pcC (p.addPc s zs) g cE k = pcC p g cE k
  | 0, _ => rfl
  | k + 1, h => by
    obtain ⟨b1, b2, _⟩ := p.addPc_lt s zs (show k < p.n by omega)
    rw [pcC_succ, pcC_succ, pcC_addPc p s zs g cE k (by omega), b1, b2]
theorem edL_addPc (p : Pat) (s : ByteArray) (zs : List Int) {i : Nat} (h : i < p.n) : edL (p.addPc s zs) i = edL p i := by
  obtain ⟨b1, b2, b3⟩ := p.addPc_lt s zs h
  unfold edL
  rw [b2]
  congr 1
  exact List.map_congr_left fun j _ => b3 j
theorem edL_addPc_at (p : Pat) (s : ByteArray) (zs : List Int) : edL (p.addPc s zs) p.n = zs.map (Value.int .i64) := by
  obtain ⟨a1, a2, a3⟩ := p.addPc_at s zs
  unfold edL
  rw [a2]
  congr 1
  refine List.ext_getElem (by simp) fun j h1 h2 => ?_
  rw [List.getElem_map, List.getElem_range, a3, List.getD_eq_getElem?_getD, List.getElem?_eq_getElem h2]
  rfl
/-- A new piece, whatever lies between. -/
theorem PcsOwn.more2 {w5 w6 : World} {B B' c c' x capE : Nat} {p : Pat} {a a' : Option Addr} {g cE : Nat → Nat} {s : ByteArray} {zs : List Int} {o : Obj} (h : PcsOwn w5 B p p.n a c g cE) (hB : B ≤ B')
    (hoE : w5.ownsRow B' 2 1 (.slice (some ⟨x, 0, none⟩) zs.length capE) zs.length (zs.map (Value.int .i64))) (hx1 : ∀ i, i < p.n → g i ≠ x) (hx2 : ∀ b, (Value.slice a p.n c).ownBlock = some b → b ≠ x)
    (hg : (w5.alloc o).grownBy w6 (Value.slice a p.n c).ownBlock)
    (ho : w6.ownsRow B 107 2 (.slice a' (p.n + 1) c') (p.n + 1) (pcC p g cE p.n ++ [.string s, .slice (some ⟨x, 0, none⟩) zs.length capE]))
    (hat : (Value.slice a' (p.n + 1) c').ownBlock = (Value.slice a p.n c).ownBlock ∨ (Value.slice a' (p.n + 1) c').ownBlock = some (w5.alloc o).heap.size) :
    PcsOwn w6 B (p.addPc s zs) (p.n + 1) a' c' (upd g p.n x) (upd cE p.n capE) := by
  obtain ⟨a1, a2, a3⟩ := p.addPc_at s zs
  have hx := own_block (b := x) hoE rfl
  have h5 : (w5.alloc o).heap.size = w5.heap.size + 1 := by simp
  have hgl : ∀ i, i < p.n → g i < w5.heap.size := fun i hi => (own_block (b := g i) (h.eds i hi) rfl).2
  have hbn : ∀ b, (Value.slice a' (p.n + 1) c').ownBlock = some b → (Value.slice a p.n c).ownBlock = some b ∨ b = w5.heap.size + 1 := fun b hbb => by
    rcases hat with h1 | h1
    · rw [hbb] at h1; exact .inl h1.symm
    · rw [hbb] at h1; exact .inr (by rw [← h5]; exact Option.some.inj h1)
  refine ⟨?_, fun i hi => ?_, fun i hi b hbb => ?_, fun i j hij hj => ?_⟩
  · rw [pcC_succ, upd_at, upd_at, pcC_addPc p s zs _ _ p.n (Nat.le_refl _), a1, a2, pcC_congr p (g := upd g p.n x) (g' := g) (cE := upd cE p.n capE) (cE' := cE) p.n (fun i hi => ⟨upd_ne g hi, upd_ne cE hi⟩)]
    exact ho
  · by_cases e : i = p.n
    · subst e
      rw [upd_at, upd_at, a2, edL_addPc_at]
      exact own_base (own_grown_ne (hoE.alloc o) hg (fun b hb' e => by have h1 : x = b := (by simpa [Value.ownBlock] using hb'); exact hx2 b e h1.symm)) hB
    · have hik : i < p.n := by omega
      obtain ⟨b1, b2, _⟩ := p.addPc_lt s zs hik
      rw [upd_ne g hik, upd_ne cE hik, b2, edL_addPc p s zs hik]
      exact own_grown_ne ((h.eds i hik).alloc o) hg (fun b hb' e => by have h1 : g i = b := (by simpa [Value.ownBlock] using hb'); exact h.ne i hik b e h1.symm)
  · by_cases e : i = p.n
    · subst e
      rw [upd_at]
      rcases hbn b hbb with h1 | h1
      · exact hx2 b h1
      · omega
    · have hik : i < p.n := by omega
      rw [upd_ne g hik]
      have h6 := hgl i hik
      rcases hbn b hbb with h1 | h1
      · exact h.ne i hik b h1
      · omega
  · by_cases e : j = p.n
    · subst e
      rw [upd_at, upd_ne g hij]
      exact hx1 i hij
    · rw [upd_ne g (show i < p.n by omega), upd_ne g (show j < p.n by omega)]
      exact h.inj i j hij (by omega)
/-- The memory of a draw of a pattern. -/
structure DMem (w0 w wr : World) (sp q : Nat) (ac : Option Addr) (nc cc A : Nat) (p : Pat) (a : Option Addr) (c : Nat) (aS : Option Addr) (cS : Nat) (op : Int) (g cE : Nat → Nat) : Prop where
  res : Obx wr w.heap.size w.heap.size 41 3 [.slice none 0 0, .slice none 0 0, .int .i64 0]
  box : Obx wr (w.heap.size + 1) q 41 3 [.slice a p.n c, .slice aS p.m cS, .int .i64 op]
  own : PatOwn wr (w.heap.size + 1) p a c aS cS g cE
  n1 : ∀ b, (Value.slice a p.n c).ownBlock = some b → b ≠ q
  n2 : ∀ i, i < p.n → g i ≠ q
  n3 : ∀ b, (Value.slice aS p.m cS).ownBlock = some b → b ≠ q
  src : SrcAt wr w0.heap.size sp ac nc cc A
  bel : Bel w0.heap.size w0 wr
  gr : w.grownBy wr (some sp)
theorem DMem.drawn {w0 w wr w' : World} {sp q nc cc A A' c cS : Nat} {ac a aS : Option Addr} {p : Pat} {op : Int} {g cE : Nat → Nat} (h : DMem w0 w wr sp q ac nc cc A p a c aS cS op g cE) (hp1 : w0.heap.size ≤ sp) (hp2 : sp < w.heap.size) (hs : SrcAt w' w0.heap.size sp ac nc cc A') (hg : wr.grownBy w' (some sp)) :
    DMem w0 w w' sp q ac nc cc A' p a c aS cS op g cE :=
  ⟨h.res.grown hg (fun e => by have h1 : sp = w.heap.size := Option.some.inj e; omega), h.box.grown hg (fun e => by have h1 : sp = q := Option.some.inj e; have := h.box.lt.1; omega), h.own.grown hg (by omega), h.n1, h.n2, h.n3, hs, h.bel.grown hg (fun k e => by have h1 : sp = k := Option.some.inj e; omega), grown_trans_row h.gr hg⟩
theorem grown_below_l {w w1 w2 : World} {row : Option Nat} (h : w.grownBy w1 row) (hb : Below w1.heap.size w1 w2) : w.grownBy w2 row :=
  ⟨hb.os.trans h.os, hb.tape.trans h.tape, hb.output.trans h.output, Nat.le_trans h.size hb.size, fun i hi hne => (hb.block i (Nat.lt_of_lt_of_le hi h.size)).trans (h.block i hi hne)⟩
theorem DMem.below {w0 w wr w' : World} {sp q nc cc A c cS : Nat} {ac a aS : Option Addr} {p : Pat} {op : Int} {g cE : Nat → Nat} (h : DMem w0 w wr sp q ac nc cc A p a c aS cS op g cE) (hb : Below wr.heap.size wr w') : DMem w0 w w' sp q ac nc cc A p a c aS cS op g cE :=
  ⟨h.res.below hb, h.box.below hb, h.own.below hb, h.n1, h.n2, h.n3, h.src.below hb, h.bel.step hb, grown_below_l h.gr hb⟩
theorem DMem.pbox {w0 w wr : World} {sp q nc cc A c cS : Nat} {ac a aS : Option Addr} {p : Pat} {op : Int} {g cE : Nat → Nat} (h : DMem w0 w wr sp q ac nc cc A p a c aS cS op g cE) : PBox wr q a p.n c aS p.m cS op :=
  ⟨h.box.cell 0 (by omega), h.box.cell 1 (by omega), h.box.cell 2 (by omega), h.box.lt.2⟩
theorem DMem.more {w0 w w5 w6 : World} {sp q nc cc A c c' B' x capE : Nat} {ac a a' : Option Addr} {p : Pat} {op : Int} {g cE : Nat → Nat} {s : ByteArray} {zs : List Int} {o : Obj} (h : DMem w0 w w5 sp q ac nc cc A p a c none 0 op g cE) (hsp1 : w0.heap.size ≤ sp) (hsp : sp < w.heap.size) (hB : w.heap.size + 1 ≤ B')
    (hoE : w5.ownsRow B' 2 1 (.slice (some ⟨x, 0, none⟩) zs.length capE) zs.length (zs.map (Value.int .i64))) (hx1 : ∀ i, i < p.n → g i ≠ x) (hx2 : ∀ b, (Value.slice a p.n c).ownBlock = some b → b ≠ x) (hx3 : x ≠ q)
    (hg : (w5.alloc o).grownBy w6 (Value.slice a p.n c).ownBlock)
    (ho : w6.ownsRow (w.heap.size + 1) 107 2 (.slice a' (p.n + 1) c') (p.n + 1) (pcC p g cE p.n ++ [.string s, .slice (some ⟨x, 0, none⟩) zs.length capE]))
    (hat : (Value.slice a' (p.n + 1) c').ownBlock = (Value.slice a p.n c).ownBlock ∨ (Value.slice a' (p.n + 1) c').ownBlock = some (w5.alloc o).heap.size) :
    DMem w0 w (w6.setCell ⟨q, 0, none⟩ (.slice a' (p.n + 1) c')) sp q ac nc cc A (p.addPc s zs) a' c' none 0 op (upd g p.n x) (upd cE p.n capE) := by
  have hq := h.box.lt
  have hw5 : w.heap.size ≤ w5.heap.size := h.gr.size
  have h5 : (w5.alloc o).heap.size = w5.heap.size + 1 := by simp
  have hbl := h.bel.2
  have hg7 := setCell_grown w6 q 0 (.slice a' (p.n + 1) c')
  have hlo : ∀ b, (Value.slice a p.n c).ownBlock = some b → w.heap.size + 1 ≤ b := fun b hb => (own_block h.own.pcs.row hb).1
  have hbn : ∀ b, (Value.slice a' (p.n + 1) c').ownBlock = some b → (Value.slice a p.n c).ownBlock = some b ∨ b = w5.heap.size + 1 := fun b hbb => by
    rcases hat with h1 | h1
    · rw [hbb] at h1; exact .inl h1.symm
    · rw [hbb] at h1; exact .inr (by rw [← h5]; exact Option.some.inj h1)
  have hnq : ∀ b, (Value.slice a' (p.n + 1) c').ownBlock = some b → b ≠ q := fun b hb => by
    rcases hbn b hb with h1 | h1
    · exact h.n1 b h1
    · omega
  have hnx : ∀ i, i < p.n + 1 → upd g p.n x i ≠ q := fun i hi => by
    by_cases e : i = p.n
    · subst e; rw [upd_at]; exact hx3
    · rw [upd_ne g (show i < p.n by omega)]; exact h.n2 i (by omega)
  have hP6 := h.own.pcs.more2 hB hoE hx1 hx2 hg ho hat
  have hP7 : PcsOwn (w6.setCell ⟨q, 0, none⟩ (.slice a' (p.n + 1) c')) (w.heap.size + 1) (p.addPc s zs) (p.n + 1) a' c' (upd g p.n x) (upd cE p.n capE) := hP6.grown hg7 (fun b hb e => hnq b hb e.symm) (fun i hi e => hnx i hi e.symm)
  have hr6 := Obx.grown (h.res.alloc o) hg (fun e => by have := hlo _ e; omega)
  have hx6 := Obx.grown (h.box.alloc o) hg (fun e => h.n1 q e rfl)
  have hs6 := (h.src.alloc o).grown hg (fun e => by have := hlo _ e; omega)
  have hm6 : w6.ownsRow (w.heap.size + 1) 110 4 (.slice none p.m 0) p.m (smC p p.m) := own_grown_ne (own_below h.own.sms ((Bel.refl w5).alloc o).1) hg (fun b hb e => by simp [Value.ownBlock] at hb)
  have hb6 := (h.bel.alloc o).grown hg (fun k e => by have := hlo _ e; omega)
  have hm7 := own_grown_ne hm6 hg7 (fun b hb e => by simp [Value.ownBlock] at hb)
  refine ⟨hr6.setOther (q' := q) 0 _ (by omega), hx6.set 0 _, ⟨hP7, hm7, fun b b' hb hb' e => by simp [Value.ownBlock] at hb', fun i hi b hb e => by simp [Value.ownBlock] at hb⟩, hnq, hnx, fun b hb => by simp [Value.ownBlock] at hb, hs6.grown hg7 (fun e => by have h1 : q = sp := Option.some.inj e; omega), hb6.setCell (p := ⟨q, 0, none⟩) (by show w0.heap.size ≤ q; omega) _, ?_⟩
  have h1 : w.grownBy (w5.alloc o) (some sp) := grown_alloc_l h.gr o
  have h2 : w.grownBy w6 (some sp) := by
    cases hv : (Value.slice a p.n c).ownBlock with
    | none =>
      rw [hv] at hg
      exact ⟨hg.os.trans h1.os, hg.tape.trans h1.tape, hg.output.trans h1.output, Nat.le_trans h1.size hg.size, fun i hi hne => (hg.block i (Nat.lt_of_lt_of_le hi h1.size) (by simp)).trans (h1.block i hi hne)⟩
    | some b =>
      rw [hv] at hg
      exact grown_new_l h1 hg (by have := hlo _ hv; omega)
  exact grown_new_l h2 hg7 (by omega)
/-- Above all blocks of a drawn pattern. -/
structure DTop (q y : Nat) (p : Pat) (a : Option Addr) (c : Nat) (aS : Option Addr) (cS : Nat) (g : Nat → Nat) : Prop where
  q : q < y
  pcs : ∀ b, (Value.slice a p.n c).ownBlock = some b → b < y
  eds : ∀ i, i < p.n → g i < y
  sms : ∀ b, (Value.slice aS p.m cS).ownBlock = some b → b < y
theorem DMem.top {w0 w wr : World} {sp q nc cc A c cS : Nat} {ac a aS : Option Addr} {p : Pat} {op : Int} {g cE : Nat → Nat} (h : DMem w0 w wr sp q ac nc cc A p a c aS cS op g cE) : DTop q wr.heap.size p a c aS cS g :=
  ⟨h.box.lt.2, fun _ hb => (own_block h.own.pcs.row hb).2, fun i hi => (own_block (b := g i) (h.own.pcs.eds i hi) rfl).2, fun _ hb => (own_block h.own.sms hb).2⟩
theorem DMem.off {w0 w wr w' : World} {sp q nc cc A c cS y : Nat} {ac a aS : Option Addr} {p : Pat} {op : Int} {g cE : Nat → Nat} (h : DMem w0 w wr sp q ac nc cc A p a c aS cS op g cE) (hsp1 : w0.heap.size ≤ sp) (hsp : sp < w.heap.size) (ht : DTop q y p a c aS cS g) (hg : wr.grownBy w' (some y)) :
    DMem w0 w w' sp q ac nc cc A p a c aS cS op g cE := by
  have hq := h.box.lt.1
  have hy := ht.q
  exact ⟨h.res.grown hg (fun e => by have h1 : y = w.heap.size := Option.some.inj e; omega), h.box.grown hg (fun e => by have h1 : y = q := Option.some.inj e; omega), h.own.grownNe hg (fun b hb e => by have := ht.pcs b hb; omega) (fun i hi e => by have := ht.eds i hi; omega) (fun b hb e => by have := ht.sms b hb; omega), h.n1, h.n2, h.n3, h.src.grown hg (fun e => by have h1 : y = sp := Option.some.inj e; omega), h.bel.grown hg (fun k e => by have h1 : y = k := Option.some.inj e; omega), grown_new_l h.gr hg (by omega)⟩
/-- A length is set. -/
def Pat.setVal (p : Pat) (e : Ed) (z : Int) : Pat := { p with val := fun i j => if i = e.1 ∧ j = e.2 then z else p.val i j }
theorem Pat.Ok.setVal {p : Pat} (h : p.Ok) {e : Ed} {z : Int} (hz : 1 ≤ z ∧ z ≤ 10000) : (p.setVal e z).Ok :=
  ⟨h.n1, h.n2, h.len, h.name, fun i j hi hj => by
    show 1 ≤ (if i = e.1 ∧ j = e.2 then z else p.val i j) ∧ (if i = e.1 ∧ j = e.2 then z else p.val i j) ≤ 10000
    split
    · exact hz
    · exact h.val i j hi hj, h.m, h.on, h.ab, h.aa⟩
theorem edL_setVal (p : Pat) (e : Ed) (z : Int) : edL (p.setVal e z) e.1 = (edL p e.1).set e.2 (.int .i64 z) := by
  refine List.ext_getElem (by simp [edL, Pat.setVal]) fun j h1 h2 => ?_
  have hj : j < p.len e.1 := by simpa [edL, Pat.setVal] using h1
  rw [List.getElem_set]
  simp only [edL, Pat.setVal, List.getElem_map, List.getElem_range]
  by_cases hje : e.2 = j
  · rw [if_pos (by simpa using hje.symm), if_pos hje]
  · rw [if_neg (by simpa using fun x : j = e.2 => hje x.symm), if_neg hje]
theorem edL_setVal_ne (p : Pat) (e : Ed) (z : Int) {i : Nat} (h : i ≠ e.1) : edL (p.setVal e z) i = edL p i := by
  refine List.ext_getElem (by simp [edL, Pat.setVal]) fun j h1 h2 => ?_
  simp only [edL, Pat.setVal, List.getElem_map, List.getElem_range]
  rw [if_neg (fun x => h x.1)]
theorem PatOwn.setVal {w : World} {B c cS : Nat} {p : Pat} {aP aS : Option Addr} {g cE : Nat → Nat} {e : Ed} {z : Int} (h : PatOwn w B p aP c aS cS g cE) (he : p.on e) : PatOwn (w.setCell ⟨g e.1, e.2, none⟩ (.int .i64 z)) B (p.setVal e z) aP c aS cS g cE := by
  have hg := setCell_grown w (g e.1) e.2 (.int .i64 z)
  refine ⟨⟨own_grown_ne h.pcs.row hg (fun b hb e2 => h.pcs.ne e.1 he.1 b hb (Option.some.inj e2).symm), fun i hi => ?_, h.pcs.ne, h.pcs.inj⟩, own_grown_ne h.sms hg (fun b hb e2 => h.ne2 e.1 he.1 b hb (Option.some.inj e2).symm), h.ne1, h.ne2⟩
  have hi : i < p.n := hi
  by_cases h1 : i = e.1
  · subst h1
    rw [edL_setVal p e z]
    show (w.setCell ⟨g e.1, e.2, none⟩ (.int .i64 z)).ownsRow B 2 1 (.slice (some ⟨g e.1, 0, none⟩) (p.len e.1) (cE e.1)) (p.len e.1) _
    exact ((h.pcs.eds e.1 hi).stored e.2 (.int .i64 z)).1
  · rw [edL_setVal_ne p e z h1]
    refine own_grown_ne (h.pcs.eds i hi) hg (fun b hb e2 => ?_)
    have h2 : g i = b := by simpa [Value.ownBlock] using hb
    have h3 : g e.1 = b := Option.some.inj e2
    have h4 := he.1
    rcases Nat.lt_or_gt_of_ne h1 with h5 | h5
    · exact h.pcs.inj i e.1 h5 h4 (h2.trans h3.symm)
    · exact h.pcs.inj e.1 i h5 hi (h3.trans h2.symm)
theorem DMem.moreA {w0 w wr : World} {sp q nc cc A A' c cS : Nat} {ac a aS : Option Addr} {p : Pat} {op : Int} {g cE : Nat → Nat} (h : DMem w0 w wr sp q ac nc cc A p a c aS cS op g cE) (hA : A ≤ A') : DMem w0 w wr sp q ac nc cc A' p a c aS cS op g cE :=
  ⟨h.res, h.box, h.own, h.n1, h.n2, h.n3, h.src.more hA, h.bel, h.gr⟩
theorem DTop.mono {q y y' c cS : Nat} {p : Pat} {a aS : Option Addr} {g : Nat → Nat} (h : DTop q y p a c aS cS g) (hy : y ≤ y') : DTop q y' p a c aS cS g :=
  ⟨by have := h.q; omega, fun b hb => by have := h.pcs b hb; omega, fun i hi => by have := h.eds i hi; omega, fun b hb => by have := h.sms b hb; omega⟩
/-- The next pattern takes the box. -/
theorem DMem.next {w0 w wr : World} {sp q nc cc A c cS c' cS' H : Nat} {ac a aS a' aS' : Option Addr} {p p' : Pat} {op op' : Int} {g cE g' cE' : Nat → Nat} (h : DMem w0 w wr sp q ac nc cc A p a c aS cS op g cE) (hsp1 : w0.heap.size ≤ sp) (hsp : sp < w.heap.size) (ho : PatOwn wr H p' a' c' aS' cS' g' cE') (hq : q < H) (hH : w.heap.size + 1 ≤ H) :
    DMem w0 w (((wr.setCell ⟨q, 0, none⟩ (.slice a' p'.n c')).setCell ⟨q, 1, none⟩ (.slice aS' p'.m cS')).setCell ⟨q, 2, none⟩ (.int .i64 op')) sp q ac nc cc A p' a' c' aS' cS' op' g' cE' := by
  have hg := set3_grown wr q (.slice a' p'.n c') (.slice aS' p'.m cS') (.int .i64 op')
  have hb := h.box.lt.1
  exact ⟨h.res.grown hg (fun e => by have h1 : q = w.heap.size := Option.some.inj e; omega), h.box.set3, (ho.grown hg hq).base hH, fun b hb e => by have := (own_block ho.pcs.row hb).1; omega, fun i hi e => by have := (own_block (b := g' i) (ho.pcs.eds i hi) rfl).1; omega, fun b hb e => by have := (own_block ho.sms hb).1; omega, h.src.grown hg (fun e => by have h1 : q = sp := Option.some.inj e; omega), h.bel.grown hg (fun k e => by have h1 : q = k := Option.some.inj e; omega), grown_new_l h.gr hg (by omega)⟩
theorem DMem.setOp {w0 w wr : World} {sp q nc cc A c cS : Nat} {ac a aS : Option Addr} {p : Pat} {op op' : Int} {g cE : Nat → Nat} (h : DMem w0 w wr sp q ac nc cc A p a c aS cS op g cE) (hsp1 : w0.heap.size ≤ sp) (hsp : sp < w.heap.size) : DMem w0 w (wr.setCell ⟨q, 2, none⟩ (.int .i64 op')) sp q ac nc cc A p a c aS cS op' g cE := by
  have hg := setCell_grown wr q 2 (.int .i64 op')
  have hb := h.box.lt.1
  exact ⟨h.res.grown hg (fun e => by have h1 : q = w.heap.size := Option.some.inj e; omega), h.box.set 2 _, h.own.grownNe hg (fun b hb e => h.n1 b hb e.symm) (fun i hi e => h.n2 i hi e.symm) (fun b hb e => h.n3 b hb e.symm), h.n1, h.n2, h.n3, h.src.grown hg (fun e => by have h1 : q = sp := Option.some.inj e; omega), h.bel.grown hg (fun k e => by have h1 : q = k := Option.some.inj e; omega), grown_new_l h.gr hg (by omega)⟩
end Go.Proofs.YthemlamdchcicaaGreatDoor
