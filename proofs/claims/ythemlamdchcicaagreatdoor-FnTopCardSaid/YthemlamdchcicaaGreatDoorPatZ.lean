/-
  A pattern of a call's own. No condition of its own.
-/
import Derived.Test.YthemlamdchcicaaGreatDoorGBox
import Derived.Test.YthemlamdchcicaaGreatDoorPatY
import Derived.Test.YthemlamdchcicaaGreatDoorPatV
namespace Go.Proofs.YthemlamdchcicaaGreatDoor
open Go.ChangeShapes Go.WideShapes Go.ChangeAt Go.RowKit Go.Deep Go.Shelf Go.ChangeMaps

theorem infoPiece : (Tryz.prog.info? 107).map (fun i => (i.zero, i.size, i.bytes)) = some (some (.agg #[.string ByteArray.empty, .slice none 0 0]), 2, 40) := by kernel_rfl
theorem infoSeam : (Tryz.prog.info? 110).map (fun i => (i.zero, i.size, i.bytes)) = some (some (.agg #[.int .i64 0, .int .i64 0, .int .i64 0, .int .i64 0]), 4, 32) := by kernel_rfl
set_option maxHeartbeats 800000 in
/-- An append of whatever, to a row of the call's own, in a region that draws. -/
theorem step_append_any {ops : Array Oper} {o : Oper} {a : Act} {W : World} {K : Act → World → Prop} {Q : Exit → Act → World → Prop} {E : Prop} (hgd : o.guard = none) (s x : Operand) (t : TypeId)
    (ho : o.op = .call { callee := .builtin .append, args := #[s, x], argTypes := #[t, t] }) (B : Nat) (e : TypeId) (i : TypeInfo) (z : Value) (size bytes : Nat) (ht : Tryz.prog.underlying t = some (.slice e)) (hi : Tryz.prog.info? e = some i) (hz : i.zero = some z)
    (hsize : i.size = size) (hby : i.bytes = bytes) (hzs : z.cells.size = size) (hsz : 0 < size) (v : Value) (n : Nat) (xs : List Value) (hs : a.eval s = v) (hown : W.ownsRow B e size v n xs)
    (ao : Option Addr) (m c : Nat) (news : List Value) (hx : a.eval x = .slice ao m c) (hl : news.length = m * size) (hnone : ao = none → m = 0 ∧ c = 0) (hnews : ∀ ad, ao = some ad → ∀ j u, news[j]? = some u → W.cell? (ad.add j) = some u) (h1 : ∀ u ∈ news, u.oneCell' = true)
    (h63 : n + m ≤ maxLen) (hbytes : (n + m) * bytes ≤ 140737488355328) (hbase : B ≤ W.heap.size)
    (h : ∀ a' cap w', w'.ownsRow B e size (.slice a' (n + m) cap) (n + m) (xs ++ news) → W.grownBy w' v.ownBlock → ((Value.slice a' (n + m) cap).ownBlock = v.ownBlock ∨ (Value.slice a' (n + m) cap).ownBlock = some W.heap.size) → K (a.put o.dst (.slice a' (n + m) cap)) w') :
    if Region.wanted o (yielded ops a.tmps) = true then Oper.wp Tryz.prog o a W K Q else E := by
  have hw : Region.wanted o (yielded ops a.tmps) = true := by simp [Region.wanted, hgd]
  rw [if_pos hw]
  cases ao with
  | some ad =>
    obtain ⟨v', w', hr, h2, h3, _, h5⟩ := run_append_own_at (P := Tryz.prog) W B t o.type e i z size bytes ht hi hz hsize hby hzs hsz v n xs hown ad m c news hl (hnews ad rfl) h1 h63 hbytes hbase
    obtain ⟨a', cap, rfl⟩ := own_cap h2
    unfold Oper.wp execOp
    simp only [ho, resolve, invoke, builtin, Sem.run_bind, Sem.run_pure, Result.andThen_ok, List.map_toArray, List.map_cons, List.map_nil, hs, hx, hr]
    exact h a' cap w' h2 h3 h5
  | none =>
    obtain ⟨rfl, rfl⟩ := hnone rfl
    have hn : news = [] := List.eq_nil_of_length_eq_zero (by simpa using hl)
    subst hn
    obtain ⟨a', cap, rfl⟩ := own_cap hown
    have hr := run_append_owned_none (P := Tryz.prog) W B t o.type e i size ht hi _ n xs hown
    unfold Oper.wp execOp
    simp only [ho, resolve, invoke, builtin, Sem.run_bind, Sem.run_pure, Result.andThen_ok, List.map_toArray, List.map_cons, List.map_nil, hs, hx, hr]
    exact h a' cap W (by simpa using hown) (World.grownBy.refl _ _) (.inl rfl)
def pcC (p : Pat) (g cE : Nat → Nat) (k : Nat) : List Value := (List.range k).flatMap fun i => [.string (p.name i), .slice (some ⟨g i, 0, none⟩) (p.len i) (cE i)]
def edL (p : Pat) (i : Nat) : List Value := ((List.range (p.len i)).map (p.val i)).map (Value.int .i64)
def smC (p : Pat) (k : Nat) : List Value := (List.range k).flatMap fun i => [.int .i64 ((p.a i).1 : Int), .int .i64 ((p.a i).2 : Int), .int .i64 ((p.b i).1 : Int), .int .i64 ((p.b i).2 : Int)]
theorem pcC_succ (p : Pat) (g cE : Nat → Nat) (k : Nat) : pcC p g cE (k + 1) = pcC p g cE k ++ [.string (p.name k), .slice (some ⟨g k, 0, none⟩) (p.len k) (cE k)] := by simp [pcC, List.range_succ]
theorem smC_succ (p : Pat) (k : Nat) : smC p (k + 1) = smC p k ++ [.int .i64 ((p.a k).1 : Int), .int .i64 ((p.a k).2 : Int), .int .i64 ((p.b k).1 : Int), .int .i64 ((p.b k).2 : Int)] := by simp [smC, List.range_succ]
theorem pcC_length (p : Pat) (g cE : Nat → Nat) : ∀ k, (pcC p g cE k).length = k * 2
  | 0 => rfl
  | k + 1 => by rw [pcC_succ, List.length_append, pcC_length p g cE k]; simp; omega
theorem smC_length (p : Pat) : ∀ k, (smC p k).length = k * 4
  | 0 => rfl
  | k + 1 => by rw [smC_succ, List.length_append, smC_length p k]; simp; omega
theorem edL_length (p : Pat) (i : Nat) : (edL p i).length = p.len i := by simp [edL]
theorem pcC_at (p : Pat) (g cE : Nat → Nat) : ∀ (k i : Nat), i < k → (pcC p g cE k)[i * 2]? = some (.string (p.name i)) ∧ (pcC p g cE k)[i * 2 + 1]? = some (.slice (some ⟨g i, 0, none⟩) (p.len i) (cE i))
  | 0, _, h => by omega
  | k + 1, i, h => by
    rw [pcC_succ]
    have hl := pcC_length p g cE k
    by_cases e : i = k
    · subst e
      rw [List.getElem?_append_right (by omega), List.getElem?_append_right (by omega), hl]
      simp
    · rw [List.getElem?_append_left (by omega), List.getElem?_append_left (by omega)]
      exact pcC_at p g cE k i (by omega)
theorem smC_at (p : Pat) : ∀ (k i : Nat), i < k → (smC p k)[i * 4]? = some (.int .i64 ((p.a i).1 : Int)) ∧ (smC p k)[i * 4 + 1]? = some (.int .i64 ((p.a i).2 : Int)) ∧ (smC p k)[i * 4 + 2]? = some (.int .i64 ((p.b i).1 : Int)) ∧ (smC p k)[i * 4 + 3]? = some (.int .i64 ((p.b i).2 : Int))
  | 0, _, h => by omega
  | k + 1, i, h => by
    rw [smC_succ]
    have hl := smC_length p k
    by_cases e : i = k
    · subst e
      rw [List.getElem?_append_right (by omega), List.getElem?_append_right (by omega), List.getElem?_append_right (by omega), List.getElem?_append_right (by omega), hl]
      simp
    · rw [List.getElem?_append_left (by omega), List.getElem?_append_left (by omega), List.getElem?_append_left (by omega), List.getElem?_append_left (by omega)]
      exact smC_at p k i (by omega)
/-- The first k pieces in rows of the call's own. -/
structure PcsOwn (w : World) (B : Nat) (p : Pat) (k : Nat) (aP : Option Addr) (c : Nat) (g cE : Nat → Nat) : Prop where
  row : w.ownsRow B 107 2 (.slice aP k c) k (pcC p g cE k)
  eds : ∀ i, i < k → w.ownsRow B 2 1 (.slice (some ⟨g i, 0, none⟩) (p.len i) (cE i)) (p.len i) (edL p i)
  ne : ∀ i, i < k → ∀ b, (Value.slice aP k c).ownBlock = some b → b ≠ g i
  inj : ∀ i j, i < j → j < k → g i ≠ g j
/-- A pattern in rows of the call's own. -/
structure PatOwn (w : World) (B : Nat) (p : Pat) (aP : Option Addr) (c : Nat) (aS : Option Addr) (cS : Nat) (g cE : Nat → Nat) : Prop where
  pcs : PcsOwn w B p p.n aP c g cE
  sms : w.ownsRow B 110 4 (.slice aS p.m cS) p.m (smC p p.m)
  ne1 : ∀ b b', (Value.slice aP p.n c).ownBlock = some b → (Value.slice aS p.m cS).ownBlock = some b' → b ≠ b'
  ne2 : ∀ i, i < p.n → ∀ b, (Value.slice aS p.m cS).ownBlock = some b → b ≠ g i
theorem PcsOwn.below {w w' : World} {B k c : Nat} {p : Pat} {aP : Option Addr} {g cE : Nat → Nat} (h : PcsOwn w B p k aP c g cE) (hb : Below w.heap.size w w') : PcsOwn w' B p k aP c g cE :=
  ⟨own_below h.row hb, fun i hi => own_below (h.eds i hi) hb, h.ne, h.inj⟩
theorem PatOwn.below {w w' : World} {B c cS : Nat} {p : Pat} {aP aS : Option Addr} {g cE : Nat → Nat} (h : PatOwn w B p aP c aS cS g cE) (hb : Below w.heap.size w w') : PatOwn w' B p aP c aS cS g cE :=
  ⟨h.pcs.below hb, own_below h.sms hb, h.ne1, h.ne2⟩
/-- A block that is none of the pattern's may turn. -/
theorem PcsOwn.grown {w w' : World} {B k c x : Nat} {p : Pat} {aP : Option Addr} {g cE : Nat → Nat} (h : PcsOwn w B p k aP c g cE) (hg : w.grownBy w' (some x)) (h1 : ∀ b, (Value.slice aP k c).ownBlock = some b → x ≠ b) (h2 : ∀ i, i < k → x ≠ g i) : PcsOwn w' B p k aP c g cE :=
  ⟨own_grown_ne h.row hg (fun b hb e => h1 b hb (by simpa using e)), fun i hi => own_grown_ne (h.eds i hi) hg (fun b hb e => h2 i hi (by have h3 : g i = b := (by simpa [Value.ownBlock] using hb); have h4 : x = b := (by simpa using e); omega)), h.ne, h.inj⟩
theorem PatOwn.grown {w w' : World} {B c cS x : Nat} {p : Pat} {aP aS : Option Addr} {g cE : Nat → Nat} (h : PatOwn w B p aP c aS cS g cE) (hg : w.grownBy w' (some x)) (hx : x < B) : PatOwn w' B p aP c aS cS g cE := by
  refine ⟨h.pcs.grown hg (fun b hb e => by have := (own_block h.pcs.row hb).1; omega) (fun i hi e => by have := (own_block (b := g i) (h.pcs.eds i hi) rfl).1; omega), own_grown_ne h.sms hg (fun b hb e => by have h1 := (own_block h.sms hb).1; have h2 : x = b := (by simpa using e); omega), h.ne1, h.ne2⟩
theorem PatOwn.base {w : World} {B B' c cS : Nat} {p : Pat} {aP aS : Option Addr} {g cE : Nat → Nat} (h : PatOwn w B p aP c aS cS g cE) (hB : B' ≤ B) : PatOwn w B' p aP c aS cS g cE :=
  ⟨⟨own_base h.pcs.row hB, fun i hi => own_base (h.pcs.eds i hi) hB, h.pcs.ne, h.pcs.inj⟩, own_base h.sms hB, h.ne1, h.ne2⟩
theorem PcsOwn.at_ {w : World} {B c : Nat} {p : Pat} {aP : Option Addr} {g cE : Nat → Nat} (hp : p.Ok) (h : PcsOwn w B p p.n aP c g cE) : PcsAt w p aP := by
  have n1 := hp.n1
  rcases own_form h.row with h0 | ⟨b, rfl⟩
  · omega
  · refine ⟨b, 0, rfl, (own_block (b := b) h.row rfl).2, fun i hi => ?_⟩
    obtain ⟨c0, c1⟩ := pcC_at p g cE p.n i hi
    have hl := hp.len i hi
    refine ⟨?_, g i, 0, cE i, ?_, own_cap_le_p (h.eds i hi), (own_block (b := g i) (h.eds i hi) rfl).2, fun j hj => ?_⟩
    · rw [Nat.zero_add, h.row.cellAt (i * 2) (by omega)]; exact c0
    · rw [Nat.zero_add, h.row.cellAt (i * 2 + 1) (by omega)]; exact c1
    · rw [Nat.zero_add, (h.eds i hi).cellAt j (by omega)]
      simp [edL, hj]
theorem PatOwn.at_ {w : World} {B c cS : Nat} {p : Pat} {aP aS : Option Addr} {g cE : Nat → Nat} (hp : p.Ok) (h : PatOwn w B p aP c aS cS g cE) : PatAt w p aP aS := by
  refine ⟨h.pcs.at_ hp, ?_⟩
  rcases own_form h.sms with h0 | ⟨b, rfl⟩
  · exact .inl h0
  · refine .inr ⟨b, 0, rfl, (own_block (b := b) h.sms rfl).2, fun k hk => ?_⟩
    obtain ⟨c0, c1, c2, c3⟩ := smC_at p p.m k hk
    simp only [Nat.zero_add]
    exact ⟨(h.sms.cellAt (k * 4) (by omega)).trans c0, (h.sms.cellAt (k * 4 + 1) (by omega)).trans c1, (h.sms.cellAt (k * 4 + 2) (by omega)).trans c2, (h.sms.cellAt (k * 4 + 3) (by omega)).trans c3⟩
/-- What an append copies out of a row. -/
theorem own_news {w : World} {B E k n m cap : Nat} {a : Option Addr} {cs : List Value} (h : w.ownsRow B E k (.slice a m cap) n cs) : (a = none → m = 0 ∧ cap = 0) ∧ ∀ ad, a = some ad → ∀ j u, cs[j]? = some u → w.cell? (ad.add j) = some u := by
  constructor
  · intro e
    subst e
    rcases h.2 with ⟨h0, _⟩ | ⟨g, cap', cur, hv, _⟩
    · simp only [Value.slice.injEq] at h0
      exact ⟨h0.2.1, h0.2.2⟩
    · simp at hv
  · intro ad e j u hj
    subst e
    have hjl := (List.getElem?_eq_some_iff.1 hj).1
    rcases h.2 with ⟨h0, _⟩ | ⟨g, cap', cur, hv, hB, hg, h5, h6, h7, h8⟩
    · simp at h0
    · simp only [Value.slice.injEq, Option.some.injEq] at hv
      obtain ⟨rfl, rfl, rfl⟩ := hv
      rw [addr_add, Nat.zero_add, cell_of_row w g j cur E (0, 0) hg]
      have h9 := hj
      rw [← h8, List.getElem?_take] at h9
      split at h9
      · simpa using h9
      · cases h9
theorem pcC_congr (p : Pat) {g g' cE cE' : Nat → Nat} : ∀ k, (∀ i, i < k → g i = g' i ∧ cE i = cE' i) → pcC p g cE k = pcC p g' cE' k
  | 0, _ => rfl
  | k + 1, h => by
    rw [pcC_succ, pcC_succ, pcC_congr p k (fun i hi => h i (by omega)), (h k (by omega)).1, (h k (by omega)).2]
def upd (g : Nat → Nat) (k x : Nat) : Nat → Nat := fun i => if i = k then x else g i
theorem upd_at (g : Nat → Nat) (k x : Nat) : upd g k x k = x := if_pos rfl
theorem upd_ne (g : Nat → Nat) {k x i : Nat} (h : i < k) : upd g k x i = g i := if_neg (by omega)
/-- One piece more. -/
theorem PcsOwn.more {w w5 w6 : World} {B k c c' x capE : Nat} {p : Pat} {a a' : Option Addr} {g cE : Nat → Nat} {o : Obj} (h : PcsOwn w B p k a c g cE) (hB : B ≤ w.heap.size) (hb : Below w.heap.size w w5)
    (hoE : w5.ownsRow w.heap.size 2 1 (.slice (some ⟨x, 0, none⟩) (p.len k) capE) (p.len k) (edL p k)) (hg : (w5.alloc o).grownBy w6 (Value.slice a k c).ownBlock)
    (ho : w6.ownsRow B 107 2 (.slice a' (k + 1) c') (k + 1) (pcC p g cE k ++ [.string (p.name k), .slice (some ⟨x, 0, none⟩) (p.len k) capE]))
    (hat : (Value.slice a' (k + 1) c').ownBlock = (Value.slice a k c).ownBlock ∨ (Value.slice a' (k + 1) c').ownBlock = some (w5.alloc o).heap.size) :
    PcsOwn w6 B p (k + 1) a' c' (upd g k x) (upd cE k capE) := by
  have hx := own_block (b := x) hoE rfl
  have hs := hb.size
  have hgl : ∀ i, i < k → g i < w.heap.size := fun i hi => (own_block (b := g i) (h.eds i hi) rfl).2
  refine ⟨?_, fun i hi => ?_, fun i hi b hbb => ?_, fun i j hij hj => ?_⟩
  · rw [pcC_succ, upd_at, upd_at, pcC_congr p (g := upd g k x) (g' := g) (cE := upd cE k capE) (cE' := cE) k (fun i hi => ⟨upd_ne g hi, upd_ne cE hi⟩)]
    exact ho
  · by_cases e : i = k
    · subst e
      rw [upd_at, upd_at]
      refine own_base (own_grown_ne (hoE.alloc o) hg (fun b hb' e => ?_)) hB
      have h1 : x = b := by simpa [Value.ownBlock] using hb'
      have h2 := (own_block h.row e).2
      omega
    · have hik : i < k := by omega
      rw [upd_ne g hik, upd_ne cE hik]
      refine own_grown_ne ((own_below (h.eds i hik) hb).alloc o) hg (fun b hb' e => ?_)
      have h1 : g i = b := by simpa [Value.ownBlock] using hb'
      exact h.ne i hik b e h1.symm
  · have hbn : (∃ b0, (Value.slice a k c).ownBlock = some b0 ∧ b0 = b) ∨ b = (w5.alloc o).heap.size := by
      rcases hat with h1 | h1
      · rw [hbb] at h1; exact .inl ⟨b, h1.symm, rfl⟩
      · rw [hbb] at h1; exact .inr (Option.some.inj h1)
    have h5 : (w5.alloc o).heap.size = w5.heap.size + 1 := by simp
    by_cases e : i = k
    · subst e
      rw [upd_at]
      rcases hbn with ⟨b0, h1, rfl⟩ | h1
      · have := (own_block h.row h1).2
        omega
      · omega
    · have hik : i < k := by omega
      rw [upd_ne g hik]
      have h6 := hgl i hik
      rcases hbn with ⟨b0, h1, rfl⟩ | h1
      · exact h.ne i hik b0 h1
      · omega
  · by_cases e : j = k
    · subst e
      rw [upd_at, upd_ne g hij]
      have := hgl i hij
      omega
    · rw [upd_ne g (show i < k by omega), upd_ne g (show j < k by omega)]
      exact h.inj i j hij (by omega)
end Go.Proofs.YthemlamdchcicaaGreatDoor
