/-
  Small laws on worlds, rows of cells and statements of laws, over any program. Two closed facts on the program, and the contracts of the smallest functions. The laws' own helpers on slices of integers (to, eq, mark, held): contracts. Rows that a law holds while it calls: facts that last over calls and over markings. Appends of one number to a slice of a call's own. Appends of one number, told with the block that grows; rows beside one another. No condition of its own.
-/
import Derived.Test.YthemlamdchcicaaGreatDoorProg
import Derived.WalkKit
import Derived.ProofKit
import Derived.OpenShut
import Derived.ShutString
import Derived.ChangeOld
import Derived.Below
import Derived.Lib.Hide
import Derived.Lib.SmallJoins
import Derived.Deep.Slices
import Derived.Deep.Fields
import Derived.Deep.Draws
import Derived.Deep.QuietTactic
import Derived.KernelRfl
import Derived.BigQuiet
import Derived.Deep.OwnRows
import Derived.Outline
import Derived.Deep.AppendLies

namespace Go.Proofs.YthemlamdchcicaaGreatDoor
open Go.ChangeShapes Go.WideShapes Go.ChangeAt Go.RowKit Go.Deep
open Go.ChangeMaps (open_string shut_string)

/-! ### Rows of cells that are read -/
/-- The cells 'cs' lie at the address 'a' (nothing is said of 'a' where there is no cell). -/
def CellsAt (w : World) (a : Option Addr) (cs : List Value) : Prop :=
  cs = [] ∨ ∃ b off, a = some ⟨b, off, none⟩ ∧ b < w.heap.size ∧ ∀ i, i < cs.length → w.cell? ⟨b, off + i, none⟩ = cs[i]?

theorem CellsAt.nil (w : World) (a : Option Addr) : CellsAt w a [] := .inl rfl

theorem CellsAt.below {w w' : World} {a : Option Addr} {cs : List Value} (h : CellsAt w a cs) (hb : Below w.heap.size w w') : CellsAt w' a cs := by
  rcases h with h | ⟨b, off, h1, h2, h3⟩
  · exact .inl h
  · exact .inr ⟨b, off, h1, Nat.lt_of_lt_of_le h2 hb.size, fun i hi => (hb.cell (p := ⟨b, off + i, none⟩) h2).trans (h3 i hi)⟩

theorem CellsAt.of_own {w : World} {B E k n m cap : Nat} {a : Option Addr} {cs : List Value} (h : w.ownsRow B E k (.slice a m cap) n cs) : CellsAt w a cs := by
  rcases h.2 with ⟨_, hn⟩ | ⟨g, cap', cur, hv, _, hg, _, _, _, htake⟩
  · left
    have := h.1
    rw [hn] at this
    simpa using this
  · right
    simp only [Value.slice.injEq] at hv
    obtain ⟨rfl, rfl, rfl⟩ := hv
    refine ⟨g, 0, rfl, (Array.getElem?_eq_some_iff.1 hg).1, fun i hi => ?_⟩
    have e : 0 + i = i := by omega
    rw [e, cell_of_row w g i cur E (0, 0) hg, ← htake, List.getElem?_take, if_pos (by rw [← h.1]; exact hi)]
    simp

/-- The form that a walk wants, where there is a cell. -/
theorem CellsAt.at_ {w : World} {a : Option Addr} {cs : List Value} (h : CellsAt w a cs) (hp : 0 < cs.length) :
    ∃ b off, a = some ⟨b, off, none⟩ ∧ b < w.heap.size ∧ ∀ i, i < cs.length → w.cell? ⟨b, off + i, none⟩ = cs[i]? := by
  rcases h with h | h
  · rw [h] at hp; exact absurd hp (by simp)
  · exact h

/-! ### Rows that a call owns -/
theorem own_below {w w' : World} {B E k n : Nat} {v : Value} {cs : List Value} (h : w.ownsRow B E k v n cs) (hb : Below w.heap.size w w') : w'.ownsRow B E k v n cs := by
  refine ⟨h.1, ?_⟩
  rcases h.2 with h0 | ⟨g, cap, cur, hv, hB, hg, r⟩
  · exact .inl h0
  · exact .inr ⟨g, cap, cur, hv, hB, (hb.block g (Array.getElem?_eq_some_iff.1 hg).1).trans hg, r⟩

theorem own_base {w : World} {B B' E k n : Nat} {v : Value} {cs : List Value} (h : w.ownsRow B E k v n cs) (hB : B' ≤ B) : w.ownsRow B' E k v n cs := by
  refine ⟨h.1, ?_⟩
  rcases h.2 with h0 | ⟨g, cap, cur, hv, hb, r⟩
  · exact .inl h0
  · exact .inr ⟨g, cap, cur, hv, Nat.le_trans hB hb, r⟩

theorem own_drewN {w : World} {B E k n : Nat} {v : Value} {cs : List Value} (h : w.ownsRow B E k v n cs) (q : Nat) : (w.drewN q).ownsRow B E k v n cs := h

theorem below_drewN {B : Nat} {a w : World} (h : Below B a w) (n : Nat) : Below B a (w.drewN n) := ⟨h.os, h.tape, h.output, h.size, h.block⟩

/-- Below block number B the world w is as w0 was, and B is no new block's number. -/
def Bel (B : Nat) (w0 w : World) : Prop := Below B w0 w ∧ B ≤ w.heap.size
theorem Bel.refl (w : World) : Bel w.heap.size w w := ⟨Below.refl _ _, Nat.le_refl _⟩
theorem Bel.below {w w' : World} (h : Bel w.heap.size w w') : Below w.heap.size w w' := h.1
theorem Bel.of {w w' : World} (h : Below w.heap.size w w') : Bel w.heap.size w w' := ⟨h, h.size⟩
theorem Bel.drew {B : Nat} {a w : World} (h : Bel B a w) : Bel B a w.drew := ⟨h.1.drew, h.2⟩
theorem Bel.drewN {B : Nat} {a w : World} (h : Bel B a w) (n : Nat) : Bel B a (w.drewN n) := ⟨below_drewN h.1 n, h.2⟩
theorem Bel.alloc {B : Nat} {a w : World} (h : Bel B a w) (o : Obj) : Bel B a (w.alloc o) := ⟨h.1.alloc h.2 o, by have := h.2; simp; omega⟩
theorem Bel.setCell {B : Nat} {a w : World} (h : Bel B a w) {p : Addr} (hp : B ≤ p.block) (u : Value) : Bel B a (w.setCell p u) := ⟨h.1.setCell hp u, by simpa [World.setCell] using h.2⟩
theorem Bel.step {B : Nat} {a w w' : World} (h : Bel B a w) (k : Below w.heap.size w w') : Bel B a w' := ⟨h.1.trans (k.mono h.2), Nat.le_trans h.2 k.size⟩
theorem Bel.grown {B : Nat} {a w w' : World} {row : Option Nat} (h : Bel B a w) (hg : w.grownBy w' row) (hr : ∀ k, row = some k → B ≤ k) : Bel B a w' := ⟨h.1.grown hg h.2 hr, Nat.le_trans h.2 hg.size⟩

/-- What has grown, seen from below. -/
theorem below_of_grown {w w' : World} {row : Option Nat} {B : Nat} (hg : w.grownBy w' row) (hB : B ≤ w.heap.size) (hr : ∀ k, row = some k → B ≤ k) : Below B w w' :=
  (Below.refl B w).grown hg hB hr

/-- All old cells and all old marks read as before. -/
theorem bcell {W w1 : World} (hb : Below W.heap.size W w1) : (∀ b o, b < W.heap.size → w1.cell? ⟨b, o, none⟩ = W.cell? ⟨b, o, none⟩) ∧ (∀ b o, b < W.heap.size → w1.frozen? ⟨b, o, none⟩ = W.frozen? ⟨b, o, none⟩) ∧ (∀ n, n < W.heap.size → n < w1.heap.size) :=
  ⟨fun b o h => hb.cell (p := ⟨b, o, none⟩) h, fun b o h => hb.frozen (p := ⟨b, o, none⟩) h, fun _ h => Nat.lt_of_lt_of_le h hb.size⟩

theorem grown_trans_row {w w' w'' : World} {g : Nat} (h : w.grownBy w' (some g)) (k : w'.grownBy w'' (some g)) : w.grownBy w'' (some g) :=
  ⟨k.os.trans h.os, k.tape.trans h.tape, k.output.trans h.output, Nat.le_trans h.size k.size, fun i hi hne => (k.block i (Nat.lt_of_lt_of_le hi h.size) hne).trans (h.block i hi hne)⟩

/-! ### Quiet calls -/
/-- A contract that answers a Bool, where the Bool is known. -/
theorem callsB {P : Program} {f : FuncId} {args : Array Value} {w : World} {b c : Bool} {R : World → Prop} (h : Calls P f args w fun e w' => e = .returned (.bool b) ∧ R w') (hb : b = c) :
    Calls P f args w fun e w' => e = .returned (.bool c) ∧ R w' := hb ▸ h

theorem quiet_left {P : Program} {f : FuncId} {args : Array Value} {w : World} {n : Nat} {v : Value} (h : Calls P f args (w.drewN n) fun e w' => e = .returned v ∧ w.drewN n = w') :
    Calls P f args (w.drewN n) fun e w'' => e = .returned v ∧ ∃ m, w'' = w.drewN m := h.mono fun _ _ ⟨he, hw⟩ => ⟨he, n, hw.symm⟩
theorem quiet_add_left {P : Program} {f : FuncId} {args : Array Value} {w : World} {a n : Nat} {v : Value} (h : Calls P f args (w.drewN (a + n)) fun e w' => e = .returned v ∧ w.drewN (a + n) = w') :
    Calls P f args (w.drewN (a + n)) fun e w'' => e = .returned v ∧ ∃ m, w'' = w.drewN (a + m) := h.mono fun _ _ ⟨he, hw⟩ => ⟨he, n, hw.symm⟩

/-! ### Integers -/
theorem wf_bounds {n : Int} (h : (Lit.int .i64 n).wf = true) : -9223372036854775808 ≤ n ∧ n ≤ 9223372036854775807 := bounds_i64 h

/-! ### A law's row: from the walk to the statement -/
/-- What each walk of a law ends in: true, and nothing that was there has turned. -/
def LawEnd (w : World) (e : Ending) (w' : World) : Prop := e = .returned (.bool true) ∧ Below w.heap.size w w'
theorem lawEnd_of {w w' : World} (h : Bel w.heap.size w w') : LawEnd w (.returned (.bool true)) w' := ⟨rfl, h.1⟩

section
variable {H : Type} {enc : TypeId × Value → H} {P : Program}

theorem trodAll_lt {w : World} {base : Nat} {sp : Nat → Bool} {held : Bool} : ∀ {ts : List TypeId} {vs : List Value} {ds : List (DataW H)} {ps : List MemPlace},
    DataW.TrodAll enc P w base sp held ts vs ds ps → ∀ p ∈ ps, p.block < w.heap.size
  | [], [], [], ps, h => by
    have h' : ps = [] := h
    subst h'
    simp
  | _ :: _, _ :: _, _ :: _, _, ⟨p, q, ⟨m, hm⟩, h2, e⟩ => by
    intro x hx
    rw [e] at hx
    rcases List.mem_append.1 hx with hx | hx
    · exact DataW.trod_lt m _ _ _ hm x hx
    · exact trodAll_lt h2 x hx
  | [], [], _ :: _, _, h => h.elim
  | [], _ :: _, _, _, h => h.elim
  | _ :: _, [], _, _, h => h.elim
  | _ :: _, _ :: _, [], _, h => h.elim

theorem trodAll_below (hl : laidOutB P = true) {W W' : World} (hb : Below W.heap.size W W') : ∀ {ts : List TypeId} {vs : List Value} {ds : List (DataW H)} {ps : List MemPlace},
    (∀ t ∈ ts, P.readableRec t = true ∧ t < P.types.size) → (∀ p ∈ ps, p.block < W.heap.size) → DataW.TrodAll enc P W 0 (fun _ => true) true ts vs ds ps →
    DataW.TrodAll enc P W' 0 (fun b => decide (b < W.heap.size)) true ts vs ds ps
  | [], [], [], _, _, _, h => h
  | t :: _, _ :: _, _ :: _, _, hr, hlt, ⟨p, q, h1, h2, e⟩ =>
    ⟨p, q, Below.trod hl (hr t (List.mem_cons.2 (Or.inl rfl))).1 (hr t (List.mem_cons.2 (Or.inl rfl))).2 h1 hb (fun x hx => hlt x (by rw [e]; exact List.mem_append_left _ hx)),
      trodAll_below hl hb (fun t ht => hr t (List.mem_cons.2 (Or.inr ht))) (fun x hx => hlt x (by rw [e]; exact List.mem_append_right _ hx)) h2, e⟩
  | [], [], _ :: _, _, _, _, h => h.elim
  | [], _ :: _, _, _, _, _, h => h.elim
  | _ :: _, [], _, _, _, _, h => h.elim
  | _ :: _, _ :: _, [], _, _, _, h => h.elim

theorem post_law {f : Func} {s : ChangeSpec} {tb : TypeId} {W W' : World} {args : Array Value} {ds gs : List (DataW H)} {before : List MemPlace} (hl : laidOutB P = true)
    (hr : f.params.toList.all (fun t => P.readableRec t && decide (t < P.types.size)) = true) (hvars : s.vars = []) (hres : f.resultTypes = #[tb]) (htb : P.underlying tb = some .bool)
    (hspec : ∀ ds : List (DataW H), ds.length = f.params.size → s.fn H ds = { results := [.lit (.bool true)], args := ds })
    (hW : DataW.Whole enc P f.params.toList s.vars false W args.toList ds gs before) (bel : Below W.heap.size W W') : s.post enc P f false true false false W args (.bool true) W' := by
  have hW0 := hW
  obtain ⟨p, q, hA, hV, hp, _, _⟩ := hW0
  rw [hvars] at hV
  obtain ⟨rfl, rfl⟩ := trodVars_none hV
  have hlen : ∀ {ts : List TypeId} {vs : List Value} {ds : List (DataW H)} {ps : List MemPlace}, DataW.TrodAll enc P W 0 (fun _ => true) true ts vs ds ps → ds.length = ts.length := by
    intro ts
    induction ts with
    | nil =>
      intro vs ds ps h
      obtain ⟨_, rfl, _⟩ := trodAll_nil h
      rfl
    | cons t ts ih =>
      intro vs ds ps h
      obtain ⟨_, _, _, _, _, _, _, rfl, _, _, h2⟩ := trodAll_cons h
      simp [ih h2]
  have hs := hspec ds (by rw [hlen hA]; simp)
  have hr' : ∀ t ∈ f.params.toList, P.readableRec t = true ∧ t < P.types.size := by
    intro t ht
    have := List.all_eq_true.1 hr t ht
    simpa using this
  refine ⟨ds, [], before, [], p, [], hW, ?_, ?_, ?_, bel.frame _, fun h => by cases h⟩
  · rw [List.append_nil, hs, hres]
    exact trodAll_mk1 (shut_bool htb true)
  · rw [List.append_nil, hs]
    exact trodAll_below hl bel hr' (trodAll_lt hA) hA
  · rw [List.append_nil, hs, hvars]
    rfl

/-- From the walk (over arguments as they read) to the row's step. -/
theorem lifted_law {C : Checked} {os : Os} {f : FuncId} {fn : Func} {s : ChangeSpec} {tb : TypeId} (own : ownKnob C.prog.godebug = none) (started : os.Started) (noInit : C.prog.inits.idxOf? f = none) (hfn : C.prog.funcs[f]? = some fn)
    (witness : ∃ (w : World) (tape : Tape) (i : Input), w.os = os ∧ (w.forCall tape i).Shaped C.prog ∧ i.vars = [] ∧ Input.okWide C.prog (w.forCall tape i) .any w.heap.size f i ∧
      s.pre6 enc C.prog fn [] false (w.forCall tape i).memory i.args ∧ ({} : Assume).holds C.prog (lone (Frame.enter C.prog f i.args .normal) [] (w.forCall tape i)))
    (hl : laidOutB C.prog = true) (hr : fn.params.toList.all (fun t => C.prog.readableRec t && decide (t < C.prog.types.size)) = true) (hvars : s.vars = []) (hres : fn.resultTypes = #[tb]) (htb : C.prog.underlying tb = some .bool)
    (hspec : ∀ ds : List (DataW H), ds.length = fn.params.size → s.fn H ds = { results := [.lit (.bool true)], args := ds })
    (walk : ∀ (W : World) (base : Nat) (args : Array Value) (ds : List (DataW H)) (p : List MemPlace), (∀ (j : Nat) t v, fn.params[j]? = some t → args[j]? = some v → Value.okWide C.prog W .any base t v) →
      DataW.TrodAll enc C.prog W 0 (fun _ => true) true fn.params.toList args.toList ds p → Calls C.prog f args W (LawEnd W)) :
    ReturnsInHanded {} C os f .any (s.pre6 enc C.prog fn [] false) (s.post enc C.prog fn false true false false) := by
  refine returnsInHanded_of_change (C := C) own started noInit hfn witness ?_
  intro W base args ds gs before hval hW _ _
  obtain ⟨p, q, hA, hV, hp, h4, h5⟩ := id hW
  refine (walk W base args ds p hval hA).mono fun e W' ⟨he, bel⟩ => ?_
  subst he
  exact ⟨_, rfl, post_law hl hr hvars hres htb hspec hW bel⟩
end

/-! ### Arguments, opened -/
section
variable {H : Type} {enc : TypeId × Value → H} {P : Program} {w : World} {base : Nat}

/-- A slice of integers that came in. -/
theorem open_ints_at {t e : TypeId} {k : IntKind} {b0 : Nat} {v : Value} {d : DataW H} {p : List MemPlace} (ht : P.underlying t = some (.slice e)) (he : P.underlying e = some (.int k)) (hc : P.cellsOf e = 1)
    (hv : Value.okWide P w .any b0 t v) (h : DataW.Trod enc P w 0 (fun _ => true) true t v d p) :
    ∃ (a : Option Addr) (n cap : Nat) (zs : List Int), v = .slice a n cap ∧ zs.length = n ∧ n ≤ maxLen ∧ CellsAt w a (zs.map (Value.int k)) ∧ ∀ z ∈ zs, (Lit.int k z).wf = true := by
  obtain ⟨a, n, cap, rfl⟩ := okWide_slice ht hv
  obtain ⟨fuel, hf⟩ := h
  rcases open_ints ht he hc hf with ⟨hcs, _⟩ | ⟨x, l, c, zs, hcs, _, hl, hm, hz, _, hcell, hwz⟩
  · simp [Value.cells] at hcs
    obtain ⟨rfl, rfl, rfl⟩ := hcs
    exact ⟨none, 0, 0, [], rfl, rfl, Nat.zero_le _, .nil _ _, by simp⟩
  · simp [Value.cells] at hcs
    obtain ⟨rfl, rfl, rfl⟩ := hcs
    simp only [if_true] at hz
    refine ⟨some x, n, cap, zs.take n, rfl, by simp; omega, Nat.le_trans hl hm, ?_, fun z hz' => hwz z (List.mem_of_mem_take hz')⟩
    by_cases h0 : n = 0
    · subst h0
      exact .inl (by simp)
    · obtain ⟨b, off, spot⟩ := x
      have hc0 := hcell 0 (by omega)
      have hspot : spot = none := by simpa [Addr.add] using World.cell?_spot hc0
      subst hspot
      refine .inr ⟨b, off, rfl, World.block_lt_of_cell? w _ (by simpa [Addr.add] using hc0), fun i hi => ?_⟩
      simp only [List.length_map, List.length_take] at hi
      have hci := hcell i (by omega)
      have e2 : (⟨b, off, none⟩ : Addr).add i = ⟨b, off + i, none⟩ := by unfold Addr.add; split <;> simp_all
      rw [e2] at hci
      rw [hci, List.getElem?_map, List.getElem?_take, if_pos (by omega), List.getElem?_eq_getElem (by omega)]
      simp [List.getD, List.getElem?_eq_getElem (show i < zs.length by omega)]

theorem addr_add (b off i : Nat) : (⟨b, off, none⟩ : Addr).add i = ⟨b, off + i, none⟩ := by unfold Addr.add; split <;> simp_all

/-- A slice of structs of one-cell fields that came in (each element, each field: its cell and its reading). -/
theorem open_slice_fields {spare : Nat → Bool} {held : Bool} {b0 : Nat} {t e : TypeId} {fs : Array Field} {fuel : Nat} {cs : List Value} {x : DataW H × List MemPlace} (ht : P.underlying t = some (.slice e)) (he : P.underlying e = some (.struct fs))
    (hone : oneCellFields P fs = true) (hC : P.cellsOf e = fs.size) (h : DataW.trod enc P w b0 spare held fuel t cs = some x) :
    (cs = [.slice none 0 0] ∧ x = (.nil, [])) ∨
    ∃ (a : Addr) (len cap m : Nat), cs = [.slice (some a) len cap] ∧ len ≤ cap ∧ cap ≤ maxLen ∧ m = (if spare a.block then cap else len) ∧
      ∀ i, i < m → ∃ (n : Nat), ∀ (j : Nat) (f : Field), fs[j]? = some f → ∃ (v : Value) (y : DataW H × List MemPlace), w.cell? (a.add (i * fs.size + j)) = some v ∧ DataW.trod enc P w b0 spare held n f.type [v] = some y := by
  rcases open_slice ht h with h0 | ⟨a, len, cap, m, n, D, Pl, hcs, hb, hl, hm, hmm, hx, hi⟩
  · exact .inl h0
  · refine .inr ⟨a, len, cap, m, hcs, hl, hm, hmm, fun i him => ?_⟩
    obtain ⟨cs', hc, ht'⟩ := hi i him
    rw [hC] at hc
    obtain ⟨ys, n', hn', hy, hlen, hyl, hf⟩ := DataW.trod_struct he ht'
    obtain ⟨_, hcl, hat⟩ := World.cells?_some hc
    refine ⟨n', fun j f hj => ?_⟩
    obtain ⟨ho, hk⟩ := hone_of hone j f hj
    have hjl : j < fs.size := (Array.getElem?_eq_some_iff.1 hj).1
    have hcell := hat j hjl
    have hv : cs'[j]? = some (cs'[j]'(by omega)) := List.getElem?_eq_getElem (by omega)
    have h1 := hf j f hj
    rw [ho, hk] at h1
    have hone' : (cs'.drop j).take 1 = [cs'[j]'(by omega)] := by
      rw [List.drop_eq_getElem_cons (by omega)]
      rfl
    rw [hone'] at h1
    have hys : ys[j]? = some (ys[j]'(by omega)) := List.getElem?_eq_getElem (by omega)
    refine ⟨_, _, ?_, h1.trans hys⟩
    rw [← Go.Deep.add_add, hcell, hv]

/-- A slice of structs of k integers that came in: its numbers, one behind the other. -/
theorem open_rows_at {k : Nat} {t e tI : TypeId} {fs : Array Field} {b0 : Nat} {v : Value} {d : DataW H} {p : List MemPlace} (ht : P.underlying t = some (.slice e)) (he : P.underlying e = some (.struct fs))
    (hone : oneCellFields P fs = true) (hC : P.cellsOf e = k) (hI : P.underlying tI = some (.int .i64)) (hfs : (fs.size == k && fs.all (fun f => f.type == tI)) = true)
    (hv : Value.okWide P w .any b0 t v) (h : DataW.Trod enc P w 0 (fun _ => true) true t v d p) :
    ∃ (a : Option Addr) (n cap : Nat) (zs : List Int), v = .slice a n cap ∧ zs.length = n * k ∧ n ≤ maxLen ∧ CellsAt w a (zs.map (Value.int .i64)) ∧ ∀ z ∈ zs, (Lit.int .i64 z).wf = true := by
  simp only [Bool.and_eq_true, beq_iff_eq] at hfs
  obtain ⟨hk, hall⟩ := hfs
  obtain ⟨a, n, cap, rfl⟩ := okWide_slice ht hv
  obtain ⟨fuel, hf⟩ := h
  rcases open_slice_fields ht he hone (hC.trans hk.symm) hf with ⟨hcs, _⟩ | ⟨x, l, c, m, hcs, hl, hm, hmm, hi⟩
  · simp [Value.cells] at hcs
    obtain ⟨rfl, rfl, rfl⟩ := hcs
    exact ⟨none, 0, 0, [], rfl, by simp, Nat.zero_le _, .nil _ _, by simp⟩
  · simp [Value.cells] at hcs
    obtain ⟨rfl, rfl, rfl⟩ := hcs
    simp only [if_true] at hmm
    subst hmm
    rw [hk] at hi
    -- the number at each place
    have hcell : ∀ q, q < n * k → ∃ z : Int, w.cell? (x.add q) = some (.int .i64 z) ∧ (Lit.int .i64 z).wf = true := by
      intro q hq
      have hk0 : 0 < k := Nat.pos_of_ne_zero (fun e => by subst e; simp at hq)
      have hqi : q / k < m := Nat.lt_of_lt_of_le (Nat.div_lt_of_lt_mul (by rw [Nat.mul_comm]; exact hq)) hl
      obtain ⟨fl, hff⟩ := hi (q / k) hqi
      have hj : q % k < fs.size := by rw [hk]; exact Nat.mod_lt _ hk0
      obtain ⟨v, y, hc, hty⟩ := hff (q % k) fs[q % k] (by rw [Array.getElem?_eq_getElem hj])
      have e : q / k * k + q % k = q := by rw [Nat.mul_comm]; exact Nat.div_add_mod q k
      rw [e] at hc
      have hty2 : fs[q % k].type = tI := by
        have := Array.all_eq_true.1 hall (q % k) hj
        simpa using this
      rw [hty2] at hty
      obtain ⟨z, hz1, _, hz2⟩ := DataW.trod_int hI hty
      simp only [List.cons.injEq, and_true] at hz1
      exact ⟨z, by rw [hc, hz1], hz2⟩
    obtain ⟨Z, hZ⟩ : ∃ Z : Nat → Int, ∀ q, q < n * k → w.cell? (x.add q) = some (.int .i64 (Z q)) ∧ (Lit.int .i64 (Z q)).wf = true :=
      ⟨fun q => if h : q < n * k then (hcell q h).choose else 0, fun q hq => by simp only [hq, dite_true]; exact (hcell q hq).choose_spec⟩
    refine ⟨some x, n, m, (List.range (n * k)).map Z, rfl, by simp, Nat.le_trans hl hm, ?_, fun z hz => ?_⟩
    · by_cases h0 : n * k = 0
      · exact .inl (by simp [h0])
      · obtain ⟨b, off, spot⟩ := x
        have hc0 := (hZ 0 (by omega)).1
        have hspot : spot = none := by simpa [Addr.add] using World.cell?_spot hc0
        subst hspot
        refine .inr ⟨b, off, rfl, World.block_lt_of_cell? w _ (by simpa [Addr.add] using hc0), fun i hi2 => ?_⟩
        simp only [List.length_map, List.length_range] at hi2
        have hci := (hZ i hi2).1
        rw [addr_add] at hci
        rw [hci]
        simp [hi2]
    · obtain ⟨q, hq, rfl⟩ := List.mem_map.1 hz
      exact (hZ q (by simpa using hq)).2
end
end Go.Proofs.YthemlamdchcicaaGreatDoor

namespace Go.Proofs.YthemlamdchcicaaGreatDoor
open Go.ChangeShapes Go.WideShapes Go.ChangeAt Go.RowKit Go.Deep

theorem own : ownKnob Tryz.prog.godebug = none := by kernel_rfl
theorem laidOut : laidOutB Tryz.prog = true := by kernel_rfl

theorem ret_int {k : IntKind} {a b : Int} (h : a = b) : Ending.returned (.int k a) = .returned (.int k b) := by rw [h]
theorem ret_two {a b c d : Int} (h : a = c) (k : b = d) : Ending.returned (.tuple #[.int .i64 a, .int .i64 b]) = .returned (.tuple #[.int .i64 c, .int .i64 d]) := by rw [h, k]
theorem ret_three {a b c d x y : Int} (h : a = c) (k : b = d) (m : x = y) : Ending.returned (.tuple #[.int .i64 a, .int .i64 b, .int .i64 x]) = .returned (.tuple #[.int .i64 c, .int .i64 d, .int .i64 y]) := by rw [h, k, m]
theorem ret_str {a b : ByteArray} (h : a = b) : Ending.returned (.string a) = .returned (.string b) := by rw [h]
theorem ret_bool {a b : Bool} (h : a = b) : Ending.returned (.bool a) = .returned (.bool b) := by rw [h]

/-- A number lies between two others. -/
def inB (x lo hi : Int) : Bool := decide (lo ≤ x) && decide (x ≤ hi)
theorem inB_true {x lo hi : Int} : inB x lo hi = true ↔ lo ≤ x ∧ x ≤ hi := by simp [inB]
theorem inB_false {x lo hi : Int} : inB x lo hi = false ↔ ¬ (lo ≤ x ∧ x ≤ hi) := by rw [← inB_true]; simp

theorem within_any (x lo hi : Int) (w : World) : Calls Tryz.prog 53 #[.int .i64 x, .int .i64 lo, .int .i64 hi] w fun e w' => e = .returned (.bool (inB x lo hi)) ∧ w = w' := by
  by_cases h1 : lo ≤ x
  · by_cases h2 : x ≤ hi
    · go_enter Tryz.func53, Tryz.ntmps53
      go_wp2
      go_ret
      exact ⟨by simp [inB, h1, h2], rfl⟩
    · go_enter Tryz.func53, Tryz.ntmps53
      go_wp2
      go_ret
      exact ⟨by simp [inB]; omega, rfl⟩
  · go_enter Tryz.func53, Tryz.ntmps53
    go_wp2
    go_ret
    exact ⟨by simp [inB]; omega, rfl⟩

theorem l00In_any (x lo hi : Int) (w : World) : Calls Tryz.prog 118 #[.int .i64 x, .int .i64 lo, .int .i64 hi] w fun e w' => e = .returned (.bool (inB x lo hi)) ∧ w = w' := by
  by_cases h1 : lo ≤ x
  · by_cases h2 : x ≤ hi
    · go_enter Tryz.func118, Tryz.ntmps118
      go_wp2
      go_ret
      exact ⟨by simp [inB, h1, h2], rfl⟩
    · go_enter Tryz.func118, Tryz.ntmps118
      go_wp2
      go_ret
      exact ⟨by simp [inB]; omega, rfl⟩
  · go_enter Tryz.func118, Tryz.ntmps118
    go_wp2
    go_ret
    exact ⟨by simp [inB]; omega, rfl⟩

end Go.Proofs.YthemlamdchcicaaGreatDoor

namespace Go.Proofs.YthemlamdchcicaaGreatDoor
open Go.ChangeShapes Go.WideShapes Go.ChangeAt Go.RowKit Go.Deep

theorem infoI : (Tryz.prog.info? 2).map (fun i => (i.zero, i.size, i.bytes)) = some (some (.int .i64 0), 1, 8) := by kernel_rfl

/-- A new slice of n elements that holds the cells cs. -/
def NewRow (w : World) (E k n : Nat) (cs : List Value) (e : Ending) (w' : World) : Prop :=
  ∃ g, e = .returned (.slice (some ⟨g, 0, none⟩) n n) ∧ w'.ownsRow w.heap.size E k (.slice (some ⟨g, 0, none⟩) n n) n cs ∧ Below w.heap.size w w'

theorem set_fill (cs zr : List Value) (m : Nat) (u : Value) (hm : m < cs.length) (hz : zr.length = cs.length) (hu : cs[m]? = some u) :
    (cs.take m ++ zr.drop m).set m u = cs.take (m + 1) ++ zr.drop (m + 1) := by
  rw [List.set_append_right _ _ (by simp; omega)]
  have e1 : m - (cs.take m).length = 0 := by simp; omega
  rw [e1, List.drop_eq_getElem_cons (by omega), List.set_cons_zero, List.take_add_one, hu]
  simp

def zeros (n : Nat) : List Value := List.replicate n (.int .i64 0)
theorem length_zeros (n : Nat) : (zeros n).length = n := by simp [zeros]

theorem newRow_intro {w w' : World} {E k n g : Nat} {cs : List Value} (h : w'.ownsRow w.heap.size E k (.slice (some ⟨g, 0, none⟩) n n) n cs) (hb : Below w.heap.size w w') :
    NewRow w E k n cs (.returned (.slice (some ⟨g, 0, none⟩) n n)) w' := ⟨g, rfl, h, hb⟩


/-! ### marks: k, k + 1, .. -/
def marks (k : Int) (n : Nat) : List Value := (List.range n).map fun i => .int .i64 (k + (i : Nat))
theorem length_marks (k : Int) (n : Nat) : (marks k n).length = n := by simp [marks]
theorem marks_at (k : Int) (n i : Nat) (h : i < n) : (marks k n)[i]? = some (.int .i64 (k + (i : Nat))) := by simp [marks, h]
theorem marks_set (k : Int) (cs : List Value) (m : Nat) (hm : m < cs.length) : (marks k m ++ cs.drop m).set m (.int .i64 (k + (m : Nat))) = marks k (m + 1) ++ cs.drop (m + 1) := by
  rw [List.set_append_right _ _ (by simp [length_marks])]
  rw [length_marks, Nat.sub_self, List.drop_eq_getElem_cons hm, List.set_cons_zero]
  simp [marks, List.range_succ]

theorem marks_set' (k : Int) (cs : List Value) (m : Nat) (z : Int) (hm : m < cs.length) (hz : z = k + (m : Nat)) : (marks k m ++ cs.drop m).set m (.int .i64 z) = marks k (m + 1) ++ cs.drop (m + 1) := by
  rw [hz]; exact marks_set k cs m hm

/-- What a marking leaves: the next number; the row holds the numbers; only its block has turned. -/
def Marked (w : World) (B E k : Nat) (v : Value) (n cnt : Nat) (k0 : Int) (e : Ending) (w' : World) : Prop :=
  e = .returned (.int .i64 (k0 + cnt)) ∧ w'.ownsRow B E k v n (marks k0 cnt) ∧ w.grownBy w' v.ownBlock

/-- The two forms of an owned row's value. -/
theorem own_form {w : World} {B E k n c : Nat} {a : Option Addr} {cs : List Value} (h : w.ownsRow B E k (.slice a n c) n cs) : n = 0 ∨ ∃ g, a = some ⟨g, 0, none⟩ := by
  rcases h.2 with ⟨_, h0⟩ | ⟨g, cap, cur, hv, _⟩
  · exact .inl h0
  · simp only [Value.slice.injEq] at hv
    exact .inr ⟨g, hv.1⟩

theorem cells_zero {w : World} {B E k n : Nat} {v : Value} {cs : List Value} (h : w.ownsRow B E k v n cs) (hn : n = 0) : cs = [] := by
  have := h.1
  rw [hn] at this
  simpa using this


end Go.Proofs.YthemlamdchcicaaGreatDoor

namespace Go.Proofs.YthemlamdchcicaaGreatDoor
open Go.ChangeShapes Go.WideShapes Go.ChangeAt Go.RowKit Go.Deep

/-- A row whose block, if it has one, was made between two sizes of the heap. -/
def Row (w : World) (lo hi E k : Nat) (v : Value) (n : Nat) (cs : List Value) : Prop :=
  w.ownsRow lo E k v n cs ∧ ∀ b, v.ownBlock = some b → lo ≤ b ∧ b < hi

theorem own_block {w : World} {B E k n b : Nat} {v : Value} {cs : List Value} (h : w.ownsRow B E k v n cs) (hv : v.ownBlock = some b) : B ≤ b ∧ b < w.heap.size := h.lt b hv

theorem Row.mk_ {w : World} {lo E k n : Nat} {v : Value} {cs : List Value} (h : w.ownsRow lo E k v n cs) : Row w lo w.heap.size E k v n cs := ⟨h, fun _ hb => own_block h hb⟩
theorem Row.below {w w' : World} {lo hi E k n : Nat} {v : Value} {cs : List Value} (h : Row w lo hi E k v n cs) (hb : Below w.heap.size w w') : Row w' lo hi E k v n cs := ⟨own_below h.1 hb, h.2⟩
theorem Row.turn {w w' : World} {lo hi E k n : Nat} {v : Value} {cs cs' : List Value} (h : Row w lo hi E k v n cs) (ho : w'.ownsRow lo E k v n cs') : Row w' lo hi E k v n cs' := ⟨ho, h.2⟩
theorem Row.cells {w : World} {lo hi E k n m cap : Nat} {a : Option Addr} {cs : List Value} (h : Row w lo hi E k (.slice a m cap) n cs) : CellsAt w a cs := CellsAt.of_own h.1
theorem Row.grown {w w' : World} {lo hi E k n : Nat} {v : Value} {cs : List Value} {row : Option Nat} (h : Row w lo hi E k v n cs) (hg : w.grownBy w' row) (hr : ∀ b, row = some b → b < lo ∨ hi ≤ b) : Row w' lo hi E k v n cs := by
  refine ⟨⟨h.1.1, ?_⟩, h.2⟩
  rcases h.1.2 with h0 | ⟨g, cap, cur, hv, hB, hgt, r⟩
  · exact .inl h0
  · refine .inr ⟨g, cap, cur, hv, hB, (hg.block g (Array.getElem?_eq_some_iff.1 hgt).1 ?_).trans hgt, r⟩
    intro e
    subst hv
    have h2 := h.2 g rfl
    have h3 := hr g e.symm
    omega

theorem marked_as {P : Program} {f : FuncId} {args : Array Value} {w : World} {B E k n cnt : Nat} {v : Value} {k0 k1 : Int} (h : Calls P f args w (Marked w B E k v n cnt k0)) (hk : k1 = k0 + ((cnt : Nat) : Int)) :
    Calls P f args w fun e w' => e = .returned (.int .i64 k1) ∧ w'.ownsRow B E k v n (marks k0 cnt) ∧ w.grownBy w' v.ownBlock := by
  rw [hk]; exact h
theorem held_as {P : Program} {f : FuncId} {args : Array Value} {w : World} {cnt : Nat} {k0 k1 : Int} (h : Calls P f args w fun e w' => e = .returned (.int .i64 (k0 + ((cnt : Nat) : Int))) ∧ Below w.heap.size w w') (hk : k1 = k0 + ((cnt : Nat) : Int)) :
    Calls P f args w fun e w' => e = .returned (.int .i64 k1) ∧ Below w.heap.size w w' := by
  rw [hk]; exact h

/-- What a function answers with a new slice of ints and a code. -/
def RowEnd (w : World) (E k : Nat) (ds : List Int) (c : Int) (e : Ending) (w' : World) : Prop :=
  ∃ a n cap, e = .returned (.tuple #[.slice a n cap, .int .i64 c]) ∧ ds.length = n * k ∧ n ≤ 1073741824 ∧ w'.ownsRow w.heap.size E k (.slice a n cap) n (ds.map (Value.int .i64)) ∧ Below w.heap.size w w'
end Go.Proofs.YthemlamdchcicaaGreatDoor

namespace Go.Proofs.YthemlamdchcicaaGreatDoor
open Go.ChangeShapes Go.WideShapes Go.ChangeAt Go.RowKit Go.Deep

theorem own_cap {w : World} {B E k n : Nat} {v : Value} {cs : List Value} (h : w.ownsRow B E k v n cs) : ∃ a cap, v = .slice a n cap := by
  rcases h.2 with ⟨h0, h1⟩ | ⟨g, cap, cur, hv, _⟩
  · exact ⟨none, 0, by rw [h0, h1]⟩
  · exact ⟨_, cap, hv⟩

theorem own_none (w : World) (E k : Nat) : (w.alloc (.cells #[] E)).ownsRow w.heap.size E k (.slice (some ⟨w.heap.size, 0, none⟩) 0 0) 0 [] :=
  World.ownsRow_lit (size := k) (e := E) w #[] 0 (Nat.le_refl _) (by unfold maxLen; omega) (by simp)
theorem own_none' (w : World) (B E k : Nat) (hB : B ≤ w.heap.size) : (w.alloc (.cells #[] E)).ownsRow B E k (.slice (some ⟨w.heap.size, 0, none⟩) 0 0) 0 [] :=
  own_base (own_none w E k) hB

set_option maxHeartbeats 800000 in
theorem appI {w0 W : World} {ops : Array Oper} {rest : List Oper} {o : Oper} {a : Act} {Q : Exit → Act → World → Prop} (hgd : o.guard = none) (s x : Operand)
    (ho : o.op = .call { callee := .builtin .append, args := #[s, x], argTypes := #[29, 29] }) (B : Nat) (v : Value) (n : Nat) (xs : List Value) (hs : a.eval s = v) (hown : W.ownsRow B 2 1 v n xs)
    (z : Int) (c : Nat) (hx : a.eval x = .slice (some ⟨W.heap.size, 0, none⟩) 1 c) (hn : n ≤ 1099511627776) (hb : Bel B w0 W)
    (h : ∀ g cap w', w'.ownsRow B 2 1 (.slice (some ⟨g, 0, none⟩) (n + 1) cap) (n + 1) (xs ++ [.int .i64 z]) → Bel B w0 w' → wpList Tryz.prog ops Q rest (a.put o.dst (.slice (some ⟨g, 0, none⟩) (n + 1) cap)) w') :
    wpList Tryz.prog ops Q (o :: rest) a (W.alloc (.cells #[.int .i64 z] 2)) := by
  obtain ⟨i, hi, h0, h1, h2⟩ := info_parts infoI
  refine wpList_append_lies _ hgd s x 29 ho B 2 i (.int .i64 0) 1 8 Tryz.underlying29 hi h0 h1 h2 rfl (by omega) v n xs hs (hown.alloc _) ⟨W.heap.size, 0, none⟩ 1 c [.int .i64 z] hx rfl ?_ ?_ (by omega) (by unfold maxLen; omega) (by omega) (by have := hb.2; simp; omega) _ rfl ?_
  · intro j u hj
    match j, hj with
    | 0, hj => simp at hj; subst hj; simp [Addr.add]
  · intro u hu
    simp at hu
    subst hu
    rfl
  · intro g cap w' h3 h4 _ _
    exact h g cap w' h3 ((hb.alloc _).grown h4 (fun k hk => (own_block hown hk).1))
end Go.Proofs.YthemlamdchcicaaGreatDoor

namespace Go.Proofs.YthemlamdchcicaaGreatDoor
open Go.ChangeShapes Go.WideShapes Go.ChangeAt Go.RowKit Go.Deep

theorem own_grown_ne {w w' : World} {B E k n : Nat} {v : Value} {cs : List Value} {row : Option Nat} (h : w.ownsRow B E k v n cs) (hg : w.grownBy w' row) (hne : ∀ b, v.ownBlock = some b → row ≠ some b) : w'.ownsRow B E k v n cs := by
  refine ⟨h.1, ?_⟩
  rcases h.2 with h0 | ⟨g, cap, cur, hv, hB, hgt, r⟩
  · exact .inl h0
  · refine .inr ⟨g, cap, cur, hv, hB, (hg.block g (Array.getElem?_eq_some_iff.1 hgt).1 ?_).trans hgt, r⟩
    intro e
    subst hv
    exact hne g rfl e.symm

set_option maxHeartbeats 800000 in
/-- 'append(out, z)': what becomes of the slice, of old memory, and of the rows that are not out's own block. -/
theorem appJ {w0 W : World} {ops : Array Oper} {rest : List Oper} {o : Oper} {a : Act} {Q : Exit → Act → World → Prop} (hgd : o.guard = none) (s x : Operand)
    (ho : o.op = .call { callee := .builtin .append, args := #[s, x], argTypes := #[29, 29] }) (B : Nat) (v : Value) (n : Nat) (xs : List Value) (hs : a.eval s = v) (hown : W.ownsRow B 2 1 v n xs)
    (z : Int) (c H : Nat) (hH : W.heap.size = H) (hx : a.eval x = .slice (some ⟨H, 0, none⟩) 1 c) (hn : n ≤ 1099511627776) (hb : Bel B w0 W)
    (h : ∀ g cap w', w'.ownsRow B 2 1 (.slice (some ⟨g, 0, none⟩) (n + 1) cap) (n + 1) (xs ++ [.int .i64 z]) → Bel B w0 w' → W.grownBy w' v.ownBlock → (v.ownBlock = some g ∨ W.heap.size ≤ g) → wpList Tryz.prog ops Q rest (a.put o.dst (.slice (some ⟨g, 0, none⟩) (n + 1) cap)) w') :
    wpList Tryz.prog ops Q (o :: rest) a (W.alloc (.cells #[.int .i64 z] 2)) := by
  subst hH
  obtain ⟨i, hi, h0, h1, h2⟩ := info_parts infoI
  refine wpList_append_lies _ hgd s x 29 ho B 2 i (.int .i64 0) 1 8 Tryz.underlying29 hi h0 h1 h2 rfl (by omega) v n xs hs (hown.alloc _) ⟨W.heap.size, 0, none⟩ 1 c [.int .i64 z] hx rfl ?_ ?_ (by omega) (by unfold maxLen; omega) (by omega) (by have := hb.2; simp; omega) _ rfl ?_
  · intro j u hj
    match j, hj with
    | 0, hj => simp at hj; subst hj; simp [Addr.add]
  · intro u hu
    simp at hu
    subst hu
    rfl
  · intro g cap w' h3 h4 h5 _
    refine h g cap w' h3 ((hb.alloc _).grown h4 (fun k hk => (own_block hown hk).1)) ?_ ?_
    · exact ⟨h4.os, h4.tape, h4.output, Nat.le_trans (by simp) h4.size, fun i hi hne => (h4.block i (by simp; omega) hne).trans ((World.grownBy_alloc W _ none).block i hi (by simp))⟩
    · rcases h5 with h5 | h5
      · exact .inl h5
      · exact .inr (by rw [h5]; simp)
end Go.Proofs.YthemlamdchcicaaGreatDoor
