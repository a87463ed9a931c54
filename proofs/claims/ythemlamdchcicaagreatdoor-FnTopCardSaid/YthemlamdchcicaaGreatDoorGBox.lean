/-
  Contracts of the draws (next, pick). A struct in a block of its own. Copies of slices: contracts. Contracts of the draws one and among. Appends of one element in regions that draw their order. No condition of its own.
-/
import Derived.Test.YthemlamdchcicaaGreatDoorGBase
import Derived.StillTailTactics
import Derived.BigQuiet
import Derived.Laws.Bits64b
import Derived.Lib.SliceRun
import Derived.WalkKit
import Derived.Deep.RegionHeld3

namespace Go.Proofs.YthemlamdchcicaaGreatDoor
open Go.ChangeShapes Go.WideShapes Go.ChangeAt Go.RowKit Go.Deep

/-- A number of 64 bits without a sign. -/
def U64 (x : Int) : Prop := 0 ≤ x ∧ x < 18446744073709551616
/-- A source of draws at the block p: what it reads, how far it is (A at most), its seed. -/
def SrcAt (W : World) (B p : Nat) (ac : Option Addr) (nc cc A : Nat) : Prop :=
  ∃ (k : Nat) (sd : Int), k ≤ A ∧ U64 sd ∧ W.ownsRow B 92 3 (.slice (some ⟨p, 0, none⟩) 1 1) 1 [.slice ac nc cc, .int .i64 (k : Int), .int .u64 sd]
/-- What a draw answers: a number between bounds; the source has gone on; nothing else has turned. -/
def DrawEnd (w0 w : World) (p : Nat) (ac : Option Addr) (nc cc A : Nat) (lo hi : Int) (e : Ending) (w' : World) : Prop :=
  ∃ r : Int, e = .returned (.int .i64 r) ∧ lo ≤ r ∧ r ≤ hi ∧ SrcAt w' w0.heap.size p ac nc cc A ∧ w.grownBy w' (some p)
theorem grown_drewN {w w' : World} {row : Option Nat} (h : w.grownBy w' row) (q : Nat) : w.grownBy (w'.drewN q) row := ⟨h.os, h.tape, h.output, h.size, h.block⟩
theorem SrcAt.more {W : World} {B p nc cc A A' : Nat} {ac : Option Addr} (h : SrcAt W B p ac nc cc A) (hA : A ≤ A') : SrcAt W B p ac nc cc A' := by
  obtain ⟨k, sd, h1, h2, h3⟩ := h
  exact ⟨k, sd, by omega, h2, h3⟩

theorem wrap_U64 (x : Int) : U64 (IntKind.u64.wrap x) := by
  unfold U64
  rw [IntKind.wrap_u64]
  omega
theorem low_byte {x : Int} (h : U64 x) : 0 ≤ wrap64 (bits .and .u64 (x / 1099511627776) 255) ∧ wrap64 (bits .and .u64 (x / 1099511627776) 255) ≤ 255 := by
  unfold U64 at h
  obtain ⟨s, rfl⟩ : ∃ s : Nat, x = (s : Int) := ⟨x.toNat, by omega⟩
  have e : (s : Int) / 1099511627776 = ((s / 1099511627776 : Nat) : Int) := by omega
  have h1 := bits_and_u64_nat (s / 1099511627776) 255 (by omega) (by omega)
  have h2 : (s / 1099511627776) &&& 255 ≤ 255 := Nat.and_le_right
  rw [e]
  rw [show ((255 : Nat) : Int) = 255 from rfl] at h1
  rw [h1]
  generalize (s / 1099511627776) &&& 255 = c at h2
  rw [IntWalk.wrap64_in _ (by omega)]
  omega
/-- The source behind one draw. -/
theorem src_gone {W : World} {B p nc cc k A : Nat} {ac : Option Addr} {sd sd' : Int} (h : W.ownsRow B 92 3 (.slice (some ⟨p, 0, none⟩) 1 1) 1 [.slice ac nc cc, .int .i64 (k : Int), .int .u64 sd]) (hk : k ≤ A) (hs : U64 sd') (q : Nat) :
    ((((W.drewN q).setCell ⟨p, 1, none⟩ (.int .i64 ((k : Int) + 1))).setCell ⟨p, 2, none⟩ (.int .u64 sd')).ownsRow B 92 3 (.slice (some ⟨p, 0, none⟩) 1 1) 1 [.slice ac nc cc, .int .i64 ((k : Int) + 1), .int .u64 sd']) ∧
    SrcAt (((W.drewN q).setCell ⟨p, 1, none⟩ (.int .i64 ((k : Int) + 1))).setCell ⟨p, 2, none⟩ (.int .u64 sd')) B p ac nc cc (A + 1) ∧
    W.grownBy (((W.drewN q).setCell ⟨p, 1, none⟩ (.int .i64 ((k : Int) + 1))).setCell ⟨p, 2, none⟩ (.int .u64 sd')) (some p) := by
  have h0 : (W.drewN q).ownsRow B 92 3 (.slice (some ⟨p, 0, none⟩) 1 1) 1 [.slice ac nc cc, .int .i64 (k : Int), .int .u64 sd] := h
  have s1 := h0.stored 1 (.int .i64 ((k : Int) + 1))
  have s2 := s1.1.stored 2 (.int .u64 sd')
  have ho : ((((W.drewN q).setCell ⟨p, 1, none⟩ (.int .i64 ((k : Int) + 1))).setCell ⟨p, 2, none⟩ (.int .u64 sd')).ownsRow B 92 3 (.slice (some ⟨p, 0, none⟩) 1 1) 1 [.slice ac nc cc, .int .i64 ((k : Int) + 1), .int .u64 sd']) := s2.1
  have g0 : W.grownBy (W.drewN q) (some p) := grown_drewN (World.grownBy.refl _ _) q
  exact ⟨ho, ⟨k + 1, sd', by omega, hs, by simpa using ho⟩, grown_trans_row (grown_trans_row g0 s1.2) s2.2⟩

set_option maxRecDepth 100000 in
set_option maxHeartbeats 3200000 in
theorem next_any (w0 w : World) (p nc cc A : Nat) (ac : Option Addr) (bs : List Int) (hc : CellsAt w0 ac (bs.map (Value.int .u8))) (hl : bs.length = nc) (hbs : ∀ z ∈ bs, 0 ≤ z ∧ z ≤ 255) (hn : nc ≤ 1048576)
    (hb : Bel w0.heap.size w0 w) (hs : SrcAt w w0.heap.size p ac nc cc A) (hA : A ≤ 1048576) :
    Calls Tryz.prog 78 #[.pointer (some ⟨p, 0, none⟩)] w (DrawEnd w0 w p ac nc cc (A + 1) 0 255) := by
  obtain ⟨k, sd, hk, hsd, hown⟩ := hs
  have c0 : w.cell? ⟨p, 0, none⟩ = some (.slice ac nc cc) := by rw [hown.cellAt 0 (by omega)]; rfl
  have c1 : w.cell? ⟨p, 1, none⟩ = some (.int .i64 (k : Int)) := by rw [hown.cellAt 1 (by omega)]; rfl
  have c2 : w.cell? ⟨p, 2, none⟩ = some (.int .u64 sd) := by rw [hown.cellAt 2 (by omega)]; rfl
  have f1 := hown.frozenAt 1
  have f2 := hown.frozenAt 2
  have HO := Lib.hid hown
  have HSd := Lib.hid hsd
  clear hown hsd
  by_cases hlt : k < nc
  · obtain ⟨b, o, rfl, hb0, hcc⟩ := hc.at_ (by simp; omega)
    obtain ⟨z, hz⟩ : ∃ z, bs[k]? = some z := ⟨bs[k], List.getElem?_eq_getElem (by omega)⟩
    have c3 : w.cell? ⟨b, o + k, none⟩ = some (.int .u8 z) := by
      rw [(hb.1.cell (p := ⟨b, o + k, none⟩) hb0).trans (hcc k (by simp; omega)), List.getElem?_map, hz]; rfl
    have hzb := hbs z (List.mem_of_getElem? hz)
    obtain ⟨z1, z2⟩ := hzb
    have gg : decide ((k : Int) < (nc : Int)) = true := by simpa using hlt
    have w1 : IntKind.i64.wrap z = z := IntWalk.i64_in _ (by omega)
    clear hcc hz hc
    go_enter Tryz.func78, Tryz.ntmps78
    go_wp2_with fail
    go_big_quiet (fail)
    go_wp2_with fail
    go_big_quiet (fail)
    go_wp2_with fail
    have HU := Lib.hid (wrap_U64 (IntKind.u64.wrap (IntKind.u64.wrap (sd * 6364136223846793005) + z) + 1442695040888963407))
    generalize IntKind.u64.wrap (IntKind.u64.wrap (IntKind.u64.wrap (sd * 6364136223846793005) + z) + 1442695040888963407) = sd' at HU ⊢
    have hgone := fun q => src_gone HO.out hk HU.out q
    generalize hwq : ((w.drewN _).setCell _ _).setCell _ _ = wq
    have hg : wq.ownsRow w0.heap.size 92 3 (.slice (some ⟨p, 0, none⟩) 1 1) 1 [.slice (some ⟨b, o, none⟩) nc cc, .int .i64 ((k : Int) + 1), .int .u64 sd'] ∧ SrcAt wq w0.heap.size p (some ⟨b, o, none⟩) nc cc (A + 1) ∧ w.grownBy wq (some p) := by rw [← hwq]; exact hgone _
    have d0 : wq.cell? ⟨p, 0, none⟩ = some (.slice (some ⟨b, o, none⟩) nc cc) := by rw [hg.1.cellAt 0 (by omega)]; rfl
    have d1 : wq.cell? ⟨p, 1, none⟩ = some (.int .i64 ((k : Int) + 1)) := by rw [hg.1.cellAt 1 (by omega)]; rfl
    have HG := Lib.hid hg.2
    have f3 : (k : Int) + 1 ≤ (nc : Int) := by omega
    clear hgone hwq hg c0 c1 c2 c3 f1 f2 w1
    go_big_quiet (fail)
    go_wp2_with fail
    go_ret
    exact ⟨z, rfl, z1, z2, HG.out.1, grown_drewN HG.out.2 _⟩
  · have gg : decide ((k : Int) < (nc : Int)) = false := by simp; omega
    go_enter Tryz.func78, Tryz.ntmps78
    go_wp2_with fail
    go_big_quiet (fail)
    go_wp2_with fail
    have HU := Lib.hid (wrap_U64 (IntKind.u64.wrap (IntKind.u64.wrap (sd * 6364136223846793005)) + 1442695040888963407))
    generalize IntKind.u64.wrap (IntKind.u64.wrap (IntKind.u64.wrap (sd * 6364136223846793005)) + 1442695040888963407) = sd' at HU ⊢
    have hgone := fun q => src_gone HO.out hk HU.out q
    generalize hwq : ((w.drewN _).setCell _ _).setCell _ _ = wq
    have hg : wq.ownsRow w0.heap.size 92 3 (.slice (some ⟨p, 0, none⟩) 1 1) 1 [.slice ac nc cc, .int .i64 ((k : Int) + 1), .int .u64 sd'] ∧ SrcAt wq w0.heap.size p ac nc cc (A + 1) ∧ w.grownBy wq (some p) := by rw [← hwq]; exact hgone _
    have d0 : wq.cell? ⟨p, 0, none⟩ = some (.slice ac nc cc) := by rw [hg.1.cellAt 0 (by omega)]; rfl
    have d1 : wq.cell? ⟨p, 1, none⟩ = some (.int .i64 ((k : Int) + 1)) := by rw [hg.1.cellAt 1 (by omega)]; rfl
    have d2 : wq.cell? ⟨p, 2, none⟩ = some (.int .u64 sd') := by rw [hg.1.cellAt 2 (by omega)]; rfl
    have HG := Lib.hid hg.2
    have f3 : ¬ (k : Int) + 1 ≤ (nc : Int) := by omega
    clear hgone hwq hg c0 c1 c2 f1 f2
    go_wp2_with fail
    go_big_quiet (fail)
    go_wp2_with fail
    go_ret
    have hlb := low_byte HU.out
    exact ⟨_, rfl, hlb.1, hlb.2, HG.out.1, grown_drewN HG.out.2 _⟩

theorem DrawEnd.bel {w0 w w' : World} {p nc cc A B : Nat} {ac : Option Addr} {lo hi : Int} {e : Ending} (h : DrawEnd w0 w p ac nc cc A lo hi e w') (hb : Bel B w0 w) (hp : B ≤ p) : Bel B w0 w' := by
  obtain ⟨r, _, _, _, _, hg⟩ := h
  exact hb.grown hg (fun k h => by cases h; exact hp)
theorem SrcAt.base {W : World} {B p nc cc A : Nat} {ac : Option Addr} (h : SrcAt W B p ac nc cc A) : B ≤ p ∧ p < W.heap.size := by
  obtain ⟨k, sd, h1, h2, h3⟩ := h
  exact own_block h3 rfl
/-- What is known of the bytes that a source reads. -/
def CodeAt (w0 : World) (ac : Option Addr) (nc : Nat) : Prop := ∃ bs : List Int, CellsAt w0 ac (bs.map (Value.int .u8)) ∧ bs.length = nc ∧ (∀ z ∈ bs, 0 ≤ z ∧ z ≤ 255) ∧ nc ≤ 1048576
theorem next_code (w0 w : World) (p nc cc A : Nat) (ac : Option Addr) (hc : CodeAt w0 ac nc) (hb : Bel w0.heap.size w0 w) (hs : SrcAt w w0.heap.size p ac nc cc A) (hA : A ≤ 1048576) :
    Calls Tryz.prog 78 #[.pointer (some ⟨p, 0, none⟩)] w (DrawEnd w0 w p ac nc cc (A + 1) 0 255) := by
  obtain ⟨bs, h1, h2, h3, h4⟩ := hc
  exact next_any w0 w p nc cc A ac bs h1 h2 h3 h4 hb hs hA

set_option maxHeartbeats 1600000 in
/-- A draw below n: 0 where n is 1 or less. -/
theorem pick_any (w0 w : World) (p nc cc A : Nat) (ac : Option Addr) (n : Int) (hc : CodeAt w0 ac nc) (hb : Bel w0.heap.size w0 w) (hs : SrcAt w w0.heap.size p ac nc cc A) (hA : A ≤ 1000000) (hn : n ≤ 1000000000000) :
    Calls Tryz.prog 36 #[.pointer (some ⟨p, 0, none⟩), .int .i64 n] w (DrawEnd w0 w p ac nc cc (A + 2) 0 (max (n - 1) 0)) := by
  have HC := Lib.hid hc
  have HS := Lib.hid hs
  have HB := Lib.hid hb
  have hp := hs.base
  obtain ⟨hp1, hp2⟩ := hp
  clear hc hs hb
  by_cases h1 : n ≤ 1
  · go_enter Tryz.func36, Tryz.ntmps36
    go_wp2
    go_ret
    exact ⟨0, rfl, by omega, by omega, HS.out.more (by omega), World.grownBy.refl _ _⟩
  · have n0 : n ≠ 0 := by omega
    by_cases h2 : 200 < n
    · go_enter Tryz.func36, Tryz.ntmps36
      go_wp2_with fail
      refine (next_code w0 w p nc cc A ac HC.out HB.out HS.out (by omega)).mono ?_
      rintro e w1 ⟨r, rfl, r1, r2, hs1, hg1⟩
      have HS1 := Lib.hid hs1
      have HG1 := Lib.hid hg1
      have HB1 := Lib.hid (HB.out.grown hg1 (fun k h => by cases h; exact hp1))
      clear hs1 hg1
      go_wp2_with fail
      refine (next_code w0 w1 p nc cc (A + 1) ac HC.out HB1.out HS1.out (by omega)).mono ?_
      rintro e w2 ⟨q, rfl, q1, q2, hs2, hg2⟩
      have HS2 := Lib.hid hs2
      have HG2 := Lib.hid (grown_trans_row HG1.out hg2)
      clear hs2 hg2
      have m1 := Int.emod_nonneg (r * 256 + q) n0
      have m2 := Int.emod_lt_of_pos (r * 256 + q) (show 0 < n by omega)
      go_wp2_with fail
      go_ret
      exact ⟨_, rfl, m1, by omega, HS2.out, HG2.out⟩
    · go_enter Tryz.func36, Tryz.ntmps36
      go_wp2_with fail
      refine (next_code w0 w p nc cc A ac HC.out HB.out HS.out (by omega)).mono ?_
      rintro e w1 ⟨r, rfl, r1, r2, hs1, hg1⟩
      have HS1 := Lib.hid (hs1.more (show A + 1 ≤ A + 2 by omega))
      have HG1 := Lib.hid hg1
      clear hs1 hg1
      have m1 := Int.emod_nonneg r n0
      have m2 := Int.emod_lt_of_pos r (show 0 < n by omega)
      go_wp2_with fail
      go_ret
      exact ⟨_, rfl, m1, by omega, HS1.out, HG1.out⟩
/-- A source is made. -/
theorem l00From_any (w : World) (B : Nat) (ac : Option Addr) (nc cc : Nat) (hB : B ≤ w.heap.size) :
    Calls Tryz.prog 21 #[.slice ac nc cc] w fun e w' => e = .returned (.pointer (some ⟨w.heap.size, 0, none⟩)) ∧ SrcAt w' B w.heap.size ac nc cc 0 ∧ Below w.heap.size w w' := by
  have ho := own_base (World.ownsRow_lit (base := w.heap.size) (size := 3) (e := 92) w #[.slice ac nc cc, .int .i64 0, .int .u64 0] 1 (Nat.le_refl _) (by unfold maxLen; omega) (by simp)) hB
  have HO := Lib.hid ho
  clear ho
  go_enter Tryz.func21, Tryz.ntmps21
  go_wp2
  go_ret
  exact ⟨rfl, ⟨0, 0, Nat.le_refl _, ⟨by omega, by omega⟩, HO.out⟩, (Below.refl _ _).alloc (Nat.le_refl _) _⟩

theorem CodeAt.below {w w' : World} {ac : Option Addr} {nc : Nat} (h : CodeAt w ac nc) (hb : Below w.heap.size w w') : CodeAt w' ac nc := by
  obtain ⟨bs, h1, h2, h3, h4⟩ := h
  exact ⟨bs, h1.below hb, h2, h3, h4⟩
theorem SrcAt.grown {W W' : World} {B p nc cc A : Nat} {ac : Option Addr} {row : Option Nat} (h : SrcAt W B p ac nc cc A) (hg : W.grownBy W' row) (hr : row ≠ some p) : SrcAt W' B p ac nc cc A := by
  obtain ⟨k, sd, h1, h2, h3⟩ := h
  refine ⟨k, sd, h1, h2, own_grown_ne h3 hg (fun b hb e => hr ?_)⟩
  have : p = b := by simpa [Value.ownBlock] using hb
  rw [e, this]
theorem SrcAt.below {W W' : World} {B p nc cc A : Nat} {ac : Option Addr} (h : SrcAt W B p ac nc cc A) (hb : Below W.heap.size W W') : SrcAt W' B p ac nc cc A := by
  obtain ⟨k, sd, h1, h2, h3⟩ := h
  exact ⟨k, sd, h1, h2, own_below h3 hb⟩
theorem SrcAt.alloc {W : World} {B p nc cc A : Nat} {ac : Option Addr} (h : SrcAt W B p ac nc cc A) (o : Obj) : SrcAt (W.alloc o) B p ac nc cc A := h.below ((Below.refl _ _).alloc (Nat.le_refl _) _)
/-- A row of the call's own behind a draw. -/
theorem own_drawn {w w' : World} {B E k n p : Nat} {v : Value} {cs : List Value} (h : w.ownsRow B E k v n cs) (hg : w.grownBy w' (some p)) (hp : v.ownBlock ≠ some p) : w'.ownsRow B E k v n cs :=
  own_grown_ne h hg (fun b hb e => hp (by rw [hb, ← e]))
end Go.Proofs.YthemlamdchcicaaGreatDoor

namespace Go.Proofs.YthemlamdchcicaaGreatDoor
open Go.ChangeShapes Go.WideShapes Go.ChangeAt Go.RowKit Go.Deep

/-- The block q holds the k cells vs; it is not older than B. -/
def Obx (W : World) (B q E k : Nat) (vs : List Value) : Prop := W.ownsRow B E k (.slice (some ⟨q, 0, none⟩) 1 1) 1 vs
theorem Obx.new (W : World) (B E k : Nat) (cs : Array Value) (hB : B ≤ W.heap.size) (hk : cs.size = k) : Obx (W.alloc (.cells cs E)) B W.heap.size E k cs.toList :=
  own_base (World.ownsRow_lit (base := W.heap.size) (size := k) (e := E) W cs 1 (Nat.le_refl _) (by unfold maxLen; omega) (by simp [hk])) hB
theorem Obx.cell {W : World} {B q E k : Nat} {vs : List Value} (h : Obx W B q E k vs) (j : Nat) (hj : j < k) : W.cell? ⟨q, j, none⟩ = vs[j]? := by
  unfold Obx at h
  exact h.cellAt j (by omega)
theorem Obx.fr {W : World} {B q E k : Nat} {vs : List Value} (h : Obx W B q E k vs) (j : Nat) : W.frozen? ⟨q, j, none⟩ = false := by
  unfold Obx at h
  exact h.frozenAt j
theorem Obx.lt {W : World} {B q E k : Nat} {vs : List Value} (h : Obx W B q E k vs) : B ≤ q ∧ q < W.heap.size := own_block h rfl
theorem Obx.set {W : World} {B q E k : Nat} {vs : List Value} (h : Obx W B q E k vs) (j : Nat) (u : Value) : Obx (W.setCell ⟨q, j, none⟩ u) B q E k (vs.set j u) := by
  unfold Obx at h ⊢
  exact (h.stored j u).1
theorem setCell_grown (W : World) (q j : Nat) (u : Value) : W.grownBy (W.setCell ⟨q, j, none⟩ u) (some q) :=
  ⟨rfl, rfl, rfl, by simp [World.setCell], fun i _ hne => by
    simp only [World.setCell, Array.getElem?_modify]
    rw [if_neg (by intro e; exact hne (by rw [← e]))]⟩
theorem Obx.grown {W W' : World} {B q E k : Nat} {vs : List Value} {row : Option Nat} (h : Obx W B q E k vs) (hg : W.grownBy W' row) (hr : row = some q → False) : Obx W' B q E k vs :=
  own_grown_ne h hg (fun b hb e => hr (by have h1 : q = b := (by simpa [Value.ownBlock] using hb); rw [e, h1]))
theorem Obx.setOther {W : World} {B q E k q' : Nat} {vs : List Value} (h : Obx W B q E k vs) (j : Nat) (u : Value) (hq : q' ≠ q) : Obx (W.setCell ⟨q', j, none⟩ u) B q E k vs :=
  h.grown (setCell_grown W q' j u) (fun e => hq (by simpa using e))
theorem Obx.below {W W' : World} {B q E k : Nat} {vs : List Value} (h : Obx W B q E k vs) (hb : Below W.heap.size W W') : Obx W' B q E k vs := own_below h hb
theorem Obx.alloc {W : World} {B q E k : Nat} {vs : List Value} (h : Obx W B q E k vs) (o : Obj) : Obx (W.alloc o) B q E k vs := h.below ((Below.refl _ _).alloc (Nat.le_refl _) o)
theorem Obx.base {W : World} {B B' q E k : Nat} {vs : List Value} (h : Obx W B q E k vs) (hB : B' ≤ B) : Obx W B' q E k vs := own_base h hB
theorem grown_from_drew {W W' : World} {row : Option Nat} (h : W.drew.grownBy W' row) : W.grownBy W' row := ⟨h.os, h.tape, h.output, h.size, h.block⟩
/-- What a world keeps where one old block alone may turn. -/
theorem gcell {W w1 : World} {p : Nat} (hg : W.grownBy w1 (some p)) : (∀ b o, b < W.heap.size → ¬ b = p → w1.cell? ⟨b, o, none⟩ = W.cell? ⟨b, o, none⟩) ∧ (∀ b o, b < W.heap.size → ¬ b = p → w1.frozen? ⟨b, o, none⟩ = W.frozen? ⟨b, o, none⟩) ∧ (∀ n, n < W.heap.size → n < w1.heap.size) :=
  ⟨fun b o h1 h2 => hg.cell_far ⟨b, o, none⟩ h1 (fun e => h2 (by simpa using e)), fun b o h1 h2 => hg.frozen_far ⟨b, o, none⟩ h1 (fun e => h2 (by simpa using e)), fun n h => Nat.lt_of_lt_of_le h hg.size⟩
end Go.Proofs.YthemlamdchcicaaGreatDoor

namespace Go.Proofs.YthemlamdchcicaaGreatDoor
open Go.ChangeShapes Go.WideShapes Go.ChangeAt Go.RowKit Go.Deep

/-- A new slice of the call's own that holds the cells cs. -/
def OwnRow (w : World) (E k n : Nat) (cs : List Value) (e : Ending) (w' : World) : Prop :=
  ∃ a cap, e = .returned (.slice a n cap) ∧ w'.ownsRow w.heap.size E k (.slice a n cap) n cs ∧ Below w.heap.size w w'

set_option maxHeartbeats 1600000 in
theorem l00Own_any (g n c : Nat) (zs : List Int) (w : World) (hz : zs.length = n) (hn : n ≤ 1073741824) (hc : CellsAt w (some ⟨g, 0, none⟩) (zs.map (Value.int .i64))) :
    Calls Tryz.prog 120 #[.slice (some ⟨g, 0, none⟩) n c] w (OwnRow w 2 1 n (zs.map (Value.int .i64))) := by
  obtain ⟨i, hi, h0, h1, h2⟩ := info_parts infoI
  have q := fun (w : World) (a : Option Addr) (n c n' c' : Nat) => Lib.run_eql_slice_nil w _ _ a n c n' c' Tryz.underlying29
  by_cases hn0 : n = 0
  · subst hn0
    have e : zs = [] := List.eq_nil_of_length_eq_zero (by simpa using hz)
    subst e
    clear hz hc
    go_enter Tryz.func120, Tryz.ntmps120
    go_wp2_with (at_builtin; refine wpList_append_fits_any _ rfl _ _ 29 rfl w.heap.size 2 i 1 Tryz.underlying29 hi h1 w.heap.size 0 0 [] rfl (own_none w 2 1) (some ⟨g, 0, none⟩) 0 c [] rfl (by simp) (by simp) (by simp) (by simp) (by omega) ?_; intro w1 ho hg)
    try simp only [Nat.zero_add, List.nil_append] at ho
    have Ho := Lib.hid ho
    have Hg := Lib.hid hg
    clear ho hg
    go_wp2
    go_ret
    exact ⟨_, _, rfl, Ho.out, (((Bel.refl w).alloc _).grown Hg.out (fun k h => by cases h; exact Nat.le_refl _)).1⟩
  · obtain ⟨b, o, he, hb, hcell⟩ := hc.at_ (by simp; omega)
    obtain ⟨rfl, rfl⟩ : g = b ∧ 0 = o := by simpa using he
    have Hz := Lib.hid hz
    have Hc := Lib.hid hcell
    clear hz hc hcell he
    go_enter Tryz.func120, Tryz.ntmps120
    go_wp2_with (at_builtin; refine wpList_append_lies _ (by rfl) _ _ 29 (by rfl) w.heap.size 2 i (.int .i64 0) 1 8 Tryz.underlying29 hi h0 h1 h2 (by rfl) (by omega) _ 0 [] (by rfl) (own_none w 2 1) ⟨g, 0, none⟩ n c (zs.map (Value.int .i64)) (by rfl) (by have := Hz.out; simp; omega) ?qc1 ?qc2 (by omega) (by unfold maxLen; omega) (by omega) (by simp) _ rfl ?_)
    case qc1 =>
      intro j u hj
      have hjl : j < (zs.map (Value.int .i64)).length := (List.getElem?_eq_some_iff.1 hj).1
      rw [Addr.add_lit]
      refine Lib.cell?_alloc_some _ ?_
      rw [Hc.out j hjl]
      exact hj
    case qc2 =>
      intro u hu
      obtain ⟨z, _, rfl⟩ := List.mem_map.1 hu
      rfl
    intro g' cap w1 ho hg _ _
    try simp only [Nat.zero_add, List.nil_append] at ho
    have Ho := Lib.hid ho
    have Hg := Lib.hid hg
    clear ho hg
    go_wp2
    go_ret
    exact ⟨_, _, rfl, Ho.out, (((Bel.refl w).alloc _).grown Hg.out (fun k h => by cases h; exact Nat.le_refl _)).1⟩


set_option maxHeartbeats 1600000 in
theorem cloneI_any (g n c : Nat) (zs : List Int) (w : World) (hz : zs.length = n) (hn : n ≤ 1073741824) (hc : CellsAt w (some ⟨g, 0, none⟩) (zs.map (Value.int .i64))) :
    Calls Tryz.prog 87 #[.slice (some ⟨g, 0, none⟩) n c] w (OwnRow w 2 1 n (zs.map (Value.int .i64))) := by
  obtain ⟨i, hi, h0, h1, h2⟩ := info_parts infoI
  have q := fun (w : World) (a : Option Addr) (n c n' c' : Nat) => Lib.run_eql_slice_nil w _ _ a n c n' c' Tryz.underlying29
  by_cases hn0 : n = 0
  · subst hn0
    have e : zs = [] := List.eq_nil_of_length_eq_zero (by simpa using hz)
    subst e
    clear hz hc
    go_enter Tryz.func87, Tryz.ntmps87
    go_wp2_with (at_builtin; refine wpList_append_fits_any _ rfl _ _ 29 rfl w.heap.size 2 i 1 Tryz.underlying29 hi h1 w.heap.size 0 0 [] rfl (own_none w 2 1) (some ⟨g, 0, none⟩) 0 c [] rfl (by simp) (by simp) (by simp) (by simp) (by omega) ?_; intro w1 ho hg)
    try simp only [Nat.zero_add, List.nil_append] at ho
    have Ho := Lib.hid ho
    have Hg := Lib.hid hg
    clear ho hg
    go_wp2
    go_ret
    exact ⟨_, _, rfl, Ho.out, (((Bel.refl w).alloc _).grown Hg.out (fun k h => by cases h; exact Nat.le_refl _)).1⟩
  · obtain ⟨b, o, he, hb, hcell⟩ := hc.at_ (by simp; omega)
    obtain ⟨rfl, rfl⟩ : g = b ∧ 0 = o := by simpa using he
    have Hz := Lib.hid hz
    have Hc := Lib.hid hcell
    clear hz hc hcell he
    go_enter Tryz.func87, Tryz.ntmps87
    go_wp2_with (at_builtin; refine wpList_append_lies _ (by rfl) _ _ 29 (by rfl) w.heap.size 2 i (.int .i64 0) 1 8 Tryz.underlying29 hi h0 h1 h2 (by rfl) (by omega) _ 0 [] (by rfl) (own_none w 2 1) ⟨g, 0, none⟩ n c (zs.map (Value.int .i64)) (by rfl) (by have := Hz.out; simp; omega) ?qc1 ?qc2 (by omega) (by unfold maxLen; omega) (by omega) (by simp) _ rfl ?_)
    case qc1 =>
      intro j u hj
      have hjl : j < (zs.map (Value.int .i64)).length := (List.getElem?_eq_some_iff.1 hj).1
      rw [Addr.add_lit]
      refine Lib.cell?_alloc_some _ ?_
      rw [Hc.out j hjl]
      exact hj
    case qc2 =>
      intro u hu
      obtain ⟨z, _, rfl⟩ := List.mem_map.1 hu
      rfl
    intro g' cap w1 ho hg _ _
    try simp only [Nat.zero_add, List.nil_append] at ho
    have Ho := Lib.hid ho
    have Hg := Lib.hid hg
    clear ho hg
    go_wp2
    go_ret
    exact ⟨_, _, rfl, Ho.out, (((Bel.refl w).alloc _).grown Hg.out (fun k h => by cases h; exact Nat.le_refl _)).1⟩


end Go.Proofs.YthemlamdchcicaaGreatDoor

namespace Go.Proofs.YthemlamdchcicaaGreatDoor
open Go.ChangeShapes Go.WideShapes Go.ChangeAt Go.RowKit Go.Deep

/-- A draw that answers yes or no. -/
theorem one_any (w0 w : World) (p nc cc A : Nat) (ac : Option Addr) (n : Int) (hc : CodeAt w0 ac nc) (hb : Bel w0.heap.size w0 w) (hs : SrcAt w w0.heap.size p ac nc cc A) (hA : A ≤ 1000000) (hn : n ≤ 1000000000000) :
    Calls Tryz.prog 49 #[.pointer (some ⟨p, 0, none⟩), .int .i64 n] w fun e w' => ∃ q : Bool, e = .returned (.bool q) ∧ SrcAt w' w0.heap.size p ac nc cc (A + 2) ∧ w.grownBy w' (some p) := by
  have HP := Lib.hid (pick_any w0 w p nc cc A ac n hc hb hs hA hn)
  clear hc hb hs
  go_enter Tryz.func49, Tryz.ntmps49
  go_wp2_with fail
  refine HP.out.mono ?_
  rintro e w1 ⟨r, rfl, _, _, hs1, hg1⟩
  have H := Lib.hid (And.intro hs1 hg1)
  clear hs1 hg1
  go_wp2_with fail
  go_ret
  exact ⟨_, rfl, H.out.1, H.out.2⟩
end Go.Proofs.YthemlamdchcicaaGreatDoor

namespace Go.Proofs.YthemlamdchcicaaGreatDoor
open Go.ChangeShapes Go.WideShapes Go.ChangeAt Go.RowKit Go.Deep

theorem new_cells {w w' : World} {cs : Array Value} {t H : Nat} (hH : w.heap.size = H) (hw : (w.alloc (.cells cs t)).heap = w'.heap) : ∀ (j : Nat) (u : Value), cs.toList[j]? = some u → w'.cell? ((⟨H, 0, none⟩ : Addr).add j) = some u := by
  subst hH
  intro j u hj
  have h := heap_alloc_new w (.cells cs t)
  rw [hw] at h
  exact World.news_of_block h j u hj
set_option maxHeartbeats 800000 in
theorem appIW {w0 W : World} {ops : Array Oper} {rest : List Oper} {o : Oper} {a : Act} {Q : Exit → Act → World → Prop} (hgd : o.guard = none) (s x : Operand)
    (ho : o.op = .call { callee := .builtin .append, args := #[s, x], argTypes := #[29, 29] }) (B : Nat) (v : Value) (n : Nat) (xs : List Value) (hs : a.eval s = v) (hown : W.ownsRow B 2 1 v n xs)
    (news : List Value) (hl : news.length = 1) (h1 : ∀ u ∈ news, u.oneCell' = true) (c H : Nat) (hnews : ∀ (j : Nat) u, news[j]? = some u → W.cell? ((⟨H, 0, none⟩ : Addr).add j) = some u) (hx : a.eval x = .slice (some ⟨H, 0, none⟩) 1 c) (hn : n ≤ 1099511627776) (hb : Bel B w0 W)
    (h : ∀ g cap w', w'.ownsRow B 2 1 (.slice (some ⟨g, 0, none⟩) (n + 1) cap) (n + 1) (xs ++ news) → Bel B w0 w' → W.grownBy w' v.ownBlock → (v.ownBlock = some g ∨ W.heap.size ≤ g) → wpList Tryz.prog ops Q rest (a.put o.dst (.slice (some ⟨g, 0, none⟩) (n + 1) cap)) w') :
    wpList Tryz.prog ops Q (o :: rest) a W := by
  obtain ⟨i, hi, q0, q1, q2⟩ := info_parts infoI
  refine wpList_append_lies _ hgd s x 29 ho B 2 i (.int .i64 0) 1 8 Tryz.underlying29 hi q0 q1 q2 rfl (by omega) v n xs hs hown ⟨H, 0, none⟩ 1 c news hx (by omega) hnews h1 (by omega) (by unfold maxLen; omega) (by omega) hb.2 _ rfl ?_
  intro g cap w' h3 h4 h5 _
  refine h g cap w' h3 (hb.grown h4 (fun k hk => (own_block hown hk).1)) h4 ?_
  rcases h5 with h5 | h5
  · exact .inl h5
  · exact .inr (by omega)

set_option maxHeartbeats 800000 in
theorem stepI {w0 W : World} {ops : Array Oper} {o : Oper} {a : Act} {K : Act → World → Prop} {Q : Exit → Act → World → Prop} {E : Prop} (hgd : o.guard = none) (s x : Operand)
    (ho : o.op = .call { callee := .builtin .append, args := #[s, x], argTypes := #[29, 29] }) (B : Nat) (v : Value) (n : Nat) (xs : List Value) (hs : a.eval s = v) (hown : W.ownsRow B 2 1 v n xs)
    (news : List Value) (hl : news.length = 1) (h1 : ∀ u ∈ news, u.oneCell' = true) (c H : Nat) (hnews : ∀ (j : Nat) u, news[j]? = some u → W.cell? ((⟨H, 0, none⟩ : Addr).add j) = some u) (hx : a.eval x = .slice (some ⟨H, 0, none⟩) 1 c) (hn : n ≤ 1099511627776) (hb : Bel B w0 W)
    (h : ∀ g cap w', w'.ownsRow B 2 1 (.slice (some ⟨g, 0, none⟩) (n + 1) cap) (n + 1) (xs ++ news) → Bel B w0 w' → W.grownBy w' v.ownBlock → (v.ownBlock = some g ∨ W.heap.size ≤ g) → K (a.put o.dst (.slice (some ⟨g, 0, none⟩) (n + 1) cap)) w') :
    if Region.wanted o (yielded ops a.tmps) = true then Oper.wp Tryz.prog o a W K Q else E := by
  obtain ⟨i, hi, q0, q1, q2⟩ := info_parts infoI
  refine step_append_lies _ hgd s x 29 ho B 2 i (.int .i64 0) 1 8 Tryz.underlying29 hi q0 q1 q2 rfl (by omega) v n xs hs hown ⟨H, 0, none⟩ 1 c news hx (by omega) hnews h1 (by omega) (by unfold maxLen; omega) (by omega) hb.2 _ rfl ?_
  intro g cap w' h3 h4 h5 _
  refine h g cap w' h3 (hb.grown h4 (fun k hk => (own_block hown hk).1)) h4 ?_
  rcases h5 with h5 | h5
  · exact .inl h5
  · exact .inr (by omega)


end Go.Proofs.YthemlamdchcicaaGreatDoor
